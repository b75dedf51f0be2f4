/- Package set: Or. No condition but those that stand in each theorem. -/
import Derived.Test.YtignngpligicjaaGreatDoorStA
import Derived.Test.YtignngpligicjaaGreatDoorSt9o
import Derived.Test.YtignngpligicjaaGreatDoorSt9a
import Derived.Test.YtignngpligicjaaGreatDoorSt9n
namespace Go.Proofs.YtignngpligicjaaGreatDoor
open Go.RowKit

set_option maxHeartbeats 1000000 in
theorem setOr_any (A1 A2 : Option Addr) (n1 c1 n2 c2 : Nat) (a b : List Pf) (E : Nat → Addr) (w : World) (htz : TzOk w) (h2 : Sen w gBound (E 2)) (h3 : Sen w gShape (E 3)) (hx : Rws w A1 2 (a.map Pf.cells)) (hn1 : a.length = n1) (hy : Rws w A2 2 (b.map Pf.cells)) (hn2 : b.length = n2) (hl1 : n1 ≤ 100000) (hl2 : n2 ≤ 100000) :
    Calls Tryz.prog 37 #[.slice A1 n1 c1, .slice A2 n2 c2] w (NormPost E (twoC a b) (fun x => inP a x || inP b x) (132 * (n1 + n2)) w) := by
  have Hs := hide (two_o_any A1 A2 n1 c1 n2 c2 a b E w htz h2 h3 hx hn1 hy hn2 hl1 hl2)
  clear htz h2 h3 hx hy
  go_enter Tryz.func37, Tryz.ntmps37
  go_wp2_with fail
  refine Hs.out.mono ?_
  rintro e w1 ⟨v, er, P, rfl, h⟩
  have H := hide h
  clear h
  go_wp2_with fail
  go_ret2
  exact ⟨v, er, P, rfl, H.out⟩
theorem setOr_good (A1 A2 : Option Addr) (n1 c1 n2 c2 : Nat) (a b : List Pf) (E : Nat → Addr) (w : World) (htz : TzOk w) (h2 : Sen w gBound (E 2)) (h3 : Sen w gShape (E 3)) (hx : Rws w A1 2 (a.map Pf.cells)) (hn1 : a.length = n1) (hy : Rws w A2 2 (b.map Pf.cells)) (hn2 : b.length = n2) (hl1 : n1 ≤ 100000) (hl2 : n2 ≤ 100000) (ha : (pfsC a).1 = 0) (hb : (pfsC b).1 = 0) :
    Calls Tryz.prog 37 #[.slice A1 n1 c1, .slice A2 n2 c2] w (GoodP (fun x => inP a x || inP b x) (132 * (n1 + n2)) w) :=
  (setOr_any A1 A2 n1 c1 n2 c2 a b E w htz h2 h3 hx hn1 hy hn2 hl1 hl2).mono fun _ _ h => h.good (twoC_all ha hb)
theorem setOr_bad (A1 A2 : Option Addr) (n1 c1 n2 c2 : Nat) (a b : List Pf) (E : Nat → Addr) (w : World) (htz : TzOk w) (h2 : Sen w gBound (E 2)) (h3 : Sen w gShape (E 3)) (hx : Rws w A1 2 (a.map Pf.cells)) (hn1 : a.length = n1) (hy : Rws w A2 2 (b.map Pf.cells)) (hn2 : b.length = n2) (hl1 : n1 ≤ 100000) (hl2 : n2 ≤ 100000) (hC : (twoC a b).1 ≠ 0) :
    Calls Tryz.prog 37 #[.slice A1 n1 c1, .slice A2 n2 c2] w (BadP w) :=
  (setOr_any A1 A2 n1 c1 n2 c2 a b E w htz h2 h3 hx hn1 hy hn2 hl1 hl2).mono fun _ _ h => h.bad hC
end Go.Proofs.YtignngpligicjaaGreatDoor

namespace Go.Proofs.YtignngpligicjaaGreatDoor
open Go.RowKit

set_option maxHeartbeats 1000000 in
theorem setAnd_any (A1 A2 : Option Addr) (n1 c1 n2 c2 : Nat) (a b : List Pf) (E : Nat → Addr) (w : World) (htz : TzOk w) (h2 : Sen w gBound (E 2)) (h3 : Sen w gShape (E 3)) (hx : Rws w A1 2 (a.map Pf.cells)) (hn1 : a.length = n1) (hy : Rws w A2 2 (b.map Pf.cells)) (hn2 : b.length = n2) (hl1 : n1 ≤ 100000) (hl2 : n2 ≤ 100000) :
    Calls Tryz.prog 38 #[.slice A1 n1 c1, .slice A2 n2 c2] w (NormPost E (twoC a b) (fun x => inP a x && inP b x) (132 * (n1 + n2)) w) := by
  have Hs := hide (two_a_any A1 A2 n1 c1 n2 c2 a b E w htz h2 h3 hx hn1 hy hn2 hl1 hl2)
  clear htz h2 h3 hx hy
  go_enter Tryz.func38, Tryz.ntmps38
  go_wp2_with fail
  refine Hs.out.mono ?_
  rintro e w1 ⟨v, er, P, rfl, h⟩
  have H := hide h
  clear h
  go_wp2_with fail
  go_ret2
  exact ⟨v, er, P, rfl, H.out⟩
theorem setAnd_good (A1 A2 : Option Addr) (n1 c1 n2 c2 : Nat) (a b : List Pf) (E : Nat → Addr) (w : World) (htz : TzOk w) (h2 : Sen w gBound (E 2)) (h3 : Sen w gShape (E 3)) (hx : Rws w A1 2 (a.map Pf.cells)) (hn1 : a.length = n1) (hy : Rws w A2 2 (b.map Pf.cells)) (hn2 : b.length = n2) (hl1 : n1 ≤ 100000) (hl2 : n2 ≤ 100000) (ha : (pfsC a).1 = 0) (hb : (pfsC b).1 = 0) :
    Calls Tryz.prog 38 #[.slice A1 n1 c1, .slice A2 n2 c2] w (GoodP (fun x => inP a x && inP b x) (132 * (n1 + n2)) w) :=
  (setAnd_any A1 A2 n1 c1 n2 c2 a b E w htz h2 h3 hx hn1 hy hn2 hl1 hl2).mono fun _ _ h => h.good (twoC_all ha hb)
theorem setAnd_bad (A1 A2 : Option Addr) (n1 c1 n2 c2 : Nat) (a b : List Pf) (E : Nat → Addr) (w : World) (htz : TzOk w) (h2 : Sen w gBound (E 2)) (h3 : Sen w gShape (E 3)) (hx : Rws w A1 2 (a.map Pf.cells)) (hn1 : a.length = n1) (hy : Rws w A2 2 (b.map Pf.cells)) (hn2 : b.length = n2) (hl1 : n1 ≤ 100000) (hl2 : n2 ≤ 100000) (hC : (twoC a b).1 ≠ 0) :
    Calls Tryz.prog 38 #[.slice A1 n1 c1, .slice A2 n2 c2] w (BadP w) :=
  (setAnd_any A1 A2 n1 c1 n2 c2 a b E w htz h2 h3 hx hn1 hy hn2 hl1 hl2).mono fun _ _ h => h.bad hC
end Go.Proofs.YtignngpligicjaaGreatDoor

namespace Go.Proofs.YtignngpligicjaaGreatDoor
open Go.RowKit

set_option maxHeartbeats 1000000 in
theorem setNot_any (A1 A2 : Option Addr) (n1 c1 n2 c2 : Nat) (a b : List Pf) (E : Nat → Addr) (w : World) (htz : TzOk w) (h2 : Sen w gBound (E 2)) (h3 : Sen w gShape (E 3)) (hx : Rws w A1 2 (a.map Pf.cells)) (hn1 : a.length = n1) (hy : Rws w A2 2 (b.map Pf.cells)) (hn2 : b.length = n2) (hl1 : n1 ≤ 100000) (hl2 : n2 ≤ 100000) :
    Calls Tryz.prog 39 #[.slice A1 n1 c1, .slice A2 n2 c2] w (NormPost E (twoC a b) (fun x => inP a x && !inP b x) (132 * (n1 + n2)) w) := by
  have Hs := hide (two_n_any A1 A2 n1 c1 n2 c2 a b E w htz h2 h3 hx hn1 hy hn2 hl1 hl2)
  clear htz h2 h3 hx hy
  go_enter Tryz.func39, Tryz.ntmps39
  go_wp2_with fail
  refine Hs.out.mono ?_
  rintro e w1 ⟨v, er, P, rfl, h⟩
  have H := hide h
  clear h
  go_wp2_with fail
  go_ret2
  exact ⟨v, er, P, rfl, H.out⟩
theorem setNot_good (A1 A2 : Option Addr) (n1 c1 n2 c2 : Nat) (a b : List Pf) (E : Nat → Addr) (w : World) (htz : TzOk w) (h2 : Sen w gBound (E 2)) (h3 : Sen w gShape (E 3)) (hx : Rws w A1 2 (a.map Pf.cells)) (hn1 : a.length = n1) (hy : Rws w A2 2 (b.map Pf.cells)) (hn2 : b.length = n2) (hl1 : n1 ≤ 100000) (hl2 : n2 ≤ 100000) (ha : (pfsC a).1 = 0) (hb : (pfsC b).1 = 0) :
    Calls Tryz.prog 39 #[.slice A1 n1 c1, .slice A2 n2 c2] w (GoodP (fun x => inP a x && !inP b x) (132 * (n1 + n2)) w) :=
  (setNot_any A1 A2 n1 c1 n2 c2 a b E w htz h2 h3 hx hn1 hy hn2 hl1 hl2).mono fun _ _ h => h.good (twoC_all ha hb)
theorem setNot_bad (A1 A2 : Option Addr) (n1 c1 n2 c2 : Nat) (a b : List Pf) (E : Nat → Addr) (w : World) (htz : TzOk w) (h2 : Sen w gBound (E 2)) (h3 : Sen w gShape (E 3)) (hx : Rws w A1 2 (a.map Pf.cells)) (hn1 : a.length = n1) (hy : Rws w A2 2 (b.map Pf.cells)) (hn2 : b.length = n2) (hl1 : n1 ≤ 100000) (hl2 : n2 ≤ 100000) (hC : (twoC a b).1 ≠ 0) :
    Calls Tryz.prog 39 #[.slice A1 n1 c1, .slice A2 n2 c2] w (BadP w) :=
  (setNot_any A1 A2 n1 c1 n2 c2 a b E w htz h2 h3 hx hn1 hy hn2 hl1 hl2).mono fun _ _ h => h.bad hC
end Go.Proofs.YtignngpligicjaaGreatDoor

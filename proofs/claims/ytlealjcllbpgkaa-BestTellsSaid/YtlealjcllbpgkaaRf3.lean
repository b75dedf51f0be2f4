/- The reference's fault of what is told of a route. No condition but those that stand in each theorem. -/
import Derived.Test.YtlealjcllbpgkaaRf0
import Derived.Test.YtlealjcllbpgkaaAt2
import Derived.Deep.DeepCutAuto
import Derived.Test.YtlealjcllbpgkaaWi3
import Derived.Test.YtlealjcllbpgkaaEq
namespace Go.Proofs.Ytlealjcllbpgkaa
open Go.RowKit

theorem badAS_lo {x : Int} (h : x < 1) : badAS x = true := by unfold badAS inR; rw [decide_eq_false (by omega)]; rfl
theorem badAS_hi {x : Int} (h : 1000 < x) : badAS x = true := by unfold badAS inR; rw [decide_eq_false (by omega)]; rfl
theorem badAS_no {x : Int} (h : ¬ x < 1) (h2 : ¬ 1000 < x) : badAS x = false := by unfold badAS inR; rw [decide_eq_true (by omega)]; rfl
theorem inR_no {x a b : Int} (h : x < a ∨ b < x) : inR x a b = false := decide_eq_false (by omega)
theorem inR_yes {x a b : Int} (h : ¬ x < a) (h2 : ¬ b < x) : inR x a b = true := decide_eq_true (by omega)

end Go.Proofs.Ytlealjcllbpgkaa

namespace Go.Proofs.Ytlealjcllbpgkaa
open Go.RowKit

def riseP (ps : List Pf) : Nat × Int := firstC (riseC (pfAt ps) (fun _ => 0)) ps.length 0
def riseAt (ps : List Pf) (i : Nat) : Nat := riseC (pfAt ps) (fun _ => 0) i
theorem riseP_at {ps : List Pf} {j c : Nat} (h1 : j < ps.length) (h2 : riseAt ps j = c) (h3 : c ≠ 0) (h4 : ∀ i, i < j → riseAt ps i = 0) : riseP ps = (c, (j : Int)) := by
  subst h2
  exact firstC_at _ ps.length 0 j (by omega) (by omega) h3 fun i _ hi => h4 i hi
theorem riseP_no {ps : List Pf} (h : ∀ i, i < ps.length → riseAt ps i = 0) : riseP ps = (0, -1) := firstC_no _ ps.length 0 fun i _ hi => h i (by omega)

end Go.Proofs.Ytlealjcllbpgkaa

namespace Go.Proofs.Ytlealjcllbpgkaa
open Go.RowKit

theorem no_kind {s : ByteArray} (h : kindN s = 0) : (s.toList == [111, 112, 101, 110]) = false ∧ (s.toList == [107, 101, 101, 112]) = false ∧ (s.toList == [110, 101, 119, 115]) = false ∧ (s.toList == [110, 111, 116, 101]) = false := by
  obtain ⟨h1, h2, h3, h4⟩ := kind_facts s
  unfold strEq at h1 h2 h3 h4
  rw [tO] at h1; rw [tK] at h2; rw [tW] at h3; rw [tN] at h4
  rw [h] at h1 h2 h3 h4
  exact ⟨h1, h2, h3, h4⟩
theorem checkC_0 {m : MsgR} (h : kindN m.kind = 0) : checkC m = (4, -1) := by unfold checkC; rw [if_pos h]
theorem checkC_bound {m : MsgR} (h : (kindN m.kind = 1 ∧ (m.n < 1 ∨ 1000 < m.n)) ∨ (kindN m.kind = 4 ∧ (m.n < 0 ∨ 1000 < m.n))) : checkC m = (2, -1) := by
  unfold checkC; rw [if_neg (by omega), if_pos h]
theorem checkC_num {m : MsgR} (h : kindN m.kind = 2 ∨ kindN m.kind = 3) (h2 : m.n ≠ 0) : checkC m = (3, -1) := by
  unfold checkC; rw [if_neg (by omega), if_neg (by omega), if_pos ⟨h, h2⟩]
theorem checkC_rows {m : MsgR} (h0 : kindN m.kind ≠ 0) (h : ¬ ((kindN m.kind = 1 ∧ (m.n < 1 ∨ 1000 < m.n)) ∨ (kindN m.kind = 4 ∧ (m.n < 0 ∨ 1000 < m.n)))) (h2 : ¬ ((kindN m.kind = 2 ∨ kindN m.kind = 3) ∧ m.n ≠ 0)) (h3 : kindN m.kind ≠ 3) (h4 : 0 < m.drops.length + m.adds.length) : checkC m = (3, -1) := by
  unfold checkC; rw [if_neg h0, if_neg h, if_neg h2, if_pos ⟨h3, h4⟩]
theorem checkC_fine {m : MsgR} (h0 : kindN m.kind ≠ 0) (h : ¬ ((kindN m.kind = 1 ∧ (m.n < 1 ∨ 1000 < m.n)) ∨ (kindN m.kind = 4 ∧ (m.n < 0 ∨ 1000 < m.n)))) (h2 : ¬ ((kindN m.kind = 2 ∨ kindN m.kind = 3) ∧ m.n ≠ 0)) (h3 : kindN m.kind ≠ 3) (h4 : ¬ 0 < m.drops.length + m.adds.length) : checkC m = (0, -1) := by
  unfold checkC; rw [if_neg h0, if_neg h, if_neg h2, if_neg (fun h => h4 h.2), if_neg h3]
theorem checkC_news {m : MsgR} (h : kindN m.kind = 3) (h2 : m.n = 0) : checkC m = newsC m := by
  unfold checkC; rw [if_neg (by omega), if_neg (by omega), if_neg (by omega), if_neg (by omega), if_pos h]

end Go.Proofs.Ytlealjcllbpgkaa

namespace Go.Proofs.Ytlealjcllbpgkaa
open Go.RowKit

abbrev TRt : TypeId := 31
theorem newsC_full {m : MsgR} (h : 60 < m.drops.length ∨ 60 < m.adds.length) : newsC m = (7, -1) := by unfold newsC; rw [if_pos h]
theorem newsC_drops {m : MsgR} (h : ¬ (60 < m.drops.length ∨ 60 < m.adds.length)) (h2 : (dropsC m).1 ≠ 0) : newsC m = dropsC m := by unfold newsC; rw [if_neg h, if_pos h2]
theorem newsC_adds {m : MsgR} {c : Nat × Int} (h : ¬ (60 < m.drops.length ∨ 60 < m.adds.length)) (h2 : (dropsC m).1 = 0) (h3 : addsC m = c) (h4 : c.1 ≠ 0) : newsC m = c := by
  unfold newsC; rw [if_neg h, if_neg (by simpa using h2), h3, if_pos h4]
theorem newsC_dup {m : MsgR} {j : Nat} (h : ¬ (60 < m.drops.length ∨ 60 < m.adds.length)) (h2 : (dropsC m).1 = 0) (h3 : (addsC m).1 = 0) (h4 : idxB (dropped m) m.adds = (j : Int)) : newsC m = (6, (j : Int)) := by
  unfold newsC; rw [if_neg h, if_neg (by simpa using h2), if_neg (by simpa using h3), h4, if_pos (by omega)]
theorem newsC_fine {m : MsgR} (h : ¬ (60 < m.drops.length ∨ 60 < m.adds.length)) (h2 : (dropsC m).1 = 0) (h3 : (addsC m).1 = 0) (h4 : idxB (dropped m) m.adds = -1) : newsC m = (0, -1) := by
  unfold newsC; rw [if_neg h, if_neg (by simpa using h2), if_neg (by simpa using h3), h4, if_neg (by omega)]
theorem drops_rise (m : MsgR) : riseP m.drops = dropsC m := rfl
def addAt (m : MsgR) (i : Nat) : Nat := riseC (addF m) (addM m) i
theorem addsC_at {m : MsgR} {j c : Nat} (h1 : j < m.adds.length) (h2 : addAt m j = c) (h3 : c ≠ 0) (h4 : ∀ i, i < j → addAt m i = 0) : addsC m = (c, (j : Int)) := by
  subst h2
  exact firstC_at _ m.adds.length 0 j (by omega) (by omega) h3 fun i _ hi => h4 i hi
theorem addsC_no {m : MsgR} (h : ∀ i, i < m.adds.length → addAt m i = 0) : addsC m = (0, -1) := firstC_no _ m.adds.length 0 fun i _ hi => h i (by omega)
theorem addAt_chk {m : MsgR} {j : Nat} {r : RouteR} (hr : rtAt m.adds j = r) (h : chk r.a r.n ≠ 0) : addAt m j = chk r.a r.n := by
  subst hr
  unfold addAt riseC
  rw [if_pos]
  · rfl
  · exact h
theorem addAt_low {m : MsgR} {j : Nat} {q r : RouteR} (hr : rtAt m.adds (j + 1) = r) (hq : rtAt m.adds j = q) (h : chk r.a r.n = 0) (h2 : lessB q.a q.n r.a r.n = false) : addAt m (j + 1) = 8 := by
  subst hr; subst hq
  unfold addAt riseC
  rw [if_neg, if_pos]
  · exact ⟨by omega, h2⟩
  · exact fun hh => hh h
theorem addAt_more {m : MsgR} {j : Nat} {r : RouteR} (hr : rtAt m.adds j = r) (h : chk r.a r.n = 0) (h2 : 0 < j → lessB (rtAt m.adds (j - 1)).a (rtAt m.adds (j - 1)).n r.a r.n = true) : addAt m j = addC r := by
  subst hr
  unfold addAt riseC
  rw [if_neg, if_neg]
  · rfl
  · rintro ⟨h0, h1⟩
    have := h2 h0
    have h3 : lessB (rtAt m.adds (j - 1)).a (rtAt m.adds (j - 1)).n (rtAt m.adds j).a (rtAt m.adds j).n = false := h1
    rw [this] at h3
    cases h3
  · exact fun hh => hh h

/-- The calls of a round want these. -/
theorem Rts.attr_at {w : World} {A : Option Addr} {rs : List RouteR} (h : Rts w A rs) {j : Nat} {r : RouteR} (hr : rs[j]? = some r) : AttrOk w r.at_ := h.attr j r hr

end Go.Proofs.Ytlealjcllbpgkaa

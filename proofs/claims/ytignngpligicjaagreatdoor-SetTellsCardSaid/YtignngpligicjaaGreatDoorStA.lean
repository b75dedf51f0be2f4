/- The reference's sameness of prefixes. No condition but those that stand in each theorem. -/
import Derived.Test.YtignngpligicjaaGreatDoorSt7
import Derived.Test.YtignngpligicjaaGreatDoorEq
import Derived.Test.YtignngpligicjaaGreatDoorSl
import Derived.Test.YtignngpligicjaaGreatDoorSp5
import Derived.Test.YtignngpligicjaaGreatDoorSt9
namespace Go.Proofs.YtignngpligicjaaGreatDoor
open Go.RowKit

/-- Prefixes that are the same, one by one. -/
def sameL (ps qs : List Pf) : Bool := decide (ps = qs)
theorem sameL_iff (ps qs : List Pf) : sameL ps qs = true ↔ ps = qs := decide_eq_true_iff
theorem sameL_ne {ps qs : List Pf} {j : Nat} {p q : Pf} (hp : ps[j]? = some p) (hq : qs[j]? = some q) (h : (p.a == q.a && p.n == q.n) = false) : sameL ps qs = false := by
  cases hs : sameL ps qs with
  | false => rfl
  | true =>
    rw [sameL_iff] at hs
    subst hs
    rw [hp] at hq
    injection hq with hq
    subst hq
    simp at h
theorem sameL_eq {ps qs : List Pf} (hl : ps.length = qs.length) (h : ∀ (i : Nat) p q, i < ps.length → ps[i]? = some p → qs[i]? = some q → p = q) : sameL ps qs = true := by
  rw [sameL_iff]
  refine List.ext_getElem? fun i => ?_
  by_cases hi : i < ps.length
  · have h1 : ps[i]? = some ps[i] := List.getElem?_eq_getElem hi
    have h2 : qs[i]? = some (qs[i]'(by omega)) := List.getElem?_eq_getElem (by omega)
    rw [h1, h2, h i _ _ hi h1 h2]
  · rw [List.getElem?_eq_none (by omega), List.getElem?_eq_none (by omega)]

set_option maxRecDepth 8000 in
set_option maxHeartbeats 1000000 in
theorem samePrefixes_any (A B : Option Addr) (n m c d : Nat) (ps qs : List Pf) (w : World) (hx : Rws w A 2 (ps.map Pf.cells)) (hy : Rws w B 2 (qs.map Pf.cells)) (hn : ps.length = n) (hm : qs.length = m) (hl : n ≤ 4294967296) (hl2 : m ≤ 4294967296) :
    Calls Tryz.prog 33 #[.slice A n c, .slice B m d] w fun e w1 => e = .returned (.bool (sameL ps qs)) ∧ New w w1 := by
  have Hx := hide hx
  have Hy := hide hy
  have Hn := hide hn
  have Hm := hide hm
  clear hx hy hn hm
  by_cases hnm : n = m
  · subst hnm
    have g1 := guard_pfx
    have g3 := neq_pfx
    go_enter Tryz.func33, Tryz.ntmps33
    go_wp2_with fail
    go_loopw [5] (fun i wr => ∃ k : Nat, k ≤ n ∧ i = .int .i64 k ∧ New w wr ∧ ∀ (i : Nat) r s, i < k → ps[i]? = some r → qs[i]? = some s → r = s) (fun i _ => n - (intOf i).toNat)
    case atStart => exact ⟨0, by omega, rfl, Upd.refl _ _, fun j r s h => absurd h (by omega)⟩
    case round =>
      obtain ⟨k, hk, rfl, hnew, hz⟩ := hrel
      have Hz := hide hz
      have Hnew := hide hnew
      clear hz
      by_cases hlt : k < n
      · obtain ⟨b, o, r, hA, hb, hr, q0, q1⟩ := rws_two (Hx.out.new_ hnew) (k := k) (by have := Hn.out; omega)
        obtain ⟨b2, o2, s, hB, hb2, hs, p0, p1⟩ := rws_two (Hy.out.new_ hnew) (k := k) (by have := Hm.out; omega)
        subst hA; subst hB
        have Hr := hide hr
        have Hs2 := hide hs
        have i1 : (k : Int) < (n : Int) := by omega
        clear hr hs hnew
        obtain ⟨wo, rfl⟩ : ∃ wo : World, wo = wr := ⟨_, rfl⟩
        cases h1 : (r.a == s.a && r.n == s.n) with
        | false =>
          have Hne := hide (sameL_ne Hr.out Hs2.out h1)
          go_upto_region 6 with (fail)
          refine wp_region_new wo (Upd.refl _ _) (by kernel_rfl) (by kernel_rfl) ?_
          repeat (go_big_quiet_step (fail))
          refine wpQuiet_nil ?_
          rintro _ ⟨nq2, rfl⟩
          go_wp2_with fail
          go_ret
          exact ⟨ret_bool Hne.out.symm, Hnew.out.trans_new nq2.h⟩
        | true =>
          have He := hide (show r = s by
            simp at h1
            obtain ⟨a, n⟩ := r
            obtain ⟨b, m⟩ := s
            obtain ⟨rfl, rfl⟩ := h1
            rfl)
          go_upto_region 6 with (fail)
          refine wp_region_new wo (Upd.refl _ _) (by kernel_rfl) (by kernel_rfl) ?_
          repeat (go_big_quiet_step (fail))
          refine wpQuiet_nil ?_
          rintro _ ⟨nq2, rfl⟩
          go_wp2_with fail
          refine ⟨⟨k + 1, by omega, by go_num, Hnew.out.trans_new nq2.h, fun i x y hi hx hy => ?_⟩, by simp [intOf]; omega⟩
          by_cases hij : i < k
          · exact Hz.out i x y hij hx hy
          · obtain rfl : i = k := by omega
            rw [Hr.out] at hx; injection hx with hx; subst hx
            rw [Hs2.out] at hy; injection hy with hy; subst hy
            exact He.out
      · have i1 : ¬ (k : Int) < (n : Int) := by omega
        have He := hide (sameL_eq (ps := ps) (qs := qs) (by have := Hn.out; have := Hm.out; omega) fun i r s hi hr hs => Hz.out i r s (by have := Hn.out; omega) hr hs)
        go_wp2_with fail
        go_ret
        exact ⟨ret_bool He.out.symm, Hnew.out⟩
  · have He : Hid (sameL ps qs = false) := hide (by
      cases hs : sameL ps qs with
      | false => rfl
      | true =>
        rw [sameL_iff] at hs
        have := congrArg List.length hs
        have h1 := Hn.out
        have h2 := Hm.out
        exact absurd (by omega) hnm)
    have i1 : ((n : Int) != (m : Int)) = true := by simp; omega
    go_enter Tryz.func33, Tryz.ntmps33
    go_wp2_with fail
    go_ret
    exact ⟨ret_bool He.out.symm, Upd.refl _ _⟩
end Go.Proofs.YtignngpligicjaaGreatDoor

namespace Go.Proofs.YtignngpligicjaaGreatDoor
open Go.RowKit

theorem pfsC_all {ps : List Pf} (h : ∀ p ∈ ps, p.ok) : (pfsC ps).1 = 0 := by
  have key : ∀ m k, (∀ i, k ≤ i → i < k + m → pfF ps i = 0) → (firstC (pfF ps) m k).1 = 0 := by
    intro m
    induction m with
    | zero => intro k _; rfl
    | succ m ih =>
      intro k h
      unfold firstC
      rw [if_neg (by simp [h k (by omega) (by omega)])]
      exact ih (k + 1) fun i h1 h2 => h i (by omega) (by omega)
  refine key _ 0 fun i _ hi => ?_
  have hp : ps[i]? = some (ps[i]'(by omega)) := List.getElem?_eq_getElem (by omega)
  rw [pfF_at hp]
  exact h _ (List.getElem_mem _)
theorem twoC_all {a b : List Pf} (ha : (pfsC a).1 = 0) (hb : (pfsC b).1 = 0) : (twoC a b).1 = 0 := by
  unfold twoC
  rw [if_pos ha]
  exact hb
/-- A right answer: prefixes, no error. -/
def GoodP (f : Nat → Bool) (m : Nat) (w : World) (e : Ending) (w1 : World) : Prop := ∃ A c qs, e = .returned (.tuple #[.slice A (List.length (α := Pf) qs) c, .nilIface]) ∧ New w w1 ∧ Rws w1 A 2 (qs.map Pf.cells) ∧ qs.length ≤ m ∧ NPl f qs
/-- An error, no prefixes. -/
def BadP (w : World) (e : Ending) (w1 : World) : Prop := ∃ A c t p, e = .returned (.tuple #[.slice A 0 c, .iface t (.pointer (some p))]) ∧ New w w1
theorem NormPost.good {E : Nat → Addr} {C : Nat × Int} {f : Nat → Bool} {m : Nat} {w w1 : World} {e : Ending} (h : NormPost E C f m w e w1) (hC : C.1 = 0) : GoodP f m w e w1 := by
  obtain ⟨v, er, P, rfl, her, hu, ho, hl, _, hg⟩ := h
  obtain rfl := her.nil_of hC
  obtain ⟨A, cap, rfl, _, hr, _⟩ := ho.rws
  exact ⟨A, cap, P.map pfOf, rfl, hu, hr, by rw [List.length_map]; exact hl, npl_of (hg hC)⟩
theorem NormPost.bad {E : Nat → Addr} {C : Nat × Int} {f : Nat → Bool} {m : Nat} {w w1 : World} {e : Ending} (h : NormPost E C f m w e w1) (hC : C.1 ≠ 0) : BadP w e w1 := by
  obtain ⟨v, er, P, rfl, her, hu, ho, hl, hb, _⟩ := h
  obtain ⟨t, p, rfl⟩ := her.ptr_of hC
  obtain rfl := hb hC
  obtain ⟨A, cap, rfl, _, _, _⟩ := ho.rws
  exact ⟨A, cap, t, p, rfl, hu⟩
theorem norm_good (A : Option Addr) (n c : Nat) (ps : List Pf) (E : Nat → Addr) (w : World) (htz : TzOk w) (h2 : Sen w gBound (E 2)) (h3 : Sen w gShape (E 3)) (hx : Rws w A 2 (ps.map Pf.cells)) (hn : ps.length = n) (hl : n ≤ 100000) (hC : (pfsC ps).1 = 0) :
    Calls Tryz.prog 30 #[.slice A n c] w (GoodP (inP ps) (66 * n) w) :=
  (norm_any A n c ps E w htz h2 h3 hx hn hl).mono fun _ _ h => h.good hC
theorem norm_bad (A : Option Addr) (n c : Nat) (ps : List Pf) (E : Nat → Addr) (w : World) (htz : TzOk w) (h2 : Sen w gBound (E 2)) (h3 : Sen w gShape (E 3)) (hx : Rws w A 2 (ps.map Pf.cells)) (hn : ps.length = n) (hl : n ≤ 100000) (hC : (pfsC ps).1 ≠ 0) :
    Calls Tryz.prog 30 #[.slice A n c] w (BadP w) :=
  (norm_any A n c ps E w htz h2 h3 hx hn hl).mono fun _ _ h => h.bad hC
end Go.Proofs.YtignngpligicjaaGreatDoor

/- The plain law: what the reference answers is what the trie answers. No program in sight. No condition but those that stand in each theorem. -/
import Derived.Test.YtkljanjapcpbdaaDoorTl5
import Derived.Test.YtkljanjapcpbdaaDoorFb4
namespace Go.Proofs.YtkljanjapcpbdaaDoor
open Go.RowKit

theorem rput_old {V : Fm.VM} (hV : Val V) {a n y : Int} (h : chk a n = 0) (hy : at1 V a n = some y) (ms hop : Int) : rputC ms (allX V) a n hop = (0, allX (put1 V a n (some hop))) := by
  obtain ⟨h1, h2, _⟩ := (put_law hV h).ol y hy
  rw [rputC_old h h1, h2]
theorem rput_full {V : Fm.VM} (hV : Val V) {a n : Int} (h : chk a n = 0) (hy : at1 V a n = none) {ms : Int} (hm : ms ≤ (allX V).length) (hop : Int) : rputC ms (allX V) a n hop = (7, allX V) :=
  rputC_full h ((put_law hV h).fr hy).1 hm
theorem rput_new {V : Fm.VM} (hV : Val V) {a n : Int} (h : chk a n = 0) (hy : at1 V a n = none) {ms : Int} (hm : ¬ ms ≤ (allX V).length) (hop : Int) : rputC ms (allX V) a n hop = (0, allX (put1 V a n (some hop))) := by
  rw [rputC_new h ((put_law hV h).fr hy).1 hm, ((put_law hV h).fr hy).2]
theorem rdrop_old {V : Fm.VM} (hV : Val V) {a n y : Int} (h : chk a n = 0) (hy : at1 V a n = some y) : rdropC (allX V) a n = (0, allX (put1 V a n none)) := by
  obtain ⟨_, _, h1, h2⟩ := (put_law hV h).ol y hy
  rw [rdropC_at h h1, h2]
theorem rdrop_none {V : Fm.VM} (hV : Val V) {a n : Int} (h : chk a n = 0) (hy : at1 V a n = none) : rdropC (allX V) a n = (5, allX V) := rdropC_none h ((put_law hV h).no hy)

theorem len_new {V : Fm.VM} {a n hop : Int} (h : chk a n = 0) (hy : at1 V a n = none) : (allX (put1 V a n (some hop))).length = (allX V).length + 1 := by
  have := len_put (V := V) h (some hop)
  rw [hy] at this
  rw [allX_len, allX_len]
  simpa [b2n] using this
theorem len_old {V : Fm.VM} {a n hop y : Int} (h : chk a n = 0) (hy : at1 V a n = some y) : (allX (put1 V a n (some hop))).length = (allX V).length := by
  have := len_put (V := V) h (some hop)
  rw [hy] at this
  rw [allX_len, allX_len]
  simpa [b2n] using this
theorem len_drop {V : Fm.VM} {a n y : Int} (h : chk a n = 0) (hy : at1 V a n = some y) : (allX (put1 V a n none)).length + 1 = (allX V).length := by
  have := len_put (V := V) h none
  rw [hy] at this
  rw [allX_len, allX_len]
  simpa [b2n] using this

theorem best_spec (L : List E3) (a : Int) : ∀ k, k ≤ L.length → (bestI L a k = -1 → ∀ (i : Nat) x, i < k → L[i]? = some x → hasB x.a x.n a = false) ∧
    (∀ q : Nat, bestI L a k = q → ∃ z, L[q]? = some z ∧ hasB z.a z.n a = true ∧ ∀ (i : Nat) x, i < k → L[i]? = some x → hasB x.a x.n a = true → x.n ≤ z.n) := by
  intro k
  induction k with
  | zero => intro _; exact ⟨fun _ i x h => absurd h (by omega), fun q h => by simp [bestI] at h⟩
  | succ k ih =>
    intro hk
    obtain ⟨ih1, ih2⟩ := ih (by omega)
    have hx : L[k]? = some (L[k]'(by omega)) := List.getElem?_eq_getElem (by omega)
    obtain ⟨x, hxe⟩ : ∃ x, x = L[k]'(by omega) := ⟨_, rfl⟩
    rw [← hxe] at hx
    have hr := bestI_range L a k
    have hst : bestI L a (k + 1) = if hasB x.a x.n a = false then bestI L a k else if bestI L a k < 0 then (k : Int) else match L[(bestI L a k).toNat]? with
      | some z => if z.n < x.n then (k : Int) else bestI L a k
      | none => bestI L a k := by rw [bestI, hx]; rfl
    cases hb : hasB x.a x.n a with
    | false =>
      rw [hst, hb, if_pos rfl]
      refine ⟨fun h i z hi hz => ?_, fun q hq => ?_⟩
      · by_cases hik : i < k
        · exact ih1 h i z hik hz
        · obtain rfl : i = k := by omega
          rw [hx] at hz; injection hz with hz; subst hz; exact hb
      · obtain ⟨z, h1, h2, h3⟩ := ih2 q hq
        refine ⟨z, h1, h2, fun i y hi hy hh => ?_⟩
        by_cases hik : i < k
        · exact h3 i y hik hy hh
        · obtain rfl : i = k := by omega
          rw [hx] at hy; injection hy with hy; subst hy; rw [hb] at hh; cases hh
    | true =>
      rw [hst, hb, if_neg (by simp)]
      by_cases hneg : bestI L a k < 0
      · rw [if_pos hneg]
        have h1 : bestI L a k = -1 := by omega
        refine ⟨fun h => by omega, fun q hq => ?_⟩
        obtain rfl : q = k := by omega
        refine ⟨x, hx, hb, fun i y hi hy hh => ?_⟩
        by_cases hik : i < q
        · rw [ih1 h1 i y hik hy] at hh; cases hh
        · obtain rfl : i = q := by omega
          rw [hx] at hy; injection hy with hy; subst hy; exact Int.le_refl _
      · rw [if_neg hneg]
        obtain ⟨p, hp⟩ : ∃ p : Nat, bestI L a k = p := ⟨(bestI L a k).toNat, by omega⟩
        obtain ⟨z, h1, h2, h3⟩ := ih2 p hp
        rw [hp, Int.toNat_natCast, h1]
        by_cases hlt : z.n < x.n
        · rw [show (match some z with | some z => if z.n < x.n then (k : Int) else (p : Int) | none => (p : Int)) = (k : Int) from if_pos hlt]
          refine ⟨fun h => by omega, fun q hq => ?_⟩
          obtain rfl : q = k := by omega
          refine ⟨x, hx, hb, fun i y hi hy hh => ?_⟩
          by_cases hik : i < q
          · have := h3 i y hik hy hh; omega
          · obtain rfl : i = q := by omega
            rw [hx] at hy; injection hy with hy; subst hy; exact Int.le_refl _
        · rw [show (match some z with | some z => if z.n < x.n then (k : Int) else (p : Int) | none => (p : Int)) = (p : Int) from if_neg hlt]
          refine ⟨fun h => by omega, fun q hq => ?_⟩
          obtain rfl : q = p := by omega
          refine ⟨z, h1, h2, fun i y hi hy hh => ?_⟩
          by_cases hik : i < k
          · exact h3 i y hik hy hh
          · obtain rfl : i = k := by omega
            rw [hx] at hy; injection hy with hy; subst hy; omega

/-- The reference finds what the trie finds. -/
theorem find_law {V : Fm.VM} (hV : Val V) (a : Int) : ((found V a).isSome = false → bestI (allX V) a (allX V).length = -1) ∧
    ((found V a).isSome = true → ∃ q : Nat, bestI (allX V) a (allX V).length = q ∧ (allX V)[q]? = some ⟨fA a (found V a), fB (found V a), fC (found V a)⟩) := by
  have hr := bestI_range (allX V) a (allX V).length
  obtain ⟨h1, h2⟩ := best_spec (allX V) a (allX V).length (Nat.le_refl _)
  constructor
  · intro hf
    by_cases hn : bestI (allX V) a (allX V).length = -1
    · exact hn
    · obtain ⟨z, hz, hh, _⟩ := h2 (bestI (allX V) a (allX V).length).toNat (by omega)
      have := (found_has hV hz hh).1
      rw [hf] at this; cases this
  · intro hf
    have ht := found_there hV a
    rw [hf, List.any_eq_true] at ht
    obtain ⟨e, he, hee⟩ := ht
    obtain ⟨i, hi⟩ := List.getElem?_of_mem he
    have hil := (List.getElem?_eq_some_iff.1 hi).1
    have hparts : e.a = fA a (found V a) ∧ e.n = fB (found V a) ∧ e.h = fC (found V a) ∧ hasB e.a e.n a = true := by
      unfold isF at hee
      simp only [Bool.and_eq_true, beq_iff_eq] at hee
      exact ⟨hee.1.1.1, hee.1.1.2, hee.1.2, hee.2⟩
    by_cases hn : bestI (allX V) a (allX V).length = -1
    · have := h1 hn i e hil hi
      rw [hparts.2.2.2] at this; cases this
    · obtain ⟨q, hq⟩ : ∃ q : Nat, bestI (allX V) a (allX V).length = q := ⟨(bestI (allX V) a (allX V).length).toNat, by omega⟩
      obtain ⟨z, hz, hh, hmax⟩ := h2 q hq
      refine ⟨q, hq, ?_⟩
      have e1 := hmax i e hil hi hparts.2.2.2
      have e2 := (found_has hV hz hh).2
      have hzn : z.n = e.n := by rw [hparts.2.1] at e1 ⊢; omega
      have hza : z.a = e.a := by
        have q1 := of_decide_eq_true (hh : decide _ = true)
        have q2 := of_decide_eq_true (hparts.2.2.2 : decide _ = true)
        rw [← q1.2.2, ← q2.2.2, hzn]
      have m1 := ((mem_allX hV z).1 (List.mem_of_getElem? hz)).2
      have m2 := ((mem_allX hV e).1 he).2
      rw [hza, hzn, m2] at m1
      injection m1 with m1
      rw [hz, ← hparts.1, ← hparts.2.1, ← hparts.2.2.1, E3.ext_.2 ⟨hza, hzn, m1.symm⟩]
end Go.Proofs.YtkljanjapcpbdaaDoor

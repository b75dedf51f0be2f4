/- Prefixes in their order: where one comes among others, once. No condition but those that stand in each theorem. -/
import Derived.Test.YtlealjcllbpgkaaWi0
import Derived.Test.YtlealjcllbpgkaaLs
import Derived.Test.YtlealjcllbpgkaaIp2
namespace Go.Proofs.Ytlealjcllbpgkaa
open Go.RowKit

/-- Where a prefix comes among others, once. -/
def geP (p q : Pf) : Bool := decide (0 ≤ cmpP q.a q.n p.a p.n)
def dropIn (l : List Pf) (p : Pf) : List Pf := if idxB (geP p) l < 0 then l ++ [p] else if l[(idxB (geP p) l).toNat]? = some p then l else l.take (idxB (geP p) l).toNat ++ p :: l.drop (idxB (geP p) l).toNat
def dropAll (l more : List Pf) : List Pf := more.foldl dropIn l
def ltP (p q : Pf) : Prop := p.a < q.a ∨ (p.a = q.a ∧ p.n < q.n)
theorem ltP_trans {p q r : Pf} (h : ltP p q) (k : ltP q r) : ltP p r := by unfold ltP at *; omega
theorem ltP_ne {p q : Pf} (h : ltP p q) : p ≠ q := by rintro rfl; unfold ltP at h; omega
theorem cmp_ltP (a n b m : Int) : cmpP a n b m < 0 ↔ ltP ⟨a, n⟩ ⟨b, m⟩ := by
  unfold cmpP ltP
  simp only [sgn, firstNZ]
  split <;> (try split) <;> (try split) <;> simp_all <;> omega
theorem less_lt {p q : Pf} (h1 : chk p.a p.n = 0) (h2 : chk q.a q.n = 0) : lessB p.a p.n q.a q.n = true ↔ ltP p q := by
  unfold lessB
  rw [decide_eq_true_eq]
  exact ⟨fun h => (cmp_ltP _ _ _ _).1 h.2.2, fun h => ⟨h1, h2, (cmp_ltP _ _ _ _).2 h⟩⟩
theorem pair_of_next {α : Type} {R : α → α → Prop} (ht : ∀ a b c : α, R a b → R b c → R a c) : ∀ l : List α, (∀ (i : Nat) x y, l[i]? = some x → l[i + 1]? = some y → R x y) → l.Pairwise R
  | [], _ => List.Pairwise.nil
  | [x], _ => List.pairwise_singleton _ _
  | x :: y :: l, h => by
    have hp := pair_of_next ht (y :: l) fun i a b ha hb => h (i + 1) a b (by simpa using ha) (by simpa using hb)
    have hxy := h 0 x y rfl rfl
    refine List.pairwise_cons.2 ⟨fun z hz => ?_, hp⟩
    rcases List.mem_cons.1 hz with rfl | hz
    · exact hxy
    · exact ht _ _ _ hxy ((List.pairwise_cons.1 hp).1 z hz)
theorem pair_next {α : Type} {R : α → α → Prop} {l : List α} (h : l.Pairwise R) {i : Nat} {x y : α} (hx : l[i]? = some x) (hy : l[i + 1]? = some y) : R x y := by
  have h1 := List.getElem?_eq_some_iff.1 hx
  have h2 := List.getElem?_eq_some_iff.1 hy
  have := List.pairwise_iff_getElem.1 h i (i + 1) h1.1 h2.1 (by omega)
  rw [h1.2, h2.2] at this
  exact this
/-- What rises: its law in words of all pairs. -/
theorem tri {p q : Pf} (h1 : ¬ ltP q p) (h2 : q ≠ p) : ltP p q := by
  obtain ⟨a, n⟩ := p
  obtain ⟨b, m⟩ := q
  unfold ltP at *
  dsimp only at *
  by_cases hab : a = b
  · subst hab
    by_cases hnm : n = m
    · subst hnm; exact absurd rfl h2
    · omega
  · omega
theorem geP_iff (p q : Pf) : geP p q = true ↔ ¬ ltP q p := by
  unfold geP
  rw [decide_eq_true_eq, ← cmp_ltP q.a q.n p.a p.n]
  omega
theorem idxB_spec {α : Type} (f : α → Bool) : ∀ l : List α, (idxB f l < 0 ∧ ∀ x ∈ l, f x = false) ∨ ∃ l1 x l2, l = l1 ++ x :: l2 ∧ (idxB f l = (l1.length : Int)) ∧ f x = true ∧ ∀ y ∈ l1, f y = false
  | [] => .inl ⟨by simp [idxB], fun x h => by simp at h⟩
  | x :: l => by
    by_cases hx : f x = true
    · exact .inr ⟨[], x, l, rfl, by simp [idxB, hx], hx, fun y h => by simp at h⟩
    · have hx' : f x = false := by simpa using hx
      rcases idxB_spec f l with ⟨h1, h2⟩ | ⟨l1, y, l2, e, h1, h2, h3⟩
      · refine .inl ⟨by simp [idxB, hx', h1], fun y hy => ?_⟩
        rcases List.mem_cons.1 hy with rfl | hy
        · exact hx'
        · exact h2 y hy
      · refine .inr ⟨x :: l1, y, l2, by rw [e]; rfl, ?_, h2, fun z hz => ?_⟩
        · unfold idxB
          rw [if_neg hx, h1, if_neg (by omega), List.length_cons]
          omega
        · rcases List.mem_cons.1 hz with rfl | hz
          · exact hx'
          · exact h3 z hz
/-- A prefix that is not there comes where it belongs. -/
theorem dropIn_new {l : List Pf} {p : Pf} (hl : l.Pairwise ltP) (hp : p ∉ l) : ∃ l1 l2, l = l1 ++ l2 ∧ dropIn l p = l1 ++ p :: l2 ∧ (l1 ++ p :: l2).Pairwise ltP := by
  unfold dropIn
  rcases idxB_spec (geP p) l with ⟨h1, h2⟩ | ⟨l1, x, l2, rfl, h1, h2, h3⟩
  · rw [if_pos h1]
    refine ⟨l, [], by simp, rfl, List.pairwise_append.2 ⟨hl, List.pairwise_singleton .., fun q hq y hy => ?_⟩⟩
    rw [List.mem_singleton.1 hy]
    have := h2 q hq
    exact Classical.byContradiction fun hn => by rw [(geP_iff p q).2 hn] at this; cases this
  · have hx : x ≠ p := fun e => hp (by rw [← e]; simp)
    have hlt : ltP p x := tri ((geP_iff p x).1 h2) hx
    have e0 : ((l1.length : Int)).toNat = l1.length := Int.toNat_natCast _
    rw [h1, if_neg (by omega), e0, List.getElem?_append_right (Nat.le_refl _), Nat.sub_self, List.getElem?_cons_zero, if_neg (fun e => hx (Option.some.inj e)), List.take_left, List.drop_left]
    obtain ⟨p1, p2, p3⟩ := List.pairwise_append.1 hl
    obtain ⟨p4, p5⟩ := List.pairwise_cons.1 p2
    refine ⟨l1, x :: l2, rfl, rfl, List.pairwise_append.2 ⟨p1, List.pairwise_cons.2 ⟨fun y hy => ?_, p2⟩, fun a ha y hy => ?_⟩⟩
    · rcases List.mem_cons.1 hy with rfl | hy
      · exact hlt
      · exact ltP_trans hlt (p4 y hy)
    · rcases List.mem_cons.1 hy with rfl | hy
      · have := h3 a ha
        exact Classical.byContradiction fun hn => by rw [(geP_iff y a).2 hn] at this; cases this
      · exact p3 a ha y hy
end Go.Proofs.Ytlealjcllbpgkaa

/- Texts cut by a byte, plainly: the document's cutting is the library's. No condition but those that stand in each theorem. -/
import Derived.Test.YtignngpligicjaaDoorIh1
namespace Go.Proofs.YtignngpligicjaaDoor
open Go.RowKit

/-- The document's cutting of a text by a byte. -/
def cutR (c : UInt8) : List UInt8 → List (List UInt8)
  | [] => [[]]
  | b :: l => if b = c then [] :: cutR c l else match cutR c l with
    | p :: ps => (b :: p) :: ps
    | [] => [[b]]
theorem cutR_ne (c : UInt8) : ∀ l, cutR c l ≠ []
  | [] => by simp [cutR]
  | b :: l => by
    unfold cutR
    split
    · simp
    · split <;> simp
theorem cutR_no (c : UInt8) : ∀ l, ∀ p ∈ cutR c l, c ∉ p
  | [], p, h => by
    unfold cutR at h
    rw [List.mem_singleton.1 h]; simp
  | b :: l, p, h => by
    unfold cutR at h
    have ih := cutR_no c l
    split at h
    · rcases List.mem_cons.1 h with rfl | h
      · simp
      · exact ih p h
    · rename_i hb
      split at h
      · rename_i q qs hq
        rcases List.mem_cons.1 h with rfl | h
        · rw [List.mem_cons]
          rintro (e | e)
          · exact hb e.symm
          · exact ih q (by rw [hq]; exact List.mem_cons_self ..) e
        · exact ih p (by rw [hq]; exact List.mem_cons_of_mem _ h)
      · rw [List.mem_singleton.1 h, List.mem_singleton]
        exact fun e => hb e.symm
theorem cutR_join (c : UInt8) : ∀ l, joinC c (cutR c l) = l
  | [] => rfl
  | b :: l => by
    have ih := cutR_join c l
    have hn := cutR_ne c l
    unfold cutR
    cases hq : cutR c l with
    | nil => exact absurd hq hn
    | cons q qs =>
      rw [hq] at ih
      by_cases hb : b = c
      · rw [if_pos hb, ← hb]
        show [] ++ b :: joinC b (q :: qs) = _
        rw [hb, ih]; rfl
      · rw [if_neg hb]
        show joinC c ((b :: q) :: qs) = b :: l
        rw [← ih]
        cases qs with
        | nil => rfl
        | cons r rs => rfl
theorem cutR_self (c : UInt8) : ∀ p : List UInt8, c ∉ p → cutR c p = [p]
  | [], _ => rfl
  | b :: l, h => by
    have ih := cutR_self c l (fun hm => h (List.mem_cons_of_mem _ hm))
    unfold cutR
    rw [if_neg (fun e => h (by rw [e]; exact List.mem_cons_self ..)), ih]
theorem cutR_app (c : UInt8) (r : List UInt8) : ∀ p : List UInt8, c ∉ p → cutR c (p ++ c :: r) = p :: cutR c r
  | [], _ => by
    show cutR c (c :: r) = _
    unfold cutR
    rw [if_pos rfl]
    cases r <;> rfl
  | b :: l, h => by
    have ih := cutR_app c r l (fun hm => h (List.mem_cons_of_mem _ hm))
    show cutR c (b :: (l ++ c :: r)) = _
    rw [cutR, if_neg (fun e => h (by rw [e]; exact List.mem_cons_self ..)), ih]
theorem cutR_len (c : UInt8) (l : List UInt8) : (cutR c l).length ≤ l.length + 1 := by
  induction l with
  | nil => simp [cutR]
  | cons b l ih =>
    unfold cutR
    split
    · simp; omega
    · split
      · rename_i q qs hq
        rw [hq] at ih
        simp at ih ⊢; omega
      · simp
theorem cutR_piece (c : UInt8) : ∀ l, ∀ p ∈ cutR c l, p.length ≤ l.length
  | [], p, h => by
    unfold cutR at h
    rw [List.mem_singleton.1 h]; simp
  | b :: l, p, h => by
    have ih := cutR_piece c l
    unfold cutR at h
    split at h
    · rcases List.mem_cons.1 h with rfl | h
      · simp
      · have := ih p h; simp; omega
    · split at h
      · rename_i q qs hq
        rcases List.mem_cons.1 h with rfl | h
        · have := ih q (by rw [hq]; exact List.mem_cons_self ..); simp; omega
        · have := ih p (by rw [hq]; exact List.mem_cons_of_mem _ h); simp; omega
      · rw [List.mem_singleton.1 h]; simp
/-- The library's cutting by one byte. -/
theorem splitB_cutR (c : UInt8) (s : ByteArray) : Lib.splitB ⟨#[c]⟩ 0 (Lib.countB s ⟨#[c]⟩) s = (cutR c s.data.toList).map fun p => ⟨p.toArray⟩ := by
  have h := splitB_join c (cutR c s.data.toList) (cutR_ne c _) (cutR_no c _)
  rw [cutR_join, ba_eta] at h
  exact h
/-- The library's cutting in two, at the first such byte. -/
theorem cut_cutR (c : UInt8) (l : List UInt8) : Lib.cut l [c] = match cutR c l with
    | [] => (l, [], false)
    | [p] => (p, [], false)
    | p :: q :: r => (p, joinC c (q :: r), true) := by
  have hj := cutR_join c l
  have hn := cutR_no c l
  cases hq : cutR c l with
  | nil => exact absurd hq (cutR_ne c l)
  | cons p r =>
    rw [hq] at hj hn
    have hp := hn p (List.mem_cons_self ..)
    cases r with
    | nil =>
      have hj' : p = l := hj
      rw [← hj']
      exact cut_none c p hp
    | cons q r =>
      have hj' : p ++ c :: joinC c (q :: r) = l := hj
      rw [← hj']
      exact cut_at c p _ hp
end Go.Proofs.YtignngpligicjaaDoor

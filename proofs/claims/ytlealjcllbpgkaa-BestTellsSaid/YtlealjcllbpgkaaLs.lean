/- Plain lists: the first place at which a test holds. No program in sight. No condition. -/
namespace Go.Proofs.Ytlealjcllbpgkaa

/-- The first place at which it holds; -1: nowhere. -/
def idxB {α : Type} (p : α → Bool) : List α → Int
  | [] => -1
  | x :: l => if p x then 0 else (if idxB p l < 0 then -1 else idxB p l + 1)

theorem idxB_neg {α : Type} (p : α → Bool) : ∀ l : List α, -1 ≤ idxB p l
  | [] => by simp [idxB]
  | x :: l => by
    have := idxB_neg p l
    unfold idxB
    split
    · omega
    · split <;> omega
theorem idxB_at {α : Type} (p : α → Bool) : ∀ (l : List α) (k : Nat) (x : α), l[k]? = some x → p x = true → (∀ j y, j < k → l[j]? = some y → p y = false) → idxB p l = k := by
  intro l
  induction l with
  | nil => intro k x h; simp at h
  | cons z l ih =>
    intro k x h hp hn
    cases k with
    | zero => simp at h; subst h; simp [idxB, hp]
    | succ k =>
      have hz : p z = false := hn 0 z (by omega) rfl
      have h1 := ih k x (by simpa using h) hp fun j y hj hy => hn (j + 1) y (by omega) (by simpa using hy)
      rw [idxB, hz, h1]
      simp
      omega
theorem idxB_no {α : Type} (p : α → Bool) : ∀ (l : List α), (∀ (j : Nat) y, l[j]? = some y → p y = false) → idxB p l = -1 := by
  intro l
  induction l with
  | nil => intro _; rfl
  | cons z l ih =>
    intro hn
    have hz : p z = false := hn 0 z rfl
    have h1 := ih fun j y hy => hn (j + 1) y (by simpa using hy)
    rw [idxB, hz, h1]
    simp
theorem idxB_any {α : Type} (p : α → Bool) (l : List α) : decide (0 ≤ idxB p l) = l.any p := by
  induction l with
  | nil => rfl
  | cons z l ih =>
    rw [List.any_cons, ← ih, idxB]
    cases p z
    · simp only [Bool.false_eq_true, ↓reduceIte, Bool.false_or]
      have := idxB_neg p l
      by_cases h : idxB p l < 0
      · rw [if_pos h]; simp; omega
      · rw [if_neg h]; simp; omega
    · simp

theorem idxB_ge {α : Type} (p : α → Bool) (l : List α) : 0 ≤ idxB p l ↔ ∃ (j : Nat) (y : α), l[j]? = some y ∧ p y = true := by
  have h := idxB_any p l
  constructor
  · intro h0
    rw [decide_eq_true h0] at h
    have h2 := h.symm
    rw [List.any_eq_true] at h2
    obtain ⟨y, hy, hp⟩ := h2
    obtain ⟨j, hj⟩ := List.getElem?_of_mem hy
    exact ⟨j, y, hj, hp⟩
  · rintro ⟨j, y, hj, hp⟩
    have : l.any p = true := List.any_eq_true.2 ⟨y, List.mem_of_getElem? hj, hp⟩
    rw [this] at h
    exact of_decide_eq_true h
theorem idxB_lt {α : Type} (p : α → Bool) : ∀ (l : List α), 0 ≤ idxB p l → (idxB p l).toNat < l.length := by
  intro l
  induction l with
  | nil => intro h; simp [idxB] at h
  | cons z l ih =>
    intro h
    unfold idxB at h ⊢
    split
    · simp
    · rename_i hz
      rw [if_neg hz] at h
      by_cases h2 : idxB p l < 0
      · rw [if_pos h2] at h; omega
      · rw [if_neg h2]
        have := ih (by omega)
        simp only [List.length_cons]
        omega
end Go.Proofs.Ytlealjcllbpgkaa

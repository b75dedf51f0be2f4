/- Package fib: the list of all: its members, its order, its length. Plain laws. No condition but those that stand in each theorem. -/
import Derived.Test.YtkljanjapcpbdaaDoorFb4
namespace Go.Proofs.YtkljanjapcpbdaaDoor
open Go.RowKit

theorem pow_split {i j : Nat} (h : i < j) : 2 ^ (j - i) = 2 ^ (j - (i + 1)) * 2 := by
  rw [show j - i = (j - (i + 1)) + 1 by omega, Nat.pow_succ]

/-- Is a place below a node? -/
def under (k i v j u : Nat) : Prop := i ≤ j ∧ j < i + k ∧ u / 2 ^ (j - i) = v

theorem under_zero (i v j u : Nat) : ¬ under 0 i v j u := fun h => by have := h.1; have := h.2.1; omega
theorem under_succ (k i v j u : Nat) : under (k + 1) i v j u ↔ (j = i ∧ u = v) ∨ under k (i + 1) (2 * v) j u ∨ under k (i + 1) (2 * v + 1) j u := by
  unfold under
  by_cases hij : i < j
  · rw [pow_split hij, ← Nat.div_div_eq_div_mul]
    generalize u / 2 ^ (j - (i + 1)) = q
    omega
  · by_cases he : j = i
    · subst he
      simp
      omega
    · omega
theorem under_apart (k i v j u : Nat) : ¬ (under k (i + 1) (2 * v) j u ∧ under k (i + 1) (2 * v + 1) j u) ∧ (under k (i + 1) (2 * v) j u → j ≠ i) ∧ (under k (i + 1) (2 * v + 1) j u → j ≠ i) := by
  unfold under
  refine ⟨?_, ?_, ?_⟩ <;> intro h <;> omega

theorem lst_mem (V : Fm.VM) : ∀ (k i v j u : Nat) (h : Int), (j, u, h) ∈ lst V k i v ↔ under k i v j u ∧ V j u = some h := by
  intro k
  induction k with
  | zero => intro i v j u h; simp [lst, under_zero]
  | succ k ih =>
    intro i v j u h
    rw [lst, List.mem_append, List.mem_append, ih, ih, under_succ]
    constructor
    · rintro (h1 | h1 | h1)
      · cases hv : V i v with
        | none => rw [hv] at h1; cases h1
        | some x =>
          rw [hv] at h1
          simp only [List.mem_singleton, Prod.mk.injEq] at h1
          obtain ⟨rfl, rfl, rfl⟩ := h1
          exact ⟨.inl ⟨rfl, rfl⟩, hv⟩
      · exact ⟨.inr (.inl h1.1), h1.2⟩
      · exact ⟨.inr (.inr h1.1), h1.2⟩
    · rintro ⟨⟨rfl, rfl⟩ | h1 | h1, hv⟩
      · left; rw [hv]; simp
      · exact .inr (.inl ⟨h1, hv⟩)
      · exact .inr (.inr ⟨h1, hv⟩)

def b2n (x : Option Int) : Nat := if x.isSome then 1 else 0
open Classical in
theorem lst_up (V : Fm.VM) (j u : Nat) (x : Option Int) : ∀ (k i v : Nat),
    (lst (Fm.up V j u x) k i v).length + (if under k i v j u then b2n (V j u) else 0) = (lst V k i v).length + (if under k i v j u then b2n x else 0) := by
  intro k
  induction k with
  | zero => intro i v; simp [lst, under_zero]
  | succ k ih =>
    intro i v
    have h1 := ih (i + 1) (2 * v)
    have h2 := ih (i + 1) (2 * v + 1)
    have h3 := under_succ k i v j u
    obtain ⟨h4, h5, h6⟩ := under_apart k i v j u
    rw [lst, lst, List.length_append, List.length_append, List.length_append, List.length_append]
    by_cases hh : j = i ∧ u = v
    · obtain ⟨rfl, rfl⟩ := hh
      have n1 : ¬ under k (j + 1) (2 * u) j u := fun h => h5 h rfl
      have n2 : ¬ under k (j + 1) (2 * u + 1) j u := fun h => h6 h rfl
      rw [if_neg n1, if_neg n1] at h1
      rw [if_neg n2, if_neg n2] at h2
      rw [if_pos (h3.2 (.inl ⟨rfl, rfl⟩)), if_pos (h3.2 (.inl ⟨rfl, rfl⟩))]
      have e : Fm.up V j u x j u = x := by unfold Fm.up; rw [if_pos ⟨rfl, rfl⟩]
      rw [e]
      cases x <;> cases V j u <;> simp [b2n] <;> omega
    · have e : Fm.up V j u x i v = V i v := by unfold Fm.up; rw [if_neg (fun h => hh ⟨h.1.symm, h.2.symm⟩)]
      rw [e]
      by_cases a1 : under k (i + 1) (2 * v) j u
      · have a2 : ¬ under k (i + 1) (2 * v + 1) j u := fun h => h4 ⟨a1, h⟩
        rw [if_pos a1, if_pos a1] at h1
        rw [if_neg a2, if_neg a2] at h2
        rw [if_pos (h3.2 (.inr (.inl a1))), if_pos (h3.2 (.inr (.inl a1)))]
        omega
      · by_cases a2 : under k (i + 1) (2 * v + 1) j u
        · rw [if_neg a1, if_neg a1] at h1
          rw [if_pos a2, if_pos a2] at h2
          rw [if_pos (h3.2 (.inr (.inr a2))), if_pos (h3.2 (.inr (.inr a2)))]
          omega
        · rw [if_neg a1, if_neg a1] at h1
          rw [if_neg a2, if_neg a2] at h2
          have a3 : ¬ under (k + 1) i v j u := fun h => by rcases h3.1 h with h | h | h; exact hh h; exact a1 h; exact a2 h
          rw [if_neg a3, if_neg a3]
          omega

/-- Nothing but right places. -/
def Val (V : Fm.VM) : Prop := ∀ i v h, V i v = some h → i ≤ 32 ∧ v < 2 ^ i

theorem Val.zero : Val V0 := fun _ _ _ h => by cases h
theorem top_lt {a n : Int} (h : chk a n = 0) : n.toNat ≤ 32 ∧ Fm.top a.toNat n.toNat < 2 ^ n.toNat := by
  unfold chk at h
  split at h
  · rename_i hr
    refine ⟨by omega, ?_⟩
    unfold Fm.top
    apply Nat.div_lt_of_lt_mul
    rw [← Nat.pow_add, show 32 - n.toNat + n.toNat = 32 by omega]
    have : (2 : Nat) ^ 32 = 4294967296 := by rfl
    omega
  · cases h
theorem Val.put {V : Fm.VM} (hV : Val V) {a n : Int} (h : chk a n = 0) (x : Option Int) : Val (put1 V a n x) := by
  intro i v y hy
  unfold put1 Fm.up at hy
  split at hy
  · rename_i he
    obtain ⟨rfl, rfl⟩ := he
    exact top_lt h
  · exact hV i v y hy

theorem under_all {i v : Nat} (h : i ≤ 32 ∧ v < 2 ^ i) : under 33 0 0 i v := ⟨by omega, by omega, Nat.div_eq_of_lt h.2⟩

/-- All of a table. -/
abbrev allT (V : Fm.VM) : List (Nat × Nat × Int) := lst V 33 0 0

theorem len_put {V : Fm.VM} {a n : Int} (h : chk a n = 0) (x : Option Int) : (allT (put1 V a n x)).length + b2n (at1 V a n) = (allT V).length + b2n x := by
  have := lst_up V n.toNat (Fm.top a.toNat n.toNat) x 33 0 0
  rw [if_pos (under_all (top_lt h)), if_pos (under_all (top_lt h))] at this
  exact this
theorem len_zero : (allT V0).length = 0 := by
  have : allT V0 = [] := by
    rw [List.eq_nil_iff_forall_not_mem]
    rintro ⟨j, u, h⟩ hm
    have := ((lst_mem _ _ _ _ _ _ _).1 hm).2
    cases this
  rw [this]; rfl

theorem all_mem {V : Fm.VM} (hV : Val V) (j u : Nat) (h : Int) : (j, u, h) ∈ allT V ↔ V j u = some h :=
  (lst_mem V 33 0 0 j u h).trans ⟨fun h => h.2, fun h => ⟨under_all (hV _ _ _ h), h⟩⟩

/-- Ahead of: by address, then by length. -/
def ahead (e f : Nat × Nat × Int) : Prop := adr e.1 e.2.1 < adr f.1 f.2.1 ∨ adr e.1 e.2.1 = adr f.1 f.2.1 ∧ e.1 < f.1

theorem under_adr {k i v j u : Nat} (h : under k i v j u) (hk : i + k ≤ 33) : adr i v ≤ adr j u ∧ adr j u < adr i v + ((2 ^ (32 - i) : Nat) : Int) := by
  obtain ⟨h1, h2, h3⟩ := h
  unfold adr
  have e : 2 ^ (32 - i) = 2 ^ (j - i) * 2 ^ (32 - j) := by rw [← Nat.pow_add]; congr 1; omega
  have p1 : 0 < 2 ^ (j - i) := pow_pos2 _
  have p2 : 0 < 2 ^ (32 - j) := pow_pos2 _
  rw [e]
  generalize 2 ^ (j - i) = p at *
  generalize 2 ^ (32 - j) = q at *
  have d1 : v * p ≤ u := by rw [← h3]; exact Nat.div_mul_le_self u p
  have d2 : u + 1 ≤ v * p + p := by
    have := Nat.lt_div_mul_add (a := u) p1
    rw [h3] at this; omega
  have m1 := Nat.mul_le_mul_right q d1
  have m2 := Nat.mul_le_mul_right q d2
  rw [Nat.mul_assoc] at m1
  rw [Nat.add_mul, Nat.add_mul, Nat.mul_assoc] at m2
  rw [Nat.one_mul] at m2
  constructor
  · exact Int.ofNat_le.2 m1
  · rw [← Int.natCast_add]
    exact Int.ofNat_lt.2 (by omega)

theorem lst_sorted (V : Fm.VM) : ∀ (k i v : Nat), i + k ≤ 33 → (lst V k i v).Pairwise ahead := by
  intro k
  induction k with
  | zero => intro i v _; exact List.Pairwise.nil
  | succ k ih =>
    intro i v hk
    rw [lst, List.pairwise_append, List.pairwise_append]
    have hl : ∀ w (e : Nat × Nat × Int), e ∈ lst V k (i + 1) w → under k (i + 1) w e.1 e.2.1 := fun w e he => ((lst_mem V k (i + 1) w e.1 e.2.1 e.2.2).1 he).1
    refine ⟨?_, ⟨ih _ _ (by omega), ih _ _ (by omega), ?_⟩, ?_⟩
    · cases V i v <;> simp
    · intro e he f hf
      have a1 := under_adr (hl _ e he) (by omega)
      have a2 := under_adr (hl _ f hf) (by omega)
      have hi : i < 32 := by have := (hl _ e he).2.1; have := (hl _ e he).1; omega
      obtain ⟨b1, b2⟩ := adr_low i v hi
      left
      rw [b1, show 32 - (i + 1) = 31 - i by omega] at a1
      rw [b2] at a2
      omega
    · intro e he f hf
      cases hv : V i v with
      | none => rw [hv] at he; cases he
      | some x =>
        rw [hv] at he
        simp only [List.mem_singleton] at he
        subst he
        have hu : under (k + 1) i v f.1 f.2.1 := (under_succ k i v f.1 f.2.1).2 (.inr (by
          rcases List.mem_append.1 hf with hf | hf
          · exact .inl (hl _ f hf)
          · exact .inr (hl _ f hf)))
        have hij : i < f.1 := by
          rcases List.mem_append.1 hf with hf | hf
          · exact (hl _ f hf).1
          · exact (hl _ f hf).1
        have a1 := under_adr hu (by omega)
        show adr i v < adr f.1 f.2.1 ∨ adr i v = adr f.1 f.2.1 ∧ i < f.1
        omega
end Go.Proofs.YtkljanjapcpbdaaDoor

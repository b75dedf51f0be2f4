/- Hops by depth and first bits: plain laws. No condition but those that stand in each theorem. -/
namespace Go.Proofs.YtkljanjapcpbdaaDoor
namespace Fm

/-- hops by depth and by the first bits. -/
abbrev VM := Nat → Nat → Option Int

/-- the first i bits of an address. -/
def top (a i : Nat) : Nat := a / 2 ^ (32 - i)

/-- what is found at a depth below n: the deepest one. -/
def fnd (V : VM) (a : Nat) : Nat → Option (Nat × Int)
  | 0 => none
  | i + 1 => match V i (top a i) with
    | some h => some (i, h)
    | none => fnd V a i

theorem top_succ (a i : Nat) (hi : i < 32) : top a (i + 1) = 2 * top a i + a / 2 ^ (31 - i) % 2 := by
  unfold top
  have e : 32 - i = (31 - i) + 1 := by omega
  have e2 : 32 - (i + 1) = 31 - i := by omega
  rw [e, e2, Nat.pow_succ, ← Nat.div_div_eq_div_mul]
  omega

theorem fnd_stop (V : VM) (a i : Nat) (h : ∀ j, i ≤ j → j ≤ 32 → V j (top a j) = none) : ∀ k, i ≤ k → k ≤ 33 → fnd V a k = fnd V a i := by
  intro k hk
  induction k with
  | zero => intro _; have : i = 0 := by omega
            rw [this]
  | succ k ih =>
    intro h33
    by_cases hik : i ≤ k
    · rw [fnd, h k hik (by omega), ih hik (by omega)]
    · have : i = k + 1 := by omega
      rw [this]

theorem fnd_lt (V : VM) (a : Nat) : ∀ (n i : Nat) (h : Int), fnd V a n = some (i, h) → i < n := by
  intro n
  induction n with
  | zero => intro i h e; cases e
  | succ n ih =>
    intro i h e
    rw [fnd] at e
    split at e
    · injection e with e; injection e with e1 _; omega
    · have := ih i h e; omega

theorem fnd_congr (V V' : VM) (a : Nat) (h : ∀ i v, V i v = V' i v) (n : Nat) : fnd V a n = fnd V' a n := by
  have : V = V' := by funext i v; exact h i v
  rw [this]

/-- an entry: address, length, hop. -/
structure En where
  addr : Nat
  len : Nat
  hop : Int

def En.at (e : En) (i v : Nat) : Bool := e.len == i && top e.addr e.len == v

/-- the first of them. -/
def VL (l : List En) : VM := fun i v => (l.find? fun e => e.at i v).map (·.hop)

def up (V : VM) (i v : Nat) (x : Option Int) : VM := fun j u => if j = i ∧ u = v then x else V j u

/-- no two at one place. -/
def Dist (l : List En) : Prop := l.Pairwise fun e f => ¬ (e.len = f.len ∧ top e.addr e.len = top f.addr f.len)

theorem VL_none {l : List En} {i v : Nat} : VL l i v = none ↔ ∀ e ∈ l, e.at i v = false := by
  simp [VL, List.find?_eq_none]

theorem VL_snoc (l : List En) (e : En) (h : VL l e.len (top e.addr e.len) = none) : VL (l ++ [e]) = up (VL l) e.len (top e.addr e.len) (some e.hop) := by
  funext j u
  unfold up
  by_cases hj : j = e.len ∧ u = top e.addr e.len
  · rw [if_pos hj]
    obtain ⟨rfl, rfl⟩ := hj
    have h' : l.find? (fun f => f.at e.len (top e.addr e.len)) = none := by simpa [VL] using h
    have he : e.at e.len (top e.addr e.len) = true := by simp [En.at]
    simp [VL, List.find?_append, h', he]
  · rw [if_neg hj]
    have he : e.at j u = false := by
      simp only [En.at, Bool.and_eq_false_iff, beq_eq_false_iff_ne, ne_eq]
      by_cases h1 : e.len = j
      · right; intro h2; exact hj ⟨h1.symm, h2.symm⟩
      · left; exact h1
    simp [VL, List.find?_append, he]

theorem VL_mem {l : List En} (hd : Dist l) {i v : Nat} {h : Int} : VL l i v = some h ↔ ∃ e ∈ l, e.len = i ∧ top e.addr e.len = v ∧ e.hop = h := by
  induction l with
  | nil => simp [VL]
  | cons a l ih =>
    unfold Dist at hd
    rw [List.pairwise_cons] at hd
    by_cases ha : a.at i v = true
    · have hv : VL (a :: l) i v = some a.hop := by simp [VL, ha]
      simp only [En.at, Bool.and_eq_true, beq_iff_eq] at ha
      rw [hv]
      constructor
      · intro e
        injection e with e
        exact ⟨a, by simp, ha.1, ha.2, e⟩
      · rintro ⟨e, he, h1, h2, h3⟩
        rcases List.mem_cons.1 he with rfl | he
        · rw [h3]
        · exact absurd ⟨by rw [ha.1, h1], by rw [ha.2, h2]⟩ (hd.1 e he)
    · have hv : VL (a :: l) i v = VL l i v := by simp [VL, ha]
      rw [hv, ih hd.2]
      constructor
      · rintro ⟨e, he, r⟩; exact ⟨e, by simp [he], r⟩
      · rintro ⟨e, he, h1, h2, h3⟩
        rcases List.mem_cons.1 he with rfl | he
        · exfalso; apply ha; subst h1; subst h2; simp [En.at]
        · exact ⟨e, he, h1, h2, h3⟩

theorem VL_ext {l l' : List En} (hd : Dist l) (hd' : Dist l') (h : ∀ e, e ∈ l ↔ e ∈ l') : VL l = VL l' := by
  funext i v
  cases hx : VL l i v with
  | some x =>
    rw [VL_mem hd] at hx
    obtain ⟨e, he, r⟩ := hx
    exact ((VL_mem hd').2 ⟨e, (h e).1 he, r⟩).symm
  | none =>
    cases hy : VL l' i v with
    | none => rfl
    | some y =>
      rw [VL_mem hd'] at hy
      obtain ⟨e, he, r⟩ := hy
      have := (VL_mem hd).2 ⟨e, (h e).2 he, r⟩
      rw [hx] at this
      cases this

/-- two right prefixes at one place are one. -/
theorem addr_of_top (a b n : Nat) (ha : a % 2 ^ (32 - n) = 0) (hb : b % 2 ^ (32 - n) = 0) (h : top a n = top b n) : a = b := by
  unfold top at h
  have h1 := Nat.div_add_mod a (2 ^ (32 - n))
  have h2 := Nat.div_add_mod b (2 ^ (32 - n))
  rw [← h1, ← h2, ha, hb, h]

end Fm
end Go.Proofs.YtkljanjapcpbdaaDoor

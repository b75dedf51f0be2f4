/- What is told of a route as a text, plainly: what is written is read again. No condition but those that stand in each theorem. -/
import Derived.Test.YtignngpligicjaaGreatDoorCt1
import Derived.Test.YtignngpligicjaaGreatDoorRs1
namespace Go.Proofs.YtignngpligicjaaGreatDoor
open Go.RowKit

theorem cutR_joinC (c : UInt8) : ∀ (l : List (List UInt8)), l ≠ [] → (∀ p ∈ l, c ∉ p) → cutR c (joinC c l) = l
  | [], h, _ => absurd rfl h
  | [p], _, h => cutR_self c p (h p (List.mem_cons_self ..))
  | p :: q :: l, _, h => by
    show cutR c (p ++ c :: joinC c (q :: l)) = _
    rw [cutR_app c _ p (h p (List.mem_cons_self ..)), cutR_joinC c (q :: l) (by simp) (fun x hx => h x (List.mem_cons_of_mem _ hx))]
theorem joinC_head (c : UInt8) (p : List UInt8) (hp : p ≠ []) : ∀ r : List (List UInt8), (joinC c (p :: r)).head? = p.head?
  | [] => rfl
  | q :: r => by
    show (p ++ c :: joinC c (q :: r)).head? = _
    cases p with
    | nil => exact absurd rfl hp
    | cons x y => rfl
theorem itoa_dec {x : Int} (h : 0 ≤ x) : Lib.itoa x = Lib.decDigits x.toNat := by
  unfold Lib.itoa
  rw [if_neg (by omega)]
theorem itoa_digit {x : Int} (h : 0 ≤ x) : ∀ c ∈ Lib.itoa x, 48 ≤ c.toNat ∧ c.toNat ≤ 57 := by
  rw [itoa_dec h]; exact dec_all _
theorem itoa_ne {x : Int} (h : 0 ≤ x) : Lib.itoa x ≠ [] := by
  rw [itoa_dec h]
  intro e
  have h1 := Lib.decDigits_length x.toNat
  have h2 := Lib.nDigits_pos x.toNat
  rw [e] at h1
  simp at h1
  omega
theorem numR_itoa {x : Int} (h : 0 ≤ x) (h1 : x ≤ 999999999) : numR (Lib.itoa x) = x := by
  rw [itoa_dec h, numR_dec _ (by omega)]; omega
theorem numV_itoa {x : Int} (h : 0 ≤ x) (h1 : x ≤ 999999999) : numV (Lib.itoa x) 999999999 = some x := by
  rw [numV_numR _ _ (by omega), numR_itoa h h1, if_pos ⟨h, h1⟩]

/-- Numbers in words, a byte between; none: a stroke. -/
def joinT (c : UInt8) (l : List Int) : List UInt8 := if l = [] then [45] else joinC c (l.map Lib.itoa)
/-- The numbers of words; none: one is none. -/
def numsL : List (List UInt8) → Option (List Int)
  | [] => some []
  | p :: ps => match numV p 999999999 with
    | some v => (numsL ps).map (v :: ·)
    | none => none
def numsV (c : UInt8) (s : List UInt8) : Option (List Int) := if s = [45] then some [] else numsL (cutR c s)
theorem numsL_some {p : List UInt8} {ps : List (List UInt8)} {v : Int} (h : numV p 999999999 = some v) : numsL (p :: ps) = (numsL ps).map (v :: ·) := by
  show (match numV p 999999999 with | some v => (numsL ps).map (v :: ·) | none => none) = _
  rw [h]
theorem numsL_none {p : List UInt8} {ps : List (List UInt8)} (h : numV p 999999999 = none) : numsL (p :: ps) = none := by
  show (match numV p 999999999 with | some v => (numsL ps).map (v :: ·) | none => none) = _
  rw [h]
theorem numsL_len : ∀ (ps : List (List UInt8)) (l : List Int), numsL ps = some l → l.length = ps.length
  | [], l, h => by injection h with h; subst h; rfl
  | p :: ps, l, h => by
    cases hv : numV p 999999999 with
    | none => rw [numsL_none hv] at h; cases h
    | some v =>
      rw [numsL_some hv] at h
      cases hr : numsL ps with
      | none => rw [hr] at h; cases h
      | some r =>
        rw [hr] at h
        injection h with h
        subst h
        have := numsL_len ps r hr
        simp [this]
theorem numsL_itoa : ∀ (l : List Int), (∀ x ∈ l, 0 ≤ x ∧ x ≤ 999999999) → numsL (l.map Lib.itoa) = some l
  | [], _ => rfl
  | x :: l, h => by
    have hx := h x (List.mem_cons_self ..)
    rw [List.map_cons, numsL_some (numV_itoa hx.1 hx.2), numsL_itoa l (fun y hy => h y (List.mem_cons_of_mem _ hy))]
    rfl
theorem joinT_ne {c : UInt8} {l : List Int} (h : ∀ x ∈ l, 0 ≤ x) (hl : l ≠ []) : joinT c l ≠ [45] := by
  unfold joinT
  rw [if_neg hl]
  cases l with
  | nil => exact absurd rfl hl
  | cons x l =>
    have hx := h x (List.mem_cons_self ..)
    intro e
    have h1 := joinC_head c (Lib.itoa x) (itoa_ne hx) (l.map Lib.itoa)
    rw [List.map_cons] at e
    rw [e] at h1
    have h2 := itoa_digit hx 45 (by
      cases hi : Lib.itoa x with
      | nil => exact absurd hi (itoa_ne hx)
      | cons a b =>
        rw [hi] at h1
        injection h1 with h1
        rw [← h1]; exact List.mem_cons_self ..)
    simp at h2
theorem numsV_joinT {c : UInt8} (hc : ¬ (48 ≤ c.toNat ∧ c.toNat ≤ 57)) {l : List Int} (h : ∀ x ∈ l, 0 ≤ x ∧ x ≤ 999999999) : numsV c (joinT c l) = some l := by
  unfold numsV
  by_cases hl : l = []
  · subst hl; rfl
  · rw [if_neg (joinT_ne (fun x hx => (h x hx).1) hl)]
    unfold joinT
    rw [if_neg hl, cutR_joinC c _ (by simpa using hl), numsL_itoa l h]
    intro p hp hcp
    obtain ⟨x, hx, rfl⟩ := List.mem_map.1 hp
    exact hc (itoa_digit (h x hx).1 c hcp)
theorem joinC_mem (c : UInt8) : ∀ (l : List (List UInt8)), ∀ d ∈ joinC c l, d = c ∨ ∃ p ∈ l, d ∈ p
  | [], d, h => absurd h (by simp [joinC])
  | [p], d, h => .inr ⟨p, List.mem_cons_self .., h⟩
  | p :: q :: l, d, h => by
    have h' : d ∈ p ++ c :: joinC c (q :: l) := h
    rw [List.mem_append, List.mem_cons] at h'
    rcases h' with h1 | h1 | h1
    · exact .inr ⟨p, List.mem_cons_self .., h1⟩
    · exact .inl h1
    · rcases joinC_mem c (q :: l) d h1 with h2 | ⟨r, hr, h2⟩
      · exact .inl h2
      · exact .inr ⟨r, List.mem_cons_of_mem _ hr, h2⟩
/-- There is no blank in a joined row, if it is not joined by one. -/
theorem joinT_no {c : UInt8} (hc : c ≠ 32) {l : List Int} (h : ∀ x ∈ l, 0 ≤ x) : (32 : UInt8) ∉ joinT c l := by
  unfold joinT
  split
  · simp
  · intro hm
    rcases joinC_mem c _ _ hm with h1 | ⟨p, hp, h1⟩
    · exact hc h1.symm
    · obtain ⟨x, hx, rfl⟩ := List.mem_map.1 hp
      have := itoa_digit (h x hx) 32 h1
      simp at this

/-- What is told, in words. -/
def attrW (path : List Int) (pref med origin : Int) (tags : List Int) : List UInt8 := joinT 45 path ++ 32 :: (joinT 32 [pref, med, origin] ++ 32 :: joinT 44 tags)
theorem attrW_cut (path : List Int) (pref med origin : Int) (tags : List Int) (h1 : ∀ x ∈ path, 0 ≤ x) (h2 : 0 ≤ pref) (h3 : 0 ≤ med) (h4 : 0 ≤ origin) (h5 : ∀ x ∈ tags, 0 ≤ x) :
    cutR 32 (attrW path pref med origin tags) = [joinT 45 path, Lib.itoa pref, Lib.itoa med, Lib.itoa origin, joinT 44 tags] := by
  have e : attrW path pref med origin tags = joinC 32 [joinT 45 path, Lib.itoa pref, Lib.itoa med, Lib.itoa origin, joinT 44 tags] := by
    unfold attrW
    have : joinT 32 [pref, med, origin] = joinC 32 [Lib.itoa pref, Lib.itoa med, Lib.itoa origin] := by
      unfold joinT
      rw [if_neg (by simp)]
      rfl
    rw [this]
    simp [joinC]
  rw [e]
  refine cutR_joinC 32 _ (by simp) fun p hp => ?_
  have dg : ∀ x : Int, 0 ≤ x → (32 : UInt8) ∉ Lib.itoa x := fun x hx hm => by
    have := itoa_digit hx 32 hm
    simp at this
  simp only [List.mem_cons, List.not_mem_nil, or_false] at hp
  rcases hp with rfl | rfl | rfl | rfl | rfl
  · exact joinT_no (by decide) h1
  · exact dg _ h2
  · exact dg _ h3
  · exact dg _ h4
  · exact joinT_no (by decide) h5
end Go.Proofs.YtignngpligicjaaGreatDoor

/- Package rule: what Apply gives, in plain words, and the law of the rule that comes first. No condition but those that stand in each theorem. -/
import Derived.Test.YtkljanjapcpbdaaDoorRu7
namespace Go.Proofs.YtkljanjapcpbdaaDoor
open Go.RowKit

theorem idxB_find {α : Type} (p : α → Bool) : ∀ l : List α, (idxB p l < 0 ∧ l.find? p = none) ∨ (0 ≤ idxB p l ∧ ∃ r, l[(idxB p l).toNat]? = some r ∧ l.find? p = some r)
  | [] => .inl ⟨by simp [idxB], rfl⟩
  | x :: l => by
    have ih := idxB_find p l
    unfold idxB
    by_cases h : p x
    · rw [if_pos h]; exact .inr ⟨by omega, x, by simp, by simp [List.find?, h]⟩
    · rw [if_neg h]
      rcases ih with ⟨h1, h2⟩ | ⟨h1, r, h2, h3⟩
      · rw [if_pos h1]; exact .inl ⟨by omega, by simp [List.find?, h, h2]⟩
      · rw [if_neg (by omega)]
        refine .inr ⟨by omega, r, ?_, by simp [List.find?, h, h3]⟩
        rw [show (idxB p l + 1).toNat = (idxB p l).toNat + 1 by omega]; simpa using h2

/-- What a rule makes of what is told: its numbers, its tag, its lead. -/
def mk1 (r : RuR) (c : AtC) : AtC := { c with pref := if 0 ≤ r.pref then r.pref else c.pref, med := if 0 ≤ r.med then r.med else c.med }
def mkT (r : RuR) (c : AtC) : Nat := if 0 < r.add then tagK (mk1 r c) r.add else 0
def mk2 (r : RuR) (c : AtC) : AtC := if 0 < r.add then tagX (mk1 r c) r.add else mk1 r c
def mkK (r : RuR) (s : Int) (c : AtC) : Nat := if mkT r c ≠ 0 then mkT r c else leadK (mk2 r c) s r.lead
def mkX (r : RuR) (s : Int) (c : AtC) : AtC := if mkT r c ≠ 0 then zeroC else leadX (mk2 r c) s r.lead
/-- Does a rule fit? -/
def fitX (x m : Int) (c : AtC) (r : RuR) : Bool := fitB r x m c.path c.tags
def preC (l : List RuR) (x m : Int) (c : AtC) : Nat × Int := if (rulesC l).1 ≠ 0 then rulesC l else if chk x m ≠ 0 then (chk x m, -1) else ((conC c).1, -1)
/-- What rules make of a route: the error, whether it stays, what is told. -/
def apF (l : List RuR) (s x m : Int) (c : AtC) : Nat × Int := if (preC l x m c).1 ≠ 0 then preC l x m c else if l = [] then (0, -1) else match l.find? (fitX x m c) with
  | none => (0, -1)
  | some r => if r.deny = true then (0, -1) else (mkK r s c, -1)
def apB (l : List RuR) (s x m : Int) (c : AtC) : Bool := if (preC l x m c).1 ≠ 0 then false else if l = [] then true else match l.find? (fitX x m c) with
  | none => false
  | some r => if r.deny = true then false else decide (mkK r s c = 0)
def apX (l : List RuR) (s x m : Int) (c : AtC) : AtC := if (preC l x m c).1 ≠ 0 then zeroC else if l = [] then c else match l.find? (fitX x m c) with
  | none => zeroC
  | some r => if r.deny = true then zeroC else mkX r s c

theorem ap_pre {l : List RuR} {s x m : Int} {c : AtC} (h : (preC l x m c).1 ≠ 0) : apF l s x m c = preC l x m c ∧ apB l s x m c = false ∧ apX l s x m c = zeroC := by
  unfold apF apB apX
  rw [if_pos h, if_pos h, if_pos h]
  exact ⟨rfl, rfl, rfl⟩
theorem ap_nil {s x m : Int} {c : AtC} (h : (preC [] x m c).1 = 0) : apF [] s x m c = (0, -1) ∧ apB [] s x m c = true ∧ apX [] s x m c = c := by
  unfold apF apB apX
  simp [h]
theorem ap_none {l : List RuR} {s x m : Int} {c : AtC} (h : (preC l x m c).1 = 0) (hl : l ≠ []) (hf : l.find? (fitX x m c) = none) : apF l s x m c = (0, -1) ∧ apB l s x m c = false ∧ apX l s x m c = zeroC := by
  unfold apF apB apX
  simp [h, hl, hf]
theorem ap_deny {l : List RuR} {s x m : Int} {c : AtC} {r : RuR} (h : (preC l x m c).1 = 0) (hl : l ≠ []) (hf : l.find? (fitX x m c) = some r) (hd : r.deny = true) : apF l s x m c = (0, -1) ∧ apB l s x m c = false ∧ apX l s x m c = zeroC := by
  unfold apF apB apX
  simp [h, hl, hf, hd]
theorem ap_some {l : List RuR} {s x m : Int} {c : AtC} {r : RuR} (h : (preC l x m c).1 = 0) (hl : l ≠ []) (hf : l.find? (fitX x m c) = some r) (hd : r.deny = false) : apF l s x m c = (mkK r s c, -1) ∧ apB l s x m c = decide (mkK r s c = 0) ∧ apX l s x m c = mkX r s c := by
  unfold apF apB apX
  simp [h, hl, hf, hd]
theorem preC_rules {l : List RuR} {x m : Int} {c : AtC} (h : (rulesC l).1 ≠ 0) : preC l x m c = rulesC l := by unfold preC; rw [if_pos h]
theorem preC_chk {l : List RuR} {x m : Int} {c : AtC} (h : (rulesC l).1 = 0) (h2 : chk x m ≠ 0) : preC l x m c = (chk x m, -1) := by unfold preC; rw [if_neg (by simp [h]), if_pos h2]
theorem preC_con {l : List RuR} {x m : Int} {c : AtC} (h : (rulesC l).1 = 0) (h2 : chk x m = 0) : preC l x m c = ((conC c).1, -1) := by unfold preC; rw [if_neg (by simp [h]), if_neg (by simp [h2])]

theorem firstC_zero (f : Nat → Nat) : ∀ m k : Nat, (firstC f m k).1 = 0 → ∀ i, k ≤ i → i < k + m → f i = 0 := by
  intro m
  induction m with
  | zero => intro k _ i h1 h2; omega
  | succ m ih =>
    intro k h i h1 h2
    unfold firstC at h
    by_cases hk : f k = 0
    · rw [if_neg (by simp [hk])] at h
      by_cases e : i = k
      · subst e; exact hk
      · exact ih (k + 1) h i (by omega) (by omega)
    · rw [if_pos hk] at h
      exact absurd h hk
/-- Rules are right just if there are few, each right. -/
theorem rulesC_zero (l : List RuR) : (rulesC l).1 = 0 ↔ l.length ≤ 10 ∧ ∀ r ∈ l, ruC r = 0 := by
  constructor
  · intro h
    by_cases h1 : 10 < l.length
    · rw [rulesC_long h1] at h; simp at h
    · rw [rulesC_short h1] at h
      refine ⟨by omega, fun r hr => ?_⟩
      obtain ⟨i, hi, rfl⟩ := List.mem_iff_getElem.1 hr
      have := firstC_zero _ _ _ h i (by omega) (by omega)
      rwa [ruF_at (List.getElem?_eq_getElem hi)] at this
  · rintro ⟨h1, h2⟩
    rw [rulesC_short (by omega), firstC_no]
    intro i _ hi
    rw [ruF_at (List.getElem?_eq_getElem (by omega))]
    exact h2 _ (List.getElem_mem _)

theorem ap_congr {l l' : List RuR} {s x m : Int} {c : AtC} (h : (rulesC l).1 = 0) (h' : (rulesC l').1 = 0) (h1 : l ≠ []) (h2 : l' ≠ []) (hf : l.find? (fitX x m c) = l'.find? (fitX x m c)) :
    apF l s x m c = apF l' s x m c ∧ apB l s x m c = apB l' s x m c ∧ apX l s x m c = apX l' s x m c := by
  have hp : preC l x m c = preC l' x m c := by
    unfold preC
    simp [h, h']
  unfold apF apB apX
  rw [hp, hf]
  simp [h1, h2]

theorem take_find {α : Type} (p : α → Bool) : ∀ (l : List α) (k : Nat) (r : α), l[k]? = some r → p r = true → (l.take (k + 1)).find? p = l.find? p := by
  intro l
  induction l with
  | nil => intro k r h; simp at h
  | cons a l ih =>
    intro k r h hp
    rw [List.take_succ_cons]
    cases ha : p a with
    | true => simp [List.find?, ha]
    | false =>
      cases k with
      | zero => simp at h; subst h; rw [hp] at ha; cases ha
      | succ k =>
        simp only [List.find?, ha]
        exact ih k r (by simpa using h) hp
theorem drop_find {α : Type} (p : α → Bool) : ∀ (l : List α) (k : Nat) (r : α), l[k]? = some r → p r = false → (l.take k ++ l.drop (k + 1)).find? p = l.find? p := by
  intro l
  induction l with
  | nil => intro k r h; simp at h
  | cons a l ih =>
    intro k r h hp
    cases k with
    | zero => simp at h; subst h; simp [List.find?, hp]
    | succ k =>
      rw [List.take_succ_cons, List.drop_succ_cons, List.cons_append]
      cases ha : p a with
      | true => simp [List.find?, ha]
      | false =>
        simp only [List.find?, ha]
        exact ih k r (by simpa using h) hp

/-- A rule for all. -/
def lastR : RuR := ⟨0, 0, 0, 32, 0, 0, false, -1, -1, 0, 0⟩
theorem lastR_ok : ruC lastR = 0 := by decide
theorem lastR_mk {s : Int} {c : AtC} (h : mkK lastR s c = 0) : mkX lastR s c = c := by
  have h1 : mk1 lastR c = c := rfl
  have h2 : mkT lastR c = 0 := rfl
  have h3 : mk2 lastR c = c := rfl
  unfold mkK at h
  unfold mkX
  rw [if_neg (by simp [h2])] at h ⊢
  rw [h3] at h ⊢
  rw [leadX_ok h]
  simp [lastR]
theorem rule_none {l : List RuR} {s x m : Int} {c : AtC} {k : Nat} {r : RuR} (h : (rulesC l).1 = 0) (hk : l[k]? = some r) (hf : fitX x m c r = false) (h0 : l.length = 1) : apB l s x m c = false := by
  have hl : l = [r] := by
    match l, h0 with
    | [a], _ => cases k with
      | zero => simp at hk; rw [hk]
      | succ k => simp at hk
  subst hl
  by_cases hp : (preC [r] x m c).1 = 0
  · exact (ap_none hp (by simp) (by simp [List.find?, hf])).2.1
  · exact (ap_pre hp).2.1
theorem rules_take {l : List RuR} (h : (rulesC l).1 = 0) (k : Nat) : (rulesC (l.take k)).1 = 0 := by
  rw [rulesC_zero] at h ⊢
  exact ⟨by have := h.1; simp; omega, fun r hr => h.2 r (List.mem_of_mem_take hr)⟩
theorem rules_less {l : List RuR} (h : (rulesC l).1 = 0) {k : Nat} (hk : k < l.length) : (rulesC (l.take k ++ l.drop (k + 1))).1 = 0 := by
  rw [rulesC_zero] at h ⊢
  refine ⟨by have := h.1; simp; omega, fun r hr => ?_⟩
  rcases List.mem_append.1 hr with hr | hr
  · exact h.2 r (List.mem_of_mem_take hr)
  · exact h.2 r (List.mem_of_mem_drop hr)
theorem rules_last {l : List RuR} (h : (rulesC l).1 = 0) (hl : l.length ≤ 9) : (rulesC (l ++ [lastR])).1 = 0 := by
  rw [rulesC_zero] at h ⊢
  refine ⟨by simp; omega, fun r hr => ?_⟩
  rcases List.mem_append.1 hr with hr | hr
  · exact h.2 r hr
  · rw [List.mem_singleton.1 hr]; exact lastR_ok
/-- What fits: rules behind it change nothing. -/
theorem rule_front {l : List RuR} {s x m : Int} {c : AtC} {k : Nat} {r : RuR} (h : (rulesC l).1 = 0) (hk : l[k]? = some r) (hf : fitX x m c r = true) :
    apF l s x m c = apF (l.take (k + 1)) s x m c ∧ apB l s x m c = apB (l.take (k + 1)) s x m c ∧ apX l s x m c = apX (l.take (k + 1)) s x m c := by
  have hlt : k < l.length := by
    rcases Nat.lt_or_ge k l.length with h | h
    · exact h
    · rw [List.getElem?_eq_none h] at hk; cases hk
  have h1 : l ≠ [] := by rintro rfl; simp at hlt
  have h2 : l.take (k + 1) ≠ [] := by
    intro h0
    have : (l.take (k + 1)).length = 0 := by rw [h0]; rfl
    rw [List.length_take] at this
    omega
  exact ap_congr h (rules_take h _) h1 h2 (take_find _ _ _ _ hk hf).symm
/-- What does not fit changes nothing. -/
theorem rule_skip {l : List RuR} {s x m : Int} {c : AtC} {k : Nat} {r : RuR} (h : (rulesC l).1 = 0) (hk : l[k]? = some r) (hf : fitX x m c r = false) (h0 : l.length ≠ 1) :
    apF l s x m c = apF (l.take k ++ l.drop (k + 1)) s x m c ∧ apB l s x m c = apB (l.take k ++ l.drop (k + 1)) s x m c ∧ apX l s x m c = apX (l.take k ++ l.drop (k + 1)) s x m c := by
  have hlt : k < l.length := by
    rcases Nat.lt_or_ge k l.length with h | h
    · exact h
    · rw [List.getElem?_eq_none h] at hk; cases hk
  have h1 : l ≠ [] := by rintro rfl; simp at hlt
  have h2 : l.take k ++ l.drop (k + 1) ≠ [] := by
    intro h9
    have : (l.take k ++ l.drop (k + 1)).length = 0 := by rw [h9]; rfl
    rw [List.length_append, List.length_take, List.length_drop] at this
    omega
  exact ap_congr h (rules_less h hlt) h1 h2 (drop_find _ _ _ _ hk hf).symm
/-- A last rule for all: what stayed stays as it was. -/
theorem rule_last {l : List RuR} {s x m : Int} {c : AtC} (h : (rulesC l).1 = 0) (hl : l.length ≤ 9) (h0 : l ≠ []) (hb : apB l s x m c = true) :
    (apF (l ++ [lastR]) s x m c).1 = 0 ∧ apB (l ++ [lastR]) s x m c = true ∧ apX (l ++ [lastR]) s x m c = apX l s x m c := by
  by_cases hp : (preC l x m c).1 = 0
  · cases hf : l.find? (fitX x m c) with
    | none => rw [(ap_none hp h0 hf).2.1] at hb; cases hb
    | some r =>
      obtain ⟨e1, e2, e3⟩ := ap_congr (s := s) h (rules_last h hl) h0 (by simp) (show l.find? (fitX x m c) = (l ++ [lastR]).find? (fitX x m c) by rw [List.find?_append, hf]; rfl)
      refine ⟨?_, by rw [← e2]; exact hb, e3.symm⟩
      rw [← e1]
      cases hd : r.deny with
      | true => rw [(ap_deny hp h0 hf hd).2.1] at hb; cases hb
      | false =>
        obtain ⟨f1, f2, _⟩ := ap_some (s := s) hp h0 hf hd
        rw [f2] at hb
        rw [f1]
        exact of_decide_eq_true hb
  · rw [(ap_pre hp).2.1] at hb; cases hb
/-- What did not stay: a last rule for all lets it through as it came, or not at all. -/
theorem rule_rest {l : List RuR} {s x m : Int} {c : AtC} (h : (rulesC l).1 = 0) (hl : l.length ≤ 9) (h0 : l ≠ []) (hb : apB l s x m c = false) :
    (apF (l ++ [lastR]) s x m c).1 ≠ 0 ∨ apB (l ++ [lastR]) s x m c = false ∨ apX (l ++ [lastR]) s x m c = c := by
  by_cases hp : (preC (l ++ [lastR]) x m c).1 = 0
  · cases hf : l.find? (fitX x m c) with
    | some r =>
      obtain ⟨e1, e2, e3⟩ := ap_congr (s := s) h (rules_last h hl) h0 (by simp) (show l.find? (fitX x m c) = (l ++ [lastR]).find? (fitX x m c) by rw [List.find?_append, hf]; rfl)
      exact .inr (.inl (by rw [← e2]; exact hb))
    | none =>
      cases hq : fitX x m c lastR with
      | false => exact .inr (.inl (ap_none hp (by simp) (by rw [List.find?_append, hf]; simp [List.find?, hq])).2.1)
      | true =>
        obtain ⟨f1, f2, f3⟩ := ap_some (s := s) hp (by simp) (show (l ++ [lastR]).find? (fitX x m c) = some lastR by rw [List.find?_append, hf]; simp [List.find?, hq]) rfl
        by_cases hk : mkK lastR s c = 0
        · exact .inr (.inr (by rw [f3]; exact lastR_mk hk))
        · exact .inl (by rw [f1]; exact hk)
  · exact .inl (by rw [(ap_pre hp).1]; exact hp)
/-- Tags that nothing is wrong with rise. -/
theorem tagC_pw : ∀ (l : List Int) (p i : Int), 0 ≤ i → (tagC p l i).1 = 0 → l.Pairwise (· < ·) ∧ (0 < i → ∀ t ∈ l, p < t)
  | [], p, i, _, _ => ⟨List.Pairwise.nil, by simp⟩
  | t :: l, p, i, hi, h => by
    unfold tagC at h
    split at h
    · simp at h
    · split at h
      · simp at h
      · rename_i h1 h2
        obtain ⟨q1, q2⟩ := tagC_pw l t (i + 1) (by omega) h
        have q3 := q2 (by omega)
        refine ⟨List.pairwise_cons.2 ⟨q3, q1⟩, fun h0 s hs => ?_⟩
        have hpt : p < t := by omega
        rcases List.mem_cons.1 hs with rfl | hs
        · exact hpt
        · have := q3 s hs; omega
theorem conC_zero {x : AtC} (h : (conC x).1 = 0) : x.path.length ≤ 12 ∧ x.tags.length ≤ 8 ∧ x.tags.Pairwise (· < ·) := by
  unfold conC attrC at h
  split at h
  · simp at h
  · rename_i h1
    split at h
    · simp at h
    · split at h
      · simp at h
      · exact ⟨by have := h1; dsimp only at this; omega, by have := h1; dsimp only at this; omega, (tagC_pw _ _ _ (by omega) h).1⟩
theorem tagX_len {x : AtC} {t : Int} (h1 : x.path.length ≤ 1000) (h2 : x.tags.length ≤ 999) : (tagX x t).path.length ≤ 1000 ∧ (tagX x t).tags.length ≤ 1000 := by
  unfold tagX
  split
  · refine ⟨h1, ?_⟩
    dsimp only
    unfold tagsX
    split
    · omega
    · have : (x.tags.take (x.tags.countP (· < t)) ++ t :: x.tags.drop (x.tags.countP (· < t))).length = x.tags.length + 1 := by
        rw [List.length_append, List.length_cons, List.length_take, List.length_drop]
        have := List.countP_le_length (p := fun v => decide (v < t)) (l := x.tags)
        omega
      omega
  · exact ⟨by simp [zeroC], by simp [zeroC]⟩
end Go.Proofs.YtkljanjapcpbdaaDoor

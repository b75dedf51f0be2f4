/- Package attr: Check. No condition but those that stand in each theorem. -/
import Derived.Test.YtlealjcllbpgkaaAt1
namespace Go.Proofs.Ytlealjcllbpgkaa
open Go.RowKit

abbrev TA : TypeId := 29

theorem attrC_len {a : AttrR} (h : 12 < a.path.length ∨ 8 < a.tags.length) : attrC a = (7, -1) := by unfold attrC; rw [if_pos h]
theorem attrC_path {a : AttrR} (h : ¬ (12 < a.path.length ∨ 8 < a.tags.length)) (h1 : 0 ≤ idxB badAS a.path) : attrC a = (2, idxB badAS a.path) := by unfold attrC; rw [if_neg h, if_pos h1]
theorem attrC_num {a : AttrR} (h : ¬ (12 < a.path.length ∨ 8 < a.tags.length)) (h1 : ¬ 0 ≤ idxB badAS a.path) (h2 : inR a.pref 0 1000 = false ∨ inR a.med 0 1000 = false ∨ inR a.origin 0 2 = false) : attrC a = (2, -1) := by unfold attrC; rw [if_neg h, if_neg h1, if_pos h2]
theorem attrC_tag {a : AttrR} (h : ¬ (12 < a.path.length ∨ 8 < a.tags.length)) (h1 : ¬ 0 ≤ idxB badAS a.path) (h2 : inR a.pref 0 1000 = true) (h3 : inR a.med 0 1000 = true) (h4 : inR a.origin 0 2 = true) : attrC a = tagC 0 a.tags 0 := by
  unfold attrC; rw [if_neg h, if_neg h1, if_neg (by simp [h2, h3, h4])]

/-- What holds at the k-th tag. -/
def TagRel (ts : List Int) (k : Nat) : Prop := ∃ pv, tagC 0 ts 0 = tagC pv (ts.drop k) k ∧ (0 < k → ts[k - 1]? = some pv)
theorem TagRel.zero (ts : List Int) : TagRel ts 0 := ⟨0, rfl, fun h => absurd h (by omega)⟩
theorem TagRel.done {ts : List Int} {k : Nat} (h : TagRel ts k) (hk : ts.length ≤ k) : tagC 0 ts 0 = (0, -1) := by
  obtain ⟨pv, h1, _⟩ := h
  rw [h1, List.drop_eq_nil_of_le hk]; rfl
theorem drop_at {ts : List Int} {k : Nat} {t : Int} (ht : ts[k]? = some t) : ts.drop k = t :: ts.drop (k + 1) := by
  have hlt : k < ts.length := (List.getElem?_eq_some_iff.1 ht).1
  rw [List.drop_eq_getElem_cons hlt]
  rw [List.getElem?_eq_getElem hlt] at ht
  injection ht with ht
  rw [ht]
theorem TagRel.bad {ts : List Int} {k : Nat} {t : Int} (h : TagRel ts k) (ht : ts[k]? = some t) (hb : inR t 1 9999 = false) : tagC 0 ts 0 = (2, (k : Int)) := by
  obtain ⟨pv, h1, _⟩ := h
  rw [h1, drop_at ht, tagC, if_pos hb]
theorem TagRel.low {ts : List Int} {k : Nat} {t q : Int} (h : TagRel ts k) (ht : ts[k]? = some t) (hb : inR t 1 9999 = true) (hk : 0 < k) (hq : ts[k - 1]? = some q) (hle : t ≤ q) : tagC 0 ts 0 = (8, (k : Int)) := by
  obtain ⟨pv, h1, h2⟩ := h
  have := h2 hk
  rw [hq] at this
  injection this with this
  subst this
  rw [h1, drop_at ht, tagC, if_neg (by simp [hb]), if_pos ⟨by omega, hle⟩]
theorem TagRel.step {ts : List Int} {k : Nat} {t : Int} (h : TagRel ts k) (ht : ts[k]? = some t) (hb : inR t 1 9999 = true) (hk : ∀ q, 0 < k → ts[k - 1]? = some q → q < t) : TagRel ts (k + 1) := by
  obtain ⟨pv, h1, h2⟩ := h
  refine ⟨t, ?_, fun _ => by simpa using ht⟩
  rw [h1, drop_at ht, tagC, if_neg (by simp [hb]), if_neg]
  · push_cast; rfl
  · rintro ⟨h3, h4⟩
    have := hk pv (by omega) (h2 (by omega))
    omega

end Go.Proofs.Ytlealjcllbpgkaa

/- Addresses and prefixes as texts, plainly: the document's reading is the program's. No condition but those that stand in each theorem. -/
import Derived.Test.YtignngpligicjaaDoorCt1
import Derived.Test.YtignngpligicjaaDoorNu1
namespace Go.Proofs.YtignngpligicjaaDoor
open Go.RowKit

theorem numR_lt (l : List UInt8) : numR l ≤ 999999999 ∧ -1 ≤ numR l := by
  by_cases h : 0 ≤ numR l
  · obtain ⟨u, h1, h2, _⟩ := numR_ok h
    omega
  · refine ⟨by omega, ?_⟩
    unfold numR at h ⊢
    split
    · omega
    · have key : ∀ (l : List UInt8) (acc : Nat), -1 ≤ digR l acc := by
        intro l
        induction l with
        | nil => intro acc; unfold digR; omega
        | cons c r ih => intro acc; unfold digR; split <;> first | exact ih _ | omega
      exact key l 0
theorem numV_digits {l : List UInt8} {most v : Int} (hm : most ≤ 999999999) (h : numV l most = some v) : ∀ c ∈ l, 48 ≤ c.toNat ∧ c.toNat ≤ 57 := by
  rw [numV_numR l most hm] at h
  split at h
  · rename_i hh
    obtain ⟨u, _, _, h3⟩ := numR_ok hh.1
    rw [← h3]
    exact dec_all u
  · cases h
theorem readParts_cutR (s : ByteArray) : readParts s = (cutR 46 s.data.toList).map fun p => ⟨p.toArray⟩ := splitB_cutR 46 s
theorem readA_four {s : ByteArray} (h : ¬ (cutR 46 s.data.toList).length = 4) : readA s = none := by
  unfold readA
  rw [readParts_cutR, if_neg (by simpa using h)]
theorem readA_parts {s : ByteArray} (h : (cutR 46 s.data.toList).length = 4) : readA s = partsV ((cutR 46 s.data.toList).map fun p => ⟨p.toArray⟩) 0 := by
  unfold readA
  rw [readParts_cutR, if_pos (by simpa using h)]
theorem parts_some {p : List UInt8} {ps : List ByteArray} {acc : Nat} (h0 : 0 ≤ numR p) (h1 : numR p ≤ 255) : partsV (⟨p.toArray⟩ :: ps) acc = partsV ps (acc * 256 + (numR p).toNat) :=
  partsV_some (by show numV p 255 = _; rw [numV_numR p 255 (by omega), if_pos ⟨h0, h1⟩])
theorem parts_none {p : List UInt8} {ps : List ByteArray} {acc : Nat} (h : ¬ (0 ≤ numR p ∧ numR p ≤ 255)) : partsV (⟨p.toArray⟩ :: ps) acc = none :=
  partsV_none (by show numV p 255 = _; rw [numV_numR p 255 (by omega), if_neg h])
/-- A text in two parts. -/
theorem readP_two {s : ByteArray} {p q : List UInt8} (h : cutR 47 s.data.toList = [p, q]) :
    (readA ⟨p.toArray⟩ = none → readP s = (1, 0, 0)) ∧ (numR q < 0 → readP s = (1, 0, 0)) ∧
    (∀ a, readA ⟨p.toArray⟩ = some a → 0 ≤ numR q → readP s = if chk a (numR q) = 0 then (0, (a : Int), numR q) else (chk a (numR q), 0, 0)) := by
  have hc : Lib.cut s.data.toList [47] = (p, q, true) := by rw [cut_cutR, h]; rfl
  refine ⟨fun ha => readP_a (by rw [hc]; exact ha), fun hn => readP_n ?_, fun a ha hn => readP_ok s a (numR q) (by rw [hc]) (by rw [hc]; exact ha) ?_⟩
  · rw [hc]
    show numV q 999999999 = none
    rw [numV_numR q _ (by omega), if_neg (by omega)]
  · rw [hc]
    show numV q 999999999 = _
    have := numR_lt q
    rw [numV_numR q _ (by omega), if_pos (by omega)]
/-- A text in fewer or more. -/
theorem readP_not {s : ByteArray} (h : ¬ (cutR 47 s.data.toList).length = 2) : readP s = (1, 0, 0) := by
  cases hq : cutR 47 s.data.toList with
  | nil => exact absurd hq (cutR_ne _ _)
  | cons p r =>
    cases r with
    | nil =>
      refine readP_is ?_
      rw [cut_cutR, hq]
    | cons q r =>
      cases r with
      | nil => rw [hq] at h; exact absurd rfl h
      | cons x r =>
        refine readP_n ?_
        rw [cut_cutR, hq]
        show numV (q ++ 47 :: joinC 47 (x :: r)) 999999999 = none
        cases hv : numV (q ++ 47 :: joinC 47 (x :: r)) 999999999 with
        | none => rfl
        | some v =>
          have := numV_digits (by omega) hv 47 (by simp)
          simp at this
end Go.Proofs.YtignngpligicjaaDoor

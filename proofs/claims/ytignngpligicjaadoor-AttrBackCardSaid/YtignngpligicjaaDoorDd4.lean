/- The document's texts: Cut. No condition but those that stand in each theorem. -/
import Derived.Test.YtignngpligicjaaDoorDd3
namespace Go.Proofs.YtignngpligicjaaDoor
open Go.RowKit

theorem info_TStr : (Tryd.prog.info? 9).map (fun i => (i.zero, i.size, i.bytes)) = some (some (.string ⟨#[]⟩), 1, 16) := by kernel_rfl
/-- How far a text is cut. -/
def CutS (c : UInt8) (l : List UInt8) (k f : Nat) (P : List (List UInt8)) : Prop := f ≤ k ∧ c ∉ (l.drop f).take (k - f) ∧ cutR c l = P ++ cutR c (l.drop f)
theorem cutS_start (c : UInt8) (l : List UInt8) : CutS c l 0 0 [] := ⟨Nat.le_refl _, by simp, rfl⟩
theorem cutS_no {c x : UInt8} {l : List UInt8} {k f : Nat} {P : List (List UInt8)} (h : CutS c l k f P) (hx : l[k]? = some x) (hne : x ≠ c) : CutS c l (k + 1) f P := by
  obtain ⟨h1, h2, h3⟩ := h
  refine ⟨by omega, ?_, h3⟩
  have e : (l.drop f).take (k + 1 - f) = (l.drop f).take (k - f) ++ [x] := by
    rw [show k + 1 - f = (k - f) + 1 by omega, List.take_add_one, List.getElem?_drop, show f + (k - f) = k by omega, hx]
    rfl
  rw [e, List.mem_append]
  rintro (h | h)
  · exact h2 h
  · simp at h; exact hne h.symm
theorem cutS_yes {c : UInt8} {l : List UInt8} {k f : Nat} {P : List (List UInt8)} (h : CutS c l k f P) (hx : l[k]? = some c) : CutS c l (k + 1) (k + 1) (P ++ [(l.drop f).take (k - f)]) := by
  obtain ⟨h1, h2, h3⟩ := h
  refine ⟨Nat.le_refl _, by simp, ?_⟩
  have hk := (List.getElem?_eq_some_iff.1 hx).1
  have e : l.drop f = (l.drop f).take (k - f) ++ c :: l.drop (k + 1) := by
    conv => lhs; rw [← List.take_append_drop (k - f) (l.drop f), List.drop_drop, show f + (k - f) = k by omega]
    rw [List.drop_eq_getElem_cons hk, (List.getElem?_eq_some_iff.1 hx).2]
  rw [h3, List.append_assoc]
  congr 1
  conv => lhs; rw [e, cutR_app c _ _ h2]
  rfl
theorem cutS_end {c : UInt8} {l : List UInt8} {f : Nat} {P : List (List UInt8)} (h : CutS c l l.length f P) : cutR c l = P ++ [l.drop f] := by
  obtain ⟨h1, h2, h3⟩ := h
  rw [List.take_of_length_le (by rw [List.length_drop]; omega)] at h2
  rw [h3, cutR_self c _ h2]
abbrev TStr : TypeId := 9
/-- A row of the call's own that holds these texts. -/
def OwnT (w : World) (base : Nat) (v : Value) (P : List (List UInt8)) : Prop := w.ownsRow base TStr 1 v P.length (P.map sV)

theorem rowcT {W : World} {g : Nat} {cs : Array Value} {t : TypeId} (hg : g = W.heap.size) : ∀ (j : Nat) (u : Value), cs.toList[j]? = some u → (W.alloc (.cells cs t)).cell? ⟨g, 0 + j, none⟩ = some u := fun j u hu => by
  subst hg
  rw [Nat.zero_add, (Blk.new W t cs).cell]
  simpa using hu
theorem extract_list (s : ByteArray) (f k : Nat) : s.extract f k = ⟨((s.data.toList.drop f).take (k - f)).toArray⟩ := by
  apply ByteArray.ext
  apply Array.toList_inj.1
  simp [ByteArray.data_extract, Array.toList_extract, List.extract_eq_take_drop]
theorem rowt_ge {w : World} {base : Nat} {v : Value} {P : List (List UInt8)} (h : OwnT w base v P) {g : Nat} (hg : v.ownBlock = some g) : base ≤ g := by
  rcases h.2 with ⟨rfl, _⟩ | ⟨g1, cap, cur, rfl, hb, _⟩
  · simp [Value.ownBlock] at hg
  · have : g1 = g := by simpa [Value.ownBlock] using hg
    omega

end Go.Proofs.YtignngpligicjaaDoor

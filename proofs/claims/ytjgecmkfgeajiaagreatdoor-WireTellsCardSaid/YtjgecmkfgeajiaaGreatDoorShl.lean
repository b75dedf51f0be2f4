/- Laid contracts of the library at this program: bits.Mul, slices.BinarySearch, slices.Insert over ints; each in the words of Ints. No condition but those that stand in each theorem. (The first part was written by the kit's plain-laying tool for this program.) -/
import Derived.Shelf.Bits.Mul64
import Derived.Shelf.Slices.SearchI
import Derived.Shelf.Slices.Empties
import Derived.Shelf.Spec.SlicesInsert
import Derived.Shelf.Spec.SlicesInsertGrow
import Derived.Test.YtjgecmkfgeajiaaGreatDoorRu1
namespace Go.Proofs.YtjgecmkfgeajiaaGreatDoor
open Go.Shelf
open Go.RowKit

theorem ins_get {α : Type} (xs : List α) (v : α) {i : Nat} (hi : i ≤ xs.length) (j : Nat) : (xs.take i ++ v :: xs.drop i)[j]? = if j < i then xs[j]? else if j = i then some v else xs[j - 1]? := by
  have hl : (xs.take i).length = i := by rw [List.length_take]; omega
  by_cases h : j < i
  · rw [if_pos h, List.getElem?_append_left (by omega), List.getElem?_take, if_pos h]
  · rw [if_neg h, List.getElem?_append_right (by omega), hl]
    by_cases h2 : j = i
    · subst h2; simp
    · rw [if_neg h2, show j - i = (j - 1 - i) + 1 by omega, List.getElem?_cons_succ, List.getElem?_drop]
      congr 1
      omega
theorem Upd.setCells {S : Nat → Prop} {a : World} (g : Nat) (hg : S g ∨ a.heap.size ≤ g) : ∀ (vs : List Value) (o : Nat) (w : World), Upd S a w → Upd S a (w.setCells g o vs)
  | [], _, _, h => h
  | v :: r, o, w, h => by
    rw [World.setCells]
    exact Upd.setCells g hg r (o + 1) _ (h.setCell (p := ⟨g, o, none⟩) hg v)

theorem own_cells {w : World} {z g n c : Nat} {e : TypeId} {xs : List Int} (h : w.ownsRow z e 1 (.slice (some ⟨g, 0, none⟩) n c) n (xs.map (.int .i64))) :
    ∃ cur : Array Value, Blk w g e cur ∧ cur.size = c ∧ n ≤ c ∧ c ≤ maxLen ∧ z ≤ g ∧ xs.length = n ∧ ∀ j, j < n → cur[j]? = (xs.map (Value.int .i64))[j]? := by
  have h1 := h.1
  rcases h.2 with ⟨h2, _⟩ | ⟨g1, cap, cur, h2, hb, hh, hnc, hm, hcs, ht⟩
  · cases h2
  · injection h2 with e1 _ e3
    injection e1 with e1
    injection e1 with e1
    subst e1; subst e3
    refine ⟨cur, hh, by simpa using hcs, hnc, hm, hb, by simpa using h1, fun j hj => ?_⟩
    rw [← ht, List.getElem?_take, if_pos (by omega)]
    simp

theorem shape_of_blk {w : World} {g : Nat} {t : TypeId} {cs : Array Value} (h : Blk w g t cs) : w.shape? g = some (t, cs.size) := by
  have h1 : w.heap[g]? = some (.cells cs t (0, 0)) := h
  simp [World.shape?, h1]
end Go.Proofs.YtjgecmkfgeajiaaGreatDoor

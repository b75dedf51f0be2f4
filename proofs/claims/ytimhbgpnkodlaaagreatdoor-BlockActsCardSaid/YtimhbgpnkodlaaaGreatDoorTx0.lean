/- Laid contracts of the library at this program: strconv.Atoi, strconv.Itoa, strings.Cut, strings.Split; in the words of New. No condition but those that stand in each theorem. (The first part was written by the kit's plain-laying tool for this program.) -/
import Derived.Shelf.Strconv.Itoa0
import Derived.Shelf.Strconv.Itoa1
import Derived.Shelf.LaysM
import Derived.Shelf.Strconv.Itoa2
import Derived.Shelf.Strconv.Itoa3
import Derived.Shelf.LaysC
import Derived.Shelf.Strconv.AtoiAll
import Derived.Shelf.Strings.Search1
import Derived.Shelf.Strings.Search2
import Derived.Shelf.Strings.Search3
import Derived.Shelf.Strings.Cut
import Derived.Shelf.Strings.Count
import Derived.Shelf.Strings.Split
import Derived.Shelf.Strings.SplitShaped
import Derived.Test.YtimhbgpnkodlaaaGreatDoorHp
import Derived.Test.YtimhbgpnkodlaaaGreatDoorIp1
namespace Go.Proofs.YtimhbgpnkodlaaaGreatDoor
open Go.Shelf
open Go.RowKit

theorem new_grow (w : World) (k : Nat) (os : Array Obj) : New w (Go.Sort.grow (w.drewN k) os) :=
  ⟨rfl, rfl, rfl, by show w.heap.size ≤ (w.heap ++ os).size; simp, fun i hi _ => by show (w.heap ++ os)[i]? = _; rw [Array.getElem?_append_left hi]⟩
theorem new_bytes (w : World) (e : TypeId) (t : ByteArray) : New w (Lib.bytesWorld w e t) := by
  have h1 : New w (w.drew.alloc (.cells (Lib.bytesCells w e t) e)) := ((Upd.refl (fun _ => False) w).drew).alloc _
  unfold Lib.bytesWorld World.freeze
  rw [if_neg (by omega)]
  refine ⟨h1.os, h1.tape, h1.output, ?_, fun i hi hn => ?_⟩
  · show _ ≤ (Array.modify _ _ _).size
    rw [Array.size_modify]; exact h1.size
  · show (Array.modify _ _ _)[i]? = _
    rw [Array.getElem?_modify]
    have hne : ¬ w.heap.size = i := by omega
    rw [if_neg hne]
    exact h1.block i hi hn
theorem new_below {w w1 : World} (h : Below w.heap.size w w1) : New w w1 := ⟨h.os, h.tape, h.output, h.size, fun k hk _ => h.block k hk⟩

theorem cell_new {w w1 : World} {g : Nat} {v : Value} (h : w.cell? ⟨g, 0, none⟩ = some v) (hu : New w w1) : w1.cell? ⟨g, 0, none⟩ = some v :=
  (hu.cell (World.block_lt_of_cell? w ⟨g, 0, none⟩ h) (fun x => x)).trans h
end Go.Proofs.YtimhbgpnkodlaaaGreatDoor

/- Slices of ints that read as lists; SameInts. No condition but those that stand in each theorem. -/
import Derived.Test.YtimhbgpnkodlaaaDoorRg
import Derived.Test.YtimhbgpnkodlaaaDoorProg
namespace Go.Proofs.YtimhbgpnkodlaaaDoor
open Go.RowKit

theorem ret_bool {a b : Bool} (h : a = b) : Ending.returned (.bool a) = .returned (.bool b) := by rw [h]
theorem ret_int {k : IntKind} {a b : Int} (h : a = b) : Ending.returned (.int k a) = .returned (.int k b) := by rw [h]

/-- The slice with its address A reads as xs. -/
def Ints (w : World) (A : Option Addr) (xs : List Int) : Prop :=
  0 < xs.length → ∃ b o, A = some ⟨b, o, none⟩ ∧ b < w.heap.size ∧ ∀ (i : Nat) (x : Int), xs[i]? = some x → w.cell? ⟨b, o + i, none⟩ = some (.int .i64 x)

section
variable {S : Nat → Prop} {w w1 : World} {A : Option Addr} {xs : List Int}
theorem Ints.nil : Ints w A [] := fun h => absurd h (by simp)
theorem Ints.upd (h : Ints w A xs) (hu : Upd S w w1) (hn : ∀ b o, A = some ⟨b, o, none⟩ → ¬ S b) : Ints w1 A xs := fun hl => by
  obtain ⟨b, o, rfl, hb, hc⟩ := h hl
  exact ⟨b, o, rfl, Nat.lt_of_lt_of_le hb hu.size, fun i x hx => (hu.cell hb (hn b o rfl)).trans (hc i x hx)⟩
theorem Ints.new_ (h : Ints w A xs) (hu : New w w1) : Ints w1 A xs := h.upd hu fun _ _ _ x => x
theorem Ints.of_blk {g : Nat} {t : TypeId} {cs : Array Value} (h : Blk w g t cs) (hc : cs = (xs.map (Value.int .i64)).toArray) : Ints w (some ⟨g, 0, none⟩) xs := fun _ => by
  subst hc
  refine ⟨g, 0, rfl, h.lt, fun i x hx => ?_⟩
  rw [Nat.zero_add, h.cell i]
  simp [hx]
theorem Ints.at_ (h : Ints w A xs) {k : Nat} (hk : k < xs.length) : ∃ b o x, A = some ⟨b, o, none⟩ ∧ b < w.heap.size ∧ xs[k]? = some x ∧ w.cell? ⟨b, o + k, none⟩ = some (.int .i64 x) := by
  obtain ⟨b, o, hA, hb, hc⟩ := h (by omega)
  exact ⟨b, o, xs[k], hA, hb, List.getElem?_eq_getElem hk, hc k _ (List.getElem?_eq_getElem hk)⟩
end

end Go.Proofs.YtimhbgpnkodlaaaDoor

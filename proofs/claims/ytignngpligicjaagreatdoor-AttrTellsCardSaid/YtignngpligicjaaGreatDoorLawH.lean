/- A start in which listed variables lie, a type's handle among them; the world's shape besides. No condition but those that stand in each theorem. -/
import Derived.Test.YtignngpligicjaaGreatDoorLawT
import Derived.Test.YtignngpligicjaaGreatDoorLawP
import Derived.Lay
namespace Go.Proofs.YtignngpligicjaaGreatDoor
open Go.ChangeShapes Go.WideShapes Go.RowKit Go.Deep

/-- The handle's cell, then the variables by the function. -/
noncomputable def hBase (os : Os) : World := (World.holding Tryz.prog os ⟨#[], #[], []⟩).setCell ⟨9, 0, none⟩ (.iface 199 (.agg #[typeHandle Tryz.prog 26]))
noncomputable def hWorld (os : Os) (l : List (String × DataW Unit)) : World := (hBase os).layVars Tryz.prog l
theorem hWorld_os (os : Os) (l : List (String × DataW Unit)) : (hWorld os l).os = os := World.layVars_os _ _ _
theorem laidMet_hWorld {os : Os} {laid : List (String × DataW Unit)} (args : Array Value) (hf : (hBase os).layFits Tryz.prog laid [] = true)
    (hi : (hBase os).layIfaces Tryz.prog laid (hWorld os laid) = true) : laidMet Tryz.prog laid ((hWorld os laid).forCall (fun _ _ => 0) ⟨#[], args, []⟩).memory := by
  have e1 : (laid.filter fun x => (laid.map (·.1)).contains x.1) = laid := List.filter_eq_self.2 fun x hx => List.contains_iff_mem.2 (List.mem_map.2 ⟨x, hx, rfl⟩)
  have e2 : (laid.filter fun x => !(laid.map (·.1)).contains x.1) = [] := List.filter_eq_nil_iff.2 fun x hx => by rw [List.contains_iff_mem.2 (List.mem_map.2 ⟨x, hx, rfl⟩)]; simp
  have h : laidMet Tryz.prog laid (hWorld os laid) := laidMet_layVars (w0 := hBase os) (laid.map (·.1)) [] (by rw [e1]; rfl) (by rw [e1]; exact hf) (by rw [e1]; exact hi) (by rw [e2]; exact LaidIn.none)
  exact h.of_heap (by simp [World.memory, World.forCall, Input.heap])
end Go.Proofs.YtignngpligicjaaGreatDoor

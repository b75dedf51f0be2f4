/- What a law's frame gives the set functions: the library's table that they read, out of the row's list. No condition but those that stand in each theorem. -/
import Derived.Test.YtignngpligicjaaGreatDoorSt1
import Derived.Test.YtignngpligicjaaGreatDoorLawV
import Derived.Test.YtignngpligicjaaGreatDoorLawS
import Derived.Lib.LaidTab
namespace Go.Proofs.YtignngpligicjaaGreatDoor
open Go.ChangeShapes Go.WideShapes Go.RowKit Go.Deep

/-- A listed table. -/
theorem table_of_laid {P : Program} {W : World} {l : List (String × DataW Unit)} {name : String} {k : IntKind} {zs : List Int} {g : Nat} {t e : TypeId} {n : Nat}
    (hg : P.globalNamed name = some g) (hty : (P.globals[g]?).map (·.type) = some t) (ht : P.underlying t = some (.array n e)) (he : P.underlying e = some (.int k)) (hce : P.cellsOf e = 1) (hct : P.cellsOf t = n)
    (h : laidMet P l W) (hm : (name, (Lib.tabData k zs : DataW Unit)) ∈ l) : Lib.TabIs P W name k zs := by
  obtain ⟨ps, hl, _⟩ := h
  obtain ⟨g', t', cs, fuel, p, h1, h2, h3, h4, _⟩ := laidVars_mem hl hm
  obtain rfl := Option.some.inj (hg.symm.trans h1)
  obtain rfl := Option.some.inj (hty.symm.trans h2)
  unfold Lib.TabIs
  rw [h3, ← Lib.cells_of_tab ht he hce hct h4]
theorem lz_g : Tryz.prog.globalNamed "math/bits.deBruijn64tab" = some 10 := by kernel_rfl
theorem lz_t : (Tryz.prog.globals[10]?).map (·.type) = some 177 := by kernel_rfl
theorem lz_c : Tryz.prog.cellsOf 177 = 64 := by kernel_rfl
theorem lz_u : Tryz.prog.cellsOf 5 = 1 := by kernel_rfl
theorem var_cells {w : World} {name : String} {g : Nat} {cs : Array Value} (hg : Tryz.prog.globalNamed name = some g) (h : w.var? Tryz.prog name = some cs) (j : Nat) : w.cell? ⟨g, j, none⟩ = cs[j]? := by
  unfold World.var? at h
  rw [hg] at h
  simp only [Option.bind_some] at h
  cases hb : w.heap[g]? with
  | none => rw [hb] at h; cases h
  | some o =>
    rw [hb] at h
    cases o <;> simp at h
    subst h
    simp [World.cell?, hb]
/-- The table of bits. -/
theorem tz_of_laid {W : World} {l : List (String × DataW Unit)} (h : laidMet Tryz.prog l W)
    (m : ("math/bits.deBruijn64tab", (Lib.tabData .u8 (Lib.deBruijn64tab.map fun n : Nat => (n : Int)) : DataW Unit)) ∈ l) : TzOk W := by
  have ht := table_of_laid lz_g lz_t Tryz.underlying177 Tryz.underlying5 lz_u lz_c h m
  intro j hj
  rw [var_cells lz_g ht j]
  simp only [List.getElem?_toArray, List.getElem?_map]
  rw [List.getElem?_eq_getElem hj]
  simp [List.getD, List.getElem?_eq_getElem hj]
end Go.Proofs.YtignngpligicjaaGreatDoor

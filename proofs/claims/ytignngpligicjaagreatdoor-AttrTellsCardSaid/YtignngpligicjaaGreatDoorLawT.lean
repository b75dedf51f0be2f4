/- What a law's frame gives the text functions: the library's variables that they read, out of the row's list and the world's shape. No condition but those that stand in each theorem. -/
import Derived.Test.YtignngpligicjaaGreatDoorLawS
import Derived.Test.YtignngpligicjaaGreatDoorLawV
import Derived.Test.YtignngpligicjaaGreatDoorTx0
import Derived.Shelf.Vars
import Derived.Lib.LaidTab
namespace Go.Proofs.YtignngpligicjaaGreatDoor
open Go.ChangeShapes Go.WideShapes Go.RowKit Go.Deep

/-- A listed table. -/
theorem tab_of_laid {P : Program} {W : World} {l : List (String × DataW Unit)} {name : String} {k : IntKind} {zs : List Int} {g : Nat} {t e : TypeId} {n : Nat}
    (hg : P.globalNamed name = some g) (hty : (P.globals[g]?).map (·.type) = some t) (ht : P.underlying t = some (.array n e)) (he : P.underlying e = some (.int k)) (hce : P.cellsOf e = 1) (hct : P.cellsOf t = n)
    (h : laidMet P l W) (hm : (name, (Lib.tabData k zs : DataW Unit)) ∈ l) : Lib.TabIs P W name k zs := by
  obtain ⟨ps, hl, _⟩ := h
  obtain ⟨g', t', cs, fuel, p, h1, h2, h3, h4, _⟩ := laidVars_mem hl hm
  obtain rfl := Option.some.inj (hg.symm.trans h1)
  obtain rfl := Option.some.inj (hty.symm.trans h2)
  unfold Lib.TabIs
  rw [h3, ← Lib.cells_of_tab ht he hce hct h4]

theorem lt_gP : Tryz.prog.globalNamed "internal/strconv.uint64pow10" = some 14 := by kernel_rfl
theorem lt_tP : (Tryz.prog.globals[14]?).map (·.type) = some 238 := by kernel_rfl
theorem lt_cP : Tryz.prog.cellsOf 238 = 20 := by kernel_rfl
theorem lt_cU : Tryz.prog.cellsOf 135 = 1 := by kernel_rfl
theorem lt_gS : Tryz.prog.globalNamed "strconv.ErrSyntax" = some 12 := by kernel_rfl
theorem lt_tS : (Tryz.prog.globals[12]?).map (·.type) = some 26 := by kernel_rfl
theorem lt_gR : Tryz.prog.globalNamed "strconv.ErrRange" = some 13 := by kernel_rfl
theorem lt_tR : (Tryz.prog.globals[13]?).map (·.type) = some 26 := by kernel_rfl
theorem lt_mg : 11 < Tryz.prog.globals.size := of_decide_eq_true (by kernel_rfl)
theorem lt_m0 : ((begin Tryz.prog (fun _ _ => 0) default).world.heap[11]?).bind Obj.row? = some (#[.int .i64 0], 3) := by kernel_rfl
theorem lt_mb : Tryz.prog.buildable 3 = true := by kernel_rfl
theorem lt_mc : Tryz.prog.cellTypes Tryz.prog.depth 3 = some [3] := by kernel_rfl

theorem txt_of_laid {W : World} {l : List (String × DataW Unit)} (h : laidMet Tryz.prog l W) (hsh : W.ShapedOpen Tryz.prog) {s1 s2 : List UInt8}
    (m1 : ("strconv.ErrSyntax", DataW.iface "*errors.errorString" (.ptr (.agg [.lit (.string s1)]))) ∈ l) (m2 : ("strconv.ErrRange", DataW.iface "*errors.errorString" (.ptr (.agg [.lit (.string s2)]))) ∈ l)
    (m3 : ("internal/strconv.uint64pow10", (Lib.tabData .u64 Lib.pow10Tab : DataW Unit)) ∈ l) : TxtOk W := by
  obtain ⟨a, _, ha, _⟩ := sen_of_laid h m1 lt_gS lt_tS
  obtain ⟨b, _, hb, _⟩ := sen_of_laid h m2 lt_gR lt_tR
  exact ⟨cell_of_shapedOpen_int hsh lt_mg lt_m0 rfl lt_mb lt_mc Tryz.underlying3, ⟨_, _, ha⟩, ⟨_, _, hb⟩, tab_of_laid lt_gP lt_tP Tryz.underlying238 Tryz.underlying135 lt_cU lt_cP h m3⟩

theorem pf_of_trod {H : Type} {enc : TypeId × Value → H} {W : World} {sp : Nat → Bool} {held : Bool} {fuel : Nat} {cs : Array Value} {x : DataW H × List MemPlace}
    (h : DataW.trod enc Tryz.prog W 0 sp held fuel 23 cs.toList = some x) : ∃ a n, cs = #[.int .i64 a, .int .i64 n] := by
  obtain ⟨p, e, _⟩ := pf_reads W _ _ _ _ _ _ _ h
  exact ⟨p.a, p.n, Array.toList_inj.1 e⟩
end Go.Proofs.YtignngpligicjaaGreatDoor

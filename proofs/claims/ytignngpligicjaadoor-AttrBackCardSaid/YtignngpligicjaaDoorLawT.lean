/- What a law's frame gives the text functions: the library's variables that they read, out of the row's list and the world's shape. No condition but those that stand in each theorem. -/
import Derived.Test.YtignngpligicjaaDoorLawS
import Derived.Test.YtignngpligicjaaDoorLawV
import Derived.Test.YtignngpligicjaaDoorTx0
import Derived.Shelf.Vars
import Derived.Lib.LaidTab
namespace Go.Proofs.YtignngpligicjaaDoor
open Go.ChangeShapes Go.WideShapes Go.RowKit Go.Deep

/-- A listed table. -/
theorem tab_of_laid {P : Program} {W : World} {l : List (String × DataW Unit)} {name : String} {k : IntKind} {zs : List Int} {g : Nat} {t e : TypeId} {n : Nat}
    (hg : P.globalNamed name = some g) (hty : (P.globals[g]?).map (·.type) = some t) (ht : P.underlying t = some (.array n e)) (he : P.underlying e = some (.int k)) (hce : P.cellsOf e = 1) (hct : P.cellsOf t = n)
    (h : laidMet P l W) (hm : (name, (Lib.tabData k zs : DataW Unit)) ∈ l) : Lib.TabIs P W name k zs := by
  obtain ⟨ps, hl, _⟩ := h
  obtain ⟨g', t', cs, fuel, p, h1, h2, h3, h4, _⟩ := laidVars_mem hl hm
  obtain rfl := Option.some.inj (hg.symm.trans h1)
  obtain rfl := Option.some.inj (hty.symm.trans h2)
  unfold Lib.TabIs
  rw [h3, ← Lib.cells_of_tab ht he hce hct h4]

theorem lt_gP : Tryd.prog.globalNamed "internal/strconv.uint64pow10" = some 8 := by kernel_rfl
theorem lt_tP : (Tryd.prog.globals[8]?).map (·.type) = some 181 := by kernel_rfl
theorem lt_cP : Tryd.prog.cellsOf 181 = 20 := by kernel_rfl
theorem lt_cU : Tryd.prog.cellsOf 94 = 1 := by kernel_rfl
theorem lt_gS : Tryd.prog.globalNamed "strconv.ErrSyntax" = some 11 := by kernel_rfl
theorem lt_tS : (Tryd.prog.globals[11]?).map (·.type) = some 25 := by kernel_rfl
theorem lt_gR : Tryd.prog.globalNamed "strconv.ErrRange" = some 12 := by kernel_rfl
theorem lt_tR : (Tryd.prog.globals[12]?).map (·.type) = some 25 := by kernel_rfl
theorem lt_mg : 7 < Tryd.prog.globals.size := of_decide_eq_true (by kernel_rfl)
theorem lt_m0 : ((begin Tryd.prog (fun _ _ => 0) default).world.heap[7]?).bind Obj.row? = some (#[.int .i64 0], 3) := by kernel_rfl
theorem lt_mb : Tryd.prog.buildable 3 = true := by kernel_rfl
theorem lt_mc : Tryd.prog.cellTypes Tryd.prog.depth 3 = some [3] := by kernel_rfl

theorem txt_of_laid {W : World} {l : List (String × DataW Unit)} (h : laidMet Tryd.prog l W) (hsh : W.ShapedOpen Tryd.prog) {s1 s2 : List UInt8}
    (m1 : ("strconv.ErrSyntax", DataW.iface "*errors.errorString" (.ptr (.agg [.lit (.string s1)]))) ∈ l) (m2 : ("strconv.ErrRange", DataW.iface "*errors.errorString" (.ptr (.agg [.lit (.string s2)]))) ∈ l)
    (m3 : ("internal/strconv.uint64pow10", (Lib.tabData .u64 Lib.pow10Tab : DataW Unit)) ∈ l) : TxtOk W := by
  obtain ⟨a, _, ha, _⟩ := sen_of_laid h m1 lt_gS lt_tS
  obtain ⟨b, _, hb, _⟩ := sen_of_laid h m2 lt_gR lt_tR
  exact ⟨cell_of_shapedOpen_int hsh lt_mg lt_m0 rfl lt_mb lt_mc Tryd.underlying3, ⟨_, _, ha⟩, ⟨_, _, hb⟩, tab_of_laid lt_gP lt_tP Tryd.underlying181 Tryd.underlying94 lt_cU lt_cP h m3⟩

theorem pf_of_trod {H : Type} {enc : TypeId × Value → H} {W : World} {sp : Nat → Bool} {held : Bool} {fuel : Nat} {cs : Array Value} {x : DataW H × List MemPlace}
    (h : DataW.trod enc Tryd.prog W 0 sp held fuel 34 cs.toList = some x) : ∃ a n, cs = #[.int .i64 a, .int .i64 n] := by
  obtain ⟨p, e, _⟩ := pf_reads W _ _ _ _ _ _ _ h
  exact ⟨p.a, p.n, Array.toList_inj.1 e⟩
end Go.Proofs.YtignngpligicjaaDoor

/- What a law's frame gives the text functions: the library's variables that they read, out of the row's list and the world's shape. No condition but those that stand in each theorem. -/
import Derived.Test.YtimhbgpnkodlaaaGreatDoorLaw
import Derived.Test.YtimhbgpnkodlaaaGreatDoorTx0
import Derived.Shelf.Vars
import Derived.Lib.LaidTab
import Derived.Test.YtimhbgpnkodlaaaGreatDoorPc1
import Derived.Test.YtimhbgpnkodlaaaGreatDoorCards
import Derived.Test.YtimhbgpnkodlaaaGreatDoorTie
import Derived.SevenTiedAt
import Derived.LaidSub
import Derived.LaidHandle
import Derived.Lay
namespace Go.Proofs.YtimhbgpnkodlaaaGreatDoor
open Go.ChangeShapes Go.WideShapes Go.RowKit Go.Deep

/-- A listed table. -/
theorem tab_of_laid {P : Program} {W : World} {l : List (String × DataW Unit)} {name : String} {k : IntKind} {zs : List Int} {g : Nat} {t e : TypeId} {n : Nat}
    (hg : P.globalNamed name = some g) (hty : (P.globals[g]?).map (·.type) = some t) (ht : P.underlying t = some (.array n e)) (he : P.underlying e = some (.int k)) (hce : P.cellsOf e = 1) (hct : P.cellsOf t = n)
    (h : laidMet P l W) (hm : (name, (Lib.tabData k zs : DataW Unit)) ∈ l) : Lib.TabIs P W name k zs := by
  obtain ⟨ps, hl, _⟩ := h
  obtain ⟨g', t', cs, fuel, p, h1, h2, h3, h4, _⟩ := laidVars_mem hl hm
  obtain rfl := Option.some.inj (hg.symm.trans h1)
  obtain rfl := Option.some.inj (hty.symm.trans h2)
  unfold Lib.TabIs
  rw [h3, ← Lib.cells_of_tab ht he hce hct h4]

theorem lt_cU : Tryz.prog.cellsOf 110 = 1 := by kernel_rfl
theorem lt_mb : Tryz.prog.buildable 3 = true := by kernel_rfl
theorem lt_mc : Tryz.prog.cellTypes Tryz.prog.depth 3 = some [3] := by kernel_rfl

theorem pf_of_trod {H : Type} {enc : TypeId × Value → H} {W : World} {sp : Nat → Bool} {held : Bool} {fuel : Nat} {cs : Array Value} {x : DataW H × List MemPlace}
    (h : DataW.trod enc Tryz.prog W 0 sp held fuel 23 cs.toList = some x) : ∃ a n, cs = #[.int .i64 a, .int .i64 n] := by
  obtain ⟨p, e, _⟩ := pf_reads W _ _ _ _ _ _ _ h
  exact ⟨p.a, p.n, Array.toList_inj.1 e⟩
end Go.Proofs.YtimhbgpnkodlaaaGreatDoor

namespace Go.Proofs.YtimhbgpnkodlaaaGreatDoor
open Go.ChangeShapes Go.WideShapes Go.RowKit

/-- The texts of the nine. -/
def txt : Nat → List UInt8
  | 1 => [104, 101, 114, 101, 112, 97, 116, 104, 58, 32, 116, 101, 120, 116]
  | 2 => [104, 101, 114, 101, 112, 97, 116, 104, 58, 32, 98, 111, 117, 110, 100]
  | 3 => [104, 101, 114, 101, 112, 97, 116, 104, 58, 32, 115, 104, 97, 112, 101]
  | 4 => [104, 101, 114, 101, 112, 97, 116, 104, 58, 32, 107, 105, 110, 100]
  | 5 => [104, 101, 114, 101, 112, 97, 116, 104, 58, 32, 110, 111, 110, 101]
  | 6 => [104, 101, 114, 101, 112, 97, 116, 104, 58, 32, 101, 120, 105, 115, 116]
  | 7 => [104, 101, 114, 101, 112, 97, 116, 104, 58, 32, 102, 117, 108, 108]
  | 8 => [104, 101, 114, 101, 112, 97, 116, 104, 58, 32, 111, 114, 100, 101, 114]
  | 9 => [104, 101, 114, 101, 112, 97, 116, 104, 58, 32, 108, 111, 111, 112]
  | _ => []
def lay (k : Nat) : DataW Unit := .iface "*errors.errorString" (.ptr (.agg [.lit (.string (txt k))]))
def nineVars : List (String × DataW Unit) := [("herepath/api.ErrText", lay 1), ("herepath/api.ErrBound", lay 2), ("herepath/api.ErrShape", lay 3), ("herepath/api.ErrKind", lay 4), ("herepath/api.ErrNone", lay 5), ("herepath/api.ErrExist", lay 6), ("herepath/api.ErrFull", lay 7), ("herepath/api.ErrOrder", lay 8), ("herepath/api.ErrLoop", lay 9)]
def handleVar : String × DataW Unit := ("errors.errorType", .iface "internal/reflectlite.rtype" (.agg [.ptr (.lit (.string [101, 114, 114, 111, 114]))]))
theorem nine_plain : ((handleVar :: nineVars).filter fun x => x.2.handleName?.isNone) = nineVars := by
  simp [handleVar, nineVars, lay, DataW.handleName?]
theorem nine_handle : ((handleVar :: nineVars).filter fun x => x.2.handleName?.isSome) = [handleVar] := by
  simp [handleVar, nineVars, lay, DataW.handleName?]
theorem txt_ne : ∀ j : Fin 10, ∀ k : Fin 10, j ≠ k → 1 ≤ j.val → txt j.val ≠ txt k.val := by decide

theorem hdl_et : Tryz.prog.globalNamed "errors.errorType" = some 9 := by kernel_rfl
theorem hdl_rt : (Tryz.prog.cutTypes.find? (·.1 == "internal/reflectlite.rtype")).map (·.2) = some 117 := by kernel_rfl
theorem hdl_size : Tryz.prog.types.size = 274 - 100 := by kernel_rfl
theorem hdl_one : ((List.range (274 - 100)).filter fun t => Tryz.prog.rowNamed t [101, 114, 114, 111, 114]) = [28] := by kernel_rfl

theorem errType_of_laid {W : World} (h : handlesMet Tryz.prog [handleVar] W) : errType W := by
  obtain ⟨name, u, ty, e1, e2, e3, e4, e5⟩ := h _ (List.mem_singleton.2 rfl)
  have en : name = [101, 114, 114, 111, 114] := (Option.some.inj e1).symm
  subst en
  obtain rfl := Option.some.inj (hdl_rt.symm.trans e2)
  have hm : ty ∈ (List.range (274 - 100)).filter fun t => Tryz.prog.rowNamed t [101, 114, 114, 111, 114] := List.mem_filter.2 ⟨List.mem_range.2 (by rw [← hdl_size]; exact e3), e4⟩
  rw [hdl_one] at hm
  obtain rfl := List.mem_singleton.1 hm
  have hh : typeHandle Tryz.prog 28 = .pointer (some ⟨10, 28, none⟩) := by kernel_rfl
  rw [hh] at e5
  unfold errType
  simpa using World.var?_cell hdl_et e5 0

theorem gn1 : Tryz.prog.globalNamed "herepath/api.ErrText" = some 4 := by kernel_rfl
theorem gn2 : Tryz.prog.globalNamed "herepath/api.ErrBound" = some 0 := by kernel_rfl
theorem gn3 : Tryz.prog.globalNamed "herepath/api.ErrShape" = some 3 := by kernel_rfl
theorem gn4 : Tryz.prog.globalNamed "herepath/api.ErrKind" = some 5 := by kernel_rfl
theorem gn5 : Tryz.prog.globalNamed "herepath/api.ErrNone" = some 2 := by kernel_rfl
theorem gn6 : Tryz.prog.globalNamed "herepath/api.ErrExist" = some 6 := by kernel_rfl
theorem gn7 : Tryz.prog.globalNamed "herepath/api.ErrFull" = some 1 := by kernel_rfl
theorem gn8 : Tryz.prog.globalNamed "herepath/api.ErrOrder" = some 7 := by kernel_rfl
theorem gn9 : Tryz.prog.globalNamed "herepath/api.ErrLoop" = some 8 := by kernel_rfl
theorem gt1 : (Tryz.prog.globals[4]?).map (·.type) = some 28 := by kernel_rfl
theorem gt2 : (Tryz.prog.globals[0]?).map (·.type) = some 28 := by kernel_rfl
theorem gt3 : (Tryz.prog.globals[3]?).map (·.type) = some 28 := by kernel_rfl
theorem gt4 : (Tryz.prog.globals[5]?).map (·.type) = some 28 := by kernel_rfl
theorem gt5 : (Tryz.prog.globals[2]?).map (·.type) = some 28 := by kernel_rfl
theorem gt6 : (Tryz.prog.globals[6]?).map (·.type) = some 28 := by kernel_rfl
theorem gt7 : (Tryz.prog.globals[1]?).map (·.type) = some 28 := by kernel_rfl
theorem gt8 : (Tryz.prog.globals[7]?).map (·.type) = some 28 := by kernel_rfl
theorem gt9 : (Tryz.prog.globals[8]?).map (·.type) = some 28 := by kernel_rfl

/-- What a list that holds all nine gives. -/
theorem errs_of_parts {W : World} {l : List (String × DataW Unit)} (h1 : laidMet Tryz.prog l W) (h2 : handlesMet Tryz.prog [handleVar] W) (hm : ∀ x ∈ nineVars, x ∈ l) : ∃ E : Nat → Addr, Errs W E := by
  obtain ⟨a1, s1, k1, c1, t1, r1⟩ := sen_of_laid h1 (n := "herepath/api.ErrText") (hm _ (List.mem_of_getElem? (i := 0) rfl)) gn1 gt1
  obtain ⟨a2, s2, k2, c2, t2, r2⟩ := sen_of_laid h1 (n := "herepath/api.ErrBound") (hm _ (List.mem_of_getElem? (i := 1) rfl)) gn2 gt2
  obtain ⟨a3, s3, k3, c3, t3, r3⟩ := sen_of_laid h1 (n := "herepath/api.ErrShape") (hm _ (List.mem_of_getElem? (i := 2) rfl)) gn3 gt3
  obtain ⟨a4, s4, k4, c4, t4, r4⟩ := sen_of_laid h1 (n := "herepath/api.ErrKind") (hm _ (List.mem_of_getElem? (i := 3) rfl)) gn4 gt4
  obtain ⟨a5, s5, k5, c5, t5, r5⟩ := sen_of_laid h1 (n := "herepath/api.ErrNone") (hm _ (List.mem_of_getElem? (i := 4) rfl)) gn5 gt5
  obtain ⟨a6, s6, k6, c6, t6, r6⟩ := sen_of_laid h1 (n := "herepath/api.ErrExist") (hm _ (List.mem_of_getElem? (i := 5) rfl)) gn6 gt6
  obtain ⟨a7, s7, k7, c7, t7, r7⟩ := sen_of_laid h1 (n := "herepath/api.ErrFull") (hm _ (List.mem_of_getElem? (i := 6) rfl)) gn7 gt7
  obtain ⟨a8, s8, k8, c8, t8, r8⟩ := sen_of_laid h1 (n := "herepath/api.ErrOrder") (hm _ (List.mem_of_getElem? (i := 7) rfl)) gn8 gt8
  obtain ⟨a9, s9, k9, c9, t9, r9⟩ := sen_of_laid h1 (n := "herepath/api.ErrLoop") (hm _ (List.mem_of_getElem? (i := 8) rfl)) gn9 gt9
  let E : Nat → Addr := fun k => match k with | 1 => a1 | 2 => a2 | 3 => a3 | 4 => a4 | 5 => a5 | 6 => a6 | 7 => a7 | 8 => a8 | _ => a9
  have hc : ∀ k, 1 ≤ k → k ≤ 9 → ∃ s, W.cell? (E k) = some (.string s) ∧ s.data.toList = txt k := by
    intro k h1 h9
    match k, h1, h9 with
    | 1, _, _ => exact ⟨s1, c1, t1⟩
    | 2, _, _ => exact ⟨s2, c2, t2⟩
    | 3, _, _ => exact ⟨s3, c3, t3⟩
    | 4, _, _ => exact ⟨s4, c4, t4⟩
    | 5, _, _ => exact ⟨s5, c5, t5⟩
    | 6, _, _ => exact ⟨s6, c6, t6⟩
    | 7, _, _ => exact ⟨s7, c7, t7⟩
    | 8, _, _ => exact ⟨s8, c8, t8⟩
    | 9, _, _ => exact ⟨s9, c9, t9⟩
  have hr : ∀ k, 1 ≤ k → k ≤ 9 → ∃ c t, W.heap[(E k).block]? = some (.cells c t (0, 0)) := by
    intro k h1 h9
    match k, h1, h9 with
    | 1, _, _ => exact r1
    | 2, _, _ => exact r2
    | 3, _, _ => exact r3
    | 4, _, _ => exact r4
    | 5, _, _ => exact r5
    | 6, _, _ => exact r6
    | 7, _, _ => exact r7
    | 8, _, _ => exact r8
    | 9, _, _ => exact r9
  refine ⟨E, k1, k2, k3, k4, k5, k6, k7, k8, k9, errType_of_laid h2, hr, fun j k j1 j9 k1 k9 hjk he => ?_⟩
  obtain ⟨s, hs, ts⟩ := hc j j1 j9
  obtain ⟨u, hu, tu⟩ := hc k k1 k9
  rw [he, hu] at hs
  injection hs with hs
  injection hs with hs
  subst hs
  exact txt_ne ⟨j, by omega⟩ ⟨k, by omega⟩ (fun h => hjk (by injection h)) j1 (ts.symm.trans tu)
/-- What the condition of a law that lists all nine gives. -/
theorem errs_of_laid {W : World} (h : laidMetH Tryz.prog (handleVar :: nineVars) W) : ∃ E : Nat → Addr, Errs W E := by
  obtain ⟨h1, h2⟩ := laidMetH_iff.1 h
  rw [nine_plain] at h1
  rw [nine_handle] at h2
  exact errs_of_parts h1 h2 fun _ h => h
end Go.Proofs.YtimhbgpnkodlaaaGreatDoor

namespace Go.Proofs.YtimhbgpnkodlaaaGreatDoor
open Go.ChangeShapes Go.WideShapes Go.RowKit Go.Deep

/-- The handle's cell, then the variables by the function. -/
noncomputable def hBase (os : Os) : World := (World.holding Tryz.prog os ⟨#[], #[], []⟩).setCell ⟨9, 0, none⟩ (.iface 117 (.agg #[typeHandle Tryz.prog 28]))
noncomputable def hWorld (os : Os) (l : List (String × DataW Unit)) : World := (hBase os).layVars Tryz.prog l
theorem hWorld_os (os : Os) (l : List (String × DataW Unit)) : (hWorld os l).os = os := World.layVars_os _ _ _
theorem laidMet_hWorld {os : Os} {laid : List (String × DataW Unit)} (args : Array Value) (hf : (hBase os).layFits Tryz.prog laid [] = true)
    (hi : (hBase os).layIfaces Tryz.prog laid (hWorld os laid) = true) : laidMet Tryz.prog laid ((hWorld os laid).forCall (fun _ _ => 0) ⟨#[], args, []⟩).memory := by
  have e1 : (laid.filter fun x => (laid.map (·.1)).contains x.1) = laid := List.filter_eq_self.2 fun x hx => List.contains_iff_mem.2 (List.mem_map.2 ⟨x, hx, rfl⟩)
  have e2 : (laid.filter fun x => !(laid.map (·.1)).contains x.1) = [] := List.filter_eq_nil_iff.2 fun x hx => by rw [List.contains_iff_mem.2 (List.mem_map.2 ⟨x, hx, rfl⟩)]; simp
  have h : laidMet Tryz.prog laid (hWorld os laid) := laidMet_layVars (w0 := hBase os) (laid.map (·.1)) [] (by rw [e1]; rfl) (by rw [e1]; exact hf) (by rw [e1]; exact hi) (by rw [e2]; exact LaidIn.none)
  exact h.of_heap (by simp [World.memory, World.forCall, Input.heap])
end Go.Proofs.YtimhbgpnkodlaaaGreatDoor

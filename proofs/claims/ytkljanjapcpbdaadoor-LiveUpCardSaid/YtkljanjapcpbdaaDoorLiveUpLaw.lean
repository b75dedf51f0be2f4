/- The law LiveUp holds for every input: up comes by an open of another one alone, and its peer is that one; who hears nothing is idle in the end; all that is sent is right. Its condition is the row's own: the listed errors of package api are as the program's text lays them. -/
import Derived.Test.YtkljanjapcpbdaaDoorLv9
import Derived.Test.YtkljanjapcpbdaaDoorLawW
import Derived.Test.YtkljanjapcpbdaaDoorCards
import Derived.Test.YtkljanjapcpbdaaDoorTie
import Derived.SevenTiedAt
namespace Go.Proofs.YtkljanjapcpbdaaDoor
open Go.ChangeShapes Go.WideShapes Go.ChangeAt Go.RowKit Go.Deep

theorem lu_laid_plain : (Rows.liveUpRow.laid.all fun x => x.2.handleName?.isNone) = true := by kernel_rfl
theorem lu_g2 : Tryd.prog.globalNamed "herepath/api.ErrBound" = some gBound := by kernel_rfl
theorem lu_g3 : Tryd.prog.globalNamed "herepath/api.ErrShape" = some gShape := by kernel_rfl
theorem lu_g4 : Tryd.prog.globalNamed "herepath/api.ErrKind" = some gKind := by kernel_rfl
theorem lu_g6 : Tryd.prog.globalNamed "herepath/api.ErrExist" = some gExist_ := by kernel_rfl
theorem lu_g7 : Tryd.prog.globalNamed "herepath/api.ErrFull" = some gFull_ := by kernel_rfl
theorem lu_g8 : Tryd.prog.globalNamed "herepath/api.ErrOrder" = some gOrder := by kernel_rfl
theorem lu_t2 : (Tryd.prog.globals[gBound]?).map (·.type) = some 27 := by kernel_rfl
theorem lu_t3 : (Tryd.prog.globals[gShape]?).map (·.type) = some 27 := by kernel_rfl
theorem lu_t4 : (Tryd.prog.globals[gKind]?).map (·.type) = some 27 := by kernel_rfl
theorem lu_t6 : (Tryd.prog.globals[gExist_]?).map (·.type) = some 27 := by kernel_rfl
theorem lu_t7 : (Tryd.prog.globals[gFull_]?).map (·.type) = some 27 := by kernel_rfl
theorem lu_t8 : (Tryd.prog.globals[gOrder]?).map (·.type) = some 27 := by kernel_rfl
theorem lu_door (os : Os) (args : Array Value) : laidMetH Tryd.prog Rows.liveUpRow.laid ((World.doorLaid Tryd.prog 4000 os).forCall (fun _ _ => 0) ⟨#[], args, []⟩).memory :=
  (MakeChecks.laidMetH_plain _ _ _ lu_laid_plain).symm ▸ laidMet_of_run' 8 (by kernel_rfl) (by kernel_rfl)

/-- What the listed errors give. -/
theorem lu_sens {W : World} (h : laidMetH Tryd.prog Rows.liveUpRow.laid W) : ∃ E : Nat → Addr, WSen W E := by
  rw [MakeChecks.laidMetH_plain _ _ _ lu_laid_plain] at h
  obtain ⟨a, _, ha, _⟩ := sen_of_laid h (n := "herepath/api.ErrBound") (List.mem_of_getElem? (i := 0) rfl) lu_g2 lu_t2
  obtain ⟨b, _, hb, _⟩ := sen_of_laid h (n := "herepath/api.ErrShape") (List.mem_of_getElem? (i := 1) rfl) lu_g3 lu_t3
  obtain ⟨c, _, hc, _⟩ := sen_of_laid h (n := "herepath/api.ErrKind") (List.mem_of_getElem? (i := 2) rfl) lu_g4 lu_t4
  obtain ⟨d, _, hd, _⟩ := sen_of_laid h (n := "herepath/api.ErrExist") (List.mem_of_getElem? (i := 3) rfl) lu_g6 lu_t6
  obtain ⟨f, _, hf, _⟩ := sen_of_laid h (n := "herepath/api.ErrFull") (List.mem_of_getElem? (i := 4) rfl) lu_g7 lu_t7
  obtain ⟨g, _, hg, _⟩ := sen_of_laid h (n := "herepath/api.ErrOrder") (List.mem_of_getElem? (i := 5) rfl) lu_g8 lu_t8
  exact ⟨fun k => if k = 2 then a else if k = 3 then b else if k = 4 then c else if k = 6 then d else if k = 7 then f else g, ha, hb, hc, hd, hf, hg⟩

set_option maxRecDepth 100000 in
theorem lu_lifted (os : Os) (started : os.Started) (H : Type) (enc : TypeId × Value → H) :
    ReturnsInHanded {} Tryd.checked os 3 .any (fun w args => (Rows.liveUpSpec.pre enc Tryd.prog Tryd.f3 [] false w args ∧ laidMetH Tryd.prog Rows.liveUpRow.laid w) ∧ sizedMet enc Tryd.prog Tryd.f3 (OpenSpec.ofChange Rows.liveUpSpec) false w args)
      (Rows.liveUpSpec.post enc Tryd.prog Tryd.f3 false true false false) := by
  refine returnsInHanded_of_change_and (C := Tryd.checked) (X := fun w _ => laidMetH Tryd.prog Rows.liveUpRow.laid w) (fun _ _ _ hh h => h.of_heap hh) own started (by kernel_rfl) Tryd.func3
    (ChangeSpec.witness_shaped (enc := enc) (C := Tryd.checked) (os := os) (X := fun w _ => laidMetH Tryd.prog Rows.liveUpRow.laid w) false (World.doorLaid Tryd.prog 4000 os) #[.int .i64 0, .slice none 0 0] 8 rfl (World.shaped_of_RefB (by kernel_rfl) (by kernel_rfl)) (by kernel_rfl) (by kernel_rfl) (by kernel_rfl) (lu_door os _)) ?_
  intro W base args ds gs before hval0 hW _ _ hL _
  have hval : ∀ (j : Nat) t v, Tryd.f3.params[j]? = some t → args[j]? = some v → Value.okWide Tryd.prog W .any base t v := hval0
  have hW' := hW
  obtain ⟨p, q, hA0, hV, rfl, hfz, hnd⟩ := hW
  have hA : DataW.TrodAll enc Tryd.prog W 0 (fun _ => true) true Tryd.f3.params.toList args.toList ds p := hA0
  obtain ⟨rfl, rfl⟩ := trodVars_none hV
  have hlt : ∀ x ∈ p, x.block < W.heap.size := fun x hx => hW'.lt x (by simpa using hx)
  have hA2 := hA
  rw [Tryd.params3] at hA hval
  obtain ⟨v0, vs0, d0, ds0, p0, q0, hargs, rfl, rfl, h0, r0⟩ := trodAll_cons hA
  obtain ⟨v1, vs1, d1, ds1, p1, q1, rfl, rfl, rfl, h1, r1⟩ := trodAll_cons r0
  obtain ⟨rfl, rfl, rfl⟩ := trodAll_nil r1
  obtain rfl : args = #[v0, v1] := by cases args; simp_all
  obtain ⟨n1, rfl, rfl, rfl, w1⟩ := open_int Tryd.underlying3 (hval 0 3 v0 rfl rfl) h0
  obtain ⟨A, len, cap, rfl⟩ := okWide_slice Tryd.underlying22 (hval 1 22 v1 rfl rfl)
  obtain ⟨fuel, hf⟩ := h1
  obtain ⟨E, hE⟩ := lu_sens hL
  obtain ⟨es, hes, hel⟩ := evs_of_trod (by simpa [Value.cells] using hf)
  clear hA0 hval0
  refine (liveUp_any n1 A len cap es E W hE hes hel).mono fun e W1 ⟨he, hn⟩ => ?_
  subst he
  exact ⟨_, rfl, _, _, _, [], _, [], hW', trodAll_mk1 (shut_bool Tryd.underlying4 _), trodAll_below laidOut hn.below _ _ _ _ (by kernel_rfl) hA2 hlt, rfl, hn.below.frame _, fun h => by cases h⟩

theorem liveUp_holds : Rows.LiveUpSaid :=
  OpenClaim.holds_of_wide 3 Tryd.f3 rfl rfl rfl rfl rfl rfl rfl ⟨rfl, rfl, rfl, rfl, rfl⟩ rfl rfl rfl rfl rfl (by kernel_rfl) Tryd.func3 (by kernel_rfl)
    (of_decide_eq_true (by kernel_rfl)) (by unfold Func.isWrapper; first | (rw [if_pos (by decide +kernel)]; kernel_rfl) | (rw [if_neg (by decide +kernel)]; exact ⟨rfl, rfl⟩))
    (fun os started H enc _ => lu_lifted os started H enc)
end Go.Proofs.YtkljanjapcpbdaaDoor

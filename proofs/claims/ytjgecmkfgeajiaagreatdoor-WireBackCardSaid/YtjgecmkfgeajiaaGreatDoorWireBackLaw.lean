/- The law WireBack holds for every input: what is right is read as it was written; a route that is told wrongly is taken for lost, and nothing else is changed by it. Its condition is the row's own: the listed variables are as the program's text lays them. -/
import Derived.Test.YtjgecmkfgeajiaaGreatDoorWrB
import Derived.Test.YtjgecmkfgeajiaaGreatDoorLawV
import Derived.Test.YtjgecmkfgeajiaaGreatDoorLawT
import Derived.Test.YtjgecmkfgeajiaaGreatDoorCards
import Derived.Test.YtjgecmkfgeajiaaGreatDoorTie
import Derived.SevenTiedAt
import Derived.Lay
import Derived.ChangeMaps5
namespace Go.Proofs.YtjgecmkfgeajiaaGreatDoor
open Go.ChangeShapes Go.WideShapes Go.ChangeAt Go.RowKit Go.Deep

theorem lwb_g1 : Tryz.prog.globalNamed "herepath/api.ErrText" = some gText1 := by kernel_rfl
theorem lwb_t1 : (Tryz.prog.globals[gText1]?).map (·.type) = some 29 := by kernel_rfl
theorem lwb_g2 : Tryz.prog.globalNamed "herepath/api.ErrBound" = some gBound := by kernel_rfl
theorem lwb_t2 : (Tryz.prog.globals[gBound]?).map (·.type) = some 29 := by kernel_rfl
theorem lwb_g3 : Tryz.prog.globalNamed "herepath/api.ErrShape" = some gShape := by kernel_rfl
theorem lwb_t3 : (Tryz.prog.globals[gShape]?).map (·.type) = some 29 := by kernel_rfl
theorem lwb_g4 : Tryz.prog.globalNamed "herepath/api.ErrKind" = some gKind := by kernel_rfl
theorem lwb_t4 : (Tryz.prog.globals[gKind]?).map (·.type) = some 29 := by kernel_rfl
theorem lwb_g6 : Tryz.prog.globalNamed "herepath/api.ErrExist" = some gExist_ := by kernel_rfl
theorem lwb_t6 : (Tryz.prog.globals[gExist_]?).map (·.type) = some 29 := by kernel_rfl
theorem lwb_g7 : Tryz.prog.globalNamed "herepath/api.ErrFull" = some gFull_ := by kernel_rfl
theorem lwb_t7 : (Tryz.prog.globals[gFull_]?).map (·.type) = some 29 := by kernel_rfl
theorem lwb_g8 : Tryz.prog.globalNamed "herepath/api.ErrOrder" = some gOrder := by kernel_rfl
theorem lwb_t8 : (Tryz.prog.globals[gOrder]?).map (·.type) = some 29 := by kernel_rfl
theorem lwb_laid_plain : (Rows.wireBackRow.laid.all fun x => x.2.handleName?.isNone) = true := by kernel_rfl
theorem lwb_door (os : Os) (args : Array Value) : laidMetH Tryz.prog Rows.wireBackRow.laid ((World.laidAll Tryz.prog os Rows.wireBackRow.laid).forCall (fun _ _ => 0) ⟨#[], args, []⟩).memory :=
  (MakeChecks.laidMetH_plain _ _ _ lwb_laid_plain).symm ▸ laidMet_laidAll _ (by kernel_rfl) (by kernel_rfl)
theorem lwb_at {α : Type} {l : List α} {x : α} (n : Nat) (h : l[n]? = some x) : x ∈ l := List.mem_of_getElem? h

/-- What the listed variables give. -/
theorem lwb_sens {W : World} (h : laidMetH Tryz.prog Rows.wireBackRow.laid W) (hsh : W.ShapedOpen Tryz.prog) : TxtOk W ∧ ∃ E : Nat → Addr, Sen W gText1 (E 1) ∧ Sen W gBound (E 2) ∧ Sen W gShape (E 3) ∧ Sen W gKind (E 4) ∧ Sen W gExist_ (E 6) ∧ Sen W gFull_ (E 7) ∧ Sen W gOrder (E 8) := by
  rw [MakeChecks.laidMetH_plain _ _ _ lwb_laid_plain] at h
  refine ⟨txt_of_laid h hsh (lwb_at 12 rfl) (lwb_at 11 rfl) (lwb_at 2 rfl), ?_⟩
  obtain ⟨a1, _, h1, _⟩ := sen_of_laid h (n := "herepath/api.ErrText") (lwb_at 4 rfl) lwb_g1 lwb_t1
  obtain ⟨a2, _, h2, _⟩ := sen_of_laid h (n := "herepath/api.ErrBound") (lwb_at 5 rfl) lwb_g2 lwb_t2
  obtain ⟨a3, _, h3, _⟩ := sen_of_laid h (n := "herepath/api.ErrShape") (lwb_at 6 rfl) lwb_g3 lwb_t3
  obtain ⟨a4, _, h4, _⟩ := sen_of_laid h (n := "herepath/api.ErrKind") (lwb_at 7 rfl) lwb_g4 lwb_t4
  obtain ⟨a6, _, h6, _⟩ := sen_of_laid h (n := "herepath/api.ErrExist") (lwb_at 8 rfl) lwb_g6 lwb_t6
  obtain ⟨a7, _, h7, _⟩ := sen_of_laid h (n := "herepath/api.ErrFull") (lwb_at 9 rfl) lwb_g7 lwb_t7
  obtain ⟨a8, _, h8, _⟩ := sen_of_laid h (n := "herepath/api.ErrOrder") (lwb_at 10 rfl) lwb_g8 lwb_t8
  exact ⟨fun k => if k = 1 then a1 else if k = 2 then a2 else if k = 3 then a3 else if k = 4 then a4 else if k = 6 then a6 else if k = 7 then a7 else a8, h1, h2, h3, h4, h6, h7, h8⟩

set_option maxRecDepth 100000 in
theorem lwb_lifted (os : Os) (started : os.Started) (H : Type) (enc : TypeId × Value → H) :
    ReturnsInHanded {} Tryz.checked os 3 .any (fun w args => (Rows.wireBackSpec.pre enc Tryz.prog Tryz.f3 [] false w args ∧ laidMetH Tryz.prog Rows.wireBackRow.laid w) ∧ sizedMet enc Tryz.prog Tryz.f3 (OpenSpec.ofChange Rows.wireBackSpec) false w args)
      (Rows.wireBackSpec.post enc Tryz.prog Tryz.f3 false true false false) := by
  refine returns_and_shaped (C := Tryz.checked) (X := fun w _ => laidMetH Tryz.prog Rows.wireBackRow.laid w) (fun _ _ _ hh h => h.of_heap hh) own started (by kernel_rfl) Tryz.func3
    (ChangeSpec.witness_shaped (enc := enc) (C := Tryz.checked) (os := os) (X := fun w _ => laidMetH Tryz.prog Rows.wireBackRow.laid w) false (World.laidAll Tryz.prog os Rows.wireBackRow.laid) #[.agg #[.string ⟨#[]⟩, .int .i64 0, .slice none 0 0, .slice none 0 0], .int .i64 0, .string ⟨#[]⟩] 8 (World.laidAll_os _ _ _) (World.shaped_of_ZipB (by kernel_rfl) (by kernel_rfl)) (by kernel_rfl) (by kernel_rfl) (by kernel_rfl) (lwb_door os _)) ?_
  intro W base args ds gs before hval0 hW _ _ hL hsh _
  have hval : ∀ (j : Nat) t v, Tryz.f3.params[j]? = some t → args[j]? = some v → Value.okWide Tryz.prog W .any base t v := hval0
  have hW' := hW
  obtain ⟨p, q, hA0, hV, rfl, hfz, hnd⟩ := hW
  have hA : DataW.TrodAll enc Tryz.prog W 0 (fun _ => true) true Tryz.f3.params.toList args.toList ds p := hA0
  obtain ⟨rfl, rfl⟩ := trodVars_none hV
  have hlt : ∀ x ∈ p, x.block < W.heap.size := fun x hx => hW'.lt x (by simpa using hx)
  have hA2 := hA
  rw [Tryz.params3] at hA hval
  obtain ⟨v0, vs0, d0, ds0, p0, q0, hargs, rfl, rfl, h0, r0⟩ := trodAll_cons hA
  obtain ⟨v1, vs1, d1, ds1, p1, q1, rfl, rfl, rfl, h1, r1⟩ := trodAll_cons r0
  obtain ⟨v2, vs2, d2, ds2, p2, q2, rfl, rfl, rfl, h2, r2⟩ := trodAll_cons r1
  obtain ⟨rfl, rfl, rfl⟩ := trodAll_nil r2
  obtain rfl : args = #[v0, v1, v2] := by cases args; simp_all
  obtain ⟨cs0, rfl, _⟩ := okWide_struct Tryz.underlying25 (hval 0 25 v0 rfl rfl)
  obtain ⟨fuel0, hf0⟩ := h0
  obtain ⟨j, rfl, rfl, rfl, wr1⟩ := open_int Tryz.underlying3 (hval 1 3 v1 rfl rfl) h1
  obtain ⟨bad, rfl, rfl, rfl, wr2⟩ := Go.ChangeMaps.open_string Tryz.underlying9 (hval 2 9 v2 rfl rfl) h2
  obtain ⟨htx, E, s1, s2, s3, s4, s6, s7, s8⟩ := lwb_sens hL hsh
  obtain ⟨m, e0, o0⟩ := msg_reads W _ _ _ _ _ _ _ (by simpa [Value.cells] using hf0)
  obtain rfl := Array.toList_inj.1 e0
  clear hA0 hval0
  refine (wireBack_any m j bad E W htx ⟨s1, s2, s3, s4, s6, s7, s8⟩ o0).mono fun e W1 ⟨he, hn⟩ => ?_
  subst he
  exact ⟨_, rfl, _, _, _, [], _, [], hW', trodAll_mk1 (shut_bool Tryz.underlying4 _), trodAll_below laidOut hn.below _ _ _ _ (by kernel_rfl) hA2 hlt, rfl, hn.below.frame _, fun h => by cases h⟩

theorem wireBack_holds : Rows.WireBackSaid :=
  OpenClaim.holds_of_wide 3 Tryz.f3 rfl rfl rfl rfl rfl rfl rfl ⟨rfl, rfl, rfl, rfl, rfl⟩ rfl rfl rfl rfl rfl (by kernel_rfl) Tryz.func3 (by kernel_rfl)
    (of_decide_eq_true (by kernel_rfl)) (by unfold Func.isWrapper; first | (rw [if_pos (by decide +kernel)]; kernel_rfl) | (rw [if_neg (by decide +kernel)]; exact ⟨rfl, rfl⟩))
    (fun os started H enc _ => lwb_lifted os started H enc)
end Go.Proofs.YtjgecmkfgeajiaaGreatDoor

/- The law AttrBack holds for every input: what is told is read as it was written; a path that is led goes through who led it, and is longer by just that; a tag is there once, and all others stay. Its condition is the row's own: the listed variables are as the program's text lays them. -/
import Derived.Test.YtignngpligicjaaDoorAtB
import Derived.Test.YtignngpligicjaaDoorLawT
import Derived.Test.YtignngpligicjaaDoorCards
import Derived.Test.YtignngpligicjaaDoorTie
import Derived.SevenTiedAt
import Derived.Lay
import Derived.ChangeMaps5
namespace Go.Proofs.YtignngpligicjaaDoor
open Go.ChangeShapes Go.WideShapes Go.ChangeAt Go.RowKit Go.Deep

theorem lab_g1 : Tryd.prog.globalNamed "herepath/api.ErrText" = some gText1 := by kernel_rfl
theorem lab_t1 : (Tryd.prog.globals[gText1]?).map (·.type) = some 25 := by kernel_rfl
theorem lab_g2 : Tryd.prog.globalNamed "herepath/api.ErrBound" = some gBound := by kernel_rfl
theorem lab_t2 : (Tryd.prog.globals[gBound]?).map (·.type) = some 25 := by kernel_rfl
theorem lab_g7 : Tryd.prog.globalNamed "herepath/api.ErrFull" = some gFull_ := by kernel_rfl
theorem lab_t7 : (Tryd.prog.globals[gFull_]?).map (·.type) = some 25 := by kernel_rfl
theorem lab_g8 : Tryd.prog.globalNamed "herepath/api.ErrOrder" = some gOrder := by kernel_rfl
theorem lab_t8 : (Tryd.prog.globals[gOrder]?).map (·.type) = some 25 := by kernel_rfl
theorem lab_laid_plain : (Rows.attrBackRow.laid.all fun x => x.2.handleName?.isNone) = true := by kernel_rfl
theorem lab_door (os : Os) (args : Array Value) : laidMetH Tryd.prog Rows.attrBackRow.laid ((World.laidAll Tryd.prog os Rows.attrBackRow.laid).forCall (fun _ _ => 0) ⟨#[], args, []⟩).memory :=
  (MakeChecks.laidMetH_plain _ _ _ lab_laid_plain).symm ▸ laidMet_laidAll _ (by kernel_rfl) (by kernel_rfl)
theorem lab_at {α : Type} {l : List α} {x : α} (n : Nat) (h : l[n]? = some x) : x ∈ l := List.mem_of_getElem? h

/-- What the listed variables give. -/
theorem lab_sens {W : World} (h : laidMetH Tryd.prog Rows.attrBackRow.laid W) (hsh : W.ShapedOpen Tryd.prog) : TxtOk W ∧ ∃ E : Nat → Addr, Sen W gText1 (E 1) ∧ Sen W gBound (E 2) ∧ Sen W gFull_ (E 7) ∧ Sen W gOrder (E 8) := by
  rw [MakeChecks.laidMetH_plain _ _ _ lab_laid_plain] at h
  refine ⟨txt_of_laid h hsh (lab_at 9 rfl) (lab_at 8 rfl) (lab_at 2 rfl), ?_⟩
  obtain ⟨a1, _, h1, _⟩ := sen_of_laid h (n := "herepath/api.ErrText") (lab_at 4 rfl) lab_g1 lab_t1
  obtain ⟨a2, _, h2, _⟩ := sen_of_laid h (n := "herepath/api.ErrBound") (lab_at 5 rfl) lab_g2 lab_t2
  obtain ⟨a7, _, h7, _⟩ := sen_of_laid h (n := "herepath/api.ErrFull") (lab_at 6 rfl) lab_g7 lab_t7
  obtain ⟨a8, _, h8, _⟩ := sen_of_laid h (n := "herepath/api.ErrOrder") (lab_at 7 rfl) lab_g8 lab_t8
  exact ⟨fun k => if k = 1 then a1 else if k = 2 then a2 else if k = 7 then a7 else a8, h1, h2, h7, h8⟩

set_option maxRecDepth 100000 in
theorem lab_lifted (os : Os) (started : os.Started) (H : Type) (enc : TypeId × Value → H) :
    ReturnsInHanded {} Tryd.checked os 5 .any (fun w args => (Rows.attrBackSpec.pre enc Tryd.prog Tryd.f5 [] false w args ∧ laidMetH Tryd.prog Rows.attrBackRow.laid w) ∧ sizedMet enc Tryd.prog Tryd.f5 (OpenSpec.ofChange Rows.attrBackSpec) false w args)
      (Rows.attrBackSpec.post enc Tryd.prog Tryd.f5 false true false false) := by
  refine returns_and_shaped (C := Tryd.checked) (X := fun w _ => laidMetH Tryd.prog Rows.attrBackRow.laid w) (fun _ _ _ hh h => h.of_heap hh) own started (by kernel_rfl) Tryd.func5
    (ChangeSpec.witness_shaped (enc := enc) (C := Tryd.checked) (os := os) (X := fun w _ => laidMetH Tryd.prog Rows.attrBackRow.laid w) false (World.laidAll Tryd.prog os Rows.attrBackRow.laid) #[.agg #[.slice none 0 0, .int .i64 0, .int .i64 0, .int .i64 0, .slice none 0 0], .int .i64 0, .int .i64 0, .int .i64 0] 8 (World.laidAll_os _ _ _) (World.shaped_of_ZipB (by kernel_rfl) (by kernel_rfl)) (by kernel_rfl) (by kernel_rfl) (by kernel_rfl) (lab_door os _)) ?_
  intro W base args ds gs before hval0 hW _ _ hL hsh _
  have hval : ∀ (j : Nat) t v, Tryd.f5.params[j]? = some t → args[j]? = some v → Value.okWide Tryd.prog W .any base t v := hval0
  have hW' := hW
  obtain ⟨p, q, hA0, hV, rfl, hfz, hnd⟩ := hW
  have hA : DataW.TrodAll enc Tryd.prog W 0 (fun _ => true) true Tryd.f5.params.toList args.toList ds p := hA0
  obtain ⟨rfl, rfl⟩ := trodVars_none hV
  have hlt : ∀ x ∈ p, x.block < W.heap.size := fun x hx => hW'.lt x (by simpa using hx)
  have hA2 := hA
  rw [Tryd.params5] at hA hval
  obtain ⟨v0, vs0, d0, ds0, p0, q0, hargs, rfl, rfl, h0, r0⟩ := trodAll_cons hA
  obtain ⟨v1, vs1, d1, ds1, p1, q1, rfl, rfl, rfl, h1, r1⟩ := trodAll_cons r0
  obtain ⟨v2, vs2, d2, ds2, p2, q2, rfl, rfl, rfl, h2, r2⟩ := trodAll_cons r1
  obtain ⟨v3, vs3, d3, ds3, p3, q3, rfl, rfl, rfl, h3, r3⟩ := trodAll_cons r2
  obtain ⟨rfl, rfl, rfl⟩ := trodAll_nil r3
  obtain rfl : args = #[v0, v1, v2, v3] := by cases args; simp_all
  obtain ⟨cs0, rfl, _⟩ := okWide_struct Tryd.underlying44 (hval 0 44 v0 rfl rfl)
  obtain ⟨fuel0, hf0⟩ := h0
  obtain ⟨s, rfl, rfl, rfl, wr1⟩ := open_int Tryd.underlying3 (hval 1 3 v1 rfl rfl) h1
  obtain ⟨n, rfl, rfl, rfl, wr2⟩ := open_int Tryd.underlying3 (hval 2 3 v2 rfl rfl) h2
  obtain ⟨t, rfl, rfl, rfl, wr3⟩ := open_int Tryd.underlying3 (hval 3 3 v3 rfl rfl) h3
  obtain ⟨htx, E, s1, s2, s7, s8⟩ := lab_sens hL hsh
  obtain ⟨a, e0, o0⟩ := attr_reads W _ _ _ _ _ _ _ (by simpa [Value.cells] using hf0)
  obtain rfl := Array.toList_inj.1 e0
  clear hA0 hval0
  refine (attrBack_any a s n t E W htx s1 s2 s7 s8 o0).mono fun e W1 ⟨he, hn⟩ => ?_
  subst he
  exact ⟨_, rfl, _, _, _, [], _, [], hW', trodAll_mk1 (shut_bool Tryd.underlying4 _), trodAll_below laidOut hn.below _ _ _ _ (by kernel_rfl) hA2 hlt, rfl, hn.below.frame _, fun h => by cases h⟩

theorem attrBack_holds : Rows.AttrBackSaid :=
  OpenClaim.holds_of_wide 5 Tryd.f5 rfl rfl rfl rfl rfl rfl rfl ⟨rfl, rfl, rfl, rfl, rfl⟩ rfl rfl rfl rfl rfl (by kernel_rfl) Tryd.func5 (by kernel_rfl)
    (of_decide_eq_true (by kernel_rfl)) (by unfold Func.isWrapper; first | (rw [if_pos (by decide +kernel)]; kernel_rfl) | (rw [if_neg (by decide +kernel)]; exact ⟨rfl, rfl⟩))
    (fun os started H enc _ => lab_lifted os started H enc)
end Go.Proofs.YtignngpligicjaaDoor

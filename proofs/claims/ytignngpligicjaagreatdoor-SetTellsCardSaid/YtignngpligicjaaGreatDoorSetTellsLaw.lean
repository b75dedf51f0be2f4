/- The law SetTells holds for every input: what package set says of any prefixes, and any address, is what the document says. Its condition is the row's own: the listed variables are as the program's text lays them. -/
import Derived.Test.YtignngpligicjaaGreatDoorSetT
import Derived.Test.YtignngpligicjaaGreatDoorStZ
import Derived.Test.YtignngpligicjaaGreatDoorLawP
namespace Go.Proofs.YtignngpligicjaaGreatDoor
open Go.ChangeShapes Go.WideShapes Go.ChangeAt Go.RowKit Go.Deep

def tzVar : String × DataW Unit := ("math/bits.deBruijn64tab", Lib.tabData .u8 (Lib.deBruijn64tab.map fun n : Nat => (n : Int)))
theorem tz_plain : ((tzVar :: handleVar :: nineVars).filter fun x => x.2.handleName?.isNone) = tzVar :: nineVars := by rfl
theorem tz_handle : ((tzVar :: handleVar :: nineVars).filter fun x => x.2.handleName?.isSome) = [handleVar] := by rfl
theorem lst_door (os : Os) (args : Array Value) : laidMetH Tryz.prog (tzVar :: handleVar :: nineVars) ((World.doorLaid Tryz.prog 4000 os).forCall (fun _ _ => 0) ⟨#[], args, []⟩).memory :=
  laidMetH_of_parts (by rw [tz_plain]; exact laidMet_of_run' 8 (by kernel_rfl) (by kernel_rfl)) (by rw [tz_handle]; kernel_rfl)
/-- What the listed variables give. -/
theorem lst_sens {W : World} (h : laidMetH Tryz.prog (tzVar :: handleVar :: nineVars) W) : TzOk W ∧ ∃ E : Nat → Addr, Errs W E := by
  obtain ⟨h1, h2⟩ := laidMetH_iff.1 h
  rw [tz_plain] at h1
  rw [tz_handle] at h2
  exact ⟨tz_of_laid h1 (List.mem_cons_self ..), errs_of_parts h1 h2 fun _ h => List.mem_cons_of_mem _ h⟩

set_option maxRecDepth 100000 in
theorem lst_lifted (os : Os) (started : os.Started) (H : Type) (enc : TypeId × Value → H) :
    ReturnsInHanded {} Tryz.checked os 4 .any (fun w args => (Rows.setTellsSpec.pre enc Tryz.prog Tryz.f4 [] false w args ∧ laidMetH Tryz.prog Rows.setTellsRow.laid w) ∧ sizedMet enc Tryz.prog Tryz.f4 (OpenSpec.ofChange Rows.setTellsSpec) false w args)
      (Rows.setTellsSpec.post enc Tryz.prog Tryz.f4 false true false false) := by
  refine returnsInHanded_of_change_and (C := Tryz.checked) (X := fun w _ => laidMetH Tryz.prog Rows.setTellsRow.laid w) (fun _ _ _ hh h => h.of_heap hh) own started (by kernel_rfl) Tryz.func4
    (ChangeSpec.witness_shaped (enc := enc) (C := Tryz.checked) (os := os) (X := fun w _ => laidMetH Tryz.prog Rows.setTellsRow.laid w) false (World.doorLaid Tryz.prog 4000 os) #[.slice none 0 0, .slice none 0 0, .int .i64 0] 8 rfl (World.shaped_of_RefB (by kernel_rfl) (by kernel_rfl)) (by kernel_rfl) (by kernel_rfl) (by kernel_rfl) (lst_door os _)) ?_
  intro W base args ds gs before hval0 hW _ _ hL _
  have hval : ∀ (j : Nat) t v, Tryz.f4.params[j]? = some t → args[j]? = some v → Value.okWide Tryz.prog W .any base t v := hval0
  have hW' := hW
  obtain ⟨p, q, hA0, hV, rfl, hfz, hnd⟩ := hW
  have hA : DataW.TrodAll enc Tryz.prog W 0 (fun _ => true) true Tryz.f4.params.toList args.toList ds p := hA0
  obtain ⟨rfl, rfl⟩ := trodVars_none hV
  have hlt : ∀ x ∈ p, x.block < W.heap.size := fun x hx => hW'.lt x (by simpa using hx)
  have hA2 := hA
  rw [Tryz.params4] at hA hval
  obtain ⟨v0, vs0, d0, ds0, p0, q0, hargs, rfl, rfl, h0, r0⟩ := trodAll_cons hA
  obtain ⟨v1, vs1, d1, ds1, p1, q1, rfl, rfl, rfl, h1, r1⟩ := trodAll_cons r0
  obtain ⟨v2, vs2, d2, ds2, p2, q2, rfl, rfl, rfl, h2, r2⟩ := trodAll_cons r1
  obtain ⟨rfl, rfl, rfl⟩ := trodAll_nil r2
  obtain rfl : args = #[v0, v1, v2] := by cases args; simp_all
  obtain ⟨A0, len0, cap0, rfl⟩ := okWide_slice Tryz.underlying46 (hval 0 46 v0 rfl rfl)
  obtain ⟨fuel0, hf0⟩ := h0
  obtain ⟨A1, len1, cap1, rfl⟩ := okWide_slice Tryz.underlying46 (hval 1 46 v1 rfl rfl)
  obtain ⟨fuel1, hf1⟩ := h1
  obtain ⟨x, rfl, rfl, rfl, wr2⟩ := open_int Tryz.underlying3 (hval 2 3 v2 rfl rfl) h2
  obtain ⟨htx, E, her⟩ := lst_sens hL
  obtain ⟨B0, cap0, a, e0, l0, rr0, _⟩ := rows_read (pf_reads W) Tryz.underlying46 cellsPf (by omega) (by simpa [Value.cells] using hf0)
  obtain ⟨rfl, rfl, rfl⟩ : A0 = B0 ∧ len0 = a.length ∧ _ = cap0 := by simpa using e0
  obtain ⟨B1, cap1, b, e1, l1, rr1, _⟩ := rows_read (pf_reads W) Tryz.underlying46 cellsPf (by omega) (by simpa [Value.cells] using hf1)
  obtain ⟨rfl, rfl, rfl⟩ : A1 = B1 ∧ len1 = b.length ∧ _ = cap1 := by simpa using e1
  clear hA0 hval0
  refine (setTells_any A0 A1 _ _ _ _ a b x E W htx her rr0 rfl rr1 rfl).mono fun e W1 ⟨he, hn⟩ => ?_
  subst he
  exact ⟨_, rfl, _, _, _, [], _, [], hW', trodAll_mk1 (shut_bool Tryz.underlying4 _), trodAll_below laidOut hn.below _ _ _ _ (by kernel_rfl) hA2 hlt, rfl, hn.below.frame _, fun h => by cases h⟩

theorem setTells_holds : Rows.SetTellsSaid :=
  OpenClaim.holds_of_wide 4 Tryz.f4 rfl rfl rfl rfl rfl rfl rfl ⟨rfl, rfl, rfl, rfl, rfl⟩ rfl rfl rfl rfl rfl (by kernel_rfl) Tryz.func4 (by kernel_rfl)
    (of_decide_eq_true (by kernel_rfl)) (by unfold Func.isWrapper; first | (rw [if_pos (by decide +kernel)]; kernel_rfl) | (rw [if_neg (by decide +kernel)]; exact ⟨rfl, rfl⟩))
    (fun os started H enc _ => lst_lifted os started H enc)
end Go.Proofs.YtignngpligicjaaGreatDoor

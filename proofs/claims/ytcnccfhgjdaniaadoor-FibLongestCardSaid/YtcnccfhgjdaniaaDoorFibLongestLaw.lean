/- The law FibLongest holds for every input: what is found has the address, is there, and nothing longer has it; what is not found nothing has; all of it, set anew, finds the same. Its condition is the row's own: the listed errors of package api are as the program's text lays them. -/
import Derived.Test.YtcnccfhgjdaniaaDoorFl3
import Derived.Test.YtcnccfhgjdaniaaDoorLawE
namespace Go.Proofs.YtcnccfhgjdaniaaDoor
open Go.ChangeShapes Go.WideShapes Go.ChangeAt Go.RowKit Go.Deep

theorem fl_laid_plain : (Rows.fibLongestRow.laid.all fun x => x.2.handleName?.isNone) = true := by kernel_rfl
theorem gN5 : Tryd.prog.globalNamed "herepath/api.ErrNone" = some gNone := by kernel_rfl
theorem gE6 : Tryd.prog.globalNamed "herepath/api.ErrExist" = some gExist := by kernel_rfl
theorem gF7 : Tryd.prog.globalNamed "herepath/api.ErrFull" = some gFull := by kernel_rfl
theorem tN5 : (Tryd.prog.globals[gNone]?).map (·.type) = some 27 := by kernel_rfl
theorem tE6 : (Tryd.prog.globals[gExist]?).map (·.type) = some 27 := by kernel_rfl
theorem tF7 : (Tryd.prog.globals[gFull]?).map (·.type) = some 27 := by kernel_rfl
theorem fl_door (os : Os) (args : Array Value) : laidMetH Tryd.prog Rows.fibLongestRow.laid ((World.doorLaid Tryd.prog 4000 os).forCall (fun _ _ => 0) ⟨#[], args, []⟩).memory :=
  (MakeChecks.laidMetH_plain _ _ _ fl_laid_plain).symm ▸ laidMet_of_run' 8 (by kernel_rfl) (by kernel_rfl)

/-- What the listed errors give. -/
theorem fl_sens {W : World} (h : laidMetH Tryd.prog Rows.fibLongestRow.laid W) : ∃ E : Nat → Addr, Sen W gBound (E 2) ∧ Sen W gShape (E 3) ∧ Sen W gNone (E 5) ∧ Sen W gExist (E 6) ∧ Sen W gFull (E 7) := by
  rw [MakeChecks.laidMetH_plain _ _ _ fl_laid_plain] at h
  obtain ⟨a, _, ha, _⟩ := sen_of_laid h (n := "herepath/api.ErrBound") (List.mem_of_getElem? (i := 0) rfl) gB tB
  obtain ⟨b, _, hb, _⟩ := sen_of_laid h (n := "herepath/api.ErrShape") (List.mem_of_getElem? (i := 1) rfl) gS tS
  obtain ⟨c, _, hc, _⟩ := sen_of_laid h (n := "herepath/api.ErrNone") (List.mem_of_getElem? (i := 2) rfl) gN5 tN5
  obtain ⟨d, _, hd, _⟩ := sen_of_laid h (n := "herepath/api.ErrExist") (List.mem_of_getElem? (i := 3) rfl) gE6 tE6
  obtain ⟨f, _, hf, _⟩ := sen_of_laid h (n := "herepath/api.ErrFull") (List.mem_of_getElem? (i := 4) rfl) gF7 tF7
  exact ⟨fun k => if k = 2 then a else if k = 3 then b else if k = 5 then c else if k = 6 then d else f, ha, hb, hc, hd, hf⟩

theorem long_any {W : World} {A : Option Addr} {len cap : Nat} (a : Int) (E : Nat → Addr) (h2 : Sen W gBound (E 2)) (h3 : Sen W gShape (E 3)) (h5 : Sen W gNone (E 5)) (h6 : Sen W gExist (E 6)) (h7 : Sen W gFull (E 7))
    (hx : 0 < len → ∃ b o xs, A = some ⟨b, o, none⟩ ∧ Ents W b o xs ∧ xs.length = len) :
    Calls Tryd.prog 3 #[.slice A len cap, .int .i64 a] W fun e w1 => e = .returned (.bool true) ∧ New W w1 := by
  by_cases h : (60 : Int) < len
  · exact long_early A len cap a E W h2 h3 h
  · by_cases h0 : 0 < len
    · obtain ⟨b, o, xs, rfl, hxs, hl⟩ := hx h0
      refine long_main _ len cap xs a E W h2 h3 h5 h6 h7 (fun _ => ⟨b, o, rfl, hxs, ?_, hl⟩) (by omega)
      have h1 := hxs 0 _ (List.getElem?_eq_getElem (by omega))
      exact World.block_lt_of_cell? W ⟨b, o + 0 * 3, none⟩ h1.1
    · exact long_main A len cap [] a E W h2 h3 h5 h6 h7 (fun h => absurd h h0) (by omega)

set_option maxRecDepth 100000 in
theorem fl_lifted (os : Os) (started : os.Started) (H : Type) (enc : TypeId × Value → H) :
    ReturnsInHanded {} Tryd.checked os 3 .any (fun w args => (Rows.fibLongestSpec.pre enc Tryd.prog Tryd.f3 [] false w args ∧ laidMetH Tryd.prog Rows.fibLongestRow.laid w) ∧ sizedMet enc Tryd.prog Tryd.f3 (OpenSpec.ofChange Rows.fibLongestSpec) false w args)
      (Rows.fibLongestSpec.post enc Tryd.prog Tryd.f3 false true false false) := by
  refine returnsInHanded_of_change_and (C := Tryd.checked) (X := fun w _ => laidMetH Tryd.prog Rows.fibLongestRow.laid w) (fun _ _ _ hh h => h.of_heap hh) own started (by kernel_rfl) Tryd.func3
    (ChangeSpec.witness_shaped (enc := enc) (C := Tryd.checked) (os := os) (X := fun w _ => laidMetH Tryd.prog Rows.fibLongestRow.laid w) false (World.doorLaid Tryd.prog 4000 os) #[.slice none 0 0, .int .i64 0] 8 rfl (World.shaped_of_RefB (by kernel_rfl) (by kernel_rfl)) (by kernel_rfl) (by kernel_rfl) (by kernel_rfl) (fl_door os _)) ?_
  intro W base args ds gs before hval0 hW _ _ hL _
  have hval : ∀ (j : Nat) t v, Tryd.f3.params[j]? = some t → args[j]? = some v → Value.okWide Tryd.prog W .any base t v := hval0
  have hW' := hW
  obtain ⟨p, q, hA0, hV, rfl, hfz, hnd⟩ := hW
  have hA : DataW.TrodAll enc Tryd.prog W 0 (fun _ => true) true Tryd.f3.params.toList args.toList ds p := hA0
  obtain ⟨rfl, rfl⟩ := trodVars_none hV
  have hlt : ∀ x ∈ p, x.block < W.heap.size := fun x hx => hW'.lt x (by simpa using hx)
  have hA2 := hA
  rw [Tryd.params3] at hA hval
  obtain ⟨v0, vs0, d0, ds0, p0, q0, hargs, rfl, rfl, h0, r0⟩ := trodAll_cons hA
  obtain ⟨v1, vs1, d1, ds1, p1, q1, rfl, rfl, rfl, h1, r1⟩ := trodAll_cons r0
  obtain ⟨rfl, rfl, rfl⟩ := trodAll_nil r1
  obtain rfl : args = #[v0, v1] := by cases args; simp_all
  obtain ⟨A, len, cap, rfl⟩ := okWide_slice Tryd.underlying22 (hval 0 22 v0 rfl rfl)
  obtain ⟨n1, rfl, rfl, rfl, w1⟩ := open_int Tryd.underlying3 (hval 1 3 v1 rfl rfl) h1
  obtain ⟨fuel, hf⟩ := h0
  obtain ⟨E, s2, s3, s5, s6, s7⟩ := fl_sens hL
  clear hA0 hval0
  refine (long_any (W := W) (A := A) (len := len) (cap := cap) n1 E s2 s3 s5 s6 s7 (fun hl => ents_of_trod (by simpa [Value.cells] using hf) hl)).mono fun e W1 ⟨he, hn⟩ => ?_
  subst he
  exact ⟨_, rfl, _, _, _, [], _, [], hW', trodAll_mk1 (shut_bool Tryd.underlying4 _), trodAll_below laidOut hn.below _ _ _ _ (by kernel_rfl) hA2 hlt, rfl, hn.below.frame _, fun h => by cases h⟩

theorem fibLongest_holds : Rows.FibLongestSaid :=
  OpenClaim.holds_of_wide 3 Tryd.f3 rfl rfl rfl rfl rfl rfl rfl ⟨rfl, rfl, rfl, rfl, rfl⟩ rfl rfl rfl rfl rfl (by kernel_rfl) Tryd.func3 (by kernel_rfl)
    (of_decide_eq_true (by kernel_rfl)) (by unfold Func.isWrapper; first | (rw [if_pos (by decide +kernel)]; kernel_rfl) | (rw [if_neg (by decide +kernel)]; exact ⟨rfl, rfl⟩))
    (fun os started H enc _ => fl_lifted os started H enc)
end Go.Proofs.YtcnccfhgjdaniaaDoor

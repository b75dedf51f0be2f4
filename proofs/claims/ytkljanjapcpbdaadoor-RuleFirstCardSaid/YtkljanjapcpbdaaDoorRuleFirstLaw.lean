/- The law RuleFirst holds for every input: rules behind one that fits change nothing, one that does not fit changes nothing, a last rule for all denies nothing more. Its condition is the row's own: the listed errors of package api are as the program's text lays them. -/
import Derived.Test.YtkljanjapcpbdaaDoorRf0
import Derived.Test.YtkljanjapcpbdaaDoorRuL
import Derived.Test.YtkljanjapcpbdaaDoorCards
import Derived.Test.YtkljanjapcpbdaaDoorTie
import Derived.SevenTiedAt
namespace Go.Proofs.YtkljanjapcpbdaaDoor
open Go.ChangeShapes Go.WideShapes Go.ChangeAt Go.RowKit Go.Deep

theorem fr_gB : Tryd.prog.globalNamed "herepath/api.ErrBound" = some gBound := by kernel_rfl
theorem fr_gS : Tryd.prog.globalNamed "herepath/api.ErrShape" = some gShape := by kernel_rfl
theorem fr_tB : (Tryd.prog.globals[gBound]?).map (·.type) = some 27 := by kernel_rfl
theorem fr_tS : (Tryd.prog.globals[gShape]?).map (·.type) = some 27 := by kernel_rfl
theorem fr_gF : Tryd.prog.globalNamed "herepath/api.ErrFull" = some gFull_ := by kernel_rfl
theorem fr_gO : Tryd.prog.globalNamed "herepath/api.ErrOrder" = some gOrder := by kernel_rfl
theorem fr_tF : (Tryd.prog.globals[gFull_]?).map (·.type) = some 27 := by kernel_rfl
theorem fr_tO : (Tryd.prog.globals[gOrder]?).map (·.type) = some 27 := by kernel_rfl
theorem fr_laid_plain : (Rows.ruleFirstRow.laid.all fun x => x.2.handleName?.isNone) = true := by kernel_rfl
theorem fr_door (os : Os) (args : Array Value) : laidMetH Tryd.prog Rows.ruleFirstRow.laid ((World.doorLaid Tryd.prog 4000 os).forCall (fun _ _ => 0) ⟨#[], args, []⟩).memory :=
  (MakeChecks.laidMetH_plain _ _ _ fr_laid_plain).symm ▸ laidMet_of_run' 8 (by kernel_rfl) (by kernel_rfl)

/-- What the listed errors give. -/
theorem fr_sens {W : World} (h : laidMetH Tryd.prog Rows.ruleFirstRow.laid W) : ∃ E : Nat → Addr, Sen W gBound (E 2) ∧ Sen W gShape (E 3) ∧ Sen W gFull_ (E 7) ∧ Sen W gOrder (E 8) := by
  rw [MakeChecks.laidMetH_plain _ _ _ fr_laid_plain] at h
  obtain ⟨a, _, ha, _⟩ := sen_of_laid h (n := "herepath/api.ErrBound") (List.mem_cons_self ..) fr_gB fr_tB
  obtain ⟨b, _, hb, _⟩ := sen_of_laid h (n := "herepath/api.ErrShape") (List.mem_cons_of_mem _ (List.mem_cons_self ..)) fr_gS fr_tS
  obtain ⟨c, _, hc, _⟩ := sen_of_laid h (n := "herepath/api.ErrFull") (List.mem_cons_of_mem _ (List.mem_cons_of_mem _ (List.mem_cons_self ..))) fr_gF fr_tF
  obtain ⟨d, _, hd, _⟩ := sen_of_laid h (n := "herepath/api.ErrOrder") (List.mem_cons_of_mem _ (List.mem_cons_of_mem _ (List.mem_cons_of_mem _ (List.mem_cons_self ..)))) fr_gO fr_tO
  exact ⟨fun k => if k = 2 then a else if k = 3 then b else if k = 7 then c else d, ha, hb, hc, hd⟩

set_option maxRecDepth 100000 in
theorem fr_lifted (os : Os) (started : os.Started) (H : Type) (enc : TypeId × Value → H) :
    ReturnsInHanded {} Tryd.checked os 5 .any (fun w args => (Rows.ruleFirstSpec.pre enc Tryd.prog Tryd.f5 [] false w args ∧ laidMetH Tryd.prog Rows.ruleFirstRow.laid w) ∧ sizedMet enc Tryd.prog Tryd.f5 (OpenSpec.ofChange Rows.ruleFirstSpec) false w args)
      (Rows.ruleFirstSpec.post enc Tryd.prog Tryd.f5 false true false false) := by
  refine returnsInHanded_of_change_and (C := Tryd.checked) (X := fun w _ => laidMetH Tryd.prog Rows.ruleFirstRow.laid w) (fun _ _ _ hh h => h.of_heap hh) own started (by kernel_rfl) Tryd.func5
    (ChangeSpec.witness_shaped (enc := enc) (C := Tryd.checked) (os := os) (X := fun w _ => laidMetH Tryd.prog Rows.ruleFirstRow.laid w) false (World.doorLaid Tryd.prog 4000 os) #[.slice none 0 0, .int .i64 0, .agg #[.int .i64 0, .int .i64 0], .agg #[.slice none 0 0, .int .i64 0, .int .i64 0, .int .i64 0, .slice none 0 0], .int .i64 0] 8 rfl (World.shaped_of_RefB (by kernel_rfl) (by kernel_rfl)) (by kernel_rfl) (by kernel_rfl) (by kernel_rfl) (fr_door os _)) ?_
  intro W base args ds gs before hval0 hW _ _ hL _
  have hval : ∀ (j : Nat) t v, Tryd.f5.params[j]? = some t → args[j]? = some v → Value.okWide Tryd.prog W .any base t v := hval0
  have hW' := hW
  obtain ⟨p, q, hA0, hV, rfl, hfz, hnd⟩ := hW
  have hA : DataW.TrodAll enc Tryd.prog W 0 (fun _ => true) true Tryd.f5.params.toList args.toList ds p := hA0
  obtain ⟨rfl, rfl⟩ := trodVars_none hV
  have hlt : ∀ x ∈ p, x.block < W.heap.size := fun x hx => hW'.lt x (by simpa using hx)
  have hA2 := hA
  rw [Tryd.params5] at hA hval
  obtain ⟨v0, vs0, d0, ds0, p0, q0, hargs, rfl, rfl, h0, r0⟩ := trodAll_cons hA
  obtain ⟨v1, vs1, d1, ds1, p1, q1, rfl, rfl, rfl, h1, r1⟩ := trodAll_cons r0
  obtain ⟨v2, vs2, d2, ds2, p2, q2, rfl, rfl, rfl, h2, r2⟩ := trodAll_cons r1
  obtain ⟨v3, vs3, d3, ds3, p3, q3, rfl, rfl, rfl, h3, r3⟩ := trodAll_cons r2
  obtain ⟨v4, vs4, d4, ds4, p4, q4, rfl, rfl, rfl, h4, r4⟩ := trodAll_cons r3
  obtain ⟨rfl, rfl, rfl⟩ := trodAll_nil r4
  obtain rfl : args = #[v0, v1, v2, v3, v4] := by cases args; simp_all
  obtain ⟨A, len, cap, rfl⟩ := okWide_slice Tryd.underlying77 (hval 0 77 v0 rfl rfl)
  obtain ⟨n1, rfl, rfl, rfl, w1⟩ := open_int Tryd.underlying3 (hval 1 3 v1 rfl rfl) h1
  obtain ⟨cs2, rfl, _⟩ := okWide_struct Tryd.underlying51 (hval 2 51 v2 rfl rfl)
  obtain ⟨cs3, rfl, _⟩ := okWide_struct Tryd.underlying80 (hval 3 80 v3 rfl rfl)
  obtain ⟨n4, rfl, rfl, rfl, w4⟩ := open_int Tryd.underlying3 (hval 4 3 v4 rfl rfl) h4
  obtain ⟨fuel0, hf0⟩ := h0
  obtain ⟨fuel2, hf2⟩ := h2
  obtain ⟨fuel3, hf3⟩ := h3
  obtain ⟨E, s2, s3, s7, s8⟩ := fr_sens hL
  obtain ⟨l, hl, hll, hlc⟩ := rules_of_trod (by simpa [Value.cells] using hf0)
  obtain ⟨x, m, rfl⟩ := pfx_of_trod (by simpa [Value.cells] using hf2)
  obtain ⟨a, rfl, ha⟩ := attr_of_trod (by simpa [Value.cells] using hf3)
  clear hA0 hval0
  refine (ruleFirst_any A len cap l n1 x m a n4 E W s2 s3 s7 s8 hl hll hlc ha).mono fun e W1 ⟨he, hn⟩ => ?_
  subst he
  exact ⟨_, rfl, _, _, _, [], _, [], hW', trodAll_mk1 (shut_bool Tryd.underlying4 _), trodAll_below laidOut hn.below _ _ _ _ (by kernel_rfl) hA2 hlt, rfl, hn.below.frame _, fun h => by cases h⟩

theorem ruleFirst_holds : Rows.RuleFirstSaid :=
  OpenClaim.holds_of_wide 5 Tryd.f5 rfl rfl rfl rfl rfl rfl rfl ⟨rfl, rfl, rfl, rfl, rfl⟩ rfl rfl rfl rfl rfl (by kernel_rfl) Tryd.func5 (by kernel_rfl)
    (of_decide_eq_true (by kernel_rfl)) (by unfold Func.isWrapper; first | (rw [if_pos (by decide +kernel)]; kernel_rfl) | (rw [if_neg (by decide +kernel)]; exact ⟨rfl, rfl⟩))
    (fun os started H enc _ => fr_lifted os started H enc)
end Go.Proofs.YtkljanjapcpbdaaDoor

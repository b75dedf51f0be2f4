/- The law BlockOne holds for every input: an address is one host's; of all prefixes of all hosts the longest with it is its owner's; what is given may be taken again. Its condition is the row's own: the listed variables are as the program's text lays them. -/
import Derived.Test.YtimhbgpnkodlaaaDoorBoB
import Derived.Test.YtimhbgpnkodlaaaDoorLawK
import Derived.Test.YtimhbgpnkodlaaaDoorCards
import Derived.Test.YtimhbgpnkodlaaaDoorTie
import Derived.SevenTiedAt
import Derived.Lay
import Derived.ChangeMaps5
namespace Go.Proofs.YtimhbgpnkodlaaaDoor
open Go.ChangeShapes Go.WideShapes Go.ChangeAt Go.RowKit Go.Deep

theorem lbo_plain : (Rows.blockOneRow.laid.all fun x => x.2.handleName?.isNone) = true := by kernel_rfl
theorem lbo_door (os : Os) (args : Array Value) : laidMetH Tryd.prog Rows.blockOneRow.laid ((World.doorLaid Tryd.prog 4000 os).forCall (fun _ _ => 0) ⟨#[], args, []⟩).memory :=
  (MakeChecks.laidMetH_plain _ _ _ lbo_plain).symm ▸ laidMet_of_run' 8 (by kernel_rfl) (by kernel_rfl)
theorem lbo_at {α : Type} {l : List α} {x : α} (n : Nat) (h : l[n]? = some x) : x ∈ l := List.mem_of_getElem? h
theorem lbo_g2 : Tryd.prog.globalNamed "herepath/api.ErrBound" = some 0 := by kernel_rfl
theorem lbo_t2 : (Tryd.prog.globals[0]?).map (·.type) = some 28 := by kernel_rfl
theorem lbo_g3 : Tryd.prog.globalNamed "herepath/api.ErrShape" = some 3 := by kernel_rfl
theorem lbo_t3 : (Tryd.prog.globals[3]?).map (·.type) = some 28 := by kernel_rfl
theorem lbo_g5 : Tryd.prog.globalNamed "herepath/api.ErrNone" = some 2 := by kernel_rfl
theorem lbo_t5 : (Tryd.prog.globals[2]?).map (·.type) = some 28 := by kernel_rfl
theorem lbo_g7 : Tryd.prog.globalNamed "herepath/api.ErrFull" = some 1 := by kernel_rfl
theorem lbo_t7 : (Tryd.prog.globals[1]?).map (·.type) = some 28 := by kernel_rfl
/-- What the listed variables give. -/
theorem lbo_sens {W : World} (h : laidMetH Tryd.prog Rows.blockOneRow.laid W) : ∃ E : Nat → Addr, Sen W gBound (E 2) ∧ Sen W gShape (E 3) ∧ Sen W gNoneB (E 5) ∧ Sen W gFullB (E 7) := by
  rw [MakeChecks.laidMetH_plain _ _ _ lbo_plain] at h
  obtain ⟨a2, _, h2, _⟩ := sen_of_laid h (n := "herepath/api.ErrBound") (lbo_at 0 rfl) lbo_g2 lbo_t2
  obtain ⟨a3, _, h3, _⟩ := sen_of_laid h (n := "herepath/api.ErrShape") (lbo_at 1 rfl) lbo_g3 lbo_t3
  obtain ⟨a5, _, h5, _⟩ := sen_of_laid h (n := "herepath/api.ErrNone") (lbo_at 2 rfl) lbo_g5 lbo_t5
  obtain ⟨a7, _, h7, _⟩ := sen_of_laid h (n := "herepath/api.ErrFull") (lbo_at 3 rfl) lbo_g7 lbo_t7
  exact ⟨fun k => if k = 2 then a2 else if k = 3 then a3 else if k = 5 then a5 else a7, h2, h3, h5, h7⟩

set_option maxRecDepth 100000 in
theorem lbo_lifted (os : Os) (started : os.Started) (H : Type) (enc : TypeId × Value → H) :
    ReturnsInHanded {} Tryd.checked os 3 .any (fun w args => (Rows.blockOneSpec.pre enc Tryd.prog Tryd.f3 [] false w args ∧ laidMetH Tryd.prog Rows.blockOneRow.laid w) ∧ sizedMet enc Tryd.prog Tryd.f3 (OpenSpec.ofChange Rows.blockOneSpec) false w args)
      (Rows.blockOneSpec.post enc Tryd.prog Tryd.f3 false true false false) := by
  refine returnsInHanded_of_change_and (C := Tryd.checked) (X := fun w _ => laidMetH Tryd.prog Rows.blockOneRow.laid w) (fun _ _ _ hh h => h.of_heap hh) own started (by kernel_rfl) Tryd.func3
    (ChangeSpec.witness_shaped (enc := enc) (C := Tryd.checked) (os := os) (X := fun w _ => laidMetH Tryd.prog Rows.blockOneRow.laid w) false (World.doorLaid Tryd.prog 4000 os) #[.agg #[.int .i64 0, .int .i64 0], .int .i64 0, .slice none 0 0] 8 rfl (World.shaped_of_RefB (by kernel_rfl) (by kernel_rfl)) (by kernel_rfl) (by kernel_rfl) (by kernel_rfl) (lbo_door os _)) ?_
  intro W base args ds gs before hval0 hW _ _ hL _
  have hval : ∀ (j : Nat) t v, Tryd.f3.params[j]? = some t → args[j]? = some v → Value.okWide Tryd.prog W .any base t v := hval0
  have hW' := hW
  obtain ⟨p, q, hA0, hV, rfl, hfz, hnd⟩ := hW
  have hA : DataW.TrodAll enc Tryd.prog W 0 (fun _ => true) true Tryd.f3.params.toList args.toList ds p := hA0
  obtain ⟨rfl, rfl⟩ := trodVars_none hV
  have hlt : ∀ x ∈ p, x.block < W.heap.size := fun x hx => hW'.lt x (by simpa using hx)
  have hA2 := hA
  rw [Tryd.params3] at hA hval
  obtain ⟨v0, vs0, d0, ds0, p0, q0, hargs, rfl, rfl, h0, r0⟩ := trodAll_cons hA
  obtain ⟨v1, vs1, d1, ds1, p1, q1, rfl, rfl, rfl, h1, r1⟩ := trodAll_cons r0
  obtain ⟨v2, vs2, d2, ds2, p2, q2, rfl, rfl, rfl, h2, r2⟩ := trodAll_cons r1
  obtain ⟨rfl, rfl, rfl⟩ := trodAll_nil r2
  obtain rfl : args = #[v0, v1, v2] := by cases args; simp_all
  obtain ⟨cs0, rfl, _⟩ := okWide_struct Tryd.underlying23 (hval 0 23 v0 rfl rfl)
  obtain ⟨fuel0, hf0⟩ := h0
  obtain ⟨L, rfl, rfl, rfl, wr1⟩ := open_int Tryd.underlying3 (hval 1 3 v1 rfl rfl) h1
  obtain ⟨A2, len2, cap2, rfl⟩ := okWide_slice Tryd.underlying24 (hval 2 24 v2 rfl rfl)
  obtain ⟨fuel2, hf2⟩ := h2
  obtain ⟨E, s2, s3, s5, s7⟩ := lbo_sens hL
  obtain ⟨a, n, rfl⟩ := pf_of_trodK (by simpa [Value.cells] using hf0)
  obtain ⟨B2, cap2, l, e2, l2, rr2, _⟩ := rows_read (tk_reads W) Tryd.underlying24 cellsTk (by omega) (by simpa [Value.cells] using hf2)
  obtain ⟨rfl, rfl, rfl⟩ : A2 = B2 ∧ len2 = l.length ∧ _ = cap2 := by simpa using e2
  clear hA0 hval0
  refine (blockOne_any ⟨a, n⟩ L A2 _ _ l W s2 s3 s5 s7 rr2 rfl).mono fun e W1 ⟨he, hn⟩ => ?_
  subst he
  exact ⟨_, rfl, _, _, _, [], _, [], hW', trodAll_mk1 (shut_bool Tryd.underlying4 _), trodAll_below laidOut hn.below _ _ _ _ (by kernel_rfl) hA2 hlt, rfl, hn.below.frame _, fun h => by cases h⟩

theorem blockOne_holds : Rows.BlockOneSaid :=
  OpenClaim.holds_of_wide 3 Tryd.f3 rfl rfl rfl rfl rfl rfl rfl ⟨rfl, rfl, rfl, rfl, rfl⟩ rfl rfl rfl rfl rfl (by kernel_rfl) Tryd.func3 (by kernel_rfl)
    (of_decide_eq_true (by kernel_rfl)) (by unfold Func.isWrapper; first | (rw [if_pos (by decide +kernel)]; kernel_rfl) | (rw [if_neg (by decide +kernel)]; exact ⟨rfl, rfl⟩))
    (fun os started H enc _ => lbo_lifted os started H enc)
end Go.Proofs.YtimhbgpnkodlaaaDoor

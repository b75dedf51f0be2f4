/- The law SetNormal holds for every input: a normal set has what was in the prefixes, no two halves of one, none in another; what both have and what each has alone make all; a set is normal once. Its condition is the row's own: the listed variables are as the program's text lays them. -/
import Derived.Test.YtignngpligicjaaDoorSetN
import Derived.Test.YtignngpligicjaaDoorStZ
import Derived.Test.YtignngpligicjaaDoorCards
import Derived.Test.YtignngpligicjaaDoorTie
import Derived.SevenTiedAt
import Derived.Lay
namespace Go.Proofs.YtignngpligicjaaDoor
open Go.ChangeShapes Go.WideShapes Go.ChangeAt Go.RowKit Go.Deep

theorem lsn_g2 : Tryd.prog.globalNamed "herepath/api.ErrBound" = some gBound := by kernel_rfl
theorem lsn_t2 : (Tryd.prog.globals[gBound]?).map (·.type) = some 25 := by kernel_rfl
theorem lsn_g3 : Tryd.prog.globalNamed "herepath/api.ErrShape" = some gShape := by kernel_rfl
theorem lsn_t3 : (Tryd.prog.globals[gShape]?).map (·.type) = some 25 := by kernel_rfl
theorem lsn_g5 : Tryd.prog.globalNamed "herepath/api.ErrNone" = some gNone := by kernel_rfl
theorem lsn_t5 : (Tryd.prog.globals[gNone]?).map (·.type) = some 25 := by kernel_rfl
theorem lsn_laid_plain : (Rows.setNormalRow.laid.all fun x => x.2.handleName?.isNone) = true := by kernel_rfl
theorem lsn_door (os : Os) (args : Array Value) : laidMetH Tryd.prog Rows.setNormalRow.laid ((World.laidAll Tryd.prog os Rows.setNormalRow.laid).forCall (fun _ _ => 0) ⟨#[], args, []⟩).memory :=
  (MakeChecks.laidMetH_plain _ _ _ lsn_laid_plain).symm ▸ laidMet_laidAll _ (by kernel_rfl) (by kernel_rfl)
theorem lsn_at {α : Type} {l : List α} {x : α} (n : Nat) (h : l[n]? = some x) : x ∈ l := List.mem_of_getElem? h

/-- What the listed variables give. -/
theorem lsn_sens {W : World} (h : laidMetH Tryd.prog Rows.setNormalRow.laid W) (hsh : W.ShapedOpen Tryd.prog) : TzOk W ∧ ∃ E : Nat → Addr, Sen W gBound (E 2) ∧ Sen W gShape (E 3) ∧ Sen W gNone (E 5) := by
  rw [MakeChecks.laidMetH_plain _ _ _ lsn_laid_plain] at h
  refine ⟨tz_of_laid h (lsn_at 0 rfl), ?_⟩
  obtain ⟨a2, _, h2, _⟩ := sen_of_laid h (n := "herepath/api.ErrBound") (lsn_at 1 rfl) lsn_g2 lsn_t2
  obtain ⟨a3, _, h3, _⟩ := sen_of_laid h (n := "herepath/api.ErrShape") (lsn_at 2 rfl) lsn_g3 lsn_t3
  obtain ⟨a5, _, h5, _⟩ := sen_of_laid h (n := "herepath/api.ErrNone") (lsn_at 3 rfl) lsn_g5 lsn_t5
  exact ⟨fun k => if k = 2 then a2 else if k = 3 then a3 else a5, h2, h3, h5⟩

set_option maxRecDepth 100000 in
theorem lsn_lifted (os : Os) (started : os.Started) (H : Type) (enc : TypeId × Value → H) :
    ReturnsInHanded {} Tryd.checked os 4 .any (fun w args => (Rows.setNormalSpec.pre enc Tryd.prog Tryd.f4 [] false w args ∧ laidMetH Tryd.prog Rows.setNormalRow.laid w) ∧ sizedMet enc Tryd.prog Tryd.f4 (OpenSpec.ofChange Rows.setNormalSpec) false w args)
      (Rows.setNormalSpec.post enc Tryd.prog Tryd.f4 false true false false) := by
  refine returns_and_shaped (C := Tryd.checked) (X := fun w _ => laidMetH Tryd.prog Rows.setNormalRow.laid w) (fun _ _ _ hh h => h.of_heap hh) own started (by kernel_rfl) Tryd.func4
    (ChangeSpec.witness_shaped (enc := enc) (C := Tryd.checked) (os := os) (X := fun w _ => laidMetH Tryd.prog Rows.setNormalRow.laid w) false (World.laidAll Tryd.prog os Rows.setNormalRow.laid) #[.slice none 0 0, .slice none 0 0, .int .i64 0] 8 (World.laidAll_os _ _ _) (World.shaped_of_ZipB (by kernel_rfl) (by kernel_rfl)) (by kernel_rfl) (by kernel_rfl) (by kernel_rfl) (lsn_door os _)) ?_
  intro W base args ds gs before hval0 hW _ _ hL hsh _
  have hval : ∀ (j : Nat) t v, Tryd.f4.params[j]? = some t → args[j]? = some v → Value.okWide Tryd.prog W .any base t v := hval0
  have hW' := hW
  obtain ⟨p, q, hA0, hV, rfl, hfz, hnd⟩ := hW
  have hA : DataW.TrodAll enc Tryd.prog W 0 (fun _ => true) true Tryd.f4.params.toList args.toList ds p := hA0
  obtain ⟨rfl, rfl⟩ := trodVars_none hV
  have hlt : ∀ x ∈ p, x.block < W.heap.size := fun x hx => hW'.lt x (by simpa using hx)
  have hA2 := hA
  rw [Tryd.params4] at hA hval
  obtain ⟨v0, vs0, d0, ds0, p0, q0, hargs, rfl, rfl, h0, r0⟩ := trodAll_cons hA
  obtain ⟨v1, vs1, d1, ds1, p1, q1, rfl, rfl, rfl, h1, r1⟩ := trodAll_cons r0
  obtain ⟨v2, vs2, d2, ds2, p2, q2, rfl, rfl, rfl, h2, r2⟩ := trodAll_cons r1
  obtain ⟨rfl, rfl, rfl⟩ := trodAll_nil r2
  obtain rfl : args = #[v0, v1, v2] := by cases args; simp_all
  obtain ⟨A0, len0, cap0, rfl⟩ := okWide_slice Tryd.underlying22 (hval 0 22 v0 rfl rfl)
  obtain ⟨fuel0, hf0⟩ := h0
  obtain ⟨A1, len1, cap1, rfl⟩ := okWide_slice Tryd.underlying22 (hval 1 22 v1 rfl rfl)
  obtain ⟨fuel1, hf1⟩ := h1
  obtain ⟨x, rfl, rfl, rfl, wr2⟩ := open_int Tryd.underlying3 (hval 2 3 v2 rfl rfl) h2
  obtain ⟨htx, E, s2, s3, s5⟩ := lsn_sens hL hsh
  obtain ⟨B0, cap0, a, e0, l0, rr0, _⟩ := rows_read (pf_reads W) Tryd.underlying22 cellsPf (by omega) (by simpa [Value.cells] using hf0)
  obtain ⟨rfl, rfl, rfl⟩ : A0 = B0 ∧ len0 = a.length ∧ _ = cap0 := by simpa using e0
  obtain ⟨B1, cap1, b, e1, l1, rr1, _⟩ := rows_read (pf_reads W) Tryd.underlying22 cellsPf (by omega) (by simpa [Value.cells] using hf1)
  obtain ⟨rfl, rfl, rfl⟩ : A1 = B1 ∧ len1 = b.length ∧ _ = cap1 := by simpa using e1
  clear hA0 hval0
  refine (setNormal_any A0 A1 _ _ _ _ a b x E W htx s2 s3 rr0 rfl rr1 rfl).mono fun e W1 ⟨he, hn⟩ => ?_
  subst he
  exact ⟨_, rfl, _, _, _, [], _, [], hW', trodAll_mk1 (shut_bool Tryd.underlying4 _), trodAll_below laidOut hn.below _ _ _ _ (by kernel_rfl) hA2 hlt, rfl, hn.below.frame _, fun h => by cases h⟩

theorem setNormal_holds : Rows.SetNormalSaid :=
  OpenClaim.holds_of_wide 4 Tryd.f4 rfl rfl rfl rfl rfl rfl rfl ⟨rfl, rfl, rfl, rfl, rfl⟩ rfl rfl rfl rfl rfl (by kernel_rfl) Tryd.func4 (by kernel_rfl)
    (of_decide_eq_true (by kernel_rfl)) (by unfold Func.isWrapper; first | (rw [if_pos (by decide +kernel)]; kernel_rfl) | (rw [if_neg (by decide +kernel)]; exact ⟨rfl, rfl⟩))
    (fun os started H enc _ => lsn_lifted os started H enc)
end Go.Proofs.YtignngpligicjaaDoor

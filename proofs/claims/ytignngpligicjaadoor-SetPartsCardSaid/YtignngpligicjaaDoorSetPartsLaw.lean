/- The law SetParts holds for every input: what is taken off, and put back, is there; a set less two is less one and less the other; two sets that are in each other are one. Its condition is the row's own: the listed variables are as the program's text lays them. -/
import Derived.Test.YtignngpligicjaaDoorSetP
import Derived.Test.YtignngpligicjaaDoorStZ
import Derived.Test.YtignngpligicjaaDoorCards
import Derived.Test.YtignngpligicjaaDoorTie
import Derived.SevenTiedAt
import Derived.Lay
namespace Go.Proofs.YtignngpligicjaaDoor
open Go.ChangeShapes Go.WideShapes Go.ChangeAt Go.RowKit Go.Deep

theorem lsp_g2 : Tryd.prog.globalNamed "herepath/api.ErrBound" = some gBound := by kernel_rfl
theorem lsp_t2 : (Tryd.prog.globals[gBound]?).map (·.type) = some 25 := by kernel_rfl
theorem lsp_g3 : Tryd.prog.globalNamed "herepath/api.ErrShape" = some gShape := by kernel_rfl
theorem lsp_t3 : (Tryd.prog.globals[gShape]?).map (·.type) = some 25 := by kernel_rfl
theorem lsp_laid_plain : (Rows.setPartsRow.laid.all fun x => x.2.handleName?.isNone) = true := by kernel_rfl
theorem lsp_door (os : Os) (args : Array Value) : laidMetH Tryd.prog Rows.setPartsRow.laid ((World.laidAll Tryd.prog os Rows.setPartsRow.laid).forCall (fun _ _ => 0) ⟨#[], args, []⟩).memory :=
  (MakeChecks.laidMetH_plain _ _ _ lsp_laid_plain).symm ▸ laidMet_laidAll _ (by kernel_rfl) (by kernel_rfl)
theorem lsp_at {α : Type} {l : List α} {x : α} (n : Nat) (h : l[n]? = some x) : x ∈ l := List.mem_of_getElem? h

/-- What the listed variables give. -/
theorem lsp_sens {W : World} (h : laidMetH Tryd.prog Rows.setPartsRow.laid W) (hsh : W.ShapedOpen Tryd.prog) : TzOk W ∧ ∃ E : Nat → Addr, Sen W gBound (E 2) ∧ Sen W gShape (E 3) := by
  rw [MakeChecks.laidMetH_plain _ _ _ lsp_laid_plain] at h
  refine ⟨tz_of_laid h (lsp_at 0 rfl), ?_⟩
  obtain ⟨a2, _, h2, _⟩ := sen_of_laid h (n := "herepath/api.ErrBound") (lsp_at 1 rfl) lsp_g2 lsp_t2
  obtain ⟨a3, _, h3, _⟩ := sen_of_laid h (n := "herepath/api.ErrShape") (lsp_at 2 rfl) lsp_g3 lsp_t3
  exact ⟨fun k => if k = 2 then a2 else a3, h2, h3⟩

set_option maxRecDepth 100000 in
theorem lsp_lifted (os : Os) (started : os.Started) (H : Type) (enc : TypeId × Value → H) :
    ReturnsInHanded {} Tryd.checked os 3 .any (fun w args => (Rows.setPartsSpec.pre enc Tryd.prog Tryd.f3 [] false w args ∧ laidMetH Tryd.prog Rows.setPartsRow.laid w) ∧ sizedMet enc Tryd.prog Tryd.f3 (OpenSpec.ofChange Rows.setPartsSpec) false w args)
      (Rows.setPartsSpec.post enc Tryd.prog Tryd.f3 false true false false) := by
  refine returns_and_shaped (C := Tryd.checked) (X := fun w _ => laidMetH Tryd.prog Rows.setPartsRow.laid w) (fun _ _ _ hh h => h.of_heap hh) own started (by kernel_rfl) Tryd.func3
    (ChangeSpec.witness_shaped (enc := enc) (C := Tryd.checked) (os := os) (X := fun w _ => laidMetH Tryd.prog Rows.setPartsRow.laid w) false (World.laidAll Tryd.prog os Rows.setPartsRow.laid) #[.slice none 0 0, .slice none 0 0, .slice none 0 0] 8 (World.laidAll_os _ _ _) (World.shaped_of_ZipB (by kernel_rfl) (by kernel_rfl)) (by kernel_rfl) (by kernel_rfl) (by kernel_rfl) (lsp_door os _)) ?_
  intro W base args ds gs before hval0 hW _ _ hL hsh _
  have hval : ∀ (j : Nat) t v, Tryd.f3.params[j]? = some t → args[j]? = some v → Value.okWide Tryd.prog W .any base t v := hval0
  have hW' := hW
  obtain ⟨p, q, hA0, hV, rfl, hfz, hnd⟩ := hW
  have hA : DataW.TrodAll enc Tryd.prog W 0 (fun _ => true) true Tryd.f3.params.toList args.toList ds p := hA0
  obtain ⟨rfl, rfl⟩ := trodVars_none hV
  have hlt : ∀ x ∈ p, x.block < W.heap.size := fun x hx => hW'.lt x (by simpa using hx)
  have hA2 := hA
  rw [Tryd.params3] at hA hval
  obtain ⟨v0, vs0, d0, ds0, p0, q0, hargs, rfl, rfl, h0, r0⟩ := trodAll_cons hA
  obtain ⟨v1, vs1, d1, ds1, p1, q1, rfl, rfl, rfl, h1, r1⟩ := trodAll_cons r0
  obtain ⟨v2, vs2, d2, ds2, p2, q2, rfl, rfl, rfl, h2, r2⟩ := trodAll_cons r1
  obtain ⟨rfl, rfl, rfl⟩ := trodAll_nil r2
  obtain rfl : args = #[v0, v1, v2] := by cases args; simp_all
  obtain ⟨A0, len0, cap0, rfl⟩ := okWide_slice Tryd.underlying22 (hval 0 22 v0 rfl rfl)
  obtain ⟨fuel0, hf0⟩ := h0
  obtain ⟨A1, len1, cap1, rfl⟩ := okWide_slice Tryd.underlying22 (hval 1 22 v1 rfl rfl)
  obtain ⟨fuel1, hf1⟩ := h1
  obtain ⟨A2, len2, cap2, rfl⟩ := okWide_slice Tryd.underlying22 (hval 2 22 v2 rfl rfl)
  obtain ⟨fuel2, hf2⟩ := h2
  obtain ⟨htx, E, s2, s3⟩ := lsp_sens hL hsh
  obtain ⟨B0, cap0, a, e0, l0, rr0, _⟩ := rows_read (pf_reads W) Tryd.underlying22 cellsPf (by omega) (by simpa [Value.cells] using hf0)
  obtain ⟨rfl, rfl, rfl⟩ : A0 = B0 ∧ len0 = a.length ∧ _ = cap0 := by simpa using e0
  obtain ⟨B1, cap1, b, e1, l1, rr1, _⟩ := rows_read (pf_reads W) Tryd.underlying22 cellsPf (by omega) (by simpa [Value.cells] using hf1)
  obtain ⟨rfl, rfl, rfl⟩ : A1 = B1 ∧ len1 = b.length ∧ _ = cap1 := by simpa using e1
  obtain ⟨B2, cap2, c, e2, l2, rr2, _⟩ := rows_read (pf_reads W) Tryd.underlying22 cellsPf (by omega) (by simpa [Value.cells] using hf2)
  obtain ⟨rfl, rfl, rfl⟩ : A2 = B2 ∧ len2 = c.length ∧ _ = cap2 := by simpa using e2
  clear hA0 hval0
  refine (setParts_any A0 A1 A2 _ _ _ _ _ _ a b c E W htx s2 s3 rr0 rfl rr1 rfl rr2 rfl).mono fun e W1 ⟨he, hn⟩ => ?_
  subst he
  exact ⟨_, rfl, _, _, _, [], _, [], hW', trodAll_mk1 (shut_bool Tryd.underlying4 _), trodAll_below laidOut hn.below _ _ _ _ (by kernel_rfl) hA2 hlt, rfl, hn.below.frame _, fun h => by cases h⟩

theorem setParts_holds : Rows.SetPartsSaid :=
  OpenClaim.holds_of_wide 3 Tryd.f3 rfl rfl rfl rfl rfl rfl rfl ⟨rfl, rfl, rfl, rfl, rfl⟩ rfl rfl rfl rfl rfl (by kernel_rfl) Tryd.func3 (by kernel_rfl)
    (of_decide_eq_true (by kernel_rfl)) (by unfold Func.isWrapper; first | (rw [if_pos (by decide +kernel)]; kernel_rfl) | (rw [if_neg (by decide +kernel)]; exact ⟨rfl, rfl⟩))
    (fun os started H enc _ => lsp_lifted os started H enc)
end Go.Proofs.YtignngpligicjaaDoor

/- The law IpHalves holds for every input: an address of a prefix is in just one of its halves, and a half is of the one above; two prefixes have one in the other, or nothing together; what is written is read again. Its condition is the row's own: the listed variables are as the program's text lays them. -/
import Derived.Test.YtkljanjapcpbdaaDoorIh4
import Derived.Test.YtkljanjapcpbdaaDoorLawT
import Derived.Test.YtkljanjapcpbdaaDoorCards
import Derived.Test.YtkljanjapcpbdaaDoorTie
import Derived.SevenTiedAt
import Derived.Lay
namespace Go.Proofs.YtkljanjapcpbdaaDoor
open Go.ChangeShapes Go.WideShapes Go.ChangeAt Go.RowKit Go.Deep

theorem lih_g1 : Tryd.prog.globalNamed "herepath/api.ErrText" = some gText1 := by kernel_rfl
theorem lih_t1 : (Tryd.prog.globals[gText1]?).map (·.type) = some 27 := by kernel_rfl
theorem lih_g2 : Tryd.prog.globalNamed "herepath/api.ErrBound" = some gBound := by kernel_rfl
theorem lih_t2 : (Tryd.prog.globals[gBound]?).map (·.type) = some 27 := by kernel_rfl
theorem lih_g3 : Tryd.prog.globalNamed "herepath/api.ErrShape" = some gShape := by kernel_rfl
theorem lih_t3 : (Tryd.prog.globals[gShape]?).map (·.type) = some 27 := by kernel_rfl
theorem lih_g5 : Tryd.prog.globalNamed "herepath/api.ErrNone" = some gNone := by kernel_rfl
theorem lih_t5 : (Tryd.prog.globals[gNone]?).map (·.type) = some 27 := by kernel_rfl
theorem lih_laid_plain : (Rows.ipHalvesRow.laid.all fun x => x.2.handleName?.isNone) = true := by kernel_rfl
theorem lih_door (os : Os) (args : Array Value) : laidMetH Tryd.prog Rows.ipHalvesRow.laid ((World.laidAll Tryd.prog os Rows.ipHalvesRow.laid).forCall (fun _ _ => 0) ⟨#[], args, []⟩).memory :=
  (MakeChecks.laidMetH_plain _ _ _ lih_laid_plain).symm ▸ laidMet_laidAll _ (by kernel_rfl) (by kernel_rfl)
theorem lih_at {α : Type} {l : List α} {x : α} (n : Nat) (h : l[n]? = some x) : x ∈ l := List.mem_of_getElem? h

/-- What the listed variables give. -/
theorem lih_sens {W : World} (h : laidMetH Tryd.prog Rows.ipHalvesRow.laid W) (hsh : W.ShapedOpen Tryd.prog) : TxtOk W ∧ ∃ E : Nat → Addr, Sen W gText1 (E 1) ∧ Sen W gBound (E 2) ∧ Sen W gShape (E 3) ∧ Sen W gNone (E 5) := by
  rw [MakeChecks.laidMetH_plain _ _ _ lih_laid_plain] at h
  refine ⟨txt_of_laid h hsh (lih_at 9 rfl) (lih_at 8 rfl) (lih_at 2 rfl), ?_⟩
  obtain ⟨a1, _, h1, _⟩ := sen_of_laid h (n := "herepath/api.ErrText") (lih_at 4 rfl) lih_g1 lih_t1
  obtain ⟨a2, _, h2, _⟩ := sen_of_laid h (n := "herepath/api.ErrBound") (lih_at 5 rfl) lih_g2 lih_t2
  obtain ⟨a3, _, h3, _⟩ := sen_of_laid h (n := "herepath/api.ErrShape") (lih_at 6 rfl) lih_g3 lih_t3
  obtain ⟨a5, _, h5, _⟩ := sen_of_laid h (n := "herepath/api.ErrNone") (lih_at 7 rfl) lih_g5 lih_t5
  exact ⟨fun k => if k = 1 then a1 else if k = 2 then a2 else if k = 3 then a3 else a5, h1, h2, h3, h5⟩

set_option maxRecDepth 100000 in
theorem lih_lifted (os : Os) (started : os.Started) (H : Type) (enc : TypeId × Value → H) :
    ReturnsInHanded {} Tryd.checked os 9 .any (fun w args => (Rows.ipHalvesSpec.pre enc Tryd.prog Tryd.f9 [] false w args ∧ laidMetH Tryd.prog Rows.ipHalvesRow.laid w) ∧ sizedMet enc Tryd.prog Tryd.f9 (OpenSpec.ofChange Rows.ipHalvesSpec) false w args)
      (Rows.ipHalvesSpec.post enc Tryd.prog Tryd.f9 false true false false) := by
  refine returns_and_shaped (C := Tryd.checked) (X := fun w _ => laidMetH Tryd.prog Rows.ipHalvesRow.laid w) (fun _ _ _ hh h => h.of_heap hh) own started (by kernel_rfl) Tryd.func9
    (ChangeSpec.witness_shaped (enc := enc) (C := Tryd.checked) (os := os) (X := fun w _ => laidMetH Tryd.prog Rows.ipHalvesRow.laid w) false (World.laidAll Tryd.prog os Rows.ipHalvesRow.laid) #[.agg #[.int .i64 0, .int .i64 0], .agg #[.int .i64 0, .int .i64 0], .int .i64 0] 8 (World.laidAll_os _ _ _) (World.shaped_of_ZipB (by kernel_rfl) (by kernel_rfl)) (by kernel_rfl) (by kernel_rfl) (by kernel_rfl) (lih_door os _)) ?_
  intro W base args ds gs before hval0 hW _ _ hL hsh _
  have hval : ∀ (j : Nat) t v, Tryd.f9.params[j]? = some t → args[j]? = some v → Value.okWide Tryd.prog W .any base t v := hval0
  have hW' := hW
  obtain ⟨p, q, hA0, hV, rfl, hfz, hnd⟩ := hW
  have hA : DataW.TrodAll enc Tryd.prog W 0 (fun _ => true) true Tryd.f9.params.toList args.toList ds p := hA0
  obtain ⟨rfl, rfl⟩ := trodVars_none hV
  have hlt : ∀ x ∈ p, x.block < W.heap.size := fun x hx => hW'.lt x (by simpa using hx)
  have hA2 := hA
  rw [Tryd.params9] at hA hval
  obtain ⟨v0, vs0, d0, ds0, p0, q0, hargs, rfl, rfl, h0, r0⟩ := trodAll_cons hA
  obtain ⟨v1, vs1, d1, ds1, p1, q1, rfl, rfl, rfl, h1, r1⟩ := trodAll_cons r0
  obtain ⟨v2, vs2, d2, ds2, p2, q2, rfl, rfl, rfl, h2, r2⟩ := trodAll_cons r1
  obtain ⟨rfl, rfl, rfl⟩ := trodAll_nil r2
  obtain rfl : args = #[v0, v1, v2] := by cases args; simp_all
  obtain ⟨cs0, rfl, _⟩ := okWide_struct Tryd.underlying51 (hval 0 51 v0 rfl rfl)
  obtain ⟨fuel0, hf0⟩ := h0
  obtain ⟨cs1, rfl, _⟩ := okWide_struct Tryd.underlying51 (hval 1 51 v1 rfl rfl)
  obtain ⟨fuel1, hf1⟩ := h1
  obtain ⟨x, rfl, rfl, rfl, wr2⟩ := open_int Tryd.underlying3 (hval 2 3 v2 rfl rfl) h2
  obtain ⟨htx, E, s1, s2, s3, s5⟩ := lih_sens hL hsh
  obtain ⟨a, n, rfl⟩ := pf_of_trod (by simpa [Value.cells] using hf0)
  obtain ⟨b, m, rfl⟩ := pf_of_trod (by simpa [Value.cells] using hf1)
  clear hA0 hval0
  refine (ipHalves_any a n b m x E W htx s1 s2 s3 s5).mono fun e W1 ⟨he, hn⟩ => ?_
  subst he
  exact ⟨_, rfl, _, _, _, [], _, [], hW', trodAll_mk1 (shut_bool Tryd.underlying4 _), trodAll_below laidOut hn.below _ _ _ _ (by kernel_rfl) hA2 hlt, rfl, hn.below.frame _, fun h => by cases h⟩

theorem ipHalves_holds : Rows.IpHalvesSaid :=
  OpenClaim.holds_of_wide 9 Tryd.f9 rfl rfl rfl rfl rfl rfl rfl ⟨rfl, rfl, rfl, rfl, rfl⟩ rfl rfl rfl rfl rfl (by kernel_rfl) Tryd.func9 (by kernel_rfl)
    (of_decide_eq_true (by kernel_rfl)) (by unfold Func.isWrapper; first | (rw [if_pos (by decide +kernel)]; kernel_rfl) | (rw [if_neg (by decide +kernel)]; exact ⟨rfl, rfl⟩))
    (fun os started H enc _ => lih_lifted os started H enc)
end Go.Proofs.YtkljanjapcpbdaaDoor

/- The law IpOrder holds for every input: of two right prefixes one is ahead, or they are one; what is in one is not ahead of it; between one and what is in it stands nothing apart from it. Its condition is the row's own: the listed variables are as the program's text lays them. -/
import Derived.Test.YtkljanjapcpbdaaDoorIo2
import Derived.Test.YtkljanjapcpbdaaDoorLawT
import Derived.Test.YtkljanjapcpbdaaDoorCards
import Derived.Test.YtkljanjapcpbdaaDoorTie
import Derived.SevenTiedAt
import Derived.Lay
namespace Go.Proofs.YtkljanjapcpbdaaDoor
open Go.ChangeShapes Go.WideShapes Go.ChangeAt Go.RowKit Go.Deep

theorem io_gT : Tryd.prog.globalNamed "herepath/api.ErrText" = some gText1 := by kernel_rfl
theorem io_gB : Tryd.prog.globalNamed "herepath/api.ErrBound" = some gBound := by kernel_rfl
theorem io_gS : Tryd.prog.globalNamed "herepath/api.ErrShape" = some gShape := by kernel_rfl
theorem io_tT : (Tryd.prog.globals[gText1]?).map (·.type) = some 27 := by kernel_rfl
theorem io_tB : (Tryd.prog.globals[gBound]?).map (·.type) = some 27 := by kernel_rfl
theorem io_tS : (Tryd.prog.globals[gShape]?).map (·.type) = some 27 := by kernel_rfl
theorem io_laid_plain : (Rows.ipOrderRow.laid.all fun x => x.2.handleName?.isNone) = true := by kernel_rfl
theorem io_door (os : Os) (args : Array Value) : laidMetH Tryd.prog Rows.ipOrderRow.laid ((World.laidAll Tryd.prog os Rows.ipOrderRow.laid).forCall (fun _ _ => 0) ⟨#[], args, []⟩).memory :=
  (MakeChecks.laidMetH_plain _ _ _ io_laid_plain).symm ▸ laidMet_laidAll _ (by kernel_rfl) (by kernel_rfl)

theorem mem_at {α : Type} {l : List α} {x : α} (n : Nat) (h : l[n]? = some x) : x ∈ l := List.mem_of_getElem? h

/-- What the listed variables give. -/
theorem io_sens {W : World} (h : laidMetH Tryd.prog Rows.ipOrderRow.laid W) (hsh : W.ShapedOpen Tryd.prog) : TxtOk W ∧ ∃ E : Nat → Addr, Sen W gText1 (E 1) ∧ Sen W gBound (E 2) ∧ Sen W gShape (E 3) := by
  rw [MakeChecks.laidMetH_plain _ _ _ io_laid_plain] at h
  refine ⟨txt_of_laid h hsh (mem_at 8 rfl) (mem_at 7 rfl) (mem_at 2 rfl), ?_⟩
  obtain ⟨a, _, ha, _⟩ := sen_of_laid h (n := "herepath/api.ErrText") (mem_at 4 rfl) io_gT io_tT
  obtain ⟨b, _, hb, _⟩ := sen_of_laid h (n := "herepath/api.ErrBound") (mem_at 5 rfl) io_gB io_tB
  obtain ⟨c, _, hc, _⟩ := sen_of_laid h (n := "herepath/api.ErrShape") (mem_at 6 rfl) io_gS io_tS
  exact ⟨fun k => if k = 1 then a else if k = 2 then b else c, ha, hb, hc⟩

set_option maxRecDepth 100000 in
theorem io_lifted (os : Os) (started : os.Started) (H : Type) (enc : TypeId × Value → H) :
    ReturnsInHanded {} Tryd.checked os 8 .any (fun w args => (Rows.ipOrderSpec.pre enc Tryd.prog Tryd.f8 [] false w args ∧ laidMetH Tryd.prog Rows.ipOrderRow.laid w) ∧ sizedMet enc Tryd.prog Tryd.f8 (OpenSpec.ofChange Rows.ipOrderSpec) false w args)
      (Rows.ipOrderSpec.post enc Tryd.prog Tryd.f8 false true false false) := by
  refine returns_and_shaped (C := Tryd.checked) (X := fun w _ => laidMetH Tryd.prog Rows.ipOrderRow.laid w) (fun _ _ _ hh h => h.of_heap hh) own started (by kernel_rfl) Tryd.func8
    (ChangeSpec.witness_shaped (enc := enc) (C := Tryd.checked) (os := os) (X := fun w _ => laidMetH Tryd.prog Rows.ipOrderRow.laid w) false (World.laidAll Tryd.prog os Rows.ipOrderRow.laid) #[.agg #[.int .i64 0, .int .i64 0], .agg #[.int .i64 0, .int .i64 0], .agg #[.int .i64 0, .int .i64 0]] 8 (World.laidAll_os _ _ _) (World.shaped_of_ZipB (by kernel_rfl) (by kernel_rfl)) (by kernel_rfl) (by kernel_rfl) (by kernel_rfl) (io_door os _)) ?_
  intro W base args ds gs before hval0 hW _ _ hL hsh _
  have hval : ∀ (j : Nat) t v, Tryd.f8.params[j]? = some t → args[j]? = some v → Value.okWide Tryd.prog W .any base t v := hval0
  have hW' := hW
  obtain ⟨p, q, hA0, hV, rfl, hfz, hnd⟩ := hW
  have hA : DataW.TrodAll enc Tryd.prog W 0 (fun _ => true) true Tryd.f8.params.toList args.toList ds p := hA0
  obtain ⟨rfl, rfl⟩ := trodVars_none hV
  have hlt : ∀ x ∈ p, x.block < W.heap.size := fun x hx => hW'.lt x (by simpa using hx)
  have hA2 := hA
  rw [Tryd.params8] at hA hval
  obtain ⟨v0, vs0, d0, ds0, p0, q0, hargs, rfl, rfl, h0, r0⟩ := trodAll_cons hA
  obtain ⟨v1, vs1, d1, ds1, p1, q1, rfl, rfl, rfl, h1, r1⟩ := trodAll_cons r0
  obtain ⟨v2, vs2, d2, ds2, p2, q2, rfl, rfl, rfl, h2, r2⟩ := trodAll_cons r1
  obtain ⟨rfl, rfl, rfl⟩ := trodAll_nil r2
  obtain rfl : args = #[v0, v1, v2] := by cases args; simp_all
  obtain ⟨cs0, rfl, _⟩ := okWide_struct Tryd.underlying51 (hval 0 51 v0 rfl rfl)
  obtain ⟨cs1, rfl, _⟩ := okWide_struct Tryd.underlying51 (hval 1 51 v1 rfl rfl)
  obtain ⟨cs2, rfl, _⟩ := okWide_struct Tryd.underlying51 (hval 2 51 v2 rfl rfl)
  obtain ⟨fuel0, hf0⟩ := h0
  obtain ⟨fuel1, hf1⟩ := h1
  obtain ⟨fuel2, hf2⟩ := h2
  obtain ⟨htx, E, s1, s2, s3⟩ := io_sens hL hsh
  obtain ⟨a, n, rfl⟩ := pf_of_trod (by simpa [Value.cells] using hf0)
  obtain ⟨b, m, rfl⟩ := pf_of_trod (by simpa [Value.cells] using hf1)
  obtain ⟨c, o, rfl⟩ := pf_of_trod (by simpa [Value.cells] using hf2)
  clear hA0 hval0
  refine (ipOrder_any a n b m c o E W htx s1 s2 s3).mono fun e W1 ⟨he, hn⟩ => ?_
  subst he
  exact ⟨_, rfl, _, _, _, [], _, [], hW', trodAll_mk1 (shut_bool Tryd.underlying4 _), trodAll_below laidOut hn.below _ _ _ _ (by kernel_rfl) hA2 hlt, rfl, hn.below.frame _, fun h => by cases h⟩

theorem ipOrder_holds : Rows.IpOrderSaid :=
  OpenClaim.holds_of_wide 8 Tryd.f8 rfl rfl rfl rfl rfl rfl rfl ⟨rfl, rfl, rfl, rfl, rfl⟩ rfl rfl rfl rfl rfl (by kernel_rfl) Tryd.func8 (by kernel_rfl)
    (of_decide_eq_true (by kernel_rfl)) (by unfold Func.isWrapper; first | (rw [if_pos (by decide +kernel)]; kernel_rfl) | (rw [if_neg (by decide +kernel)]; exact ⟨rfl, rfl⟩))
    (fun os started H enc _ => io_lifted os started H enc)
end Go.Proofs.YtkljanjapcpbdaaDoor

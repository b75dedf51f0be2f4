/- The law RuleTells, and its tied card: for every input the call returns true: rules do what the document's own do. Its condition is the row's own: the listed errors of package api, and errors.errorType, are as the program's text lays them; the card ties them to that text. -/
import Derived.Test.YtkljanjapcpbdaaDoorPc3
import Derived.Test.YtkljanjapcpbdaaDoorRt2
import Derived.Test.YtkljanjapcpbdaaDoorRuL
import Derived.Test.YtkljanjapcpbdaaDoorLawP
namespace Go.Proofs.YtkljanjapcpbdaaDoor
open Go.ChangeShapes Go.WideShapes Go.ChangeAt Go.RowKit Go.Deep

set_option maxRecDepth 20000 in
set_option maxHeartbeats 4000000 in
theorem rt_early (A : Option Addr) (n c : Nat) (l : List RuR) (s x m : Int) (a : AttrR) (E : Nat → Addr) (w : World) (h : Errs w E)
    (hx : Rules w A l) (hn : l.length = n) (ha : AttrOk w a) (h9 : 15 < n ∨ 20 < a.path.length ∨ 15 < a.tags.length) :
    Calls Tryd.prog 7 #[.slice A n c, .int .i64 s, .agg #[.int .i64 x, .int .i64 m], .agg a.cells] w fun e w1 => e = .returned (.bool true) ∧ New w w1 := by
  have u := ((Upd.refl (fun _ => False) w).alloc (.cells #[.int .i64 x, .int .i64 m] TPx)).alloc (.cells a.cells TA)
  have b0 := (Blk.new w TPx #[.int .i64 x, .int .i64 m]).alloc (.cells a.cells TA)
  have b1 := Blk.at_ (w.alloc (.cells #[.int .i64 x, .int .i64 m] TPx)) TA a.cells (w.heap.size + 1) (by simp)
  have H := hide h
  have Ha := hide ha
  have Hx := hide hx
  have Hn := hide hn
  have N := hide u
  have HK := hide b0
  have HM := hide b1
  clear ha u b0 b1 h hx hn
  unfold AttrR.cells at *
  by_cases q1 : 15 < n
  · have i1 : (15 : Int) < (n : Int) := by omega
    clear h9
    go_enter Tryd.func7, Tryd.ntmps7
    go_upto_region 1 with (fail)
    generalize ((w.alloc (.cells #[.int .i64 x, .int .i64 m] TPx)).alloc (.cells #[.slice a.P a.path.length a.pc, .int .i64 a.pref, .int .i64 a.med, .int .i64 a.origin, .slice a.T a.tags.length a.tc] TA)) = W at *
    have Hrd := hide (ruled_any E W (H.out.new N.out).s2 (H.out.new N.out).s3 (H.out.new N.out).s7 (H.out.new N.out).s8)
    go_wp2_with fail
    refine Hrd.out.mono ?_
    rintro e w1 ⟨rfl, hu⟩
    have N := hide (N.out.trans_new hu)
    have HK := hide (HK.out.new_ hu)
    have HM := hide (HM.out.new_ hu)
    clear hu
    go_wp2_with fail
    go_ret
    exact ⟨rfl, N.out⟩
  · have i1 : ¬ (15 : Int) < (n : Int) := by omega
    have q2 : 20 < a.path.length ∨ 15 < a.tags.length := by omega
    clear h9
    go_enter Tryd.func7, Tryd.ntmps7
    go_upto_region 1 with (fail)
    generalize ((w.alloc (.cells #[.int .i64 x, .int .i64 m] TPx)).alloc (.cells #[.slice a.P a.path.length a.pc, .int .i64 a.pref, .int .i64 a.med, .int .i64 a.origin, .slice a.T a.tags.length a.tc] TA)) = W at *
    have Hrd := hide (ruled_any E W (H.out.new N.out).s2 (H.out.new N.out).s3 (H.out.new N.out).s7 (H.out.new N.out).s8)
    go_wp2_with fail
    refine Hrd.out.mono ?_
    rintro e w1 ⟨rfl, hu⟩
    have N := hide (N.out.trans_new hu)
    have HK := hide (HK.out.new_ hu)
    have HM := hide (HM.out.new_ hu)
    clear hu
    have bq := HM.out
    have m0 := bq.cell 0
    have m1 := bq.cell 1
    have m2 := bq.cell 2
    have m3 := bq.cell 3
    have m4 := bq.cell 4
    have zM := bq.lt
    simp only [List.getElem?_toArray, List.getElem?_cons_zero, List.getElem?_cons_succ] at m0 m1 m2 m3 m4
    clear bq
    have Hlg := hide (longAttr_yes a w1 q2)
    unfold AttrR.cells at Hlg
    go_wp2_with fail
    refine Hlg.out.mono ?_
    rintro e w2 ⟨rfl, hu⟩
    have N := hide (N.out.trans_new hu)
    have HK := hide (HK.out.new_ hu)
    have HM := hide (HM.out.new_ hu)
    clear hu
    go_wp2_with fail
    go_ret
    exact ⟨rfl, N.out⟩

theorem ruleTells_any (A : Option Addr) (n c : Nat) (l : List RuR) (s x m : Int) (a : AttrR) (E : Nat → Addr) (w : World) (h : Errs w E)
    (hx : Rules w A l) (hn : l.length = n) (ha : AttrOk w a) :
    Calls Tryd.prog 7 #[.slice A n c, .int .i64 s, .agg #[.int .i64 x, .int .i64 m], .agg a.cells] w fun e w1 => e = .returned (.bool true) ∧ New w w1 := by
  by_cases h9 : 15 < n ∨ 20 < a.path.length ∨ 15 < a.tags.length
  · exact rt_early A n c l s x m a E w h hx hn ha h9
  · exact rt_main A n c l s x m a E w h hx hn ha (by omega) (by omega) (by omega)
theorem rt_door (os : Os) (args : Array Value) : laidMetH Tryd.prog (handleVar :: nineVars) ((World.doorLaid Tryd.prog 4000 os).forCall (fun _ _ => 0) ⟨#[], args, []⟩).memory :=
  laidMetH_of_parts (by rw [nine_plain]; exact laidMet_of_run' 8 (by kernel_rfl) (by kernel_rfl)) (by rw [nine_handle]; kernel_rfl)

set_option maxRecDepth 100000 in
theorem rt_lifted (os : Os) (started : os.Started) (H : Type) (enc : TypeId × Value → H) :
    ReturnsInHanded {} Tryd.checked os 7 .any (fun w args => (Rows.ruleTellsSpec.pre enc Tryd.prog Tryd.f7 [] false w args ∧ laidMetH Tryd.prog Rows.ruleTellsRow.laid w) ∧ sizedMet enc Tryd.prog Tryd.f7 (OpenSpec.ofChange Rows.ruleTellsSpec) false w args)
      (Rows.ruleTellsSpec.post enc Tryd.prog Tryd.f7 false true false false) := by
  refine returnsInHanded_of_change_and (C := Tryd.checked) (X := fun w _ => laidMetH Tryd.prog Rows.ruleTellsRow.laid w) (fun _ _ _ hh h => h.of_heap hh) own started (by kernel_rfl) Tryd.func7
    (ChangeSpec.witness_shaped (enc := enc) (C := Tryd.checked) (os := os) (X := fun w _ => laidMetH Tryd.prog Rows.ruleTellsRow.laid w) false (World.doorLaid Tryd.prog 4000 os) #[.slice none 0 0, .int .i64 0, .agg #[.int .i64 0, .int .i64 0], .agg #[.slice none 0 0, .int .i64 0, .int .i64 0, .int .i64 0, .slice none 0 0]] 8 rfl (World.shaped_of_RefB (by kernel_rfl) (by kernel_rfl)) (by kernel_rfl) (by kernel_rfl) (by kernel_rfl) (rt_door os _)) ?_
  intro W base args ds gs before hval0 hW _ _ hL _
  have hval : ∀ (j : Nat) t v, Tryd.f7.params[j]? = some t → args[j]? = some v → Value.okWide Tryd.prog W .any base t v := hval0
  have hW' := hW
  obtain ⟨p, q, hA0, hV, rfl, hfz, hnd⟩ := hW
  have hA : DataW.TrodAll enc Tryd.prog W 0 (fun _ => true) true Tryd.f7.params.toList args.toList ds p := hA0
  obtain ⟨rfl, rfl⟩ := trodVars_none hV
  have hlt : ∀ x ∈ p, x.block < W.heap.size := fun x hx => hW'.lt x (by simpa using hx)
  have hA2 := hA
  rw [Tryd.params7] at hA hval
  obtain ⟨v0, vs0, d0, ds0, p0, q0, hargs, rfl, rfl, h0, r0⟩ := trodAll_cons hA
  obtain ⟨v1, vs1, d1, ds1, p1, q1, rfl, rfl, rfl, h1, r1⟩ := trodAll_cons r0
  obtain ⟨v2, vs2, d2, ds2, p2, q2, rfl, rfl, rfl, h2, r2⟩ := trodAll_cons r1
  obtain ⟨v3, vs3, d3, ds3, p3, q3, rfl, rfl, rfl, h3, r3⟩ := trodAll_cons r2
  obtain ⟨rfl, rfl, rfl⟩ := trodAll_nil r3
  obtain rfl : args = #[v0, v1, v2, v3] := by cases args; simp_all
  obtain ⟨A, len, cap, rfl⟩ := okWide_slice Tryd.underlying77 (hval 0 77 v0 rfl rfl)
  obtain ⟨n1, rfl, rfl, rfl, w1⟩ := open_int Tryd.underlying3 (hval 1 3 v1 rfl rfl) h1
  obtain ⟨cs2, rfl, _⟩ := okWide_struct Tryd.underlying51 (hval 2 51 v2 rfl rfl)
  obtain ⟨cs3, rfl, _⟩ := okWide_struct Tryd.underlying80 (hval 3 80 v3 rfl rfl)
  obtain ⟨fuel0, hf0⟩ := h0
  obtain ⟨fuel2, hf2⟩ := h2
  obtain ⟨fuel3, hf3⟩ := h3
  obtain ⟨E, hE⟩ := errs_of_laid hL
  obtain ⟨l, hl, hll, _⟩ := rules_of_trod (by simpa [Value.cells] using hf0)
  obtain ⟨x, m, rfl⟩ := pfx_of_trod (by simpa [Value.cells] using hf2)
  obtain ⟨a, rfl, ha⟩ := attr_of_trod (by simpa [Value.cells] using hf3)
  clear hA0 hval0
  refine (ruleTells_any A len cap l n1 x m a E W hE hl hll ha).mono fun e W1 ⟨he, hn⟩ => ?_
  subst he
  exact ⟨_, rfl, _, _, _, [], _, [], hW', trodAll_mk1 (shut_bool Tryd.underlying4 _), trodAll_below laidOut hn.below _ _ _ _ (by kernel_rfl) hA2 hlt, rfl, hn.below.frame _, fun h => by cases h⟩

theorem ruleTells_holds : Rows.RuleTellsSaid :=
  OpenClaim.holds_of_wide 7 Tryd.f7 rfl rfl rfl rfl rfl rfl rfl ⟨rfl, rfl, rfl, rfl, rfl⟩ rfl rfl rfl rfl rfl (by kernel_rfl) Tryd.func7 (by kernel_rfl)
    (of_decide_eq_true (by kernel_rfl)) (by unfold Func.isWrapper; first | (rw [if_pos (by decide +kernel)]; kernel_rfl) | (rw [if_neg (by decide +kernel)]; exact ⟨rfl, rfl⟩))
    (fun os started H enc _ => rt_lifted os started H enc)

theorem ruleTells_card : Rows.RuleTellsCardSaid :=
  Claim7.holds_tied_plain_at .later [] _ true _ _
    ruleTells_holds (fun _ h => by cases h) (by kernel_rfl) (fun _ h => by cases h) ruleTells_row_tie rfl ⟨rfl, rfl⟩ (by kernel_rfl) rfl
    (fun f fn hf hfn => by
      obtain rfl : f = 7 := Option.some.inj ((show Tryd.prog.funcNamed "herepath/herepathlaw2.RuleTells" = some 7 by kernel_rfl).symm.trans hf) |>.symm
      obtain rfl : fn = Tryd.f7 := (Option.some.inj (Tryd.func7.symm.trans hfn)).symm
      exact ⟨by kernel_rfl, fun j t ht => by
        have hm : t ∈ Tryd.f7.params := Array.mem_of_getElem? ht
        have hall : (Tryd.f7.params.toList.all fun u => !Tryd.prog.wantsStandIn u) = true := by kernel_rfl
        exact (show Tryd.prog.wantsStandIn t = false by simpa using List.all_eq_true.1 hall t (by simpa using hm))⟩)
    (by kernel_rfl)
end Go.Proofs.YtkljanjapcpbdaaDoor

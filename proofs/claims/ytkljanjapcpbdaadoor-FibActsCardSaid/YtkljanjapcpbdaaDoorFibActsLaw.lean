/- The law FibActs holds for every input: a table does what the document's own does, act by act. Its condition is the row's own: the listed errors of package api, and errors.errorType, are as the program's text lays them. -/
import Derived.Test.YtkljanjapcpbdaaDoorFa2
import Derived.Test.YtkljanjapcpbdaaDoorLawV
import Derived.Test.YtkljanjapcpbdaaDoorLawP
namespace Go.Proofs.YtkljanjapcpbdaaDoor
open Go.ChangeShapes Go.WideShapes Go.ChangeAt Go.RowKit Go.Deep

theorem cellsEnt : Tryd.prog.cellsOf 71 = 3 := by kernel_rfl
theorem cellsAct : Tryd.prog.cellsOf 54 = 5 := by kernel_rfl
theorem cellsSEnt : Tryd.prog.cellsOf 52 = 1 := by kernel_rfl
set_option maxRecDepth 100000 in
theorem ent_reads (W : World) : Reads W 71 E3.cells (fun _ => True) := fun H enc sp held fuel cs x h => by
  have hl := struct_len Tryd.underlying71 h
  rw [cellsEnt] at hl
  obtain ⟨n0, y0, g0⟩ := field_read Tryd.underlying71 h 0 _ rfl 51 0 2 rfl rfl cellsPf
  obtain ⟨n1, y1, g1⟩ := field_read Tryd.underlying71 h 1 _ rfl 3 2 1 rfl rfl cellsInt
  match cs, hl with
  | [c0, c1, c2], _ =>
    obtain ⟨p, e0, _⟩ := pf_reads W _ _ _ _ _ _ _ g0
    obtain ⟨b, e1, _⟩ := DataW.trod_int Tryd.underlying3 g1
    obtain ⟨rfl, rfl⟩ : c0 = .int .i64 p.a ∧ c1 = .int .i64 p.n := by simpa [Pf.cells] using e0
    obtain rfl : c2 = .int .i64 b := by simpa using e1
    exact ⟨⟨p.a, p.n, b⟩, rfl, trivial⟩
set_option maxRecDepth 100000 in
theorem act_reads (W : World) : Reads W 54 ActR.cells (fun e => ActOk W e) := fun H enc sp held fuel cs x h => by
  have hl := struct_len Tryd.underlying54 h
  rw [cellsAct] at hl
  obtain ⟨n0, y0, g0⟩ := field_read Tryd.underlying54 h 0 _ rfl 9 0 1 rfl rfl cellsStr1
  obtain ⟨n1, y1, g1⟩ := field_read Tryd.underlying54 h 1 _ rfl 51 1 2 rfl rfl cellsPf
  obtain ⟨n2, y2, g2⟩ := field_read Tryd.underlying54 h 2 _ rfl 3 3 1 rfl rfl cellsInt
  obtain ⟨n3, y3, g3⟩ := field_read Tryd.underlying54 h 3 _ rfl 52 4 1 rfl rfl cellsSEnt
  match cs, hl with
  | [c0, c1, c2, c3, c4], _ =>
    obtain ⟨s, e0, _⟩ := DataW.trod_string Tryd.underlying9 g0
    obtain ⟨p, e1, _⟩ := pf_reads W _ _ _ _ _ _ _ g1
    obtain ⟨b, e2, _⟩ := DataW.trod_int Tryd.underlying3 g2
    obtain ⟨A3, k3, xs3, e3, l3, h3, _⟩ := rows_read (ent_reads W) Tryd.underlying52 cellsEnt (by omega) g3
    obtain rfl : c0 = .string s := by simpa using e0
    obtain ⟨rfl, rfl⟩ : c1 = .int .i64 p.a ∧ c2 = .int .i64 p.n := by simpa [Pf.cells] using e1
    obtain rfl : c3 = .int .i64 b := by simpa using e2
    obtain rfl : c4 = .slice A3 xs3.length k3 := by simpa using e3
    exact ⟨⟨s, p.a, p.n, b, A3, k3, xs3⟩, rfl, ⟨h3, l3⟩⟩
theorem acts_of_trod {H : Type} {enc : TypeId × Value → H} {W : World} {sp : Nat → Bool} {held : Bool} {fuel : Nat} {A : Option Addr} {len cap : Nat} {x : DataW H × List MemPlace}
    (h : DataW.trod enc Tryd.prog W 0 sp held fuel 44 [.slice A len cap] = some x) : ∃ es, Acts W A es ∧ es.length = len := by
  obtain ⟨A1, cap1, es, e, _, hr, ho⟩ := rows_read (act_reads W) Tryd.underlying44 cellsAct (by omega) h
  injection e with e
  injection e with e1 e2 e3
  subst e1
  exact ⟨es, ⟨hr, ho⟩, e2.symm⟩

set_option maxRecDepth 20000 in
set_option maxHeartbeats 2000000 in
theorem fibActs_any (most : Int) (A : Option Addr) (n c : Nat) (l : List ActR) (a : Int) (E : Nat → Addr) (w : World) (h : Errs w E) (hx : Acts w A l) (hn : l.length = n) :
    Calls Tryd.prog 4 #[.int .i64 most, .slice A n c, .int .i64 a] w fun e w1 => e = .returned (.bool true) ∧ New w w1 := by
  cases hl : longL l with
  | false => exact fibActs_main most A n c l a E w h hx hn hl
  | true =>
    have Htb := hide (tabled_any E w h.s2 h.s3)
    have hlo := fun w1 (hu : New w w1) => longActs_any A n c l w1 (hx.new_ hu) hn
    rw [hl] at hlo
    have Hlo := hide hlo
    clear hlo hl h hx hn
    go_enter Tryd.func4, Tryd.ntmps4
    go_wp2_with fail
    refine Htb.out.mono ?_
    rintro e w1 ⟨rfl, hu1⟩
    have Hlo1 := hide (Hlo.out w1 hu1)
    have U1 := hide hu1
    clear hu1
    go_wp2_with fail
    refine Hlo1.out.mono ?_
    rintro e w2 ⟨rfl, hu2⟩
    have N2 := hide (U1.out.trans_new hu2)
    clear hu2
    go_wp2_with fail
    go_ret
    exact ⟨rfl, N2.out⟩
theorem fa_door (os : Os) (args : Array Value) : laidMetH Tryd.prog (handleVar :: nineVars) ((World.doorLaid Tryd.prog 4000 os).forCall (fun _ _ => 0) ⟨#[], args, []⟩).memory :=
  laidMetH_of_parts (by rw [nine_plain]; exact laidMet_of_run' 8 (by kernel_rfl) (by kernel_rfl)) (by rw [nine_handle]; kernel_rfl)

set_option maxRecDepth 100000 in
theorem fa_lifted (os : Os) (started : os.Started) (H : Type) (enc : TypeId × Value → H) :
    ReturnsInHanded {} Tryd.checked os 4 .any (fun w args => (Rows.fibActsSpec.pre enc Tryd.prog Tryd.f4 [] false w args ∧ laidMetH Tryd.prog Rows.fibActsRow.laid w) ∧ sizedMet enc Tryd.prog Tryd.f4 (OpenSpec.ofChange Rows.fibActsSpec) false w args)
      (Rows.fibActsSpec.post enc Tryd.prog Tryd.f4 false true false false) := by
  refine returnsInHanded_of_change_and (C := Tryd.checked) (X := fun w _ => laidMetH Tryd.prog Rows.fibActsRow.laid w) (fun _ _ _ hh h => h.of_heap hh) own started (by kernel_rfl) Tryd.func4
    (ChangeSpec.witness_shaped (enc := enc) (C := Tryd.checked) (os := os) (X := fun w _ => laidMetH Tryd.prog Rows.fibActsRow.laid w) false (World.doorLaid Tryd.prog 4000 os) #[.int .i64 0, .slice none 0 0, .int .i64 0] 8 rfl (World.shaped_of_RefB (by kernel_rfl) (by kernel_rfl)) (by kernel_rfl) (by kernel_rfl) (by kernel_rfl) (fa_door os _)) ?_
  intro W base args ds gs before hval0 hW _ _ hL _
  have hval : ∀ (j : Nat) t v, Tryd.f4.params[j]? = some t → args[j]? = some v → Value.okWide Tryd.prog W .any base t v := hval0
  have hW' := hW
  obtain ⟨p, q, hA0, hV, rfl, hfz, hnd⟩ := hW
  have hA : DataW.TrodAll enc Tryd.prog W 0 (fun _ => true) true Tryd.f4.params.toList args.toList ds p := hA0
  obtain ⟨rfl, rfl⟩ := trodVars_none hV
  have hlt : ∀ x ∈ p, x.block < W.heap.size := fun x hx => hW'.lt x (by simpa using hx)
  have hA2 := hA
  rw [Tryd.params4] at hA hval
  obtain ⟨v0, vs0, d0, ds0, p0, q0, hargs, rfl, rfl, h0, r0⟩ := trodAll_cons hA
  obtain ⟨v1, vs1, d1, ds1, p1, q1, rfl, rfl, rfl, h1, r1⟩ := trodAll_cons r0
  obtain ⟨v2, vs2, d2, ds2, p2, q2, rfl, rfl, rfl, h2, r2⟩ := trodAll_cons r1
  obtain ⟨rfl, rfl, rfl⟩ := trodAll_nil r2
  obtain rfl : args = #[v0, v1, v2] := by cases args; simp_all
  obtain ⟨n1, rfl, rfl, rfl, w1⟩ := open_int Tryd.underlying3 (hval 0 3 v0 rfl rfl) h0
  obtain ⟨n2, rfl, rfl, rfl, w2⟩ := open_int Tryd.underlying3 (hval 2 3 v2 rfl rfl) h2
  obtain ⟨A, len, cap, rfl⟩ := okWide_slice Tryd.underlying44 (hval 1 44 v1 rfl rfl)
  obtain ⟨fuel, hf⟩ := h1
  obtain ⟨E, hE⟩ := errs_of_laid hL
  obtain ⟨es, hes, hel⟩ := acts_of_trod (by simpa [Value.cells] using hf)
  clear hA0 hval0
  refine (fibActs_any n1 A len cap es n2 E W hE hes hel).mono fun e W1 ⟨he, hn⟩ => ?_
  subst he
  exact ⟨_, rfl, _, _, _, [], _, [], hW', trodAll_mk1 (shut_bool Tryd.underlying4 _), trodAll_below laidOut hn.below _ _ _ _ (by kernel_rfl) hA2 hlt, rfl, hn.below.frame _, fun h => by cases h⟩

theorem fibActs_holds : Rows.FibActsSaid :=
  OpenClaim.holds_of_wide 4 Tryd.f4 rfl rfl rfl rfl rfl rfl rfl ⟨rfl, rfl, rfl, rfl, rfl⟩ rfl rfl rfl rfl rfl (by kernel_rfl) Tryd.func4 (by kernel_rfl)
    (of_decide_eq_true (by kernel_rfl)) (by unfold Func.isWrapper; first | (rw [if_pos (by decide +kernel)]; kernel_rfl) | (rw [if_neg (by decide +kernel)]; exact ⟨rfl, rfl⟩))
    (fun os started H enc _ => fa_lifted os started H enc)
end Go.Proofs.YtkljanjapcpbdaaDoor

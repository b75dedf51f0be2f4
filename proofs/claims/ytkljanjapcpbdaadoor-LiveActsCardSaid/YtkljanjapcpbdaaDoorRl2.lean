/- The reference's session: Hear. No condition but those that stand in each theorem. -/
import Derived.Test.YtkljanjapcpbdaaDoorLv3
import Derived.Test.YtkljanjapcpbdaaDoorRl1
import Derived.Test.YtkljanjapcpbdaaDoorRf6
import Derived.RegionTactic
namespace Go.Proofs.YtkljanjapcpbdaaDoor
open Go.RowKit

def RHearPost (x : Nat) (ya : Int) (r : LS × List (ByteArray × Int)) (c : Nat × Int) (w : World) (e : Ending) (w1 : World) : Prop :=
  ∃ v, e = .returned (.tuple #[v, .agg #[.int .i64 c.1, .int .i64 c.2]]) ∧ Upd (fun k => k = x) w w1 ∧ RvAt w1 x ya r.1 ∧ OutAt w.heap.size w1 v r.2

/-- What the walks of Hear want. -/
structure RHearIn (x : Nat) (ya : Int) (s : LS) (m : MsgR) (w : World) : Prop where
  lv : RvAt w x ya s
  ok : MsgOk w m
  sh : Short m
  dl : m.drops.length ≤ 1000
  al : m.adds.length ≤ 1000
theorem RHearIn.check {x : Nat} {ya : Int} {s : LS} {m : MsgR} {w : World} (h : RHearIn x ya s m w) (o o2 : Obj) : Calls Tryd.prog 99 #[.agg m.cells] ((w.alloc o).alloc o2) fun e w1 => e = .returned (.agg #[.int .i64 (checkC m).1, .int .i64 (checkC m).2]) ∧ New ((w.alloc o).alloc o2) w1 := by
  have u := ((Upd.refl (fun _ => False) w).alloc o).alloc o2
  exact msgFault_any m _ (h.ok.new_ u) h.sh h.dl h.al

/-- A value and a fault that a call hands back. -/
theorem two_out {fn : Func} {t p : Tmp} {tmps : Array Value} {w : World} {R : Nat} {x y : Value} (h : fn.results = #[.tmp t, .cell p TRF]) (hp : tmps.getD p undef = .pointer (some ⟨R, 0, none⟩)) (hb : Blk w R TRF #[x, y]) :
    (results fn tmps).run Tryd.prog w = .ok (.tuple #[tmps.getD t undef, .agg #[x, y]]) w := by
  have hp' : tmps[p]?.getD undef = .pointer (some ⟨R, 0, none⟩) := by simpa using hp
  simp [results, h, hp', asAddr, run_loadVar_row w R TRF TRF #[x, y] (0, 0) _ hb Tryd.underlying65 rfl (by rw [TRF_info]; rfl)]

/-- The result's block is set at last. -/
theorem rend {x R : Nat} {ya : Int} {s : LS} {l : List (ByteArray × Int)} {B : Nat} {w W : World} {v u1 u2 : Value} (hx : x < w.heap.size) (hR : w.heap.size ≤ R) (h : Upd (fun k => k = x) w W ∧ RvAt W x ya s ∧ OutAt B W v l) (hv : ∀ g, B ≤ g → ∀ t cs, Blk W g t cs → t = TM → g ≠ R) :
    Upd (fun k => k = x) w ((W.setCell ⟨R, 0, none⟩ u1).setCell ⟨R, 1, none⟩ u2) ∧ RvAt ((W.setCell ⟨R, 0, none⟩ u1).setCell ⟨R, 1, none⟩ u2) x ya s ∧ OutAt B ((W.setCell ⟨R, 0, none⟩ u1).setCell ⟨R, 1, none⟩ u2) v l := by
  obtain ⟨h1, h2, h3⟩ := h
  have hxR : x ≠ R := by omega
  refine ⟨(h1.setCell (p := ⟨R, 0, none⟩) (.inr hR) u1).setCell (p := ⟨R, 1, none⟩) (.inr hR) u2, Blk.far (Blk.far h2 (p := ⟨R, 0, none⟩) hxR u1) (p := ⟨R, 1, none⟩) hxR u2, ?_⟩
  cases l with
  | nil => exact h3
  | cons a l =>
    obtain ⟨g, e, hb, hg⟩ := h3
    have hgR := hv g hg _ _ hb rfl
    exact ⟨g, e, Blk.far (Blk.far hb (p := ⟨R, 0, none⟩) hgR u1) (p := ⟨R, 1, none⟩) hgR u2, hg⟩
theorem ne_of_type {B : Nat} {W : World} {R : Nat} {y z : Value} (hR : Blk W R TRF #[y, z]) : ∀ g, (B : Nat) ≤ g → ∀ t cs, Blk W g t cs → t = TM → g ≠ R := fun g _ t cs hb ht => by
  subst ht
  exact Blk.ne_ hb hR (by decide)

theorem tri_drewN {x : Nat} {ya : Int} {s : LS} {l : List (ByteArray × Int)} {B : Nat} {w W : World} {v : Value} (h : Upd (fun k => k = x) w W ∧ RvAt W x ya s ∧ OutAt B W v l) (k : Nat) : Upd (fun k => k = x) w (W.drewN k) ∧ RvAt (W.drewN k) x ya s ∧ OutAt B (W.drewN k) v l := by
  refine ⟨h.1.drewN k, Blk.drewN h.2.1 k, ?_⟩
  have h3 := h.2.2
  cases l with
  | nil => exact h3
  | cons a l =>
    obtain ⟨g, e, hb, hg⟩ := h3
    exact ⟨g, e, Blk.drewN hb k, hg⟩
theorem tri_drew {x : Nat} {ya : Int} {s : LS} {l : List (ByteArray × Int)} {B : Nat} {w W : World} {v : Value} (h : Upd (fun k => k = x) w W ∧ RvAt W x ya s ∧ OutAt B W v l) : Upd (fun k => k = x) w W.drew ∧ RvAt W.drew x ya s ∧ OutAt B W.drew v l := tri_drewN h 1

set_option maxRecDepth 8000 in
set_option maxHeartbeats 4000000 in
theorem rhear_idle (x : Nat) (ya p t : Int) (m : MsgR) (w : World) (h : RHearIn x ya ⟨p, t, 0⟩ m w) :
    Calls Tryd.prog 51 #[.pointer (some ⟨x, 0, none⟩), .agg m.cells] w (RHearPost x ya (hearS ya ⟨p, t, 0⟩ m) (checkC m) w) := by
  have hc := h.check (.cells m.cells TM) (.cells #[.int .i64 0, .int .i64 0] TRF)
  have u := ((Upd.refl (fun _ => False) w).alloc (.cells m.cells TM)).alloc (.cells #[.int .i64 0, .int .i64 0] TRF)
  have b0 := (Blk.new w TM m.cells).alloc (.cells #[.int .i64 0, .int .i64 0] TRF)
  have b1 := Blk.at_ (w.alloc (.cells m.cells TM)) TRF #[.int .i64 0, .int .i64 0] (w.heap.size + 1) (by simp)
  have hl := Blk.new_ h.lv u
  have Hx := hide (Blk.lt h.lv)
  generalize hn : m.drops.length = n at *
  generalize hk : m.adds.length = k at *
  have hcs : m.cells = #[.string m.kind, .int .i64 m.n, .slice m.D n m.dc, .slice m.A k m.ac] := by unfold MsgR.cells; rw [hn, hk]
  rw [hcs] at hc u hl b0 b1 ⊢
  have Hc := hide hc
  have U := hide u
  have Hl := hide hl
  have Hb0 := hide b0
  have Hb1 := hide b1
  clear hc u hl hn hk hcs h b0 b1
  go_enter Tryd.func51, Tryd.ntmps51
  go_upto_region 1 with (fail)
  generalize ((w.alloc (.cells #[.string m.kind, .int .i64 m.n, .slice m.D n m.dc, .slice m.A k m.ac] TM)).alloc (.cells #[.int .i64 0, .int .i64 0] TRF)) = W0 at *
  have q0 := Hb0.out.cell 0
  have q1 := Hb0.out.cell 1
  have q2 := Hb0.out.cell 2
  have q3 := Hb0.out.cell 3
  have zq := Hb0.out.lt
  simp only [List.getElem?_toArray, List.getElem?_cons_zero, List.getElem?_cons_succ] at q0 q1 q2 q3
  go_wp2_with fail
  refine Hc.out.mono ?_
  rintro e w1 ⟨rfl, hu⟩
  have U1 := hide hu
  clear hu q0 q1 q2 q3 zq
  go_upto_region 2 with (fail)
  obtain ⟨c, hcc⟩ : ∃ c, c = checkC m := ⟨_, rfl⟩
  rw [← hcc]
  obtain ⟨W, hW⟩ : ∃ W, W = w1.alloc (.cells #[.int .i64 c.1, .int .i64 c.2] TRF) := ⟨_, rfl⟩
  obtain ⟨F, hF⟩ : ∃ F, F = w1.heap.size := ⟨_, rfl⟩
  obtain ⟨M, hM⟩ : ∃ M, M = w.heap.size := ⟨_, rfl⟩
  obtain ⟨R, hR⟩ : ∃ R, R = w.heap.size + 1 := ⟨_, rfl⟩
  rw [← hR] at Hb1
  rw [← hM] at Hb0
  have bF : Blk W F TRF #[.int .i64 c.1, .int .i64 c.2] := by rw [hW, hF]; exact Blk.new _ _ _
  have n1 : New W0 W := by rw [hW]; exact U1.out.alloc _
  have bl := Blk.new_ Hl.out n1
  have bM := Hb0.out.new_ n1
  have bR := Hb1.out.new_ n1
  have nW : New w W := U.out.trans_new n1
  have zR := Hb1.out.lt
  have zFR : R ≠ F := by rw [hF]; have := U1.out.size; omega
  have zFR2 : F ≠ R := fun e => zFR e.symm
  have zxR : x ≠ R := by have := Hx.out; omega
  have zxR2 : R ≠ x := fun e => zxR e.symm
  have zxF : x ≠ F := by rw [hF]; have := Hx.out; have := U1.out.size; have := U.out.size; omega
  have zxF2 : F ≠ x := fun e => zxF e.symm
  have zxM : x ≠ M := by have := Hx.out; omega
  have zxM2 : M ≠ x := fun e => zxM e.symm
  have hRB : w.heap.size ≤ R := by omega
  rw [← hW, ← hF, ← hR, ← hM]
  have Hcc := hide hcc
  have HB := hide hRB
  clear hW hF hM hR hcc n1 zR hRB
  have x0 := Blk.cell bl 0
  have x1 := Blk.cell bl 1
  have x2 := Blk.cell bl 2
  have x3 := Blk.cell bl 3
  have zx := Blk.lt bl
  have fx1 := Blk.frozen bl 1
  have fx2 := Blk.frozen bl 2
  have fx3 := Blk.frozen bl 3
  have q0 := bM.cell 0
  have q1 := bM.cell 1
  have zq := bM.lt
  have d0 := bR.cell 0
  have d1 := bR.cell 1
  have fd0 := bR.frozen 0
  have fd1 := bR.frozen 1
  have zR := bR.lt
  have y0 := bF.cell 0
  have y1 := bF.cell 1
  have zF := bF.lt
  simp only [List.getElem?_toArray, List.getElem?_cons_zero, List.getElem?_cons_succ] at x0 x1 x2 x3 q0 q1 d0 d1 y0 y1
  rw [stB0] at x3
  unfold stI at x3
  have HbF := hide bF
  have Hbl := hide bl
  have HbM := hide bM
  have HbR := hide bR
  have HnW := hide nW
  clear bF bl bM bR nW
  clear Hb0 Hb1 Hl U U1
  have Hr : Hid (hearS ya ⟨p, t, 0⟩ m = (⟨p, t, 0⟩, [])) := hide rfl
  go_wp2_with fail
  go_region
  all_goals go_wp2_with fail
  all_goals first
    | (refine bodyPost_ret (two_out Tryd.results51 rfl (fault_set HbR.out)) rfl ?_; refine ⟨_, by rw [Hcc.out], ?_⟩; rw [Hr.out]; exact rend Hx.out HB.out ⟨Upd.of_new HnW.out, Hbl.out, rfl⟩ (ne_of_type HbR.out))
    | (refine bodyPost_ret (two_out Tryd.results51 rfl (Blk.drew (fault_set HbR.out))) rfl ?_; refine ⟨_, by rw [Hcc.out], ?_⟩; rw [Hr.out]; exact tri_drew (rend Hx.out HB.out ⟨Upd.of_new HnW.out, Hbl.out, rfl⟩ (ne_of_type HbR.out)))
    | (refine bodyPost_ret (two_out Tryd.results51 rfl (Blk.drewN (fault_set HbR.out) _)) rfl ?_; refine ⟨_, by rw [Hcc.out], ?_⟩; rw [Hr.out]; exact tri_drewN (rend Hx.out HB.out ⟨Upd.of_new HnW.out, Hbl.out, rfl⟩ (ne_of_type HbR.out)) _)

set_option maxRecDepth 8000 in
set_option maxHeartbeats 4000000 in
theorem rhear_bad1 (x : Nat) (ya p t : Int) (m : MsgR) (w : World) (h : RHearIn x ya ⟨p, t, 1⟩ m w) (hne : (checkC m).1 ≠ 0) :
    Calls Tryd.prog 51 #[.pointer (some ⟨x, 0, none⟩), .agg m.cells] w (RHearPost x ya (hearS ya ⟨p, t, 1⟩ m) (checkC m) w) := by
  have Qhne := hide hne
  clear hne
  have hc := h.check (.cells m.cells TM) (.cells #[.int .i64 0, .int .i64 0] TRF)
  have u := ((Upd.refl (fun _ => False) w).alloc (.cells m.cells TM)).alloc (.cells #[.int .i64 0, .int .i64 0] TRF)
  have b0 := (Blk.new w TM m.cells).alloc (.cells #[.int .i64 0, .int .i64 0] TRF)
  have b1 := Blk.at_ (w.alloc (.cells m.cells TM)) TRF #[.int .i64 0, .int .i64 0] (w.heap.size + 1) (by simp)
  have hl := Blk.new_ h.lv u
  have Hx := hide (Blk.lt h.lv)
  generalize hn : m.drops.length = n at *
  generalize hk : m.adds.length = k at *
  have hcs : m.cells = #[.string m.kind, .int .i64 m.n, .slice m.D n m.dc, .slice m.A k m.ac] := by unfold MsgR.cells; rw [hn, hk]
  rw [hcs] at hc u hl b0 b1 ⊢
  have Hc := hide hc
  have U := hide u
  have Hl := hide hl
  have Hb0 := hide b0
  have Hb1 := hide b1
  clear hc u hl hn hk hcs h b0 b1
  go_enter Tryd.func51, Tryd.ntmps51
  go_upto_region 1 with (fail)
  generalize ((w.alloc (.cells #[.string m.kind, .int .i64 m.n, .slice m.D n m.dc, .slice m.A k m.ac] TM)).alloc (.cells #[.int .i64 0, .int .i64 0] TRF)) = W0 at *
  have q0 := Hb0.out.cell 0
  have q1 := Hb0.out.cell 1
  have q2 := Hb0.out.cell 2
  have q3 := Hb0.out.cell 3
  have zq := Hb0.out.lt
  simp only [List.getElem?_toArray, List.getElem?_cons_zero, List.getElem?_cons_succ] at q0 q1 q2 q3
  go_wp2_with fail
  refine Hc.out.mono ?_
  rintro e w1 ⟨rfl, hu⟩
  have U1 := hide hu
  clear hu q0 q1 q2 q3 zq
  go_upto_region 2 with (fail)
  obtain ⟨c, hcc⟩ : ∃ c, c = checkC m := ⟨_, rfl⟩
  rw [← hcc]
  obtain ⟨W, hW⟩ : ∃ W, W = w1.alloc (.cells #[.int .i64 c.1, .int .i64 c.2] TRF) := ⟨_, rfl⟩
  obtain ⟨F, hF⟩ : ∃ F, F = w1.heap.size := ⟨_, rfl⟩
  obtain ⟨M, hM⟩ : ∃ M, M = w.heap.size := ⟨_, rfl⟩
  obtain ⟨R, hR⟩ : ∃ R, R = w.heap.size + 1 := ⟨_, rfl⟩
  rw [← hR] at Hb1
  rw [← hM] at Hb0
  have bF : Blk W F TRF #[.int .i64 c.1, .int .i64 c.2] := by rw [hW, hF]; exact Blk.new _ _ _
  have n1 : New W0 W := by rw [hW]; exact U1.out.alloc _
  have bl := Blk.new_ Hl.out n1
  have bM := Hb0.out.new_ n1
  have bR := Hb1.out.new_ n1
  have nW : New w W := U.out.trans_new n1
  have zR := Hb1.out.lt
  have zFR : R ≠ F := by rw [hF]; have := U1.out.size; omega
  have zFR2 : F ≠ R := fun e => zFR e.symm
  have zxR : x ≠ R := by have := Hx.out; omega
  have zxR2 : R ≠ x := fun e => zxR e.symm
  have zxF : x ≠ F := by rw [hF]; have := Hx.out; have := U1.out.size; have := U.out.size; omega
  have zxF2 : F ≠ x := fun e => zxF e.symm
  have zxM : x ≠ M := by have := Hx.out; omega
  have zxM2 : M ≠ x := fun e => zxM e.symm
  have hRB : w.heap.size ≤ R := by omega
  rw [← hW, ← hF, ← hR, ← hM]
  have Hcc := hide hcc
  have HB := hide hRB
  clear hW hF hM hR hcc n1 zR hRB
  have x0 := Blk.cell bl 0
  have x1 := Blk.cell bl 1
  have x2 := Blk.cell bl 2
  have x3 := Blk.cell bl 3
  have zx := Blk.lt bl
  have fx1 := Blk.frozen bl 1
  have fx2 := Blk.frozen bl 2
  have fx3 := Blk.frozen bl 3
  have q0 := bM.cell 0
  have q1 := bM.cell 1
  have zq := bM.lt
  have d0 := bR.cell 0
  have d1 := bR.cell 1
  have fd0 := bR.frozen 0
  have fd1 := bR.frozen 1
  have zR := bR.lt
  have y0 := bF.cell 0
  have y1 := bF.cell 1
  have zF := bF.lt
  simp only [List.getElem?_toArray, List.getElem?_cons_zero, List.getElem?_cons_succ] at x0 x1 x2 x3 q0 q1 d0 d1 y0 y1
  rw [stB1] at x3
  unfold stS at x3
  have HbF := hide bF
  have Hbl := hide bl
  have HbM := hide bM
  have HbR := hide bR
  have HnW := hide nW
  clear bF bl bM bR nW
  clear Hb0 Hb1 Hl U U1
  have hne := Qhne.out
  have k4 : 0 < c.1 := by have := Hcc.out; rw [this]; omega
  have Hr : Hid (hearS ya ⟨p, t, 1⟩ m = idleS 1) := hide (by unfold hearS; rw [if_neg (by simp), if_pos hne])
  clear hne
  have Hi := hide (fun k => rnote_any x ya 1 ⟨p, t, 1⟩ (W.drewN k) (Blk.drewN Hbl.out k))
  go_wp2_with fail
  go_region_with ((go_at_call 97; refine (Hi.out _).mono ?_; rintro e w2 ⟨v2, rfl, hv2⟩; have bF2 := Blk.upd (Blk.drewN HbF.out _) hv2.1 zxF2; have bR2 := Blk.upd (Blk.drewN HbR.out _) hv2.1 zxR2; have HbR2 := hide bR2; have e0 := bF2.cell 0; have e1 := bF2.cell 1; have ze := bF2.lt; have g0 := bR2.cell 0; have g1 := bR2.cell 1; have h0 := bR2.frozen 0; have h1 := bR2.frozen 1; have zg := bR2.lt; simp only [List.getElem?_toArray, List.getElem?_cons_zero, List.getElem?_cons_succ] at e0 e1 g0 g1; have T2 := hide (RvPost.trans_ ((Upd.of_new HnW.out).drewN _) hv2); clear hv2 bF2 bR2))
  all_goals go_wp2_with fail
  all_goals first
    | (refine bodyPost_ret (two_out Tryd.results51 rfl (fault_set HbR2.out)) rfl ?_; refine ⟨_, by rw [Hcc.out], ?_⟩; rw [Hr.out]; exact rend Hx.out HB.out T2.out (ne_of_type HbR2.out))
    | (refine bodyPost_ret (two_out Tryd.results51 rfl (Blk.drew (fault_set HbR2.out))) rfl ?_; refine ⟨_, by rw [Hcc.out], ?_⟩; rw [Hr.out]; exact tri_drew (rend Hx.out HB.out T2.out (ne_of_type HbR2.out)))
    | (refine bodyPost_ret (two_out Tryd.results51 rfl (Blk.drewN (fault_set HbR2.out) _)) rfl ?_; refine ⟨_, by rw [Hcc.out], ?_⟩; rw [Hr.out]; exact tri_drewN (rend Hx.out HB.out T2.out (ne_of_type HbR2.out)) _)

set_option maxRecDepth 8000 in
set_option maxHeartbeats 4000000 in
theorem rhear_same (x : Nat) (ya p t : Int) (m : MsgR) (w : World) (h : RHearIn x ya ⟨p, t, 1⟩ m w) (h0 : (checkC m).1 = 0) (hK : kindN m.kind = 1) (hn : m.n = ya) :
    Calls Tryd.prog 51 #[.pointer (some ⟨x, 0, none⟩), .agg m.cells] w (RHearPost x ya (hearS ya ⟨p, t, 1⟩ m) (checkC m) w) := by
  have Qh0 := hide h0
  clear h0
  have QhK := hide hK
  clear hK
  have Qhn := hide hn
  clear hn
  have hc := h.check (.cells m.cells TM) (.cells #[.int .i64 0, .int .i64 0] TRF)
  have u := ((Upd.refl (fun _ => False) w).alloc (.cells m.cells TM)).alloc (.cells #[.int .i64 0, .int .i64 0] TRF)
  have b0 := (Blk.new w TM m.cells).alloc (.cells #[.int .i64 0, .int .i64 0] TRF)
  have b1 := Blk.at_ (w.alloc (.cells m.cells TM)) TRF #[.int .i64 0, .int .i64 0] (w.heap.size + 1) (by simp)
  have hl := Blk.new_ h.lv u
  have Hx := hide (Blk.lt h.lv)
  generalize hn : m.drops.length = n at *
  generalize hk : m.adds.length = k at *
  have hcs : m.cells = #[.string m.kind, .int .i64 m.n, .slice m.D n m.dc, .slice m.A k m.ac] := by unfold MsgR.cells; rw [hn, hk]
  rw [hcs] at hc u hl b0 b1 ⊢
  have Hc := hide hc
  have U := hide u
  have Hl := hide hl
  have Hb0 := hide b0
  have Hb1 := hide b1
  clear hc u hl hn hk hcs h b0 b1
  go_enter Tryd.func51, Tryd.ntmps51
  go_upto_region 1 with (fail)
  generalize ((w.alloc (.cells #[.string m.kind, .int .i64 m.n, .slice m.D n m.dc, .slice m.A k m.ac] TM)).alloc (.cells #[.int .i64 0, .int .i64 0] TRF)) = W0 at *
  have q0 := Hb0.out.cell 0
  have q1 := Hb0.out.cell 1
  have q2 := Hb0.out.cell 2
  have q3 := Hb0.out.cell 3
  have zq := Hb0.out.lt
  simp only [List.getElem?_toArray, List.getElem?_cons_zero, List.getElem?_cons_succ] at q0 q1 q2 q3
  go_wp2_with fail
  refine Hc.out.mono ?_
  rintro e w1 ⟨rfl, hu⟩
  have U1 := hide hu
  clear hu q0 q1 q2 q3 zq
  go_upto_region 2 with (fail)
  obtain ⟨c, hcc⟩ : ∃ c, c = checkC m := ⟨_, rfl⟩
  rw [← hcc]
  obtain ⟨W, hW⟩ : ∃ W, W = w1.alloc (.cells #[.int .i64 c.1, .int .i64 c.2] TRF) := ⟨_, rfl⟩
  obtain ⟨F, hF⟩ : ∃ F, F = w1.heap.size := ⟨_, rfl⟩
  obtain ⟨M, hM⟩ : ∃ M, M = w.heap.size := ⟨_, rfl⟩
  obtain ⟨R, hR⟩ : ∃ R, R = w.heap.size + 1 := ⟨_, rfl⟩
  rw [← hR] at Hb1
  rw [← hM] at Hb0
  have bF : Blk W F TRF #[.int .i64 c.1, .int .i64 c.2] := by rw [hW, hF]; exact Blk.new _ _ _
  have n1 : New W0 W := by rw [hW]; exact U1.out.alloc _
  have bl := Blk.new_ Hl.out n1
  have bM := Hb0.out.new_ n1
  have bR := Hb1.out.new_ n1
  have nW : New w W := U.out.trans_new n1
  have zR := Hb1.out.lt
  have zFR : R ≠ F := by rw [hF]; have := U1.out.size; omega
  have zFR2 : F ≠ R := fun e => zFR e.symm
  have zxR : x ≠ R := by have := Hx.out; omega
  have zxR2 : R ≠ x := fun e => zxR e.symm
  have zxF : x ≠ F := by rw [hF]; have := Hx.out; have := U1.out.size; have := U.out.size; omega
  have zxF2 : F ≠ x := fun e => zxF e.symm
  have zxM : x ≠ M := by have := Hx.out; omega
  have zxM2 : M ≠ x := fun e => zxM e.symm
  have hRB : w.heap.size ≤ R := by omega
  rw [← hW, ← hF, ← hR, ← hM]
  have Hcc := hide hcc
  have HB := hide hRB
  clear hW hF hM hR hcc n1 zR hRB
  have x0 := Blk.cell bl 0
  have x1 := Blk.cell bl 1
  have x2 := Blk.cell bl 2
  have x3 := Blk.cell bl 3
  have zx := Blk.lt bl
  have fx1 := Blk.frozen bl 1
  have fx2 := Blk.frozen bl 2
  have fx3 := Blk.frozen bl 3
  have q0 := bM.cell 0
  have q1 := bM.cell 1
  have zq := bM.lt
  have d0 := bR.cell 0
  have d1 := bR.cell 1
  have fd0 := bR.frozen 0
  have fd1 := bR.frozen 1
  have zR := bR.lt
  have y0 := bF.cell 0
  have y1 := bF.cell 1
  have zF := bF.lt
  simp only [List.getElem?_toArray, List.getElem?_cons_zero, List.getElem?_cons_succ] at x0 x1 x2 x3 q0 q1 d0 d1 y0 y1
  rw [stB1] at x3
  unfold stS at x3
  have HbF := hide bF
  have Hbl := hide bl
  have HbM := hide bM
  have HbR := hide bR
  have HnW := hide nW
  clear bF bl bM bR nW
  clear Hb0 Hb1 Hl U U1
  have h0 := Qh0.out
  have hK := QhK.out
  have hn := Qhn.out
  have k4 : c.1 = 0 := by have := Hcc.out; rw [this]; exact h0
  have K4 := hide k4
  have Hr : Hid (hearS ya ⟨p, t, 1⟩ m = idleS 2) := hide (by unfold hearS; rw [if_neg (by simp), if_neg (by simp [h0]), if_neg (by simp [hK]), if_neg (by simp [hK]), if_neg (by simp [hK]), if_pos hn])
  have hk := kind_text (s := m.kind).1 hK
  clear h0 hK
  have hb : (m.n == ya) = true := by simpa using hn
  have Hn := hide hn
  clear hn
  have Hi := hide (fun k => rnote_any x ya 2 ⟨p, t, 1⟩ (W.drewN k) (Blk.drewN Hbl.out k))
  go_wp2_with fail
  go_quiet (fail)
  go_wp2_with fail
  go_region_with ((go_at_call 97; refine (Hi.out _).mono ?_; rintro e w2 ⟨v2, rfl, hv2⟩; have bF2 := Blk.upd (Blk.drewN HbF.out _) hv2.1 zxF2; have bR2 := Blk.upd (Blk.drewN HbR.out _) hv2.1 zxR2; have HbR2 := hide bR2; have e0 := bF2.cell 0; have e1 := bF2.cell 1; have ze := bF2.lt; have g0 := bR2.cell 0; have g1 := bR2.cell 1; have h0 := bR2.frozen 0; have h1 := bR2.frozen 1; have zg := bR2.lt; simp only [List.getElem?_toArray, List.getElem?_cons_zero, List.getElem?_cons_succ] at e0 e1 g0 g1; have T2 := hide (RvPost.trans_ ((Upd.of_new HnW.out).drewN _) hv2); clear hv2 bF2 bR2))
  all_goals go_wp2_with fail
  all_goals first
    | (refine bodyPost_ret (two_out Tryd.results51 rfl (fault_set HbR2.out)) rfl ?_; refine ⟨_, by rw [← Hcc.out, K4.out]; try rfl, ?_⟩; rw [Hr.out]; exact rend Hx.out HB.out T2.out (ne_of_type HbR2.out))
    | (refine bodyPost_ret (two_out Tryd.results51 rfl (Blk.drew (fault_set HbR2.out))) rfl ?_; refine ⟨_, by rw [← Hcc.out, K4.out]; try rfl, ?_⟩; rw [Hr.out]; exact tri_drew (rend Hx.out HB.out T2.out (ne_of_type HbR2.out)))
    | (refine bodyPost_ret (two_out Tryd.results51 rfl (Blk.drewN (fault_set HbR2.out) _)) rfl ?_; refine ⟨_, by rw [← Hcc.out, K4.out]; try rfl, ?_⟩; rw [Hr.out]; exact tri_drewN (rend Hx.out HB.out T2.out (ne_of_type HbR2.out)) _)

set_option maxRecDepth 8000 in
set_option maxHeartbeats 4000000 in
theorem rhear_up (x : Nat) (ya p t : Int) (m : MsgR) (w : World) (h : RHearIn x ya ⟨p, t, 1⟩ m w) (h0 : (checkC m).1 = 0) (hK : kindN m.kind = 1) (hn : m.n ≠ ya) :
    Calls Tryd.prog 51 #[.pointer (some ⟨x, 0, none⟩), .agg m.cells] w (RHearPost x ya (hearS ya ⟨p, t, 1⟩ m) (checkC m) w) := by
  have Qh0 := hide h0
  clear h0
  have QhK := hide hK
  clear hK
  have Qhn := hide hn
  clear hn
  have hc := h.check (.cells m.cells TM) (.cells #[.int .i64 0, .int .i64 0] TRF)
  have u := ((Upd.refl (fun _ => False) w).alloc (.cells m.cells TM)).alloc (.cells #[.int .i64 0, .int .i64 0] TRF)
  have b0 := (Blk.new w TM m.cells).alloc (.cells #[.int .i64 0, .int .i64 0] TRF)
  have b1 := Blk.at_ (w.alloc (.cells m.cells TM)) TRF #[.int .i64 0, .int .i64 0] (w.heap.size + 1) (by simp)
  have hl := Blk.new_ h.lv u
  have Hx := hide (Blk.lt h.lv)
  generalize hn : m.drops.length = n at *
  generalize hk : m.adds.length = k at *
  have hcs : m.cells = #[.string m.kind, .int .i64 m.n, .slice m.D n m.dc, .slice m.A k m.ac] := by unfold MsgR.cells; rw [hn, hk]
  rw [hcs] at hc u hl b0 b1 ⊢
  have Hc := hide hc
  have U := hide u
  have Hl := hide hl
  have Hb0 := hide b0
  have Hb1 := hide b1
  clear hc u hl hn hk hcs h b0 b1
  go_enter Tryd.func51, Tryd.ntmps51
  go_upto_region 1 with (fail)
  generalize ((w.alloc (.cells #[.string m.kind, .int .i64 m.n, .slice m.D n m.dc, .slice m.A k m.ac] TM)).alloc (.cells #[.int .i64 0, .int .i64 0] TRF)) = W0 at *
  have q0 := Hb0.out.cell 0
  have q1 := Hb0.out.cell 1
  have q2 := Hb0.out.cell 2
  have q3 := Hb0.out.cell 3
  have zq := Hb0.out.lt
  simp only [List.getElem?_toArray, List.getElem?_cons_zero, List.getElem?_cons_succ] at q0 q1 q2 q3
  go_wp2_with fail
  refine Hc.out.mono ?_
  rintro e w1 ⟨rfl, hu⟩
  have U1 := hide hu
  clear hu q0 q1 q2 q3 zq
  go_upto_region 2 with (fail)
  obtain ⟨c, hcc⟩ : ∃ c, c = checkC m := ⟨_, rfl⟩
  rw [← hcc]
  obtain ⟨W, hW⟩ : ∃ W, W = w1.alloc (.cells #[.int .i64 c.1, .int .i64 c.2] TRF) := ⟨_, rfl⟩
  obtain ⟨F, hF⟩ : ∃ F, F = w1.heap.size := ⟨_, rfl⟩
  obtain ⟨M, hM⟩ : ∃ M, M = w.heap.size := ⟨_, rfl⟩
  obtain ⟨R, hR⟩ : ∃ R, R = w.heap.size + 1 := ⟨_, rfl⟩
  rw [← hR] at Hb1
  rw [← hM] at Hb0
  have bF : Blk W F TRF #[.int .i64 c.1, .int .i64 c.2] := by rw [hW, hF]; exact Blk.new _ _ _
  have n1 : New W0 W := by rw [hW]; exact U1.out.alloc _
  have bl := Blk.new_ Hl.out n1
  have bM := Hb0.out.new_ n1
  have bR := Hb1.out.new_ n1
  have nW : New w W := U.out.trans_new n1
  have zR := Hb1.out.lt
  have zFR : R ≠ F := by rw [hF]; have := U1.out.size; omega
  have zFR2 : F ≠ R := fun e => zFR e.symm
  have zxR : x ≠ R := by have := Hx.out; omega
  have zxR2 : R ≠ x := fun e => zxR e.symm
  have zxF : x ≠ F := by rw [hF]; have := Hx.out; have := U1.out.size; have := U.out.size; omega
  have zxF2 : F ≠ x := fun e => zxF e.symm
  have zxM : x ≠ M := by have := Hx.out; omega
  have zxM2 : M ≠ x := fun e => zxM e.symm
  have hRB : w.heap.size ≤ R := by omega
  rw [← hW, ← hF, ← hR, ← hM]
  have Hcc := hide hcc
  have HB := hide hRB
  clear hW hF hM hR hcc n1 zR hRB
  have x0 := Blk.cell bl 0
  have x1 := Blk.cell bl 1
  have x2 := Blk.cell bl 2
  have x3 := Blk.cell bl 3
  have zx := Blk.lt bl
  have fx1 := Blk.frozen bl 1
  have fx2 := Blk.frozen bl 2
  have fx3 := Blk.frozen bl 3
  have q0 := bM.cell 0
  have q1 := bM.cell 1
  have zq := bM.lt
  have d0 := bR.cell 0
  have d1 := bR.cell 1
  have fd0 := bR.frozen 0
  have fd1 := bR.frozen 1
  have zR := bR.lt
  have y0 := bF.cell 0
  have y1 := bF.cell 1
  have zF := bF.lt
  simp only [List.getElem?_toArray, List.getElem?_cons_zero, List.getElem?_cons_succ] at x0 x1 x2 x3 q0 q1 d0 d1 y0 y1
  rw [stB1] at x3
  unfold stS at x3
  have HbF := hide bF
  have Hbl := hide bl
  have HbM := hide bM
  have HbR := hide bR
  have HnW := hide nW
  clear bF bl bM bR nW
  clear Hb0 Hb1 Hl U U1
  have h0 := Qh0.out
  have hK := QhK.out
  have hn := Qhn.out
  have k4 : c.1 = 0 := by have := Hcc.out; rw [this]; exact h0
  have K4 := hide k4
  have Hr : Hid (hearS ya ⟨p, t, 1⟩ m = (⟨m.n, 0, 2⟩, [(sKeep, 0)])) := hide (by unfold hearS; rw [if_neg (by simp), if_neg (by simp [h0]), if_neg (by simp [hK]), if_neg (by simp [hK]), if_neg (by simp [hK]), if_neg hn])
  have hk := kind_text (s := m.kind).1 hK
  clear h0 hK
  have hb : (m.n == ya) = false := by simpa using hn
  have Hn := hide hn
  clear hn
  have u3 : Upd (fun j => j = x) W (((W.setCell ⟨x, 3, none⟩ (.string stU)).setCell ⟨x, 1, none⟩ (.int .i64 m.n)).setCell ⟨x, 2, none⟩ (.int .i64 0)) :=
    (((Upd.refl (fun j => j = x) W).setCell (p := ⟨x, 3, none⟩) (.inl rfl) _).setCell (p := ⟨x, 1, none⟩) (.inl rfl) _).setCell (p := ⟨x, 2, none⟩) (.inl rfl) _
  have hb3 : Blk (((W.setCell ⟨x, 3, none⟩ (.string stU)).setCell ⟨x, 1, none⟩ (.int .i64 m.n)).setCell ⟨x, 2, none⟩ (.int .i64 0)) x TRL #[.int .i64 ya, .int .i64 m.n, .int .i64 0, .string (stB 2)] := by
    simpa [stB] using ((Blk.set_ Hbl.out 3 (.string stU)).set_ 1 (.int .i64 m.n)).set_ 2 (.int .i64 0)
  have Hu3 := hide u3
  have Hb3 := hide hb3
  have HbR3 := hide (Blk.far (Blk.far (Blk.far HbR.out (p := ⟨x, 3, none⟩) zxR2 (.string stU)) (p := ⟨x, 1, none⟩) zxR2 (.int .i64 m.n)) (p := ⟨x, 2, none⟩) zxR2 (.int .i64 0))
  clear u3 hb3
  go_wp2_with fail
  go_quiet (fail)
  go_wp2_with fail
  go_region
  all_goals go_wp2_with fail
  all_goals
    refine bodyPost_ret (two_out Tryd.results51 rfl (Blk.drewN (Blk.alloc (fault_set HbR3.out) _) _)) rfl ?_
    refine ⟨_, by rw [← Hcc.out, K4.out]; try rfl, ?_⟩
    rw [Hr.out]
    have h3 := rend (ya := ya) (s := ⟨m.n, 0, 2⟩) (l := []) (B := w.heap.size) (v := .slice none 0 0) (u1 := .int .i64 0) (u2 := .int .i64 c.2) Hx.out HB.out ⟨(Upd.of_new HnW.out).trans' Hu3.out, Hb3.out, rfl⟩ (ne_of_type HbR3.out)
    refine ⟨(h3.1.alloc _).drewN _, Blk.drewN (Blk.alloc h3.2.1 _) _, ?_⟩
    exact ⟨_, rfl, Blk.drewN (Blk.at_ _ _ _ _ (by simp)) _, HnW.out.size⟩

set_option maxRecDepth 8000 in
set_option maxHeartbeats 4000000 in
theorem rhear_1_2 (x : Nat) (ya p t : Int) (m : MsgR) (w : World) (h : RHearIn x ya ⟨p, t, 1⟩ m w) (h0 : (checkC m).1 = 0) (hK : kindN m.kind = 2) :
    Calls Tryd.prog 51 #[.pointer (some ⟨x, 0, none⟩), .agg m.cells] w (RHearPost x ya (hearS ya ⟨p, t, 1⟩ m) (checkC m) w) := by
  have Qh0 := hide h0
  clear h0
  have QhK := hide hK
  clear hK
  have hc := h.check (.cells m.cells TM) (.cells #[.int .i64 0, .int .i64 0] TRF)
  have u := ((Upd.refl (fun _ => False) w).alloc (.cells m.cells TM)).alloc (.cells #[.int .i64 0, .int .i64 0] TRF)
  have b0 := (Blk.new w TM m.cells).alloc (.cells #[.int .i64 0, .int .i64 0] TRF)
  have b1 := Blk.at_ (w.alloc (.cells m.cells TM)) TRF #[.int .i64 0, .int .i64 0] (w.heap.size + 1) (by simp)
  have hl := Blk.new_ h.lv u
  have Hx := hide (Blk.lt h.lv)
  generalize hn : m.drops.length = n at *
  generalize hk : m.adds.length = k at *
  have hcs : m.cells = #[.string m.kind, .int .i64 m.n, .slice m.D n m.dc, .slice m.A k m.ac] := by unfold MsgR.cells; rw [hn, hk]
  rw [hcs] at hc u hl b0 b1 ⊢
  have Hc := hide hc
  have U := hide u
  have Hl := hide hl
  have Hb0 := hide b0
  have Hb1 := hide b1
  clear hc u hl hn hk hcs h b0 b1
  go_enter Tryd.func51, Tryd.ntmps51
  go_upto_region 1 with (fail)
  generalize ((w.alloc (.cells #[.string m.kind, .int .i64 m.n, .slice m.D n m.dc, .slice m.A k m.ac] TM)).alloc (.cells #[.int .i64 0, .int .i64 0] TRF)) = W0 at *
  have q0 := Hb0.out.cell 0
  have q1 := Hb0.out.cell 1
  have q2 := Hb0.out.cell 2
  have q3 := Hb0.out.cell 3
  have zq := Hb0.out.lt
  simp only [List.getElem?_toArray, List.getElem?_cons_zero, List.getElem?_cons_succ] at q0 q1 q2 q3
  go_wp2_with fail
  refine Hc.out.mono ?_
  rintro e w1 ⟨rfl, hu⟩
  have U1 := hide hu
  clear hu q0 q1 q2 q3 zq
  go_upto_region 2 with (fail)
  obtain ⟨c, hcc⟩ : ∃ c, c = checkC m := ⟨_, rfl⟩
  rw [← hcc]
  obtain ⟨W, hW⟩ : ∃ W, W = w1.alloc (.cells #[.int .i64 c.1, .int .i64 c.2] TRF) := ⟨_, rfl⟩
  obtain ⟨F, hF⟩ : ∃ F, F = w1.heap.size := ⟨_, rfl⟩
  obtain ⟨M, hM⟩ : ∃ M, M = w.heap.size := ⟨_, rfl⟩
  obtain ⟨R, hR⟩ : ∃ R, R = w.heap.size + 1 := ⟨_, rfl⟩
  rw [← hR] at Hb1
  rw [← hM] at Hb0
  have bF : Blk W F TRF #[.int .i64 c.1, .int .i64 c.2] := by rw [hW, hF]; exact Blk.new _ _ _
  have n1 : New W0 W := by rw [hW]; exact U1.out.alloc _
  have bl := Blk.new_ Hl.out n1
  have bM := Hb0.out.new_ n1
  have bR := Hb1.out.new_ n1
  have nW : New w W := U.out.trans_new n1
  have zR := Hb1.out.lt
  have zFR : R ≠ F := by rw [hF]; have := U1.out.size; omega
  have zFR2 : F ≠ R := fun e => zFR e.symm
  have zxR : x ≠ R := by have := Hx.out; omega
  have zxR2 : R ≠ x := fun e => zxR e.symm
  have zxF : x ≠ F := by rw [hF]; have := Hx.out; have := U1.out.size; have := U.out.size; omega
  have zxF2 : F ≠ x := fun e => zxF e.symm
  have zxM : x ≠ M := by have := Hx.out; omega
  have zxM2 : M ≠ x := fun e => zxM e.symm
  have hRB : w.heap.size ≤ R := by omega
  rw [← hW, ← hF, ← hR, ← hM]
  have Hcc := hide hcc
  have HB := hide hRB
  clear hW hF hM hR hcc n1 zR hRB
  have x0 := Blk.cell bl 0
  have x1 := Blk.cell bl 1
  have x2 := Blk.cell bl 2
  have x3 := Blk.cell bl 3
  have zx := Blk.lt bl
  have fx1 := Blk.frozen bl 1
  have fx2 := Blk.frozen bl 2
  have fx3 := Blk.frozen bl 3
  have q0 := bM.cell 0
  have q1 := bM.cell 1
  have zq := bM.lt
  have d0 := bR.cell 0
  have d1 := bR.cell 1
  have fd0 := bR.frozen 0
  have fd1 := bR.frozen 1
  have zR := bR.lt
  have y0 := bF.cell 0
  have y1 := bF.cell 1
  have zF := bF.lt
  simp only [List.getElem?_toArray, List.getElem?_cons_zero, List.getElem?_cons_succ] at x0 x1 x2 x3 q0 q1 d0 d1 y0 y1
  rw [stB1] at x3
  unfold stS at x3
  have HbF := hide bF
  have Hbl := hide bl
  have HbM := hide bM
  have HbR := hide bR
  have HnW := hide nW
  clear bF bl bM bR nW
  clear Hb0 Hb1 Hl U U1
  have h0 := Qh0.out
  have hK := QhK.out
  have k4 : c.1 = 0 := by have := Hcc.out; rw [this]; exact h0
  have K4 := hide k4
  have Hr : Hid (hearS ya ⟨p, t, 1⟩ m = idleS 5) := hide (by unfold hearS; rw [if_neg (by simp), if_neg (by simp [h0]), if_neg (by simp [hK]), if_neg (by simp [hK]), if_pos (by simp [hK])])
  have hk := kind_text (s := m.kind).2.1 hK
  clear h0 hK
  have Hi := hide (fun k => rnote_any x ya 5 ⟨p, t, 1⟩ (W.drewN k) (Blk.drewN Hbl.out k))
  go_wp2_with fail
  go_region_with ((go_at_call 97; refine (Hi.out _).mono ?_; rintro e w2 ⟨v2, rfl, hv2⟩; have bF2 := Blk.upd (Blk.drewN HbF.out _) hv2.1 zxF2; have bR2 := Blk.upd (Blk.drewN HbR.out _) hv2.1 zxR2; have HbR2 := hide bR2; have e0 := bF2.cell 0; have e1 := bF2.cell 1; have ze := bF2.lt; have g0 := bR2.cell 0; have g1 := bR2.cell 1; have h0 := bR2.frozen 0; have h1 := bR2.frozen 1; have zg := bR2.lt; simp only [List.getElem?_toArray, List.getElem?_cons_zero, List.getElem?_cons_succ] at e0 e1 g0 g1; have T2 := hide (RvPost.trans_ ((Upd.of_new HnW.out).drewN _) hv2); clear hv2 bF2 bR2))
  all_goals go_wp2_with fail
  all_goals first
    | (refine bodyPost_ret (two_out Tryd.results51 rfl (fault_set HbR2.out)) rfl ?_; refine ⟨_, by rw [← Hcc.out, K4.out]; try rfl, ?_⟩; rw [Hr.out]; exact rend Hx.out HB.out T2.out (ne_of_type HbR2.out))
    | (refine bodyPost_ret (two_out Tryd.results51 rfl (Blk.drew (fault_set HbR2.out))) rfl ?_; refine ⟨_, by rw [← Hcc.out, K4.out]; try rfl, ?_⟩; rw [Hr.out]; exact tri_drew (rend Hx.out HB.out T2.out (ne_of_type HbR2.out)))
    | (refine bodyPost_ret (two_out Tryd.results51 rfl (Blk.drewN (fault_set HbR2.out) _)) rfl ?_; refine ⟨_, by rw [← Hcc.out, K4.out]; try rfl, ?_⟩; rw [Hr.out]; exact tri_drewN (rend Hx.out HB.out T2.out (ne_of_type HbR2.out)) _)

set_option maxRecDepth 8000 in
set_option maxHeartbeats 4000000 in
theorem rhear_1_3 (x : Nat) (ya p t : Int) (m : MsgR) (w : World) (h : RHearIn x ya ⟨p, t, 1⟩ m w) (h0 : (checkC m).1 = 0) (hK : kindN m.kind = 3) :
    Calls Tryd.prog 51 #[.pointer (some ⟨x, 0, none⟩), .agg m.cells] w (RHearPost x ya (hearS ya ⟨p, t, 1⟩ m) (checkC m) w) := by
  have Qh0 := hide h0
  clear h0
  have QhK := hide hK
  clear hK
  have hc := h.check (.cells m.cells TM) (.cells #[.int .i64 0, .int .i64 0] TRF)
  have u := ((Upd.refl (fun _ => False) w).alloc (.cells m.cells TM)).alloc (.cells #[.int .i64 0, .int .i64 0] TRF)
  have b0 := (Blk.new w TM m.cells).alloc (.cells #[.int .i64 0, .int .i64 0] TRF)
  have b1 := Blk.at_ (w.alloc (.cells m.cells TM)) TRF #[.int .i64 0, .int .i64 0] (w.heap.size + 1) (by simp)
  have hl := Blk.new_ h.lv u
  have Hx := hide (Blk.lt h.lv)
  generalize hn : m.drops.length = n at *
  generalize hk : m.adds.length = k at *
  have hcs : m.cells = #[.string m.kind, .int .i64 m.n, .slice m.D n m.dc, .slice m.A k m.ac] := by unfold MsgR.cells; rw [hn, hk]
  rw [hcs] at hc u hl b0 b1 ⊢
  have Hc := hide hc
  have U := hide u
  have Hl := hide hl
  have Hb0 := hide b0
  have Hb1 := hide b1
  clear hc u hl hn hk hcs h b0 b1
  go_enter Tryd.func51, Tryd.ntmps51
  go_upto_region 1 with (fail)
  generalize ((w.alloc (.cells #[.string m.kind, .int .i64 m.n, .slice m.D n m.dc, .slice m.A k m.ac] TM)).alloc (.cells #[.int .i64 0, .int .i64 0] TRF)) = W0 at *
  have q0 := Hb0.out.cell 0
  have q1 := Hb0.out.cell 1
  have q2 := Hb0.out.cell 2
  have q3 := Hb0.out.cell 3
  have zq := Hb0.out.lt
  simp only [List.getElem?_toArray, List.getElem?_cons_zero, List.getElem?_cons_succ] at q0 q1 q2 q3
  go_wp2_with fail
  refine Hc.out.mono ?_
  rintro e w1 ⟨rfl, hu⟩
  have U1 := hide hu
  clear hu q0 q1 q2 q3 zq
  go_upto_region 2 with (fail)
  obtain ⟨c, hcc⟩ : ∃ c, c = checkC m := ⟨_, rfl⟩
  rw [← hcc]
  obtain ⟨W, hW⟩ : ∃ W, W = w1.alloc (.cells #[.int .i64 c.1, .int .i64 c.2] TRF) := ⟨_, rfl⟩
  obtain ⟨F, hF⟩ : ∃ F, F = w1.heap.size := ⟨_, rfl⟩
  obtain ⟨M, hM⟩ : ∃ M, M = w.heap.size := ⟨_, rfl⟩
  obtain ⟨R, hR⟩ : ∃ R, R = w.heap.size + 1 := ⟨_, rfl⟩
  rw [← hR] at Hb1
  rw [← hM] at Hb0
  have bF : Blk W F TRF #[.int .i64 c.1, .int .i64 c.2] := by rw [hW, hF]; exact Blk.new _ _ _
  have n1 : New W0 W := by rw [hW]; exact U1.out.alloc _
  have bl := Blk.new_ Hl.out n1
  have bM := Hb0.out.new_ n1
  have bR := Hb1.out.new_ n1
  have nW : New w W := U.out.trans_new n1
  have zR := Hb1.out.lt
  have zFR : R ≠ F := by rw [hF]; have := U1.out.size; omega
  have zFR2 : F ≠ R := fun e => zFR e.symm
  have zxR : x ≠ R := by have := Hx.out; omega
  have zxR2 : R ≠ x := fun e => zxR e.symm
  have zxF : x ≠ F := by rw [hF]; have := Hx.out; have := U1.out.size; have := U.out.size; omega
  have zxF2 : F ≠ x := fun e => zxF e.symm
  have zxM : x ≠ M := by have := Hx.out; omega
  have zxM2 : M ≠ x := fun e => zxM e.symm
  have hRB : w.heap.size ≤ R := by omega
  rw [← hW, ← hF, ← hR, ← hM]
  have Hcc := hide hcc
  have HB := hide hRB
  clear hW hF hM hR hcc n1 zR hRB
  have x0 := Blk.cell bl 0
  have x1 := Blk.cell bl 1
  have x2 := Blk.cell bl 2
  have x3 := Blk.cell bl 3
  have zx := Blk.lt bl
  have fx1 := Blk.frozen bl 1
  have fx2 := Blk.frozen bl 2
  have fx3 := Blk.frozen bl 3
  have q0 := bM.cell 0
  have q1 := bM.cell 1
  have zq := bM.lt
  have d0 := bR.cell 0
  have d1 := bR.cell 1
  have fd0 := bR.frozen 0
  have fd1 := bR.frozen 1
  have zR := bR.lt
  have y0 := bF.cell 0
  have y1 := bF.cell 1
  have zF := bF.lt
  simp only [List.getElem?_toArray, List.getElem?_cons_zero, List.getElem?_cons_succ] at x0 x1 x2 x3 q0 q1 d0 d1 y0 y1
  rw [stB1] at x3
  unfold stS at x3
  have HbF := hide bF
  have Hbl := hide bl
  have HbM := hide bM
  have HbR := hide bR
  have HnW := hide nW
  clear bF bl bM bR nW
  clear Hb0 Hb1 Hl U U1
  have h0 := Qh0.out
  have hK := QhK.out
  have k4 : c.1 = 0 := by have := Hcc.out; rw [this]; exact h0
  have K4 := hide k4
  have Hr : Hid (hearS ya ⟨p, t, 1⟩ m = idleS 5) := hide (by unfold hearS; rw [if_neg (by simp), if_neg (by simp [h0]), if_neg (by simp [hK]), if_neg (by simp [hK]), if_pos (by simp [hK])])
  have hk := kind_text (s := m.kind).2.2.1 hK
  clear h0 hK
  have Hi := hide (fun k => rnote_any x ya 5 ⟨p, t, 1⟩ (W.drewN k) (Blk.drewN Hbl.out k))
  go_wp2_with fail
  go_region_with ((go_at_call 97; refine (Hi.out _).mono ?_; rintro e w2 ⟨v2, rfl, hv2⟩; have bF2 := Blk.upd (Blk.drewN HbF.out _) hv2.1 zxF2; have bR2 := Blk.upd (Blk.drewN HbR.out _) hv2.1 zxR2; have HbR2 := hide bR2; have e0 := bF2.cell 0; have e1 := bF2.cell 1; have ze := bF2.lt; have g0 := bR2.cell 0; have g1 := bR2.cell 1; have h0 := bR2.frozen 0; have h1 := bR2.frozen 1; have zg := bR2.lt; simp only [List.getElem?_toArray, List.getElem?_cons_zero, List.getElem?_cons_succ] at e0 e1 g0 g1; have T2 := hide (RvPost.trans_ ((Upd.of_new HnW.out).drewN _) hv2); clear hv2 bF2 bR2))
  all_goals go_wp2_with fail
  all_goals first
    | (refine bodyPost_ret (two_out Tryd.results51 rfl (fault_set HbR2.out)) rfl ?_; refine ⟨_, by rw [← Hcc.out, K4.out]; try rfl, ?_⟩; rw [Hr.out]; exact rend Hx.out HB.out T2.out (ne_of_type HbR2.out))
    | (refine bodyPost_ret (two_out Tryd.results51 rfl (Blk.drew (fault_set HbR2.out))) rfl ?_; refine ⟨_, by rw [← Hcc.out, K4.out]; try rfl, ?_⟩; rw [Hr.out]; exact tri_drew (rend Hx.out HB.out T2.out (ne_of_type HbR2.out)))
    | (refine bodyPost_ret (two_out Tryd.results51 rfl (Blk.drewN (fault_set HbR2.out) _)) rfl ?_; refine ⟨_, by rw [← Hcc.out, K4.out]; try rfl, ?_⟩; rw [Hr.out]; exact tri_drewN (rend Hx.out HB.out T2.out (ne_of_type HbR2.out)) _)

set_option maxRecDepth 8000 in
set_option maxHeartbeats 4000000 in
theorem rhear_1_4 (x : Nat) (ya p t : Int) (m : MsgR) (w : World) (h : RHearIn x ya ⟨p, t, 1⟩ m w) (h0 : (checkC m).1 = 0) (hK : kindN m.kind = 4) :
    Calls Tryd.prog 51 #[.pointer (some ⟨x, 0, none⟩), .agg m.cells] w (RHearPost x ya (hearS ya ⟨p, t, 1⟩ m) (checkC m) w) := by
  have Qh0 := hide h0
  clear h0
  have QhK := hide hK
  clear hK
  have hc := h.check (.cells m.cells TM) (.cells #[.int .i64 0, .int .i64 0] TRF)
  have u := ((Upd.refl (fun _ => False) w).alloc (.cells m.cells TM)).alloc (.cells #[.int .i64 0, .int .i64 0] TRF)
  have b0 := (Blk.new w TM m.cells).alloc (.cells #[.int .i64 0, .int .i64 0] TRF)
  have b1 := Blk.at_ (w.alloc (.cells m.cells TM)) TRF #[.int .i64 0, .int .i64 0] (w.heap.size + 1) (by simp)
  have hl := Blk.new_ h.lv u
  have Hx := hide (Blk.lt h.lv)
  generalize hn : m.drops.length = n at *
  generalize hk : m.adds.length = k at *
  have hcs : m.cells = #[.string m.kind, .int .i64 m.n, .slice m.D n m.dc, .slice m.A k m.ac] := by unfold MsgR.cells; rw [hn, hk]
  rw [hcs] at hc u hl b0 b1 ⊢
  have Hc := hide hc
  have U := hide u
  have Hl := hide hl
  have Hb0 := hide b0
  have Hb1 := hide b1
  clear hc u hl hn hk hcs h b0 b1
  go_enter Tryd.func51, Tryd.ntmps51
  go_upto_region 1 with (fail)
  generalize ((w.alloc (.cells #[.string m.kind, .int .i64 m.n, .slice m.D n m.dc, .slice m.A k m.ac] TM)).alloc (.cells #[.int .i64 0, .int .i64 0] TRF)) = W0 at *
  have q0 := Hb0.out.cell 0
  have q1 := Hb0.out.cell 1
  have q2 := Hb0.out.cell 2
  have q3 := Hb0.out.cell 3
  have zq := Hb0.out.lt
  simp only [List.getElem?_toArray, List.getElem?_cons_zero, List.getElem?_cons_succ] at q0 q1 q2 q3
  go_wp2_with fail
  refine Hc.out.mono ?_
  rintro e w1 ⟨rfl, hu⟩
  have U1 := hide hu
  clear hu q0 q1 q2 q3 zq
  go_upto_region 2 with (fail)
  obtain ⟨c, hcc⟩ : ∃ c, c = checkC m := ⟨_, rfl⟩
  rw [← hcc]
  obtain ⟨W, hW⟩ : ∃ W, W = w1.alloc (.cells #[.int .i64 c.1, .int .i64 c.2] TRF) := ⟨_, rfl⟩
  obtain ⟨F, hF⟩ : ∃ F, F = w1.heap.size := ⟨_, rfl⟩
  obtain ⟨M, hM⟩ : ∃ M, M = w.heap.size := ⟨_, rfl⟩
  obtain ⟨R, hR⟩ : ∃ R, R = w.heap.size + 1 := ⟨_, rfl⟩
  rw [← hR] at Hb1
  rw [← hM] at Hb0
  have bF : Blk W F TRF #[.int .i64 c.1, .int .i64 c.2] := by rw [hW, hF]; exact Blk.new _ _ _
  have n1 : New W0 W := by rw [hW]; exact U1.out.alloc _
  have bl := Blk.new_ Hl.out n1
  have bM := Hb0.out.new_ n1
  have bR := Hb1.out.new_ n1
  have nW : New w W := U.out.trans_new n1
  have zR := Hb1.out.lt
  have zFR : R ≠ F := by rw [hF]; have := U1.out.size; omega
  have zFR2 : F ≠ R := fun e => zFR e.symm
  have zxR : x ≠ R := by have := Hx.out; omega
  have zxR2 : R ≠ x := fun e => zxR e.symm
  have zxF : x ≠ F := by rw [hF]; have := Hx.out; have := U1.out.size; have := U.out.size; omega
  have zxF2 : F ≠ x := fun e => zxF e.symm
  have zxM : x ≠ M := by have := Hx.out; omega
  have zxM2 : M ≠ x := fun e => zxM e.symm
  have hRB : w.heap.size ≤ R := by omega
  rw [← hW, ← hF, ← hR, ← hM]
  have Hcc := hide hcc
  have HB := hide hRB
  clear hW hF hM hR hcc n1 zR hRB
  have x0 := Blk.cell bl 0
  have x1 := Blk.cell bl 1
  have x2 := Blk.cell bl 2
  have x3 := Blk.cell bl 3
  have zx := Blk.lt bl
  have fx1 := Blk.frozen bl 1
  have fx2 := Blk.frozen bl 2
  have fx3 := Blk.frozen bl 3
  have q0 := bM.cell 0
  have q1 := bM.cell 1
  have zq := bM.lt
  have d0 := bR.cell 0
  have d1 := bR.cell 1
  have fd0 := bR.frozen 0
  have fd1 := bR.frozen 1
  have zR := bR.lt
  have y0 := bF.cell 0
  have y1 := bF.cell 1
  have zF := bF.lt
  simp only [List.getElem?_toArray, List.getElem?_cons_zero, List.getElem?_cons_succ] at x0 x1 x2 x3 q0 q1 d0 d1 y0 y1
  rw [stB1] at x3
  unfold stS at x3
  have HbF := hide bF
  have Hbl := hide bl
  have HbM := hide bM
  have HbR := hide bR
  have HnW := hide nW
  clear bF bl bM bR nW
  clear Hb0 Hb1 Hl U U1
  have h0 := Qh0.out
  have hK := QhK.out
  have k4 : c.1 = 0 := by have := Hcc.out; rw [this]; exact h0
  have K4 := hide k4
  have Hr : Hid (hearS ya ⟨p, t, 1⟩ m = (⟨0, 0, 0⟩, [])) := hide (by unfold hearS; rw [if_neg (by simp), if_neg (by simp [h0]), if_pos hK])
  have hk := kind_text (s := m.kind).2.2.2 hK
  clear h0 hK
  have Hi := hide (rnote_any x ya 0 ⟨p, t, 1⟩ W Hbl.out)
  go_wp2_with fail
  refine Hi.out.mono ?_
  rintro e w2 ⟨v2, rfl, hv2⟩
  have bF2 := Blk.upd HbF.out hv2.1 zxF2
  have bR2 := Blk.upd HbR.out hv2.1 zxR2
  have HbR2 := hide bR2
  have e0 := bF2.cell 0
  have e1 := bF2.cell 1
  have ze := bF2.lt
  have g0 := bR2.cell 0
  have g1 := bR2.cell 1
  have h0 := bR2.frozen 0
  have h1 := bR2.frozen 1
  have zg := bR2.lt
  simp only [List.getElem?_toArray, List.getElem?_cons_zero, List.getElem?_cons_succ] at e0 e1 g0 g1
  have Hv2 := hide hv2
  clear hv2 bF2 bR2
  go_wp2_with fail
  go_region
  all_goals go_wp2_with fail
  all_goals first
    | (refine bodyPost_ret (two_out Tryd.results51 rfl (fault_set HbR2.out)) rfl ?_; refine ⟨_, by rw [← Hcc.out, K4.out]; try rfl, ?_⟩; rw [Hr.out]; exact rend Hx.out HB.out ⟨(Upd.of_new HnW.out).trans' Hv2.out.1, Hv2.out.2.1, rfl⟩ (ne_of_type HbR2.out))
    | (refine bodyPost_ret (two_out Tryd.results51 rfl (Blk.drew (fault_set HbR2.out))) rfl ?_; refine ⟨_, by rw [← Hcc.out, K4.out]; try rfl, ?_⟩; rw [Hr.out]; exact tri_drew (rend Hx.out HB.out ⟨(Upd.of_new HnW.out).trans' Hv2.out.1, Hv2.out.2.1, rfl⟩ (ne_of_type HbR2.out)))
    | (refine bodyPost_ret (two_out Tryd.results51 rfl (Blk.drewN (fault_set HbR2.out) _)) rfl ?_; refine ⟨_, by rw [← Hcc.out, K4.out]; try rfl, ?_⟩; rw [Hr.out]; exact tri_drewN (rend Hx.out HB.out ⟨(Upd.of_new HnW.out).trans' Hv2.out.1, Hv2.out.2.1, rfl⟩ (ne_of_type HbR2.out)) _)

set_option maxRecDepth 8000 in
set_option maxHeartbeats 4000000 in
theorem rhear_bad2 (x : Nat) (ya p t : Int) (m : MsgR) (w : World) (h : RHearIn x ya ⟨p, t, 2⟩ m w) (hne : (checkC m).1 ≠ 0) :
    Calls Tryd.prog 51 #[.pointer (some ⟨x, 0, none⟩), .agg m.cells] w (RHearPost x ya (hearS ya ⟨p, t, 2⟩ m) (checkC m) w) := by
  have Qhne := hide hne
  clear hne
  have hc := h.check (.cells m.cells TM) (.cells #[.int .i64 0, .int .i64 0] TRF)
  have u := ((Upd.refl (fun _ => False) w).alloc (.cells m.cells TM)).alloc (.cells #[.int .i64 0, .int .i64 0] TRF)
  have b0 := (Blk.new w TM m.cells).alloc (.cells #[.int .i64 0, .int .i64 0] TRF)
  have b1 := Blk.at_ (w.alloc (.cells m.cells TM)) TRF #[.int .i64 0, .int .i64 0] (w.heap.size + 1) (by simp)
  have hl := Blk.new_ h.lv u
  have Hx := hide (Blk.lt h.lv)
  generalize hn : m.drops.length = n at *
  generalize hk : m.adds.length = k at *
  have hcs : m.cells = #[.string m.kind, .int .i64 m.n, .slice m.D n m.dc, .slice m.A k m.ac] := by unfold MsgR.cells; rw [hn, hk]
  rw [hcs] at hc u hl b0 b1 ⊢
  have Hc := hide hc
  have U := hide u
  have Hl := hide hl
  have Hb0 := hide b0
  have Hb1 := hide b1
  clear hc u hl hn hk hcs h b0 b1
  go_enter Tryd.func51, Tryd.ntmps51
  go_upto_region 1 with (fail)
  generalize ((w.alloc (.cells #[.string m.kind, .int .i64 m.n, .slice m.D n m.dc, .slice m.A k m.ac] TM)).alloc (.cells #[.int .i64 0, .int .i64 0] TRF)) = W0 at *
  have q0 := Hb0.out.cell 0
  have q1 := Hb0.out.cell 1
  have q2 := Hb0.out.cell 2
  have q3 := Hb0.out.cell 3
  have zq := Hb0.out.lt
  simp only [List.getElem?_toArray, List.getElem?_cons_zero, List.getElem?_cons_succ] at q0 q1 q2 q3
  go_wp2_with fail
  refine Hc.out.mono ?_
  rintro e w1 ⟨rfl, hu⟩
  have U1 := hide hu
  clear hu q0 q1 q2 q3 zq
  go_upto_region 2 with (fail)
  obtain ⟨c, hcc⟩ : ∃ c, c = checkC m := ⟨_, rfl⟩
  rw [← hcc]
  obtain ⟨W, hW⟩ : ∃ W, W = w1.alloc (.cells #[.int .i64 c.1, .int .i64 c.2] TRF) := ⟨_, rfl⟩
  obtain ⟨F, hF⟩ : ∃ F, F = w1.heap.size := ⟨_, rfl⟩
  obtain ⟨M, hM⟩ : ∃ M, M = w.heap.size := ⟨_, rfl⟩
  obtain ⟨R, hR⟩ : ∃ R, R = w.heap.size + 1 := ⟨_, rfl⟩
  rw [← hR] at Hb1
  rw [← hM] at Hb0
  have bF : Blk W F TRF #[.int .i64 c.1, .int .i64 c.2] := by rw [hW, hF]; exact Blk.new _ _ _
  have n1 : New W0 W := by rw [hW]; exact U1.out.alloc _
  have bl := Blk.new_ Hl.out n1
  have bM := Hb0.out.new_ n1
  have bR := Hb1.out.new_ n1
  have nW : New w W := U.out.trans_new n1
  have zR := Hb1.out.lt
  have zFR : R ≠ F := by rw [hF]; have := U1.out.size; omega
  have zFR2 : F ≠ R := fun e => zFR e.symm
  have zxR : x ≠ R := by have := Hx.out; omega
  have zxR2 : R ≠ x := fun e => zxR e.symm
  have zxF : x ≠ F := by rw [hF]; have := Hx.out; have := U1.out.size; have := U.out.size; omega
  have zxF2 : F ≠ x := fun e => zxF e.symm
  have zxM : x ≠ M := by have := Hx.out; omega
  have zxM2 : M ≠ x := fun e => zxM e.symm
  have hRB : w.heap.size ≤ R := by omega
  rw [← hW, ← hF, ← hR, ← hM]
  have Hcc := hide hcc
  have HB := hide hRB
  clear hW hF hM hR hcc n1 zR hRB
  have x0 := Blk.cell bl 0
  have x1 := Blk.cell bl 1
  have x2 := Blk.cell bl 2
  have x3 := Blk.cell bl 3
  have zx := Blk.lt bl
  have fx1 := Blk.frozen bl 1
  have fx2 := Blk.frozen bl 2
  have fx3 := Blk.frozen bl 3
  have q0 := bM.cell 0
  have q1 := bM.cell 1
  have zq := bM.lt
  have d0 := bR.cell 0
  have d1 := bR.cell 1
  have fd0 := bR.frozen 0
  have fd1 := bR.frozen 1
  have zR := bR.lt
  have y0 := bF.cell 0
  have y1 := bF.cell 1
  have zF := bF.lt
  simp only [List.getElem?_toArray, List.getElem?_cons_zero, List.getElem?_cons_succ] at x0 x1 x2 x3 q0 q1 d0 d1 y0 y1
  rw [stB2] at x3
  unfold stU at x3
  have HbF := hide bF
  have Hbl := hide bl
  have HbM := hide bM
  have HbR := hide bR
  have HnW := hide nW
  clear bF bl bM bR nW
  clear Hb0 Hb1 Hl U U1
  have hne := Qhne.out
  have k4 : 0 < c.1 := by have := Hcc.out; rw [this]; omega
  have Hr : Hid (hearS ya ⟨p, t, 2⟩ m = idleS 1) := hide (by unfold hearS; rw [if_neg (by simp), if_pos hne])
  clear hne
  have Hi := hide (fun k => rnote_any x ya 1 ⟨p, t, 2⟩ (W.drewN k) (Blk.drewN Hbl.out k))
  go_wp2_with fail
  go_region_with ((go_at_call 97; refine (Hi.out _).mono ?_; rintro e w2 ⟨v2, rfl, hv2⟩; have bF2 := Blk.upd (Blk.drewN HbF.out _) hv2.1 zxF2; have bR2 := Blk.upd (Blk.drewN HbR.out _) hv2.1 zxR2; have HbR2 := hide bR2; have e0 := bF2.cell 0; have e1 := bF2.cell 1; have ze := bF2.lt; have g0 := bR2.cell 0; have g1 := bR2.cell 1; have h0 := bR2.frozen 0; have h1 := bR2.frozen 1; have zg := bR2.lt; simp only [List.getElem?_toArray, List.getElem?_cons_zero, List.getElem?_cons_succ] at e0 e1 g0 g1; have T2 := hide (RvPost.trans_ ((Upd.of_new HnW.out).drewN _) hv2); clear hv2 bF2 bR2))
  all_goals go_wp2_with fail
  all_goals first
    | (refine bodyPost_ret (two_out Tryd.results51 rfl (fault_set HbR2.out)) rfl ?_; refine ⟨_, by rw [Hcc.out], ?_⟩; rw [Hr.out]; exact rend Hx.out HB.out T2.out (ne_of_type HbR2.out))
    | (refine bodyPost_ret (two_out Tryd.results51 rfl (Blk.drew (fault_set HbR2.out))) rfl ?_; refine ⟨_, by rw [Hcc.out], ?_⟩; rw [Hr.out]; exact tri_drew (rend Hx.out HB.out T2.out (ne_of_type HbR2.out)))
    | (refine bodyPost_ret (two_out Tryd.results51 rfl (Blk.drewN (fault_set HbR2.out) _)) rfl ?_; refine ⟨_, by rw [Hcc.out], ?_⟩; rw [Hr.out]; exact tri_drewN (rend Hx.out HB.out T2.out (ne_of_type HbR2.out)) _)

set_option maxRecDepth 8000 in
set_option maxHeartbeats 4000000 in
theorem rhear_2_1 (x : Nat) (ya p t : Int) (m : MsgR) (w : World) (h : RHearIn x ya ⟨p, t, 2⟩ m w) (h0 : (checkC m).1 = 0) (hK : kindN m.kind = 1) :
    Calls Tryd.prog 51 #[.pointer (some ⟨x, 0, none⟩), .agg m.cells] w (RHearPost x ya (hearS ya ⟨p, t, 2⟩ m) (checkC m) w) := by
  have Qh0 := hide h0
  clear h0
  have QhK := hide hK
  clear hK
  have hc := h.check (.cells m.cells TM) (.cells #[.int .i64 0, .int .i64 0] TRF)
  have u := ((Upd.refl (fun _ => False) w).alloc (.cells m.cells TM)).alloc (.cells #[.int .i64 0, .int .i64 0] TRF)
  have b0 := (Blk.new w TM m.cells).alloc (.cells #[.int .i64 0, .int .i64 0] TRF)
  have b1 := Blk.at_ (w.alloc (.cells m.cells TM)) TRF #[.int .i64 0, .int .i64 0] (w.heap.size + 1) (by simp)
  have hl := Blk.new_ h.lv u
  have Hx := hide (Blk.lt h.lv)
  generalize hn : m.drops.length = n at *
  generalize hk : m.adds.length = k at *
  have hcs : m.cells = #[.string m.kind, .int .i64 m.n, .slice m.D n m.dc, .slice m.A k m.ac] := by unfold MsgR.cells; rw [hn, hk]
  rw [hcs] at hc u hl b0 b1 ⊢
  have Hc := hide hc
  have U := hide u
  have Hl := hide hl
  have Hb0 := hide b0
  have Hb1 := hide b1
  clear hc u hl hn hk hcs h b0 b1
  go_enter Tryd.func51, Tryd.ntmps51
  go_upto_region 1 with (fail)
  generalize ((w.alloc (.cells #[.string m.kind, .int .i64 m.n, .slice m.D n m.dc, .slice m.A k m.ac] TM)).alloc (.cells #[.int .i64 0, .int .i64 0] TRF)) = W0 at *
  have q0 := Hb0.out.cell 0
  have q1 := Hb0.out.cell 1
  have q2 := Hb0.out.cell 2
  have q3 := Hb0.out.cell 3
  have zq := Hb0.out.lt
  simp only [List.getElem?_toArray, List.getElem?_cons_zero, List.getElem?_cons_succ] at q0 q1 q2 q3
  go_wp2_with fail
  refine Hc.out.mono ?_
  rintro e w1 ⟨rfl, hu⟩
  have U1 := hide hu
  clear hu q0 q1 q2 q3 zq
  go_upto_region 2 with (fail)
  obtain ⟨c, hcc⟩ : ∃ c, c = checkC m := ⟨_, rfl⟩
  rw [← hcc]
  obtain ⟨W, hW⟩ : ∃ W, W = w1.alloc (.cells #[.int .i64 c.1, .int .i64 c.2] TRF) := ⟨_, rfl⟩
  obtain ⟨F, hF⟩ : ∃ F, F = w1.heap.size := ⟨_, rfl⟩
  obtain ⟨M, hM⟩ : ∃ M, M = w.heap.size := ⟨_, rfl⟩
  obtain ⟨R, hR⟩ : ∃ R, R = w.heap.size + 1 := ⟨_, rfl⟩
  rw [← hR] at Hb1
  rw [← hM] at Hb0
  have bF : Blk W F TRF #[.int .i64 c.1, .int .i64 c.2] := by rw [hW, hF]; exact Blk.new _ _ _
  have n1 : New W0 W := by rw [hW]; exact U1.out.alloc _
  have bl := Blk.new_ Hl.out n1
  have bM := Hb0.out.new_ n1
  have bR := Hb1.out.new_ n1
  have nW : New w W := U.out.trans_new n1
  have zR := Hb1.out.lt
  have zFR : R ≠ F := by rw [hF]; have := U1.out.size; omega
  have zFR2 : F ≠ R := fun e => zFR e.symm
  have zxR : x ≠ R := by have := Hx.out; omega
  have zxR2 : R ≠ x := fun e => zxR e.symm
  have zxF : x ≠ F := by rw [hF]; have := Hx.out; have := U1.out.size; have := U.out.size; omega
  have zxF2 : F ≠ x := fun e => zxF e.symm
  have zxM : x ≠ M := by have := Hx.out; omega
  have zxM2 : M ≠ x := fun e => zxM e.symm
  have hRB : w.heap.size ≤ R := by omega
  rw [← hW, ← hF, ← hR, ← hM]
  have Hcc := hide hcc
  have HB := hide hRB
  clear hW hF hM hR hcc n1 zR hRB
  have x0 := Blk.cell bl 0
  have x1 := Blk.cell bl 1
  have x2 := Blk.cell bl 2
  have x3 := Blk.cell bl 3
  have zx := Blk.lt bl
  have fx1 := Blk.frozen bl 1
  have fx2 := Blk.frozen bl 2
  have fx3 := Blk.frozen bl 3
  have q0 := bM.cell 0
  have q1 := bM.cell 1
  have zq := bM.lt
  have d0 := bR.cell 0
  have d1 := bR.cell 1
  have fd0 := bR.frozen 0
  have fd1 := bR.frozen 1
  have zR := bR.lt
  have y0 := bF.cell 0
  have y1 := bF.cell 1
  have zF := bF.lt
  simp only [List.getElem?_toArray, List.getElem?_cons_zero, List.getElem?_cons_succ] at x0 x1 x2 x3 q0 q1 d0 d1 y0 y1
  rw [stB2] at x3
  unfold stU at x3
  have HbF := hide bF
  have Hbl := hide bl
  have HbM := hide bM
  have HbR := hide bR
  have HnW := hide nW
  clear bF bl bM bR nW
  clear Hb0 Hb1 Hl U U1
  have h0 := Qh0.out
  have hK := QhK.out
  have k4 : c.1 = 0 := by have := Hcc.out; rw [this]; exact h0
  have K4 := hide k4
  have Hr : Hid (hearS ya ⟨p, t, 2⟩ m = idleS 5) := hide (by unfold hearS; rw [if_neg (by simp), if_neg (by simp [h0]), if_neg (by simp [hK]), if_neg (by simp [hK]), if_pos (by simp [hK])])
  have hk := kind_text (s := m.kind).1 hK
  clear h0 hK
  have Hi := hide (fun k => rnote_any x ya 5 ⟨p, t, 2⟩ (W.drewN k) (Blk.drewN Hbl.out k))
  go_wp2_with fail
  go_region_with ((go_at_call 97; refine (Hi.out _).mono ?_; rintro e w2 ⟨v2, rfl, hv2⟩; have bF2 := Blk.upd (Blk.drewN HbF.out _) hv2.1 zxF2; have bR2 := Blk.upd (Blk.drewN HbR.out _) hv2.1 zxR2; have HbR2 := hide bR2; have e0 := bF2.cell 0; have e1 := bF2.cell 1; have ze := bF2.lt; have g0 := bR2.cell 0; have g1 := bR2.cell 1; have h0 := bR2.frozen 0; have h1 := bR2.frozen 1; have zg := bR2.lt; simp only [List.getElem?_toArray, List.getElem?_cons_zero, List.getElem?_cons_succ] at e0 e1 g0 g1; have T2 := hide (RvPost.trans_ ((Upd.of_new HnW.out).drewN _) hv2); clear hv2 bF2 bR2))
  all_goals go_wp2_with fail
  all_goals first
    | (refine bodyPost_ret (two_out Tryd.results51 rfl (fault_set HbR2.out)) rfl ?_; refine ⟨_, by rw [← Hcc.out, K4.out]; try rfl, ?_⟩; rw [Hr.out]; exact rend Hx.out HB.out T2.out (ne_of_type HbR2.out))
    | (refine bodyPost_ret (two_out Tryd.results51 rfl (Blk.drew (fault_set HbR2.out))) rfl ?_; refine ⟨_, by rw [← Hcc.out, K4.out]; try rfl, ?_⟩; rw [Hr.out]; exact tri_drew (rend Hx.out HB.out T2.out (ne_of_type HbR2.out)))
    | (refine bodyPost_ret (two_out Tryd.results51 rfl (Blk.drewN (fault_set HbR2.out) _)) rfl ?_; refine ⟨_, by rw [← Hcc.out, K4.out]; try rfl, ?_⟩; rw [Hr.out]; exact tri_drewN (rend Hx.out HB.out T2.out (ne_of_type HbR2.out)) _)

set_option maxRecDepth 8000 in
set_option maxHeartbeats 4000000 in
theorem rhear_2_2 (x : Nat) (ya p t : Int) (m : MsgR) (w : World) (h : RHearIn x ya ⟨p, t, 2⟩ m w) (h0 : (checkC m).1 = 0) (hK : kindN m.kind = 2) :
    Calls Tryd.prog 51 #[.pointer (some ⟨x, 0, none⟩), .agg m.cells] w (RHearPost x ya (hearS ya ⟨p, t, 2⟩ m) (checkC m) w) := by
  have Qh0 := hide h0
  clear h0
  have QhK := hide hK
  clear hK
  have hc := h.check (.cells m.cells TM) (.cells #[.int .i64 0, .int .i64 0] TRF)
  have u := ((Upd.refl (fun _ => False) w).alloc (.cells m.cells TM)).alloc (.cells #[.int .i64 0, .int .i64 0] TRF)
  have b0 := (Blk.new w TM m.cells).alloc (.cells #[.int .i64 0, .int .i64 0] TRF)
  have b1 := Blk.at_ (w.alloc (.cells m.cells TM)) TRF #[.int .i64 0, .int .i64 0] (w.heap.size + 1) (by simp)
  have hl := Blk.new_ h.lv u
  have Hx := hide (Blk.lt h.lv)
  generalize hn : m.drops.length = n at *
  generalize hk : m.adds.length = k at *
  have hcs : m.cells = #[.string m.kind, .int .i64 m.n, .slice m.D n m.dc, .slice m.A k m.ac] := by unfold MsgR.cells; rw [hn, hk]
  rw [hcs] at hc u hl b0 b1 ⊢
  have Hc := hide hc
  have U := hide u
  have Hl := hide hl
  have Hb0 := hide b0
  have Hb1 := hide b1
  clear hc u hl hn hk hcs h b0 b1
  go_enter Tryd.func51, Tryd.ntmps51
  go_upto_region 1 with (fail)
  generalize ((w.alloc (.cells #[.string m.kind, .int .i64 m.n, .slice m.D n m.dc, .slice m.A k m.ac] TM)).alloc (.cells #[.int .i64 0, .int .i64 0] TRF)) = W0 at *
  have q0 := Hb0.out.cell 0
  have q1 := Hb0.out.cell 1
  have q2 := Hb0.out.cell 2
  have q3 := Hb0.out.cell 3
  have zq := Hb0.out.lt
  simp only [List.getElem?_toArray, List.getElem?_cons_zero, List.getElem?_cons_succ] at q0 q1 q2 q3
  go_wp2_with fail
  refine Hc.out.mono ?_
  rintro e w1 ⟨rfl, hu⟩
  have U1 := hide hu
  clear hu q0 q1 q2 q3 zq
  go_upto_region 2 with (fail)
  obtain ⟨c, hcc⟩ : ∃ c, c = checkC m := ⟨_, rfl⟩
  rw [← hcc]
  obtain ⟨W, hW⟩ : ∃ W, W = w1.alloc (.cells #[.int .i64 c.1, .int .i64 c.2] TRF) := ⟨_, rfl⟩
  obtain ⟨F, hF⟩ : ∃ F, F = w1.heap.size := ⟨_, rfl⟩
  obtain ⟨M, hM⟩ : ∃ M, M = w.heap.size := ⟨_, rfl⟩
  obtain ⟨R, hR⟩ : ∃ R, R = w.heap.size + 1 := ⟨_, rfl⟩
  rw [← hR] at Hb1
  rw [← hM] at Hb0
  have bF : Blk W F TRF #[.int .i64 c.1, .int .i64 c.2] := by rw [hW, hF]; exact Blk.new _ _ _
  have n1 : New W0 W := by rw [hW]; exact U1.out.alloc _
  have bl := Blk.new_ Hl.out n1
  have bM := Hb0.out.new_ n1
  have bR := Hb1.out.new_ n1
  have nW : New w W := U.out.trans_new n1
  have zR := Hb1.out.lt
  have zFR : R ≠ F := by rw [hF]; have := U1.out.size; omega
  have zFR2 : F ≠ R := fun e => zFR e.symm
  have zxR : x ≠ R := by have := Hx.out; omega
  have zxR2 : R ≠ x := fun e => zxR e.symm
  have zxF : x ≠ F := by rw [hF]; have := Hx.out; have := U1.out.size; have := U.out.size; omega
  have zxF2 : F ≠ x := fun e => zxF e.symm
  have zxM : x ≠ M := by have := Hx.out; omega
  have zxM2 : M ≠ x := fun e => zxM e.symm
  have hRB : w.heap.size ≤ R := by omega
  rw [← hW, ← hF, ← hR, ← hM]
  have Hcc := hide hcc
  have HB := hide hRB
  clear hW hF hM hR hcc n1 zR hRB
  have x0 := Blk.cell bl 0
  have x1 := Blk.cell bl 1
  have x2 := Blk.cell bl 2
  have x3 := Blk.cell bl 3
  have zx := Blk.lt bl
  have fx1 := Blk.frozen bl 1
  have fx2 := Blk.frozen bl 2
  have fx3 := Blk.frozen bl 3
  have q0 := bM.cell 0
  have q1 := bM.cell 1
  have zq := bM.lt
  have d0 := bR.cell 0
  have d1 := bR.cell 1
  have fd0 := bR.frozen 0
  have fd1 := bR.frozen 1
  have zR := bR.lt
  have y0 := bF.cell 0
  have y1 := bF.cell 1
  have zF := bF.lt
  simp only [List.getElem?_toArray, List.getElem?_cons_zero, List.getElem?_cons_succ] at x0 x1 x2 x3 q0 q1 d0 d1 y0 y1
  rw [stB2] at x3
  unfold stU at x3
  have HbF := hide bF
  have Hbl := hide bl
  have HbM := hide bM
  have HbR := hide bR
  have HnW := hide nW
  clear bF bl bM bR nW
  clear Hb0 Hb1 Hl U U1
  have h0 := Qh0.out
  have hK := QhK.out
  have k4 : c.1 = 0 := by have := Hcc.out; rw [this]; exact h0
  have K4 := hide k4
  have Hr : Hid (hearS ya ⟨p, t, 2⟩ m = (⟨p, 0, 2⟩, [])) := hide (by unfold hearS; rw [if_neg (by simp), if_neg (by simp [h0]), if_neg (by simp [hK]), if_pos (by simp [hK])])
  have hk := kind_text (s := m.kind).2.1 hK
  clear h0 hK
  have u2 : Upd (fun j => j = x) W (W.setCell ⟨x, 2, none⟩ (.int .i64 0)) := (Upd.refl (fun j => j = x) W).setCell (p := ⟨x, 2, none⟩) (.inl rfl) _
  have hb : Blk (W.setCell ⟨x, 2, none⟩ (.int .i64 0)) x TRL #[.int .i64 ya, .int .i64 p, .int .i64 0, .string (stB 2)] := by
    simpa using Blk.set_ Hbl.out 2 (.int .i64 0)
  have hbR := Blk.far HbR.out (p := ⟨x, 2, none⟩) zxR2 (.int .i64 0)
  have Hu2 := hide u2
  have Hb2 := hide hb
  have HbR2 := hide hbR
  clear u2 hb hbR
  go_wp2_with fail
  go_region
  all_goals go_wp2_with fail
  all_goals first
    | (refine bodyPost_ret (two_out Tryd.results51 rfl (fault_set HbR2.out)) rfl ?_; refine ⟨_, by rw [← Hcc.out, K4.out]; try rfl, ?_⟩; rw [Hr.out]; exact rend Hx.out HB.out ⟨(Upd.of_new HnW.out).trans' Hu2.out, Hb2.out, rfl⟩ (ne_of_type HbR2.out))
    | (refine bodyPost_ret (two_out Tryd.results51 rfl (Blk.drew (fault_set HbR2.out))) rfl ?_; refine ⟨_, by rw [← Hcc.out, K4.out]; try rfl, ?_⟩; rw [Hr.out]; exact tri_drew (rend Hx.out HB.out ⟨(Upd.of_new HnW.out).trans' Hu2.out, Hb2.out, rfl⟩ (ne_of_type HbR2.out)))
    | (refine bodyPost_ret (two_out Tryd.results51 rfl (Blk.drewN (fault_set HbR2.out) _)) rfl ?_; refine ⟨_, by rw [← Hcc.out, K4.out]; try rfl, ?_⟩; rw [Hr.out]; exact tri_drewN (rend Hx.out HB.out ⟨(Upd.of_new HnW.out).trans' Hu2.out, Hb2.out, rfl⟩ (ne_of_type HbR2.out)) _)

set_option maxRecDepth 8000 in
set_option maxHeartbeats 4000000 in
theorem rhear_2_3 (x : Nat) (ya p t : Int) (m : MsgR) (w : World) (h : RHearIn x ya ⟨p, t, 2⟩ m w) (h0 : (checkC m).1 = 0) (hK : kindN m.kind = 3) :
    Calls Tryd.prog 51 #[.pointer (some ⟨x, 0, none⟩), .agg m.cells] w (RHearPost x ya (hearS ya ⟨p, t, 2⟩ m) (checkC m) w) := by
  have Qh0 := hide h0
  clear h0
  have QhK := hide hK
  clear hK
  have hc := h.check (.cells m.cells TM) (.cells #[.int .i64 0, .int .i64 0] TRF)
  have u := ((Upd.refl (fun _ => False) w).alloc (.cells m.cells TM)).alloc (.cells #[.int .i64 0, .int .i64 0] TRF)
  have b0 := (Blk.new w TM m.cells).alloc (.cells #[.int .i64 0, .int .i64 0] TRF)
  have b1 := Blk.at_ (w.alloc (.cells m.cells TM)) TRF #[.int .i64 0, .int .i64 0] (w.heap.size + 1) (by simp)
  have hl := Blk.new_ h.lv u
  have Hx := hide (Blk.lt h.lv)
  generalize hn : m.drops.length = n at *
  generalize hk : m.adds.length = k at *
  have hcs : m.cells = #[.string m.kind, .int .i64 m.n, .slice m.D n m.dc, .slice m.A k m.ac] := by unfold MsgR.cells; rw [hn, hk]
  rw [hcs] at hc u hl b0 b1 ⊢
  have Hc := hide hc
  have U := hide u
  have Hl := hide hl
  have Hb0 := hide b0
  have Hb1 := hide b1
  clear hc u hl hn hk hcs h b0 b1
  go_enter Tryd.func51, Tryd.ntmps51
  go_upto_region 1 with (fail)
  generalize ((w.alloc (.cells #[.string m.kind, .int .i64 m.n, .slice m.D n m.dc, .slice m.A k m.ac] TM)).alloc (.cells #[.int .i64 0, .int .i64 0] TRF)) = W0 at *
  have q0 := Hb0.out.cell 0
  have q1 := Hb0.out.cell 1
  have q2 := Hb0.out.cell 2
  have q3 := Hb0.out.cell 3
  have zq := Hb0.out.lt
  simp only [List.getElem?_toArray, List.getElem?_cons_zero, List.getElem?_cons_succ] at q0 q1 q2 q3
  go_wp2_with fail
  refine Hc.out.mono ?_
  rintro e w1 ⟨rfl, hu⟩
  have U1 := hide hu
  clear hu q0 q1 q2 q3 zq
  go_upto_region 2 with (fail)
  obtain ⟨c, hcc⟩ : ∃ c, c = checkC m := ⟨_, rfl⟩
  rw [← hcc]
  obtain ⟨W, hW⟩ : ∃ W, W = w1.alloc (.cells #[.int .i64 c.1, .int .i64 c.2] TRF) := ⟨_, rfl⟩
  obtain ⟨F, hF⟩ : ∃ F, F = w1.heap.size := ⟨_, rfl⟩
  obtain ⟨M, hM⟩ : ∃ M, M = w.heap.size := ⟨_, rfl⟩
  obtain ⟨R, hR⟩ : ∃ R, R = w.heap.size + 1 := ⟨_, rfl⟩
  rw [← hR] at Hb1
  rw [← hM] at Hb0
  have bF : Blk W F TRF #[.int .i64 c.1, .int .i64 c.2] := by rw [hW, hF]; exact Blk.new _ _ _
  have n1 : New W0 W := by rw [hW]; exact U1.out.alloc _
  have bl := Blk.new_ Hl.out n1
  have bM := Hb0.out.new_ n1
  have bR := Hb1.out.new_ n1
  have nW : New w W := U.out.trans_new n1
  have zR := Hb1.out.lt
  have zFR : R ≠ F := by rw [hF]; have := U1.out.size; omega
  have zFR2 : F ≠ R := fun e => zFR e.symm
  have zxR : x ≠ R := by have := Hx.out; omega
  have zxR2 : R ≠ x := fun e => zxR e.symm
  have zxF : x ≠ F := by rw [hF]; have := Hx.out; have := U1.out.size; have := U.out.size; omega
  have zxF2 : F ≠ x := fun e => zxF e.symm
  have zxM : x ≠ M := by have := Hx.out; omega
  have zxM2 : M ≠ x := fun e => zxM e.symm
  have hRB : w.heap.size ≤ R := by omega
  rw [← hW, ← hF, ← hR, ← hM]
  have Hcc := hide hcc
  have HB := hide hRB
  clear hW hF hM hR hcc n1 zR hRB
  have x0 := Blk.cell bl 0
  have x1 := Blk.cell bl 1
  have x2 := Blk.cell bl 2
  have x3 := Blk.cell bl 3
  have zx := Blk.lt bl
  have fx1 := Blk.frozen bl 1
  have fx2 := Blk.frozen bl 2
  have fx3 := Blk.frozen bl 3
  have q0 := bM.cell 0
  have q1 := bM.cell 1
  have zq := bM.lt
  have d0 := bR.cell 0
  have d1 := bR.cell 1
  have fd0 := bR.frozen 0
  have fd1 := bR.frozen 1
  have zR := bR.lt
  have y0 := bF.cell 0
  have y1 := bF.cell 1
  have zF := bF.lt
  simp only [List.getElem?_toArray, List.getElem?_cons_zero, List.getElem?_cons_succ] at x0 x1 x2 x3 q0 q1 d0 d1 y0 y1
  rw [stB2] at x3
  unfold stU at x3
  have HbF := hide bF
  have Hbl := hide bl
  have HbM := hide bM
  have HbR := hide bR
  have HnW := hide nW
  clear bF bl bM bR nW
  clear Hb0 Hb1 Hl U U1
  have h0 := Qh0.out
  have hK := QhK.out
  have k4 : c.1 = 0 := by have := Hcc.out; rw [this]; exact h0
  have K4 := hide k4
  have Hr : Hid (hearS ya ⟨p, t, 2⟩ m = (⟨p, 0, 2⟩, [])) := hide (by unfold hearS; rw [if_neg (by simp), if_neg (by simp [h0]), if_neg (by simp [hK]), if_pos (by simp [hK])])
  have hk := kind_text (s := m.kind).2.2.1 hK
  clear h0 hK
  have u2 : Upd (fun j => j = x) W (W.setCell ⟨x, 2, none⟩ (.int .i64 0)) := (Upd.refl (fun j => j = x) W).setCell (p := ⟨x, 2, none⟩) (.inl rfl) _
  have hb : Blk (W.setCell ⟨x, 2, none⟩ (.int .i64 0)) x TRL #[.int .i64 ya, .int .i64 p, .int .i64 0, .string (stB 2)] := by
    simpa using Blk.set_ Hbl.out 2 (.int .i64 0)
  have hbR := Blk.far HbR.out (p := ⟨x, 2, none⟩) zxR2 (.int .i64 0)
  have Hu2 := hide u2
  have Hb2 := hide hb
  have HbR2 := hide hbR
  clear u2 hb hbR
  go_wp2_with fail
  go_region
  all_goals go_wp2_with fail
  all_goals first
    | (refine bodyPost_ret (two_out Tryd.results51 rfl (fault_set HbR2.out)) rfl ?_; refine ⟨_, by rw [← Hcc.out, K4.out]; try rfl, ?_⟩; rw [Hr.out]; exact rend Hx.out HB.out ⟨(Upd.of_new HnW.out).trans' Hu2.out, Hb2.out, rfl⟩ (ne_of_type HbR2.out))
    | (refine bodyPost_ret (two_out Tryd.results51 rfl (Blk.drew (fault_set HbR2.out))) rfl ?_; refine ⟨_, by rw [← Hcc.out, K4.out]; try rfl, ?_⟩; rw [Hr.out]; exact tri_drew (rend Hx.out HB.out ⟨(Upd.of_new HnW.out).trans' Hu2.out, Hb2.out, rfl⟩ (ne_of_type HbR2.out)))
    | (refine bodyPost_ret (two_out Tryd.results51 rfl (Blk.drewN (fault_set HbR2.out) _)) rfl ?_; refine ⟨_, by rw [← Hcc.out, K4.out]; try rfl, ?_⟩; rw [Hr.out]; exact tri_drewN (rend Hx.out HB.out ⟨(Upd.of_new HnW.out).trans' Hu2.out, Hb2.out, rfl⟩ (ne_of_type HbR2.out)) _)

set_option maxRecDepth 8000 in
set_option maxHeartbeats 4000000 in
theorem rhear_2_4 (x : Nat) (ya p t : Int) (m : MsgR) (w : World) (h : RHearIn x ya ⟨p, t, 2⟩ m w) (h0 : (checkC m).1 = 0) (hK : kindN m.kind = 4) :
    Calls Tryd.prog 51 #[.pointer (some ⟨x, 0, none⟩), .agg m.cells] w (RHearPost x ya (hearS ya ⟨p, t, 2⟩ m) (checkC m) w) := by
  have Qh0 := hide h0
  clear h0
  have QhK := hide hK
  clear hK
  have hc := h.check (.cells m.cells TM) (.cells #[.int .i64 0, .int .i64 0] TRF)
  have u := ((Upd.refl (fun _ => False) w).alloc (.cells m.cells TM)).alloc (.cells #[.int .i64 0, .int .i64 0] TRF)
  have b0 := (Blk.new w TM m.cells).alloc (.cells #[.int .i64 0, .int .i64 0] TRF)
  have b1 := Blk.at_ (w.alloc (.cells m.cells TM)) TRF #[.int .i64 0, .int .i64 0] (w.heap.size + 1) (by simp)
  have hl := Blk.new_ h.lv u
  have Hx := hide (Blk.lt h.lv)
  generalize hn : m.drops.length = n at *
  generalize hk : m.adds.length = k at *
  have hcs : m.cells = #[.string m.kind, .int .i64 m.n, .slice m.D n m.dc, .slice m.A k m.ac] := by unfold MsgR.cells; rw [hn, hk]
  rw [hcs] at hc u hl b0 b1 ⊢
  have Hc := hide hc
  have U := hide u
  have Hl := hide hl
  have Hb0 := hide b0
  have Hb1 := hide b1
  clear hc u hl hn hk hcs h b0 b1
  go_enter Tryd.func51, Tryd.ntmps51
  go_upto_region 1 with (fail)
  generalize ((w.alloc (.cells #[.string m.kind, .int .i64 m.n, .slice m.D n m.dc, .slice m.A k m.ac] TM)).alloc (.cells #[.int .i64 0, .int .i64 0] TRF)) = W0 at *
  have q0 := Hb0.out.cell 0
  have q1 := Hb0.out.cell 1
  have q2 := Hb0.out.cell 2
  have q3 := Hb0.out.cell 3
  have zq := Hb0.out.lt
  simp only [List.getElem?_toArray, List.getElem?_cons_zero, List.getElem?_cons_succ] at q0 q1 q2 q3
  go_wp2_with fail
  refine Hc.out.mono ?_
  rintro e w1 ⟨rfl, hu⟩
  have U1 := hide hu
  clear hu q0 q1 q2 q3 zq
  go_upto_region 2 with (fail)
  obtain ⟨c, hcc⟩ : ∃ c, c = checkC m := ⟨_, rfl⟩
  rw [← hcc]
  obtain ⟨W, hW⟩ : ∃ W, W = w1.alloc (.cells #[.int .i64 c.1, .int .i64 c.2] TRF) := ⟨_, rfl⟩
  obtain ⟨F, hF⟩ : ∃ F, F = w1.heap.size := ⟨_, rfl⟩
  obtain ⟨M, hM⟩ : ∃ M, M = w.heap.size := ⟨_, rfl⟩
  obtain ⟨R, hR⟩ : ∃ R, R = w.heap.size + 1 := ⟨_, rfl⟩
  rw [← hR] at Hb1
  rw [← hM] at Hb0
  have bF : Blk W F TRF #[.int .i64 c.1, .int .i64 c.2] := by rw [hW, hF]; exact Blk.new _ _ _
  have n1 : New W0 W := by rw [hW]; exact U1.out.alloc _
  have bl := Blk.new_ Hl.out n1
  have bM := Hb0.out.new_ n1
  have bR := Hb1.out.new_ n1
  have nW : New w W := U.out.trans_new n1
  have zR := Hb1.out.lt
  have zFR : R ≠ F := by rw [hF]; have := U1.out.size; omega
  have zFR2 : F ≠ R := fun e => zFR e.symm
  have zxR : x ≠ R := by have := Hx.out; omega
  have zxR2 : R ≠ x := fun e => zxR e.symm
  have zxF : x ≠ F := by rw [hF]; have := Hx.out; have := U1.out.size; have := U.out.size; omega
  have zxF2 : F ≠ x := fun e => zxF e.symm
  have zxM : x ≠ M := by have := Hx.out; omega
  have zxM2 : M ≠ x := fun e => zxM e.symm
  have hRB : w.heap.size ≤ R := by omega
  rw [← hW, ← hF, ← hR, ← hM]
  have Hcc := hide hcc
  have HB := hide hRB
  clear hW hF hM hR hcc n1 zR hRB
  have x0 := Blk.cell bl 0
  have x1 := Blk.cell bl 1
  have x2 := Blk.cell bl 2
  have x3 := Blk.cell bl 3
  have zx := Blk.lt bl
  have fx1 := Blk.frozen bl 1
  have fx2 := Blk.frozen bl 2
  have fx3 := Blk.frozen bl 3
  have q0 := bM.cell 0
  have q1 := bM.cell 1
  have zq := bM.lt
  have d0 := bR.cell 0
  have d1 := bR.cell 1
  have fd0 := bR.frozen 0
  have fd1 := bR.frozen 1
  have zR := bR.lt
  have y0 := bF.cell 0
  have y1 := bF.cell 1
  have zF := bF.lt
  simp only [List.getElem?_toArray, List.getElem?_cons_zero, List.getElem?_cons_succ] at x0 x1 x2 x3 q0 q1 d0 d1 y0 y1
  rw [stB2] at x3
  unfold stU at x3
  have HbF := hide bF
  have Hbl := hide bl
  have HbM := hide bM
  have HbR := hide bR
  have HnW := hide nW
  clear bF bl bM bR nW
  clear Hb0 Hb1 Hl U U1
  have h0 := Qh0.out
  have hK := QhK.out
  have k4 : c.1 = 0 := by have := Hcc.out; rw [this]; exact h0
  have K4 := hide k4
  have Hr : Hid (hearS ya ⟨p, t, 2⟩ m = (⟨0, 0, 0⟩, [])) := hide (by unfold hearS; rw [if_neg (by simp), if_neg (by simp [h0]), if_pos hK])
  have hk := kind_text (s := m.kind).2.2.2 hK
  clear h0 hK
  have Hi := hide (rnote_any x ya 0 ⟨p, t, 2⟩ W Hbl.out)
  go_wp2_with fail
  refine Hi.out.mono ?_
  rintro e w2 ⟨v2, rfl, hv2⟩
  have bF2 := Blk.upd HbF.out hv2.1 zxF2
  have bR2 := Blk.upd HbR.out hv2.1 zxR2
  have HbR2 := hide bR2
  have e0 := bF2.cell 0
  have e1 := bF2.cell 1
  have ze := bF2.lt
  have g0 := bR2.cell 0
  have g1 := bR2.cell 1
  have h0 := bR2.frozen 0
  have h1 := bR2.frozen 1
  have zg := bR2.lt
  simp only [List.getElem?_toArray, List.getElem?_cons_zero, List.getElem?_cons_succ] at e0 e1 g0 g1
  have Hv2 := hide hv2
  clear hv2 bF2 bR2
  go_wp2_with fail
  go_region
  all_goals go_wp2_with fail
  all_goals first
    | (refine bodyPost_ret (two_out Tryd.results51 rfl (fault_set HbR2.out)) rfl ?_; refine ⟨_, by rw [← Hcc.out, K4.out]; try rfl, ?_⟩; rw [Hr.out]; exact rend Hx.out HB.out ⟨(Upd.of_new HnW.out).trans' Hv2.out.1, Hv2.out.2.1, rfl⟩ (ne_of_type HbR2.out))
    | (refine bodyPost_ret (two_out Tryd.results51 rfl (Blk.drew (fault_set HbR2.out))) rfl ?_; refine ⟨_, by rw [← Hcc.out, K4.out]; try rfl, ?_⟩; rw [Hr.out]; exact tri_drew (rend Hx.out HB.out ⟨(Upd.of_new HnW.out).trans' Hv2.out.1, Hv2.out.2.1, rfl⟩ (ne_of_type HbR2.out)))
    | (refine bodyPost_ret (two_out Tryd.results51 rfl (Blk.drewN (fault_set HbR2.out) _)) rfl ?_; refine ⟨_, by rw [← Hcc.out, K4.out]; try rfl, ?_⟩; rw [Hr.out]; exact tri_drewN (rend Hx.out HB.out ⟨(Upd.of_new HnW.out).trans' Hv2.out.1, Hv2.out.2.1, rfl⟩ (ne_of_type HbR2.out)) _)

theorem rhear_any (x : Nat) (ya : Int) (s : LS) (m : MsgR) (w : World) (h : RHearIn x ya s m w) (hs : s.st ≤ 2) :
    Calls Tryd.prog 51 #[.pointer (some ⟨x, 0, none⟩), .agg m.cells] w (RHearPost x ya (hearS ya s m) (checkC m) w) := by
  obtain ⟨p, t, n⟩ := s
  match n, hs with
  | 0, _ => exact rhear_idle x ya p t m w h
  | 1, _ =>
    by_cases hc : (checkC m).1 = 0
    · have h0 := checkC_kind hc
      have h4 := kindN_le m.kind
      by_cases k1 : kindN m.kind = 1
      · by_cases hn : m.n = ya
        · exact rhear_same x ya p t m w h hc k1 hn
        · exact rhear_up x ya p t m w h hc k1 hn
      · by_cases k2 : kindN m.kind = 2
        · exact rhear_1_2 x ya p t m w h hc k2
        · by_cases k3 : kindN m.kind = 3
          · exact rhear_1_3 x ya p t m w h hc k3
          · exact rhear_1_4 x ya p t m w h hc (by omega)
    · exact rhear_bad1 x ya p t m w h hc
  | 2, _ =>
    by_cases hc : (checkC m).1 = 0
    · have h0 := checkC_kind hc
      have h4 := kindN_le m.kind
      by_cases k1 : kindN m.kind = 1
      · exact rhear_2_1 x ya p t m w h hc k1
      · by_cases k2 : kindN m.kind = 2
        · exact rhear_2_2 x ya p t m w h hc k2
        · by_cases k3 : kindN m.kind = 3
          · exact rhear_2_3 x ya p t m w h hc k3
          · exact rhear_2_4 x ya p t m w h hc (by omega)
    · exact rhear_bad2 x ya p t m w h hc
end Go.Proofs.YtkljanjapcpbdaaDoor

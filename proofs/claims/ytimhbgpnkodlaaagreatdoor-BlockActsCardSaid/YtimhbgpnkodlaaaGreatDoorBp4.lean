/- Package block: find: of all blocks that are asked for, the first that has a free address, and the least of its. No condition but those that stand in each theorem. -/
import Derived.Test.YtimhbgpnkodlaaaGreatDoorBp1
namespace Go.Proofs.YtimhbgpnkodlaaaGreatDoor
open Go.RowKit Go.Maps Go.Shelf
attribute [local go_sem] Oper.semAt_some
section
variable {w : World} {kp bm tm : Nat} {p : Pf} {L : Int} {c : PoolC} {E : Nat → Addr}

set_option maxRecDepth 20000 in
set_option maxHeartbeats 2000000 in
theorem plfind1 (hg : PoolG p L) (h : PoolM w kp bm tm p L c) (h2 : Sen w gBound (E 2)) (h3 : Sen w gShape (E 3)) (q : Int → Bool) (bx : Nat)
    (hq : ∀ (W : World) (x : Int), New w W → Calls Tryz.prog 30 #[.int .i64 x, .pointer (some ⟨bx, 0, none⟩)] W fun e w1 => e = .returned (.bool (q x)) ∧ New W w1) :
    Calls Tryz.prog 29 #[.pointer (some ⟨kp, 0, none⟩), .func (.func 30) #[] #[.pointer (some ⟨bx, 0, none⟩)]] w fun e w1 => e = .returned (encO p.a (freeC (plN p) (plZ L) c q)) ∧ New w w1 := by
  rw [← hg.pp.mz, ← find_free (plZ_pos L)]
  refine (callsIn_wide (n := 9)).1 ?_
  refine callsIn_of_wp_marks Tryz.func29 rfl trivial ?_
  simp only [Tryz.ntmps29, List.size_toArray, List.length_cons, List.length_nil, Nat.reduceAdd, Nat.reduceSub, Array.replicate_succ, Array.replicate_zero, List.push_toArray, List.append_toArray, List.nil_append, List.cons_append]
  refine wpIn_wide.2 ?_
  have hW := FindW.start w kp (.func (.func 30) #[] #[.pointer (some ⟨bx, 0, none⟩)])
  have hsz : ((((w.alloc (.cells #[.pointer (some ⟨kp, 0, none⟩)] 26)).alloc (.cells #[.func (.func 30) #[] #[.pointer (some ⟨bx, 0, none⟩)]] 62)).alloc (.cells #[.int .i64 0] 3)).alloc (.cells #[.bool false] 4)).heap.size = w.heap.size + 4 := by simp
  have HW := hide hW
  have Hsz := hide hsz
  have z0 := h.blk.lt
  have z2 := h2.lt
  have z3 := h3.lt
  have Hh := hide h
  have Hg := hide hg
  have H2 := hide h2
  have H3 := hide h3
  have Hq := hide hq
  clear hW hsz h hg h2 h3 hq
  go_upto_region 1 with (fail)
  generalize ((((w.alloc (.cells #[.pointer (some ⟨kp, 0, none⟩)] 26)).alloc (.cells #[.func (.func 30) #[] #[.pointer (some ⟨bx, 0, none⟩)]] 62)).alloc (.cells #[.int .i64 0] 3)).alloc (.cells #[.bool false] 4)) = W0 at *
  have k0 : W0.cell? ⟨w.heap.size, 0, none⟩ = some (.pointer (some ⟨kp, 0, none⟩)) := HW.out.k.cell 0
  have y0 := HW.out.k.lt
  go_wp2_with fail
  have pm0 := Hh.out.new_ HW.out.new
  refine wp_range_bound (n := 9) (gf := 38) (fb := #[.pointer (some ⟨kp, 0, none⟩)]) rfl (enters_of Tryz.func38 (by kernel_rfl) rfl)
    (plall_seq 8 Hg.out w.heap.size pm0.blk (H2.out.new HW.out.new) (H3.out.new HW.out.new) z0 z2 z3 HW.out.new.size) (Below.refl _ _) HW.out.new.size (fun _ => rfl)
    (fun pre W => (∀ k, k < pre.length → spotQ (plZ L) c q k = none) ∧ FindW w W kp (.func (.func 30) #[] #[.pointer (some ⟨bx, 0, none⟩)]) (.int .i64 0) (.bool false))
    (fun _ W => ∃ j i, spotQ (plZ L) c q j = some i ∧ (∀ k, k < j → spotQ (plZ L) c q k = none) ∧ j < plM p L ∧ FindW w W kp (.func (.func 30) #[] #[.pointer (some ⟨bx, 0, none⟩)]) (.int .i64 (p.a + (i : Int))) (.bool true))
    (fun s A B row hs hg hr => ⟨hs.1, hs.2.grown (by rw [Hsz.out]; exact Nat.le_refl _) hg fun r e => (hr r e).1⟩)
    (fun s A B row hs hg hr => by
      obtain ⟨j, i, e1, e2, e3, e4⟩ := hs
      exact ⟨j, i, e1, e2, e3, e4.grown (by rw [Hsz.out]; exact Nat.le_refl _) hg fun r e => (hr r e).1⟩)
    ⟨fun k hk => absurd hk (Nat.not_lt_zero _), HW.out⟩
    (fun x => { tmps := #[.pointer (some ⟨kp, 0, none⟩), .func (.func 30) #[] #[.pointer (some ⟨bx, 0, none⟩)], .pointer (some ⟨w.heap.size, 0, none⟩), .pointer (some ⟨w.heap.size + 1, 0, none⟩), .pointer (some ⟨w.heap.size + 2, 0, none⟩), .pointer (some ⟨w.heap.size + 3, 0, none⟩),
      .int .i64 (adr p L x), undef, undef, .pointer (some ⟨kp, 0, none⟩), .func (.func 38) #[.pointer (some ⟨kp, 0, none⟩)] #[], .int .i64 (adr p L x),
      undef, undef, undef, undef, undef, undef, undef, undef, undef, undef, undef, undef, undef, undef, undef, undef], defers := [] }) ?assign ?body ?done ?stop
  case assign =>
    intro l x W K hK
    unfold encJ
    gi_wp2
    exact hK
  case body =>
    rintro l pre x W ⟨hp, hf⟩ ⟨rfl, hx⟩ hle
    have pm := Hh.out.new_ hf.new
    have hl : ∀ n : NewW W, (Instr.lookup 53 (.map (some bm)) (.int .i64 (adr p L x)) false).run Tryz.prog n.w = .ok (.int .i64 (c.B x)) n.w := fun n => (pm.new_ n.h).lookB Hg.out hx
    have hfr := fun n : NewW W => plfree_adr Hg.out (pm.new_ n.h) x hx
    have hqc := fun n : NewW W => Hq.out n.w (c.B x) (hf.new.trans_new n.h)
    have b0 : W.cell? ⟨w.heap.size, 0, none⟩ = some (.pointer (some ⟨kp, 0, none⟩)) := hf.k.cell 0
    have b1 : W.cell? ⟨w.heap.size + 1, 0, none⟩ = some (.func (.func 30) #[] #[.pointer (some ⟨bx, 0, none⟩)]) := hf.want.cell 0
    have c3 : W.cell? ⟨kp, 3, none⟩ = some (.map (some bm)) := pm.blk.cell 3
    have y0 := hf.k.lt
    have y1 := hf.want.lt
    have y2 := pm.blk.lt
    have y3 := hf.r2.lt
    have y4 := hf.r1.lt
    have b2 : W.cell? ⟨w.heap.size + 2, 0, none⟩ = some (.int .i64 0) := hf.r1.cell 0
    have b3 : W.cell? ⟨w.heap.size + 3, 0, none⟩ = some (.bool false) := hf.r2.cell 0
    have f2 := hf.r1.frozen 0
    have f3 := hf.r2.frozen 0
    have Hp := hide hp
    have Hf := hide hf
    have Hx := hide hx
    have Hle := hide hle
    have Hfr := hide hfr
    have Hqc := hide hqc
    have Hsq := hide (show spotQ (plZ L) c q x = if q (c.B x) then spotC (plZ L) c x else none from rfl)
    clear hp hf hx hle hfr hqc pm pm0
    refine wpIn_block (wpIn_seq ?_)
    cases hqx : q (c.B x) with
    | true =>
      have Hqx := hide hqx
      rw [hqx] at Hqc Hsq
      clear hqx
      refine wpIn_region_round W (Upd.refl _ _) (by kernel_rfl) (by kernel_rfl) (by kernel_rfl) ?_
      repeat (go_big_quiet_step ((go_at_call 30; exact new_call (Hqc.out _))))
      refine wpQuiet_nil ?_
      rintro _ ⟨nq, rfl⟩
      cases hsp : spotC (plZ L) c x with
      | none =>
        have hfr2 : ∀ n : NewW W, Calls Tryz.prog 48 #[.pointer (some ⟨kp, 0, none⟩), .int .i64 (adr p L x)] n.w fun e w1 => e = .returned (.tuple #[.int .i64 0, .bool false]) ∧ n.w = w1 := fun n => by
          have := Hfr.out n
          rw [hsp] at this
          exact this
        have Hfr2 := hide hfr2
        rw [hsp] at Hsq
        clear hfr2 hsp
        gi_wp2_with (refine ⟨trivial, ?_⟩; gi_at_call 48; refine (CallsIn.inRound l (callsIn_wide.2 (Hfr2.out nq))).mono ?_; rintro e w' ⟨rfl, rfl⟩)
        exact ⟨Upd.of_new nq.h, fun k hk => by
          rw [List.length_append, List.length_range, List.length_singleton] at hk
          by_cases hkx : k < x
          · exact Hp.out k (by rw [List.length_range]; exact hkx)
          · rw [show k = x by omega, Hsq.out]
            rfl, Hf.out.new_ nq.h⟩
      | some i =>
        have hfr2 : ∀ n : NewW W, Calls Tryz.prog 48 #[.pointer (some ⟨kp, 0, none⟩), .int .i64 (adr p L x)] n.w fun e w1 => e = .returned (.tuple #[.int .i64 (p.a + (i : Int)), .bool true]) ∧ n.w = w1 := fun n => by
          have := Hfr.out n
          rw [hsp] at this
          exact this
        have Hfr2 := hide hfr2
        rw [hsp] at Hsq
        clear hfr2 hsp
        gi_wp2_with (refine ⟨trivial, ?_⟩; gi_at_call 48; refine (CallsIn.inRound l (callsIn_wide.2 (Hfr2.out nq))).mono ?_; rintro e w' ⟨rfl, rfl⟩)
        exact ⟨((Upd.of_new nq.h).setCell (p := ⟨w.heap.size + 2, 0, none⟩) (.inl ⟨Nat.le_add_right _ 2, .inl (by rw [Hsz.out]; show w.heap.size + 2 < _; omega)⟩) _).setCell (p := ⟨w.heap.size + 3, 0, none⟩) (.inl ⟨Nat.le_add_right _ 3, .inl (by rw [Hsz.out]; show w.heap.size + 3 < _; omega)⟩) _,
          x, i, Hsq.out, fun k hk => Hp.out k (by rw [List.length_range]; exact hk), Hx.out, (Hf.out.new_ nq.h).set _ _⟩
    | false =>
      have Hqx := hide hqx
      rw [hqx] at Hqc Hsq
      clear hqx
      refine wpIn_region_round W (Upd.refl _ _) (by kernel_rfl) (by kernel_rfl) (by kernel_rfl) ?_
      repeat (go_big_quiet_step ((go_at_call 30; exact new_call (Hqc.out _))))
      refine wpQuiet_nil ?_
      rintro _ ⟨nq, rfl⟩
      gi_wp2
      exact ⟨Upd.of_new nq.h, fun k hk => by
        rw [List.length_append, List.length_range, List.length_singleton] at hk
        by_cases hkx : k < x
        · exact Hp.out k (by rw [List.length_range]; exact hkx)
        · rw [show k = x by omega, Hsq.out]
          rfl, Hf.out.new_ nq.h⟩
  case done =>
    rintro D ys W hD rfl ⟨hp, hf⟩ hK
    have b2 : W.cell? ⟨w.heap.size + 2, 0, none⟩ = some (.int .i64 0) := hf.r1.cell 0
    have b3 : W.cell? ⟨w.heap.size + 3, 0, none⟩ = some (.bool false) := hf.r2.cell 0
    have f2 := hf.r1.frozen 0
    have f3 := hf.r2.frozen 0
    go_wp2_with fail
    have hK2 := (KeepsOthers.setCell (W.setCell ⟨w.heap.size + 2, 0, none⟩ (.int .i64 0)) ⟨w.heap.size + 3, 0, none⟩ (.bool false)).same D _ ((KeepsOthers.setCell W ⟨w.heap.size + 2, 0, none⟩ (.int .i64 0)).same D _ hK rfl) rfl
    refine ⟨by simp, .inl ⟨_, _, rfl, run_takeDeferred hK2, ?_⟩⟩
    have hF := (hf.set (.int .i64 0) (.bool false)).grown (B := w.heap.size + 4) (Nat.le_refl _) (grownBy_putObj' _ D (.deferred none)) (fun r e => by cases e; have := Hsz.out; omega)
    have r1 := hF.r1.cell 0
    have r2 := hF.r2.cell 0
    refine ⟨.tuple #[.int .i64 0, .bool false], ?_, ?_, hF.new⟩
    · simp [results, Tryz.f29, go_sem, r1, r2]
    · rw [find_no fun k hk => hp k (by rw [List.length_range]; exact hk)]
      rfl
  case stop =>
    rintro D pre W hD hpre ⟨j, i, e1, e2, e3, e4⟩ hK
    refine ⟨by simp, .inl ⟨_, _, rfl, run_takeDeferred hK, ?_⟩⟩
    have hF := e4.grown (B := w.heap.size + 4) (Nat.le_refl _) (grownBy_putObj' _ D (.deferred none)) (fun r e => by cases e; have := Hsz.out; omega)
    have r1 := hF.r1.cell 0
    have r2 := hF.r2.cell 0
    refine ⟨.tuple #[.int .i64 (p.a + (i : Int)), .bool true], ?_, ?_, hF.new⟩
    · simp [results, Tryz.f29, go_sem, r1, r2]
    · rw [find_at e3 e1 e2]
      rfl

set_option maxRecDepth 20000 in
set_option maxHeartbeats 2000000 in
theorem plfind2 (hg : PoolG p L) (h : PoolM w kp bm tm p L c) (h2 : Sen w gBound (E 2)) (h3 : Sen w gShape (E 3)) (q : Int → Bool) 
    (hq : ∀ (W : World) (x : Int), New w W → Calls Tryz.prog 31 #[.int .i64 x] W fun e w1 => e = .returned (.bool (q x)) ∧ New W w1) :
    Calls Tryz.prog 29 #[.pointer (some ⟨kp, 0, none⟩), .func (.func 31) #[] #[]] w fun e w1 => e = .returned (encO p.a (freeC (plN p) (plZ L) c q)) ∧ New w w1 := by
  rw [← hg.pp.mz, ← find_free (plZ_pos L)]
  refine (callsIn_wide (n := 9)).1 ?_
  refine callsIn_of_wp_marks Tryz.func29 rfl trivial ?_
  simp only [Tryz.ntmps29, List.size_toArray, List.length_cons, List.length_nil, Nat.reduceAdd, Nat.reduceSub, Array.replicate_succ, Array.replicate_zero, List.push_toArray, List.append_toArray, List.nil_append, List.cons_append]
  refine wpIn_wide.2 ?_
  have hW := FindW.start w kp (.func (.func 31) #[] #[])
  have hsz : ((((w.alloc (.cells #[.pointer (some ⟨kp, 0, none⟩)] 26)).alloc (.cells #[.func (.func 31) #[] #[]] 62)).alloc (.cells #[.int .i64 0] 3)).alloc (.cells #[.bool false] 4)).heap.size = w.heap.size + 4 := by simp
  have HW := hide hW
  have Hsz := hide hsz
  have z0 := h.blk.lt
  have z2 := h2.lt
  have z3 := h3.lt
  have Hh := hide h
  have Hg := hide hg
  have H2 := hide h2
  have H3 := hide h3
  have Hq := hide hq
  clear hW hsz h hg h2 h3 hq
  go_upto_region 1 with (fail)
  generalize ((((w.alloc (.cells #[.pointer (some ⟨kp, 0, none⟩)] 26)).alloc (.cells #[.func (.func 31) #[] #[]] 62)).alloc (.cells #[.int .i64 0] 3)).alloc (.cells #[.bool false] 4)) = W0 at *
  have k0 : W0.cell? ⟨w.heap.size, 0, none⟩ = some (.pointer (some ⟨kp, 0, none⟩)) := HW.out.k.cell 0
  have y0 := HW.out.k.lt
  go_wp2_with fail
  have pm0 := Hh.out.new_ HW.out.new
  refine wp_range_bound (n := 9) (gf := 38) (fb := #[.pointer (some ⟨kp, 0, none⟩)]) rfl (enters_of Tryz.func38 (by kernel_rfl) rfl)
    (plall_seq 8 Hg.out w.heap.size pm0.blk (H2.out.new HW.out.new) (H3.out.new HW.out.new) z0 z2 z3 HW.out.new.size) (Below.refl _ _) HW.out.new.size (fun _ => rfl)
    (fun pre W => (∀ k, k < pre.length → spotQ (plZ L) c q k = none) ∧ FindW w W kp (.func (.func 31) #[] #[]) (.int .i64 0) (.bool false))
    (fun _ W => ∃ j i, spotQ (plZ L) c q j = some i ∧ (∀ k, k < j → spotQ (plZ L) c q k = none) ∧ j < plM p L ∧ FindW w W kp (.func (.func 31) #[] #[]) (.int .i64 (p.a + (i : Int))) (.bool true))
    (fun s A B row hs hg hr => ⟨hs.1, hs.2.grown (by rw [Hsz.out]; exact Nat.le_refl _) hg fun r e => (hr r e).1⟩)
    (fun s A B row hs hg hr => by
      obtain ⟨j, i, e1, e2, e3, e4⟩ := hs
      exact ⟨j, i, e1, e2, e3, e4.grown (by rw [Hsz.out]; exact Nat.le_refl _) hg fun r e => (hr r e).1⟩)
    ⟨fun k hk => absurd hk (Nat.not_lt_zero _), HW.out⟩
    (fun x => { tmps := #[.pointer (some ⟨kp, 0, none⟩), .func (.func 31) #[] #[], .pointer (some ⟨w.heap.size, 0, none⟩), .pointer (some ⟨w.heap.size + 1, 0, none⟩), .pointer (some ⟨w.heap.size + 2, 0, none⟩), .pointer (some ⟨w.heap.size + 3, 0, none⟩),
      .int .i64 (adr p L x), undef, undef, .pointer (some ⟨kp, 0, none⟩), .func (.func 38) #[.pointer (some ⟨kp, 0, none⟩)] #[], .int .i64 (adr p L x),
      undef, undef, undef, undef, undef, undef, undef, undef, undef, undef, undef, undef, undef, undef, undef, undef], defers := [] }) ?assign ?body ?done ?stop
  case assign =>
    intro l x W K hK
    unfold encJ
    gi_wp2
    exact hK
  case body =>
    rintro l pre x W ⟨hp, hf⟩ ⟨rfl, hx⟩ hle
    have pm := Hh.out.new_ hf.new
    have hl : ∀ n : NewW W, (Instr.lookup 53 (.map (some bm)) (.int .i64 (adr p L x)) false).run Tryz.prog n.w = .ok (.int .i64 (c.B x)) n.w := fun n => (pm.new_ n.h).lookB Hg.out hx
    have hfr := fun n : NewW W => plfree_adr Hg.out (pm.new_ n.h) x hx
    have hqc := fun n : NewW W => Hq.out n.w (c.B x) (hf.new.trans_new n.h)
    have b0 : W.cell? ⟨w.heap.size, 0, none⟩ = some (.pointer (some ⟨kp, 0, none⟩)) := hf.k.cell 0
    have b1 : W.cell? ⟨w.heap.size + 1, 0, none⟩ = some (.func (.func 31) #[] #[]) := hf.want.cell 0
    have c3 : W.cell? ⟨kp, 3, none⟩ = some (.map (some bm)) := pm.blk.cell 3
    have y0 := hf.k.lt
    have y1 := hf.want.lt
    have y2 := pm.blk.lt
    have y3 := hf.r2.lt
    have y4 := hf.r1.lt
    have b2 : W.cell? ⟨w.heap.size + 2, 0, none⟩ = some (.int .i64 0) := hf.r1.cell 0
    have b3 : W.cell? ⟨w.heap.size + 3, 0, none⟩ = some (.bool false) := hf.r2.cell 0
    have f2 := hf.r1.frozen 0
    have f3 := hf.r2.frozen 0
    have Hp := hide hp
    have Hf := hide hf
    have Hx := hide hx
    have Hle := hide hle
    have Hfr := hide hfr
    have Hqc := hide hqc
    have Hsq := hide (show spotQ (plZ L) c q x = if q (c.B x) then spotC (plZ L) c x else none from rfl)
    clear hp hf hx hle hfr hqc pm pm0
    refine wpIn_block (wpIn_seq ?_)
    cases hqx : q (c.B x) with
    | true =>
      have Hqx := hide hqx
      rw [hqx] at Hqc Hsq
      clear hqx
      refine wpIn_region_round W (Upd.refl _ _) (by kernel_rfl) (by kernel_rfl) (by kernel_rfl) ?_
      repeat (go_big_quiet_step ((go_at_call 31; exact new_call (Hqc.out _))))
      refine wpQuiet_nil ?_
      rintro _ ⟨nq, rfl⟩
      cases hsp : spotC (plZ L) c x with
      | none =>
        have hfr2 : ∀ n : NewW W, Calls Tryz.prog 48 #[.pointer (some ⟨kp, 0, none⟩), .int .i64 (adr p L x)] n.w fun e w1 => e = .returned (.tuple #[.int .i64 0, .bool false]) ∧ n.w = w1 := fun n => by
          have := Hfr.out n
          rw [hsp] at this
          exact this
        have Hfr2 := hide hfr2
        rw [hsp] at Hsq
        clear hfr2 hsp
        gi_wp2_with (refine ⟨trivial, ?_⟩; gi_at_call 48; refine (CallsIn.inRound l (callsIn_wide.2 (Hfr2.out nq))).mono ?_; rintro e w' ⟨rfl, rfl⟩)
        exact ⟨Upd.of_new nq.h, fun k hk => by
          rw [List.length_append, List.length_range, List.length_singleton] at hk
          by_cases hkx : k < x
          · exact Hp.out k (by rw [List.length_range]; exact hkx)
          · rw [show k = x by omega, Hsq.out]
            rfl, Hf.out.new_ nq.h⟩
      | some i =>
        have hfr2 : ∀ n : NewW W, Calls Tryz.prog 48 #[.pointer (some ⟨kp, 0, none⟩), .int .i64 (adr p L x)] n.w fun e w1 => e = .returned (.tuple #[.int .i64 (p.a + (i : Int)), .bool true]) ∧ n.w = w1 := fun n => by
          have := Hfr.out n
          rw [hsp] at this
          exact this
        have Hfr2 := hide hfr2
        rw [hsp] at Hsq
        clear hfr2 hsp
        gi_wp2_with (refine ⟨trivial, ?_⟩; gi_at_call 48; refine (CallsIn.inRound l (callsIn_wide.2 (Hfr2.out nq))).mono ?_; rintro e w' ⟨rfl, rfl⟩)
        exact ⟨((Upd.of_new nq.h).setCell (p := ⟨w.heap.size + 2, 0, none⟩) (.inl ⟨Nat.le_add_right _ 2, .inl (by rw [Hsz.out]; show w.heap.size + 2 < _; omega)⟩) _).setCell (p := ⟨w.heap.size + 3, 0, none⟩) (.inl ⟨Nat.le_add_right _ 3, .inl (by rw [Hsz.out]; show w.heap.size + 3 < _; omega)⟩) _,
          x, i, Hsq.out, fun k hk => Hp.out k (by rw [List.length_range]; exact hk), Hx.out, (Hf.out.new_ nq.h).set _ _⟩
    | false =>
      have Hqx := hide hqx
      rw [hqx] at Hqc Hsq
      clear hqx
      refine wpIn_region_round W (Upd.refl _ _) (by kernel_rfl) (by kernel_rfl) (by kernel_rfl) ?_
      repeat (go_big_quiet_step ((go_at_call 31; exact new_call (Hqc.out _))))
      refine wpQuiet_nil ?_
      rintro _ ⟨nq, rfl⟩
      gi_wp2
      exact ⟨Upd.of_new nq.h, fun k hk => by
        rw [List.length_append, List.length_range, List.length_singleton] at hk
        by_cases hkx : k < x
        · exact Hp.out k (by rw [List.length_range]; exact hkx)
        · rw [show k = x by omega, Hsq.out]
          rfl, Hf.out.new_ nq.h⟩
  case done =>
    rintro D ys W hD rfl ⟨hp, hf⟩ hK
    have b2 : W.cell? ⟨w.heap.size + 2, 0, none⟩ = some (.int .i64 0) := hf.r1.cell 0
    have b3 : W.cell? ⟨w.heap.size + 3, 0, none⟩ = some (.bool false) := hf.r2.cell 0
    have f2 := hf.r1.frozen 0
    have f3 := hf.r2.frozen 0
    go_wp2_with fail
    have hK2 := (KeepsOthers.setCell (W.setCell ⟨w.heap.size + 2, 0, none⟩ (.int .i64 0)) ⟨w.heap.size + 3, 0, none⟩ (.bool false)).same D _ ((KeepsOthers.setCell W ⟨w.heap.size + 2, 0, none⟩ (.int .i64 0)).same D _ hK rfl) rfl
    refine ⟨by simp, .inl ⟨_, _, rfl, run_takeDeferred hK2, ?_⟩⟩
    have hF := (hf.set (.int .i64 0) (.bool false)).grown (B := w.heap.size + 4) (Nat.le_refl _) (grownBy_putObj' _ D (.deferred none)) (fun r e => by cases e; have := Hsz.out; omega)
    have r1 := hF.r1.cell 0
    have r2 := hF.r2.cell 0
    refine ⟨.tuple #[.int .i64 0, .bool false], ?_, ?_, hF.new⟩
    · simp [results, Tryz.f29, go_sem, r1, r2]
    · rw [find_no fun k hk => hp k (by rw [List.length_range]; exact hk)]
      rfl
  case stop =>
    rintro D pre W hD hpre ⟨j, i, e1, e2, e3, e4⟩ hK
    refine ⟨by simp, .inl ⟨_, _, rfl, run_takeDeferred hK, ?_⟩⟩
    have hF := e4.grown (B := w.heap.size + 4) (Nat.le_refl _) (grownBy_putObj' _ D (.deferred none)) (fun r e => by cases e; have := Hsz.out; omega)
    have r1 := hF.r1.cell 0
    have r2 := hF.r2.cell 0
    refine ⟨.tuple #[.int .i64 (p.a + (i : Int)), .bool true], ?_, ?_, hF.new⟩
    · simp [results, Tryz.f29, go_sem, r1, r2]
    · rw [find_at e3 e1 e2]
      rfl

set_option maxRecDepth 20000 in
set_option maxHeartbeats 2000000 in
theorem plfind3 (hg : PoolG p L) (h : PoolM w kp bm tm p L c) (h2 : Sen w gBound (E 2)) (h3 : Sen w gShape (E 3)) (q : Int → Bool) 
    (hq : ∀ (W : World) (x : Int), New w W → Calls Tryz.prog 33 #[.int .i64 x] W fun e w1 => e = .returned (.bool (q x)) ∧ New W w1) :
    Calls Tryz.prog 29 #[.pointer (some ⟨kp, 0, none⟩), .func (.func 33) #[] #[]] w fun e w1 => e = .returned (encO p.a (freeC (plN p) (plZ L) c q)) ∧ New w w1 := by
  rw [← hg.pp.mz, ← find_free (plZ_pos L)]
  refine (callsIn_wide (n := 9)).1 ?_
  refine callsIn_of_wp_marks Tryz.func29 rfl trivial ?_
  simp only [Tryz.ntmps29, List.size_toArray, List.length_cons, List.length_nil, Nat.reduceAdd, Nat.reduceSub, Array.replicate_succ, Array.replicate_zero, List.push_toArray, List.append_toArray, List.nil_append, List.cons_append]
  refine wpIn_wide.2 ?_
  have hW := FindW.start w kp (.func (.func 33) #[] #[])
  have hsz : ((((w.alloc (.cells #[.pointer (some ⟨kp, 0, none⟩)] 26)).alloc (.cells #[.func (.func 33) #[] #[]] 62)).alloc (.cells #[.int .i64 0] 3)).alloc (.cells #[.bool false] 4)).heap.size = w.heap.size + 4 := by simp
  have HW := hide hW
  have Hsz := hide hsz
  have z0 := h.blk.lt
  have z2 := h2.lt
  have z3 := h3.lt
  have Hh := hide h
  have Hg := hide hg
  have H2 := hide h2
  have H3 := hide h3
  have Hq := hide hq
  clear hW hsz h hg h2 h3 hq
  go_upto_region 1 with (fail)
  generalize ((((w.alloc (.cells #[.pointer (some ⟨kp, 0, none⟩)] 26)).alloc (.cells #[.func (.func 33) #[] #[]] 62)).alloc (.cells #[.int .i64 0] 3)).alloc (.cells #[.bool false] 4)) = W0 at *
  have k0 : W0.cell? ⟨w.heap.size, 0, none⟩ = some (.pointer (some ⟨kp, 0, none⟩)) := HW.out.k.cell 0
  have y0 := HW.out.k.lt
  go_wp2_with fail
  have pm0 := Hh.out.new_ HW.out.new
  refine wp_range_bound (n := 9) (gf := 38) (fb := #[.pointer (some ⟨kp, 0, none⟩)]) rfl (enters_of Tryz.func38 (by kernel_rfl) rfl)
    (plall_seq 8 Hg.out w.heap.size pm0.blk (H2.out.new HW.out.new) (H3.out.new HW.out.new) z0 z2 z3 HW.out.new.size) (Below.refl _ _) HW.out.new.size (fun _ => rfl)
    (fun pre W => (∀ k, k < pre.length → spotQ (plZ L) c q k = none) ∧ FindW w W kp (.func (.func 33) #[] #[]) (.int .i64 0) (.bool false))
    (fun _ W => ∃ j i, spotQ (plZ L) c q j = some i ∧ (∀ k, k < j → spotQ (plZ L) c q k = none) ∧ j < plM p L ∧ FindW w W kp (.func (.func 33) #[] #[]) (.int .i64 (p.a + (i : Int))) (.bool true))
    (fun s A B row hs hg hr => ⟨hs.1, hs.2.grown (by rw [Hsz.out]; exact Nat.le_refl _) hg fun r e => (hr r e).1⟩)
    (fun s A B row hs hg hr => by
      obtain ⟨j, i, e1, e2, e3, e4⟩ := hs
      exact ⟨j, i, e1, e2, e3, e4.grown (by rw [Hsz.out]; exact Nat.le_refl _) hg fun r e => (hr r e).1⟩)
    ⟨fun k hk => absurd hk (Nat.not_lt_zero _), HW.out⟩
    (fun x => { tmps := #[.pointer (some ⟨kp, 0, none⟩), .func (.func 33) #[] #[], .pointer (some ⟨w.heap.size, 0, none⟩), .pointer (some ⟨w.heap.size + 1, 0, none⟩), .pointer (some ⟨w.heap.size + 2, 0, none⟩), .pointer (some ⟨w.heap.size + 3, 0, none⟩),
      .int .i64 (adr p L x), undef, undef, .pointer (some ⟨kp, 0, none⟩), .func (.func 38) #[.pointer (some ⟨kp, 0, none⟩)] #[], .int .i64 (adr p L x),
      undef, undef, undef, undef, undef, undef, undef, undef, undef, undef, undef, undef, undef, undef, undef, undef], defers := [] }) ?assign ?body ?done ?stop
  case assign =>
    intro l x W K hK
    unfold encJ
    gi_wp2
    exact hK
  case body =>
    rintro l pre x W ⟨hp, hf⟩ ⟨rfl, hx⟩ hle
    have pm := Hh.out.new_ hf.new
    have hl : ∀ n : NewW W, (Instr.lookup 53 (.map (some bm)) (.int .i64 (adr p L x)) false).run Tryz.prog n.w = .ok (.int .i64 (c.B x)) n.w := fun n => (pm.new_ n.h).lookB Hg.out hx
    have hfr := fun n : NewW W => plfree_adr Hg.out (pm.new_ n.h) x hx
    have hqc := fun n : NewW W => Hq.out n.w (c.B x) (hf.new.trans_new n.h)
    have b0 : W.cell? ⟨w.heap.size, 0, none⟩ = some (.pointer (some ⟨kp, 0, none⟩)) := hf.k.cell 0
    have b1 : W.cell? ⟨w.heap.size + 1, 0, none⟩ = some (.func (.func 33) #[] #[]) := hf.want.cell 0
    have c3 : W.cell? ⟨kp, 3, none⟩ = some (.map (some bm)) := pm.blk.cell 3
    have y0 := hf.k.lt
    have y1 := hf.want.lt
    have y2 := pm.blk.lt
    have y3 := hf.r2.lt
    have y4 := hf.r1.lt
    have b2 : W.cell? ⟨w.heap.size + 2, 0, none⟩ = some (.int .i64 0) := hf.r1.cell 0
    have b3 : W.cell? ⟨w.heap.size + 3, 0, none⟩ = some (.bool false) := hf.r2.cell 0
    have f2 := hf.r1.frozen 0
    have f3 := hf.r2.frozen 0
    have Hp := hide hp
    have Hf := hide hf
    have Hx := hide hx
    have Hle := hide hle
    have Hfr := hide hfr
    have Hqc := hide hqc
    have Hsq := hide (show spotQ (plZ L) c q x = if q (c.B x) then spotC (plZ L) c x else none from rfl)
    clear hp hf hx hle hfr hqc pm pm0
    refine wpIn_block (wpIn_seq ?_)
    cases hqx : q (c.B x) with
    | true =>
      have Hqx := hide hqx
      rw [hqx] at Hqc Hsq
      clear hqx
      refine wpIn_region_round W (Upd.refl _ _) (by kernel_rfl) (by kernel_rfl) (by kernel_rfl) ?_
      repeat (go_big_quiet_step ((go_at_call 33; exact new_call (Hqc.out _))))
      refine wpQuiet_nil ?_
      rintro _ ⟨nq, rfl⟩
      cases hsp : spotC (plZ L) c x with
      | none =>
        have hfr2 : ∀ n : NewW W, Calls Tryz.prog 48 #[.pointer (some ⟨kp, 0, none⟩), .int .i64 (adr p L x)] n.w fun e w1 => e = .returned (.tuple #[.int .i64 0, .bool false]) ∧ n.w = w1 := fun n => by
          have := Hfr.out n
          rw [hsp] at this
          exact this
        have Hfr2 := hide hfr2
        rw [hsp] at Hsq
        clear hfr2 hsp
        gi_wp2_with (refine ⟨trivial, ?_⟩; gi_at_call 48; refine (CallsIn.inRound l (callsIn_wide.2 (Hfr2.out nq))).mono ?_; rintro e w' ⟨rfl, rfl⟩)
        exact ⟨Upd.of_new nq.h, fun k hk => by
          rw [List.length_append, List.length_range, List.length_singleton] at hk
          by_cases hkx : k < x
          · exact Hp.out k (by rw [List.length_range]; exact hkx)
          · rw [show k = x by omega, Hsq.out]
            rfl, Hf.out.new_ nq.h⟩
      | some i =>
        have hfr2 : ∀ n : NewW W, Calls Tryz.prog 48 #[.pointer (some ⟨kp, 0, none⟩), .int .i64 (adr p L x)] n.w fun e w1 => e = .returned (.tuple #[.int .i64 (p.a + (i : Int)), .bool true]) ∧ n.w = w1 := fun n => by
          have := Hfr.out n
          rw [hsp] at this
          exact this
        have Hfr2 := hide hfr2
        rw [hsp] at Hsq
        clear hfr2 hsp
        gi_wp2_with (refine ⟨trivial, ?_⟩; gi_at_call 48; refine (CallsIn.inRound l (callsIn_wide.2 (Hfr2.out nq))).mono ?_; rintro e w' ⟨rfl, rfl⟩)
        exact ⟨((Upd.of_new nq.h).setCell (p := ⟨w.heap.size + 2, 0, none⟩) (.inl ⟨Nat.le_add_right _ 2, .inl (by rw [Hsz.out]; show w.heap.size + 2 < _; omega)⟩) _).setCell (p := ⟨w.heap.size + 3, 0, none⟩) (.inl ⟨Nat.le_add_right _ 3, .inl (by rw [Hsz.out]; show w.heap.size + 3 < _; omega)⟩) _,
          x, i, Hsq.out, fun k hk => Hp.out k (by rw [List.length_range]; exact hk), Hx.out, (Hf.out.new_ nq.h).set _ _⟩
    | false =>
      have Hqx := hide hqx
      rw [hqx] at Hqc Hsq
      clear hqx
      refine wpIn_region_round W (Upd.refl _ _) (by kernel_rfl) (by kernel_rfl) (by kernel_rfl) ?_
      repeat (go_big_quiet_step ((go_at_call 33; exact new_call (Hqc.out _))))
      refine wpQuiet_nil ?_
      rintro _ ⟨nq, rfl⟩
      gi_wp2
      exact ⟨Upd.of_new nq.h, fun k hk => by
        rw [List.length_append, List.length_range, List.length_singleton] at hk
        by_cases hkx : k < x
        · exact Hp.out k (by rw [List.length_range]; exact hkx)
        · rw [show k = x by omega, Hsq.out]
          rfl, Hf.out.new_ nq.h⟩
  case done =>
    rintro D ys W hD rfl ⟨hp, hf⟩ hK
    have b2 : W.cell? ⟨w.heap.size + 2, 0, none⟩ = some (.int .i64 0) := hf.r1.cell 0
    have b3 : W.cell? ⟨w.heap.size + 3, 0, none⟩ = some (.bool false) := hf.r2.cell 0
    have f2 := hf.r1.frozen 0
    have f3 := hf.r2.frozen 0
    go_wp2_with fail
    have hK2 := (KeepsOthers.setCell (W.setCell ⟨w.heap.size + 2, 0, none⟩ (.int .i64 0)) ⟨w.heap.size + 3, 0, none⟩ (.bool false)).same D _ ((KeepsOthers.setCell W ⟨w.heap.size + 2, 0, none⟩ (.int .i64 0)).same D _ hK rfl) rfl
    refine ⟨by simp, .inl ⟨_, _, rfl, run_takeDeferred hK2, ?_⟩⟩
    have hF := (hf.set (.int .i64 0) (.bool false)).grown (B := w.heap.size + 4) (Nat.le_refl _) (grownBy_putObj' _ D (.deferred none)) (fun r e => by cases e; have := Hsz.out; omega)
    have r1 := hF.r1.cell 0
    have r2 := hF.r2.cell 0
    refine ⟨.tuple #[.int .i64 0, .bool false], ?_, ?_, hF.new⟩
    · simp [results, Tryz.f29, go_sem, r1, r2]
    · rw [find_no fun k hk => hp k (by rw [List.length_range]; exact hk)]
      rfl
  case stop =>
    rintro D pre W hD hpre ⟨j, i, e1, e2, e3, e4⟩ hK
    refine ⟨by simp, .inl ⟨_, _, rfl, run_takeDeferred hK, ?_⟩⟩
    have hF := e4.grown (B := w.heap.size + 4) (Nat.le_refl _) (grownBy_putObj' _ D (.deferred none)) (fun r e => by cases e; have := Hsz.out; omega)
    have r1 := hF.r1.cell 0
    have r2 := hF.r2.cell 0
    refine ⟨.tuple #[.int .i64 (p.a + (i : Int)), .bool true], ?_, ?_, hF.new⟩
    · simp [results, Tryz.f29, go_sem, r1, r2]
    · rw [find_at e3 e1 e2]
      rfl
end
end Go.Proofs.YtimhbgpnkodlaaaGreatDoor

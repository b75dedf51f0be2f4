/- The document's pool: WaysOf. No condition but those that stand in each theorem. -/
import Derived.Test.YtimhbgpnkodlaaaGreatDoorBq6
import Derived.Laws.MakeOwn
import Derived.Shelf.SlMaps.Clone
namespace Go.Proofs.YtimhbgpnkodlaaaGreatDoor
open Go.RowKit
section
variable {w w1 : World} {mp gT gB : Nat} {p : Pf} {L : Int} {c : PoolC}
theorem dropIn_len (l : List Pf) (q : Pf) : (dropIn l q).length ≤ l.length + 1 := by
  unfold dropIn
  split
  · simp
  · split
    · omega
    · rw [List.length_append, List.length_cons, List.length_take, List.length_drop]
      omega
theorem dropFold_len : ∀ (ys l : List Pf), (ys.foldl dropIn l).length ≤ l.length + ys.length
  | [], l => Nat.le_refl _
  | y :: ys, l => by
    rw [List.foldl_cons, List.length_cons]
    have := dropFold_len ys (dropIn l y)
    have := dropIn_len l y
    omega
theorem ways_fold (n m z : Nat) (a0 L : Int) (c : PoolC) (h : Int) : waysH n m z a0 L c h = ((looseH n z a0 c h).map oneP).foldl dropIn (blksH m z a0 L c h) := by
  unfold waysH looseH blksH
  by_cases h0 : h = 0
  · rw [if_pos h0, if_pos h0, if_pos h0]
    rfl
  · rw [if_neg h0, if_neg h0, if_neg h0]
    exact waysS_loose n m z a0 L c h
theorem fold_step {lo : List Int} {bl : List Pf} {k : Nat} {x : Int} (h : lo[k]? = some x) : ((lo.take (k + 1)).map oneP).foldl dropIn bl = dropIn (((lo.take k).map oneP).foldl dropIn bl) (oneP x) := by
  rw [List.take_add_one, h, List.map_append, List.foldl_append]
  rfl
set_option maxRecDepth 20000 in
set_option maxHeartbeats 4000000 in
theorem refways_any (hg : PoolG p L) (h : RefM w mp gT gB p L c) (host : Int) : Calls Tryz.prog 24 #[.pointer (some ⟨mp, 0, none⟩), .int .i64 host] w fun e w1 => ∃ A cc, e = .returned (.slice A (waysH (plN p) (plM p L) (plZ L) p.a L c host).length cc) ∧ Pfs w1 A (waysH (plN p) (plM p L) (plZ L) p.a L c host) ∧ New w w1 := by
  have hn := hg.n_le
  have hm := plM_le hg
  have hbl := blks_len (c := c) (plM p L) (plZ L) p.a L host
  have hll := loose_len (plN p) (plZ L) p.a c host
  have Hb := hide (refblocks_any hg h host)
  have Hl := hide (fun (wx : World) (hx : New w wx) => refloose_any hg (h.new_ hx) host)
  have hF := ways_fold (plN p) (plM p L) (plZ L) p.a L c host
  clear h hg
  generalize waysH (plN p) (plM p L) (plZ L) p.a L c host = wy at *
  generalize blksH (plM p L) (plZ L) p.a L c host = bl at *
  generalize looseH (plN p) (plZ L) p.a c host = lo at *
  have hln : bl.length ≤ 4096 := by omega
  have hlo : lo.length ≤ 4096 := by omega
  have HF := hide hF
  clear hF hbl hll hn hm
  go_enter Tryz.func24, Tryz.ntmps24
  go_wp2_with fail
  refine Hb.out.mono ?_
  rintro e w2 ⟨v, rfl, ho, hu⟩
  have Hu := hide hu
  obtain ⟨A1, c1, rfl, g1, g2, g3, g4, g5⟩ := rws_of_own (by omega) ho (wpf_sizeW _)
  have hfa := own_formAW ho
  have HA := hide (And.intro g3 (And.intro g5 hfa))
  clear ho hu g4 hfa g3 g5 g1
  go_wp2_with fail
  refine (Hl.out _ Hu.out).mono ?_
  rintro e w3 ⟨v, rfl, ho, hu⟩
  obtain ⟨A2, c2, rfl, f1, f2, f3, f4, f5⟩ := ints_of_own ho
  have H2 := hide f3
  have H3 := hide (And.intro (HA.out.1.new_ hu) (And.intro (HA.out.2.1.new_ hu) HA.out.2.2))
  have H4 := hide (Hu.out.trans_new hu)
  clear ho hu f4 f5 f3 f1 HA Hu Hl Hb
  obtain ⟨bn, hbn⟩ : ∃ bn, bl.length = bn := ⟨_, rfl⟩
  obtain ⟨ln, hlnn⟩ : ∃ ln, lo.length = ln := ⟨_, rfl⟩
  rw [hbn] at g2 hln
  rw [hlnn] at f2 hlo
  have Hbn := hide hbn
  have Hln := hide hlnn
  rw [hbn, hlnn]
  clear hbn hlnn
  go_wp2_with fail
  go_loopw [5, 7] (fun v i wr => ∃ (k : Nat) (A : Option Addr) (n c : Nat) (l : List Pf), k ≤ ln ∧ i = .int .i64 k ∧ v = .slice A n c ∧ l = ((lo.take k).map oneP).foldl dropIn bl ∧ l.length = n ∧ n ≤ c ∧ Pfs wr A l ∧ Typed wr A TPf ∧ FormAW A c ∧ New w3 wr) (fun _ i _ => ln - (intOf i).toNat)
  case atStart => exact ⟨0, A1, bn, c1, bl, by omega, rfl, rfl, rfl, Hbn.out, g2, H3.out.1, H3.out.2.1, H3.out.2.2, Upd.refl _ _⟩
  case round =>
    obtain ⟨k, A, n, cc, l, hk, rfl, rfl, hl, hn, hnc, hp, ht, hf, hu⟩ := hrel
    have Hlq := hide hl
    have hlen : n ≤ 100000 := by
      rw [← hn, hl]
      have := dropFold_len ((lo.take k).map oneP) bl
      rw [List.length_map, List.length_take, Hbn.out] at this
      omega
    clear hl
    by_cases hlt : k < ln
    · obtain ⟨b, o, x, hA, hb, hx, hcell⟩ := (H2.out.new_ hu).at_ (k := k) (by rw [Hln.out]; exact hlt)
      subst hA
      have Hx := hide hx
      have i1 : (k : Int) < (ln : Int) := by omega
      have Hw := hide (withRef_any 0 A n cc l (oneP x) wr hp ht hn hnc hf (fun _ _ _ => Nat.zero_le _) (Nat.zero_le _) hlen)
      have Hu := hide hu
      clear hx hp ht hf hu hn
      go_wp2_with fail
      refine Hw.out.mono ?_
      rintro e w4 ⟨A3, c3, rfl, d1, d2, d3, d4, d5, d6⟩
      go_wp2_with fail
      refine ⟨⟨k + 1, A3, _, c3, _, by omega, by congr 1, rfl, ?_, rfl, d1, d2, d3, d4, Hu.out.trans_new d6⟩, by simp [intOf]; omega⟩
      rw [Hlq.out, fold_step Hx.out]
    · have hkn : k = ln := by omega
      have i1 : ¬ (k : Int) < (ln : Int) := by omega
      have hE : l = wy := by
        rw [Hlq.out, HF.out, hkn, List.take_of_length_le (by rw [Hln.out]; exact Nat.le_refl _)]
      have HE := hide (And.intro (And.intro hE hn) (And.intro hp hu))
      clear hE hn hp hu hkn hk ht hf
      go_wp2_with fail
      go_ret
      exact ⟨A, ⟨cc, by rw [← HE.out.1.1, HE.out.1.2]; rfl⟩, by rw [← HE.out.1.1]; exact HE.out.2.1, H4.out.trans_new HE.out.2.2⟩
end
end Go.Proofs.YtimhbgpnkodlaaaGreatDoor

namespace Go.Proofs.YtimhbgpnkodlaaaGreatDoor
open Go.RowKit
theorem made_rowC (n : Nat) : madeCells #[Value.int .i64 0] (n * 1) = rowC n fun _ => 0 := by
  rw [Nat.mul_one]
  unfold madeCells rowC
  apply Array.ext'
  apply List.ext_getElem?
  intro i
  rw [List.getElem?_map]
  by_cases hi : i < n
  · rw [List.getElem?_range hi]
    simp [hi, Nat.mod_one]
  · simp [hi]
theorem mk_row (W : World) (n : Nat) (hn : n ≤ 4096) : (Instr.makeSlice 49 (.int .i64 (n : Int)) (.int .i64 (n : Int))).run Tryz.prog W = .ok (.slice (some ⟨W.heap.size, 0, none⟩) n n) (W.alloc (.cells (rowC n fun _ => 0) 3)) := by
  obtain ⟨i0, hi0, hz0, hz1, hz2⟩ := info_parts info_TI
  have h := run_make (P := Tryz.prog) W 49 3 i0 _ Tryz.underlying49 hi0 hz0 .i64 .i64 (n : Int) (n : Int) (by omega) (by omega) (by rw [hz2]; omega) (by omega)
  rw [hz1, Int.toNat_natCast] at h
  rw [h]
  exact congrArg (fun c => Result.ok _ (W.alloc (.cells c 3))) (made_rowC n)
section
variable {w w1 : World} {p : Pf} {L : Int}
theorem nw_alloc (W : World) (o : Obj) : New W (W.alloc o) := (Upd.refl _ W).alloc o
theorem ref_made1 {W : World} (hn : New w W) {n m : Nat} (h : plN p = n ∧ plM p L = m) :
    RefM (((W.alloc (.cells (rowC n fun _ => 0) 3)).alloc (.cells (rowC m fun _ => 0) 3)).alloc (.cells #[.int .i64 p.a, .int .i64 p.n, .int .i64 L, .slice (some ⟨W.heap.size, 0, none⟩) n n, .slice (some ⟨W.heap.size + 1, 0, none⟩) m m] TRef)) (W.heap.size + 2) W.heap.size (W.heap.size + 1) p L zeroP ∧
      New w (((W.alloc (.cells (rowC n fun _ => 0) 3)).alloc (.cells (rowC m fun _ => 0) 3)).alloc (.cells #[.int .i64 p.a, .int .i64 p.n, .int .i64 L, .slice (some ⟨W.heap.size, 0, none⟩) n n, .slice (some ⟨W.heap.size + 1, 0, none⟩) m m] TRef)) ∧ w.heap.size ≤ W.heap.size := by
  obtain ⟨rfl, rfl⟩ := h
  exact ⟨⟨Blk.at_ _ _ _ _ (by simp), ((Blk.at_ _ _ _ _ rfl).new_ (nw_alloc _ _)).new_ (nw_alloc _ _), (Blk.at_ _ _ _ _ (by simp)).new_ (nw_alloc _ _), by omega⟩, ((hn.alloc _).alloc _).alloc _, hn.size⟩
theorem ref_made2 {W : World} (hn : New w W) {n m : Nat} (h : plN p = n ∧ plM p L = m) :
    RefM (((W.alloc (.cells (rowC m fun _ => 0) 3)).alloc (.cells (rowC n fun _ => 0) 3)).alloc (.cells #[.int .i64 p.a, .int .i64 p.n, .int .i64 L, .slice (some ⟨W.heap.size + 1, 0, none⟩) n n, .slice (some ⟨W.heap.size, 0, none⟩) m m] TRef)) (W.heap.size + 2) (W.heap.size + 1) W.heap.size p L zeroP ∧
      New w (((W.alloc (.cells (rowC m fun _ => 0) 3)).alloc (.cells (rowC n fun _ => 0) 3)).alloc (.cells #[.int .i64 p.a, .int .i64 p.n, .int .i64 L, .slice (some ⟨W.heap.size + 1, 0, none⟩) n n, .slice (some ⟨W.heap.size, 0, none⟩) m m] TRef)) ∧ w.heap.size ≤ W.heap.size := by
  obtain ⟨rfl, rfl⟩ := h
  exact ⟨⟨Blk.at_ _ _ _ _ (by simp), (Blk.at_ _ _ _ _ (by simp)).new_ (nw_alloc _ _), ((Blk.at_ _ _ _ _ rfl).new_ (nw_alloc _ _)).new_ (nw_alloc _ _), by omega⟩, ((hn.alloc _).alloc _).alloc _, hn.size⟩
set_option maxRecDepth 20000 in
set_option maxHeartbeats 1000000 in
theorem refnew_chk (hc : chk p.a p.n ≠ 0) :
    Calls Tryz.prog 6 #[.agg #[.int .i64 p.a, .int .i64 p.n], .int .i64 L] w fun e w1 => e = .returned (.tuple #[.pointer none, .int .i64 (chk p.a p.n : Nat)]) ∧ New w w1 := by
  have u := (Upd.refl (fun _ => False) w).alloc (.cells #[.int .i64 p.a, .int .i64 p.n] 23)
  have b0 := Blk.new w 23 #[.int .i64 p.a, .int .i64 p.n]
  have Hu := hide u
  have c0 := b0.cell 0
  have c1 := b0.cell 1
  have z0 := b0.lt
  simp only [List.getElem?_toArray, List.getElem?_cons_zero, List.getElem?_cons_succ] at c0 c1
  have Hp := hide (fun w => prefixError_any p.a p.n w)
  have hpos : (0 : Int) < ((chk p.a p.n : Nat) : Int) := by omega
  generalize chk p.a p.n = e0 at *
  clear u b0 hc
  go_enter Tryz.func6, Tryz.ntmps6
  go_upto_region 1 with (fail)
  generalize (w.alloc (.cells #[.int .i64 p.a, .int .i64 p.n] 23)) = W at *
  go_wp2_with fail
  refine (Hp.out _).mono ?_
  rintro e w' ⟨rfl, hu1⟩
  go_wp2_with fail
  go_ret2
  exact ⟨rfl, Hu.out.trans_new hu1⟩
set_option maxRecDepth 20000 in
set_option maxHeartbeats 1000000 in
theorem refnew_len (hc : chk p.a p.n = 0) (hl : badL p L) :
    Calls Tryz.prog 6 #[.agg #[.int .i64 p.a, .int .i64 p.n], .int .i64 L] w fun e w1 => e = .returned (.tuple #[.pointer none, .int .i64 2]) ∧ New w w1 := by
  have u := (Upd.refl (fun _ => False) w).alloc (.cells #[.int .i64 p.a, .int .i64 p.n] 23)
  have b0 := Blk.new w 23 #[.int .i64 p.a, .int .i64 p.n]
  have Hu := hide u
  have Hb := hide b0
  have c0 := b0.cell 0
  have c1 := b0.cell 1
  have z0 := b0.lt
  simp only [List.getElem?_toArray, List.getElem?_cons_zero, List.getElem?_cons_succ] at c0 c1
  have hp := fun w => prefixError_any p.a p.n w
  obtain ⟨_, ⟨n0, n1⟩, _⟩ := chk_zero hc
  rw [hc] at hp
  have Hp := hide hp
  clear u b0 hc hp
  go_enter Tryz.func6, Tryz.ntmps6
  go_upto_region 1 with (fail)
  generalize (w.alloc (.cells #[.int .i64 p.a, .int .i64 p.n] 23)) = W at *
  go_wp2_with fail
  refine (Hp.out _).mono ?_
  rintro e w' ⟨rfl, hu1⟩
  have d1 := (Hb.out.new_ hu1).cell 1
  simp only [List.getElem?_toArray, List.getElem?_cons_succ, List.getElem?_cons_zero] at d1
  have y0 := (Hb.out.new_ hu1).lt
  have Hl := hide hl
  have Hu1 := hide hu1
  clear hl hu1 c0 c1
  by_cases l1 : L < p.n
  · go_wp2_with fail
    go_ret2
    exact ⟨rfl, Hu.out.trans_new Hu1.out⟩
  · have l1b : p.n ≤ L := by omega
    clear l1
    by_cases l2 : p.n + 6 < L
    · go_wp2_with fail
      go_ret2
      exact ⟨rfl, Hu.out.trans_new Hu1.out⟩
    · have l2b : L ≤ p.n + 6 := by omega
      clear l2
      by_cases l3 : 32 < L
      · go_wp2_with fail
        go_ret2
        exact ⟨rfl, Hu.out.trans_new Hu1.out⟩
      · have l3b : L ≤ 32 := by omega
        clear l3
        have l4 : L < 20 := by have := Hl.out; unfold badL at this; omega
        go_wp2_with fail
        go_ret2
        exact ⟨rfl, Hu.out.trans_new Hu1.out⟩
set_option maxRecDepth 20000 in
set_option maxHeartbeats 2000000 in
theorem refnew_ok (hg : PoolG p L) (hl : ¬ badL p L) :
    Calls Tryz.prog 6 #[.agg #[.int .i64 p.a, .int .i64 p.n], .int .i64 L] w fun e w1 => ∃ mp gT gB, e = .returned (.tuple #[.pointer (some ⟨mp, 0, none⟩), .int .i64 0]) ∧ RefM w1 mp gT gB p L zeroP ∧ New w w1 ∧ w.heap.size ≤ mp ∧ w.heap.size ≤ gT ∧ w.heap.size ≤ gB := by
  have hc := hg.pp.ok
  have u := (Upd.refl (fun _ => False) w).alloc (.cells #[.int .i64 p.a, .int .i64 p.n] 23)
  have b0 := Blk.new w 23 #[.int .i64 p.a, .int .i64 p.n]
  have Hu := hide u
  have Hb := hide b0
  have c0 := b0.cell 0
  have c1 := b0.cell 1
  have z0 := b0.lt
  simp only [List.getElem?_toArray, List.getElem?_cons_zero, List.getElem?_cons_succ] at c0 c1
  have hp := fun w => prefixError_any p.a p.n w
  obtain ⟨_, ⟨n0, n1⟩, _⟩ := chk_zero hc
  rw [hc] at hp
  have Hp := hide hp
  have l1 : p.n ≤ L := by unfold badL at hl; omega
  have l2 : L ≤ p.n + 6 := by unfold badL at hl; omega
  have l3 : L ≤ 32 := by unfold badL at hl; omega
  have l4 : 20 ≤ L := by unfold badL at hl; omega
  have Hsz := hide (sizeOf_any L (by omega))
  rw [show (2 ^ (32 - L.toNat) : Nat) = plZ L from rfl] at Hsz
  have Hsn := hide (sizeOf_any p.n (by omega))
  rw [show (2 ^ (32 - p.n.toNat) : Nat) = plN p from rfl] at Hsn
  have hn := hg.n_le
  have hz := hg.z_le
  have hzp := plZ_pos L
  have hmm := plM_le hg
  have hq : ((plN p : Nat) : Int) / ((plZ L : Nat) : Int) = ((plM p L : Nat) : Int) := by
    rw [← hg.pp.mz, Int.natCast_mul]
    exact Int.mul_ediv_cancel _ (by omega)
  clear u b0 hc hp hl hg
  obtain ⟨n, hN⟩ : ∃ n, plN p = n := ⟨_, rfl⟩
  obtain ⟨m, hM⟩ : ∃ m, plM p L = m := ⟨_, rfl⟩
  obtain ⟨z, hZ⟩ : ∃ z, plZ L = z := ⟨_, rfl⟩
  rw [hN] at Hsn hn hq
  rw [hM] at hmm hq
  rw [hZ] at Hsz hz hzp hq
  have HN := hide (And.intro hN hM)
  clear hN hM hZ
  have hk1 := fun W => mk_row W n hn
  have hk2 := fun W => mk_row W m hmm
  go_enter Tryz.func6, Tryz.ntmps6
  go_upto_region 1 with (fail)
  generalize (w.alloc (.cells #[.int .i64 p.a, .int .i64 p.n] 23)) = W at *
  go_wp2_with fail
  refine (Hp.out _).mono ?_
  rintro e w' ⟨rfl, hu1⟩
  have d0 := (Hb.out.new_ hu1).cell 0
  have d1 := (Hb.out.new_ hu1).cell 1
  simp only [List.getElem?_toArray, List.getElem?_cons_succ, List.getElem?_cons_zero] at d0 d1
  have y0 := (Hb.out.new_ hu1).lt
  have Hu1 := hide hu1
  clear hu1 c0 c1
  go_upto_region 7 with (go_at_call 27; refine (Hsn.out _).mono ?_; rintro e w2 ⟨rfl, rfl⟩)
  go_region_with (go_at_call 27; refine (Hsz.out _).mono ?_; rintro e w2 ⟨rfl, rfl⟩)
  all_goals (go_wp2_with fail; go_ret2)
  all_goals first
    | (obtain ⟨r, r2, r3⟩ := ref_made1 ((Hu.out.trans_new Hu1.out).drew) HN.out
       exact ⟨w'.heap.size + 2, w'.heap.size, w'.heap.size + 1, rfl, r, r2, Nat.le_trans r3 (Nat.le_add_right _ 2), r3, Nat.le_trans r3 (Nat.le_add_right _ 1)⟩)
    | (obtain ⟨r, r2, r3⟩ := ref_made2 ((Hu.out.trans_new Hu1.out).drew) HN.out
       exact ⟨w'.heap.size + 2, w'.heap.size + 1, w'.heap.size, rfl, r, r2, Nat.le_trans r3 (Nat.le_add_right _ 2), Nat.le_trans r3 (Nat.le_add_right _ 1), r3⟩)
end
end Go.Proofs.YtimhbgpnkodlaaaGreatDoor

namespace Go.Proofs.YtimhbgpnkodlaaaGreatDoor
open Go.RowKit Go.Shelf Go.Maps
def sc_ren : Go.Shelf.Ren := ⟨fun | 5 => 37 | 7 => 49 | n => n, fun | 4 => 4 | 20 => 20 | 23 => 53 | 25 => 3 | 3 => 3 | n => n, fun | n => n⟩
theorem sc_lays : Go.Proofs.SlLaysW.n5 Tryz.prog sc_ren := {
  mixed := by kernel_rfl
  f5 := ⟨Tryz.f37.name, by decide, Tryz.func37.trans (congrArg some (by kernel_rfl))⟩
  f7 := Tryz.func49.trans (congrArg some (by kernel_rfl))
  t4 := Tryz.underlying4
  a4 := Tryz.isAgg4
  z4 := Tryz.sizeOf4
  v4 := Tryz.zeroValue4
  t20 := Tryz.underlying20
  a20 := Tryz.isAgg20
  z20 := Tryz.sizeOf20
  v20 := Tryz.zeroValue20
  t23 := Tryz.underlying53
  a23 := Tryz.isAgg53
  z23 := Tryz.sizeOf53
  v23 := Tryz.zeroValue53 }
section
variable {w w1 : World} {kp bm tm : Nat} {p : Pf} {L : Int} {c : PoolC}
theorem clone_any {W : World} {b cnt : Nat} {f : Int → Int} (h : MapP W b f cnt) : Calls Tryz.prog 37 #[.map (some b)] W fun e w1 => e = .returned (.map (some W.heap.size)) ∧ MapP w1 W.heap.size f cnt ∧ New W w1 := by
  obtain ⟨D, ⟨es, clock, h1, h2⟩, h3⟩ := h
  refine (AnyW.maps_Clone sc_lays b es clock W h1).mono ?_
  rintro e w1 ⟨rfl, rfl⟩
  exact ⟨rfl, ⟨D, ⟨es, clock, (MapKept.heap_alloc W _).1, h2⟩, h3⟩, (Upd.refl _ W).alloc _⟩
set_option maxRecDepth 20000 in
set_option maxHeartbeats 2000000 in
theorem plcopy_any (h : PoolM w kp bm tm p L c) : Calls Tryz.prog 12 #[.pointer (some ⟨kp, 0, none⟩)] w fun e w1 => ∃ kc bc tc, e = .returned (.pointer (some ⟨kc, 0, none⟩)) ∧ PoolM w1 kc bc tc p L c ∧ New w w1 ∧ w.heap.size ≤ kc ∧ w.heap.size ≤ bc ∧ w.heap.size ≤ tc := by
  have b0 := h.blk
  have c0 := b0.cell 0
  have c1 := b0.cell 1
  have c2 := b0.cell 2
  have c3 := b0.cell 3
  have c4 := b0.cell 4
  have z0 := b0.lt
  unfold poolCells at c0 c1 c2 c3 c4
  simp only [List.getElem?_toArray, List.getElem?_cons_zero, List.getElem?_cons_succ] at c0 c1 c2 c3 c4
  have HB := hide fun (W : World) (hW : New w W) => clone_any (h.B.new_ hW)
  have HT := hide fun (W : World) (hW : New w W) => clone_any (h.T.new_ hW)
  have Ho := hide h.out
  clear h b0
  go_enter Tryz.func12, Tryz.ntmps12
  go_upto_region 1 with (fail)
  have N0 := hide (Upd.refl (fun _ => False) w).drew
  have HK := hide fun (W : World) (hW : New w W) => keepA (A := W.cell? ⟨kp, 0, none⟩ = some (.int .i64 p.a)) ⟨(hW.cell (o := 0) z0 fun z => z).trans c0, keepA ⟨(hW.cell (o := 1) z0 fun z => z).trans c1, keepA ⟨(hW.cell (o := 2) z0 fun z => z).trans c2, keepA ⟨(hW.cell (o := 3) z0 fun z => z).trans c3, (hW.cell (o := 4) z0 fun z => z).trans c4⟩⟩⟩⟩
  have Hz := hide z0
  clear c0 c1 c2 c3 c4
  obtain ⟨c0, c1, c2, c3, c4⟩ := HK.out w (Upd.refl _ _)
  go_region_held3 (fun w' => w'.cell? ⟨kp, 0, none⟩ = some (.int .i64 p.a) ∧ w'.cell? ⟨kp, 1, none⟩ = some (.int .i64 p.n) ∧ w'.cell? ⟨kp, 2, none⟩ = some (.int .i64 L) ∧ w'.cell? ⟨kp, 3, none⟩ = some (.map (some bm)) ∧ w'.cell? ⟨kp, 4, none⟩ = some (.map (some tm)))
    (first | go_keep | exact HK.out _ N3.out | exact HK.out _ N2.out | exact HK.out _ N1.out | exact HK.out _ N0.out)
    (first
      | (go_at_call 37; refine (HB.out _ (by first | exact N1.out | exact N0.out)).mono ?_; rintro e wB ⟨rfl, mB, uB⟩; have N2 := hide ((by first | exact N1.out | exact N0.out : New w _).trans_new uB); have N1 := hide N2.out; have MB := hide mB; have UB := hide uB; clear mB uB)
      | (go_at_call 37; refine (HT.out _ (by first | exact N1.out | exact N0.out)).mono ?_; rintro e wT ⟨rfl, mT, uT⟩; have N2 := hide ((by first | exact N1.out | exact N0.out : New w _).trans_new uT); have N1 := hide N2.out; have MT := hide mT; have UT := hide uT; clear mT uT))
  all_goals (go_wp2_with fail; go_ret)
  all_goals first
    | (have q1 := MB.out.lt
       have q2 := UT.out.size
       have q3 := N0.out.size
       have q4 : wT.heap.size = wT.heap.size := rfl
       have q5 : w.drew.heap.size = w.heap.size := rfl
       exact ⟨wT.heap.size, w.heap.size, wB.heap.size, rfl, ⟨Blk.at_ _ _ _ _ rfl, (MB.out.new_ UT.out).new_ (nw_alloc _ _), MT.out.new_ (nw_alloc _ _), by omega, Ho.out⟩, N2.out.alloc _, by omega, by omega, by omega⟩)
    | (have q1 := MT.out.lt
       have q2 := UB.out.size
       have q5 : w.drew.heap.size = w.heap.size := rfl
       exact ⟨wB.heap.size, wT.heap.size, w.heap.size, rfl, ⟨Blk.at_ _ _ _ _ rfl, MB.out.new_ (nw_alloc _ _), (MT.out.new_ UB.out).new_ (nw_alloc _ _), by omega, Ho.out⟩, N2.out.alloc _, by omega, by omega, by omega⟩)
end
end Go.Proofs.YtimhbgpnkodlaaaGreatDoor

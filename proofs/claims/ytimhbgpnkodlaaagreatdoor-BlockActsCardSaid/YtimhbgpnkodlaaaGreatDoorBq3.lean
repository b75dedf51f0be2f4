/- The document's pool: Give, Count. No condition but those that stand in each theorem. -/
import Derived.Test.YtimhbgpnkodlaaaGreatDoorBq2
import Derived.Test.YtimhbgpnkodlaaaGreatDoorBpC
namespace Go.Proofs.YtimhbgpnkodlaaaGreatDoor
open Go.RowKit
section
variable {w w1 : World} {mp gT gB : Nat} {p : Pf} {L : Int} {c : PoolC}
theorem hblk0 {b z N : Nat} (h : ∀ x, x < z → b + x < N) (hz : 0 < z) : b < N := h 0 hz
/-- Take, when there is a place. -/
theorem reftake_some (hg : PoolG p L) (h : RefM w mp gT gB p L c) (host : Int) (hh : 1 ≤ host ∧ host ≤ 1000) {i : Nat} {c1 : PoolC} (e : takeC (plN p) (plZ L) c host = (some i, c1)) :
    Calls Tryz.prog 9 #[.pointer (some ⟨mp, 0, none⟩), .int .i64 host] w fun e w1 => e = .returned (.tuple #[.int .i64 (p.a + (i : Int)), .int .i64 0]) ∧ RefM w1 mp gT gB p L c1 ∧ Upd (fun k => k = gB ∨ k = gT) w w1 := by
  have hi := (take_some e (by omega)).1
  unfold takeC at e
  split at e
  · rename_i j hj
    injection e with e1 e2
    injection e1 with e1
    subst e1; subst e2
    exact reftake_A hg h host hh j hi hj
  · rename_i hn
    split at e
    · rename_i j hj
      injection e with e1 e2
      injection e1 with e1
      subst e1; subst e2
      exact reftake_B hg h host hh j hi hn hj
    · rename_i hn2
      split at e
      · rename_i j hj
        injection e with e1 e2
        injection e1 with e1
        subst e1; subst e2
        exact reftake_C hg h host hh j hi hn hn2 hj
      · cases e
theorem reftake_none (hg : PoolG p L) (h : RefM w mp gT gB p L c) (host : Int) (hh : 1 ≤ host ∧ host ≤ 1000) {c1 : PoolC} (e : takeC (plN p) (plZ L) c host = (none, c1)) :
    Calls Tryz.prog 9 #[.pointer (some ⟨mp, 0, none⟩), .int .i64 host] w fun e w1 => e = .returned (.tuple #[.int .i64 0, .int .i64 7]) ∧ New w w1 := by
  unfold takeC at e
  split at e
  · cases e
  · rename_i hn
    split at e
    · cases e
    · rename_i hn2
      split at e
      · cases e
      · rename_i hn3
        exact reftake_D hg h host hh hn hn2 hn3
set_option maxHeartbeats 400000 in
theorem refgive_no (hg : PoolG p L) (ho : OutC (plN p) (plZ L) c) (h : RefM w mp gT gB p L c) {x : Int} (hx : I64 x) (h0 : atT p.a c x = 0) : Calls Tryz.prog 11 #[.pointer (some ⟨mp, 0, none⟩), .int .i64 x] w fun e w1 => e = .returned (.int .i64 5) ∧ w = w1 := by
  have hw := refowner_any hg ho h hx
  rw [h0] at hw
  have Hw := hide hw
  clear hw h
  go_enter Tryz.func11, Tryz.ntmps11
  go_wp2_with ((go_at_call 14; refine Hw.out.mono ?_; rintro e w' ⟨rfl, rfl⟩))
  go_ret
  exact ⟨rfl, rfl⟩
set_option maxRecDepth 20000 in
set_option maxHeartbeats 1000000 in
theorem refgive_yes (hg : PoolG p L) (ho : OutC (plN p) (plZ L) c) (h : RefM w mp gT gB p L c) {i : Nat} (hi : i < plN p) (h0 : c.T i ≠ 0) :
    Calls Tryz.prog 11 #[.pointer (some ⟨mp, 0, none⟩), .int .i64 (p.a + (i : Int))] w fun e w1 => e = .returned (.int .i64 0) ∧ RefM w1 mp gT gB p L (giveC (plZ L) c i) ∧ Upd (fun k => k = gB ∨ k = gT) w w1 := by
  obtain ⟨a0, a1⟩ := hg.a_le
  have hn := hg.n_le
  have hzl := hg.z_le
  have hzp := plZ_pos L
  have hln := hg.ln
  have hmm := plM_le hg
  have hx : I64 (p.a + (i : Int)) := ⟨by omega, by omega⟩
  have hw := refowner_any hg ho h hx
  rw [atT_place] at hw
  have hb0 : (c.T i == 0) = false := by simpa using h0
  have Hw := hide hw
  have Hsz := hide (sizeOf_any L (by omega))
  rw [show (2 ^ (32 - L.toNat) : Nat) = plZ L from rfl] at Hsz
  obtain ⟨c0, c1, c2, c3, c4⟩ := h.cells
  have ct := h.atT hi
  have ft := h.T.frozen i
  have z0 := h.blk.lt
  have z1 := h.T.lt
  have i1 : (i : Int) < ((plN p : Nat) : Int) := by omega
  have i2 : p.a + (i : Int) - p.a = (i : Int) := by omega
  have Hs := hide (h.setT i 0)
  have hjm := hg.pp.in_block hi
  have hq : (i : Int) / ((plZ L : Nat) : Int) = ((i / plZ L : Nat) : Int) := rfl
  have hblk := fun x hx => hg.pp.block_lt (j := i / plZ L) (x := x) hjm hx
  have Hgv0 : giveC (plZ L) c i = ⟨updI c.T i 0, if emptyC (plZ L) (updI c.T i 0) (i / plZ L) then updI c.B (i / plZ L) 0 else c.B⟩ := rfl
  obtain ⟨j, hj⟩ : ∃ j, i / plZ L = j := ⟨_, rfl⟩
  obtain ⟨b, hbz⟩ : ∃ b, j * plZ L = b := ⟨_, rfl⟩
  have He := empty_iff (z := plZ L) (T := updI c.T i 0) (j := j)
  rw [hj] at hjm hq hblk Hgv0
  simp only [hbz] at hblk He
  have hm1 : (j : Int) * ((plZ L : Nat) : Int) = (b : Int) := by rw [← hbz]; push_cast; rfl
  have hm2 : ((j : Int) + 1) * ((plZ L : Nat) : Int) = (b : Int) + ((plZ L : Nat) : Int) := by rw [Int.add_mul, hm1, Int.one_mul]
  have Hgv := hide Hgv0
  have HE := hide He
  have Hblk := hide hblk
  have Hu := hide ((Upd.refl (fun k => k = gB ∨ k = gT) w).setCell (p := ⟨gT, i, none⟩) (.inl (.inr rfl)) (.int .i64 0))
  have hmt := h.mT
  clear hw h h0 hx hln Hgv0 He hblk hbz hj ho
  generalize hzz : plZ L = z at *
  go_enter Tryz.func11, Tryz.ntmps11
  go_upto_region 6 with (first
    | (go_at_call 14; refine Hw.out.mono ?_; rintro e w' ⟨rfl, rfl⟩)
    | (go_at_call 27; refine (Hsz.out _).mono ?_; rintro e w' ⟨rfl, rfl⟩))
  generalize w.setCell ⟨gT, i, none⟩ (.int .i64 0) = W at *
  have hB0 := hblk0 Hblk.out hzp
  go_upto_region 8 with (fail)
  have d3 : W.cell? ⟨mp, 3, none⟩ = some (.slice (some ⟨gT, 0, none⟩) (plN p) (plN p)) := Hs.out.blk.cell 3
  have d4 : W.cell? ⟨mp, 4, none⟩ = some (.slice (some ⟨gB, 0, none⟩) (plM p L) (plM p L)) := Hs.out.blk.cell 4
  have db := Hs.out.atB hjm
  have fb := Hs.out.B.frozen j
  have j1 : (j : Int) < ((plM p L : Nat) : Int) := by omega
  have x0 := Hs.out.blk.lt
  have x1 := Hs.out.B.lt
  have Hc := hide (fun x hx => Hs.out.atT (i := x) hx)
  clear c0 c1 c2 c3 c4 ct ft
  go_loop [8] (fun x => ∃ t : Nat, t ≤ z ∧ x = .int .i64 ((b + t : Nat) : Int) ∧ ∀ y, y < t → updI c.T i 0 (b + y) = 0) (fun x => z - (intOf x - (b : Int)).toNat)
  case atStart => exact ⟨0, by omega, by simp, fun y h => absurd h (by omega)⟩
  case round =>
    obtain ⟨t, ht, rfl, hy⟩ := hrel
    have Hy := hide hy
    clear hy
    by_cases hlt : t < z
    · have hin := Hblk.out t hlt
      have e1 := Hc.out (b + t) hin
      have k1 : ((b + t : Nat) : Int) < (b : Int) + (z : Int) := by omega
      have k2 : ((b + t : Nat) : Int) < ((plN p : Nat) : Int) := by omega
      generalize hbt : b + t = s at *
      dsimp only at e1
      by_cases h0 : updI c.T i 0 s = 0
      · have H0 := hide h0
        rw [h0] at e1
        clear h0
        go_wp2_with fail
        exact ⟨⟨t + 1, by omega, by congr 1; omega, fun y hy => by
          by_cases hyt : y < t
          · exact Hy.out y hyt
          · rw [show y = t by omega, hbt]
            exact H0.out⟩, by simp [intOf]; omega⟩
      · have hbb : (updI c.T i 0 s != 0) = true := by simpa using h0
        have H0 := hide h0
        clear h0
        go_wp2_with fail
        go_ret
        refine ⟨rfl, ?_, Hu.out⟩
        have he : emptyC z (updI c.T i 0) j = false := Bool.eq_false_iff.2 fun he => H0.out (by rw [← hbt]; exact HE.out.1 he t hlt)
        rw [he] at Hgv
        rw [Hgv.out]
        exact Hs.out
    · have htz := hide (show t = z by omega)
      have k1 : (b : Int) + (z : Int) ≤ ((b + t : Nat) : Int) := by omega
      clear hlt ht
      go_wp2_with fail
      go_ret
      have he : emptyC z (updI c.T i 0) j = true := HE.out.2 fun y hy => Hy.out y (by have := htz.out; omega)
      rw [he] at Hgv
      rw [Hgv.out]
      exact ⟨rfl, Hs.out.setB j 0, Hu.out.setCell (p := ⟨gB, j, none⟩) (.inl (.inl rfl)) _⟩
set_option maxRecDepth 20000 in
set_option maxHeartbeats 1000000 in
theorem refcount_any (hg : PoolG p L) (h : RefM w mp gT gB p L c) : Calls Tryz.prog 16 #[.pointer (some ⟨mp, 0, none⟩)] w fun e w1 => e = .returned (.int .i64 ((cntC (plN p) c.T : Nat) : Int)) ∧ w = w1 := by
  have hn := hg.n_le
  obtain ⟨c0, c1, c2, c3, c4⟩ := h.cells
  have z0 := h.blk.lt
  have z1 := h.T.lt
  have Hc := hide (fun x hx => h.atT (i := x) hx)
  have Hle := hide (fun k => cntC_le k c.T)
  clear h hg
  generalize hN : plN p = N at *
  clear hN
  go_enter Tryz.func16, Tryz.ntmps16
  go_wp2_with fail
  go_loop [3, 4] (fun s i => ∃ k : Nat, k ≤ N ∧ i = .int .i64 k ∧ s = .int .i64 ((cntC k c.T : Nat) : Int)) (fun _ i => N - (intOf i).toNat)
  case atStart => exact ⟨0, by omega, rfl, rfl⟩
  case round =>
    obtain ⟨k, hk, rfl, rfl⟩ := hrel
    have hcl := Hle.out k
    have Hs := hide (cntC_succ k c.T)
    obtain ⟨q, hq⟩ : ∃ q, cntC k c.T = q := ⟨_, rfl⟩
    rw [hq] at hcl Hs ⊢
    have Hq := hide hq
    clear hq
    by_cases hlt : k < N
    · have e1 := Hc.out k hlt
      have i1 : (k : Int) < (N : Int) := by omega
      by_cases h0 : c.T k = 0
      · have hb : (c.T k != 0) = false := by simpa using h0
        have H0 := hide h0
        clear h0
        go_wp2_with fail
        exact ⟨⟨k + 1, by omega, by congr 1, by rw [Hs.out, if_neg (by simpa using H0.out)]; rfl⟩, by simp [intOf]; omega⟩
      · have hb : (c.T k != 0) = true := by simpa using h0
        have H0 := hide h0
        clear h0
        go_wp2_with fail
        exact ⟨⟨k + 1, by omega, by congr 1, by rw [Hs.out, if_pos H0.out]; congr 1⟩, by simp [intOf]; omega⟩
    · have hkn := hide (show k = N by omega)
      have i1 : (N : Int) ≤ (k : Int) := by omega
      clear hlt hk
      go_wp2_with fail
      go_ret
      refine ⟨?_, rfl⟩
      have := hkn.out
      subst this
      rw [Hq.out]
      rfl
end
end Go.Proofs.YtimhbgpnkodlaaaGreatDoor

namespace Go.Proofs.YtimhbgpnkodlaaaGreatDoor
open Go.RowKit
section
variable {w w1 : World} {mp gT gB : Nat} {p : Pf} {L : Int} {c : PoolC}
theorem loose_step {z : Nat} {a0 h : Int} (k : Nat) : looseH (k + 1) z a0 c h = looseH k z a0 c h ++ if c.T k = h ∧ h ≠ 0 ∧ c.B (k / z) ≠ h then [a0 + (k : Int)] else [] := by
  unfold looseH
  by_cases h0 : h = 0
  · rw [if_pos h0, if_pos h0, if_neg (fun hx => hx.2.1 h0)]
    rfl
  · rw [if_neg h0, if_neg h0]
    unfold looseZ looseC
    rw [List.range_succ, List.filter_append, List.map_append]
    congr 1
    by_cases h1 : c.T k = h
    · by_cases h2 : c.B (k / z) = h
      · rw [if_neg (fun hx => hx.2.2 h2)]
        simp [h2]
      · rw [if_pos ⟨h1, h0, h2⟩]
        simp [h1, h2]
    · rw [if_neg (fun hx => h1 hx.1)]
      simp [h1]
set_option maxRecDepth 20000 in
set_option maxHeartbeats 4000000 in
theorem refloose_any (hg : PoolG p L) (h : RefM w mp gT gB p L c) (host : Int) : Calls Tryz.prog 22 #[.pointer (some ⟨mp, 0, none⟩), .int .i64 host] w fun e w1 => ∃ v, e = .returned v ∧ OwnI w1 w.heap.size v (looseH (plN p) (plZ L) p.a c host) ∧ New w w1 := by
  have hn := hg.n_le
  have hz := hg.z_le
  have hzp := plZ_pos L
  have hln := hg.ln
  have hmm := plM_le hg
  obtain ⟨a0, a1⟩ := hg.a_le
  obtain ⟨c0, c1, c2, c3, c4⟩ := h.cells
  have z0 := h.blk.lt
  have z1 := h.T.lt
  have z2 := h.B.lt
  have Hsz := hide (sizeOf_any L (by omega))
  rw [show (2 ^ (32 - L.toNat) : Nat) = plZ L from rfl] at Hsz
  have hib := fun i hi => hg.pp.in_block (i := i) hi
  have hT := fun i hi => h.atT (i := i) hi
  have hB := fun j hj => h.atB (j := j) hj
  have hst := fun k => loose_step (c := c) (z := plZ L) (a0 := p.a) (h := host) k
  have hlen := fun k => loose_len k (plZ L) p.a c host
  clear h hg hln
  generalize hzz : plZ L = z at *
  generalize hnn : plN p = n at *
  generalize hmn : plM p L = m at *
  have HT := hide hT
  have HB := hide hB
  have Hib := hide hib
  have Hst := hide hst
  have Hlen := hide hlen
  clear hT hB hib hst hlen hzz hnn hmn
  go_enter Tryz.func22, Tryz.ntmps22
  go_wp2_with fail
  go_loopw [5, 6] (fun v i wr => ∃ k : Nat, k ≤ n ∧ i = .int .i64 k ∧ New w wr ∧ OwnI wr w.heap.size v (looseH k z p.a c host)) (fun _ i _ => n - (intOf i).toNat)
  case atStart => exact ⟨0, by omega, rfl, Upd.refl _ _, by
    have e : looseH 0 z p.a c host = [] := List.eq_nil_of_length_eq_zero (Nat.le_zero.1 (Hlen.out 0))
    rw [e]
    exact World.ownsRow_nil _ _ _ _⟩
  case round =>
    obtain ⟨k, hk, rfl, hnw, hov⟩ := hrel
    have Hnw := hide hnw
    have Hov := hide hov
    have Hlk := hide (Hlen.out k)
    have d0 := (hnw.cell (o := 0) z0 fun z => z).trans c0
    have d2 := (hnw.cell (o := 2) z0 fun z => z).trans c2
    have d3 := (hnw.cell (o := 3) z0 fun z => z).trans c3
    have d4 := (hnw.cell (o := 4) z0 fun z => z).trans c4
    have y0 := hnw.size
    have x0 : mp < wr.heap.size := by omega
    have x1 : gT < wr.heap.size := by omega
    have x2 : gB < wr.heap.size := by omega
    clear hnw hov
    by_cases hlt : k < n
    · have e1 := (Hnw.out.cell (o := k) z1 fun z => z).trans (HT.out k hlt)
      have e2 := (Hnw.out.cell (o := k / z) z2 fun z => z).trans (HB.out _ (Hib.out k hlt))
      have hjm := Hib.out k hlt
      have hq : (k : Int) / (z : Int) = ((k / z : Nat) : Int) := rfl
      have i1 : (k : Int) < (n : Int) := by omega
      have hst := Hst.out k
      obtain ⟨j, hjz⟩ : ∃ j, k / z = j := ⟨_, rfl⟩
      rw [hjz] at e2 hjm hq hst
      have HstK := hide hst
      clear hjz hst
      go_upto_region 5 with (fail)
      by_cases h1 : c.T k = host
      · have hb1 : (c.T k == host) = true := by simpa using h1
        have H1 := hide h1
        clear h1
        by_cases h0 : host = 0
        · have hb0 : (host != 0) = false := by simpa using h0
          have H0 := hide h0
          clear h0
          refine wp_region_new wr (Upd.refl _ _) (by kernel_rfl) (by kernel_rfl) ?_
          repeat (go_big_quiet_step (fail))
          refine wpQuiet_nil ?_
          rintro _ ⟨nq, rfl⟩
          go_wp2_with fail
          exact ⟨⟨k + 1, by omega, by congr 1, Hnw.out.trans_new nq.h, by rw [HstK.out, if_neg (fun hx => hx.2.1 H0.out), List.append_nil]; exact row_new Hov.out nq.h⟩, by simp [intOf]; omega⟩
        · have hb0 : (host != 0) = true := by simpa using h0
          have H0 := hide h0
          clear h0
          by_cases h2 : c.B j = host
          · have hb2 : (c.B j != host) = false := by simpa using h2
            have H2 := hide h2
            clear h2
            refine wp_region_new wr (Upd.refl _ _) (by kernel_rfl) (by kernel_rfl) ?_
            repeat (go_big_quiet_step ((go_at_call 27; exact new_call_same (Hsz.out _))))
            refine wpQuiet_nil ?_
            rintro _ ⟨nq, rfl⟩
            go_wp2_with fail
            exact ⟨⟨k + 1, by omega, by congr 1, Hnw.out.trans_new nq.h, by rw [HstK.out, if_neg (fun hx => hx.2.2 H2.out), List.append_nil]; exact row_new Hov.out nq.h⟩, by simp [intOf]; omega⟩
          · have hb2 : (c.B j != host) = true := by simpa using h2
            have H2 := hide h2
            clear h2
            refine wp_region_new wr (Upd.refl _ _) (by kernel_rfl) (by kernel_rfl) ?_
            repeat (go_big_quiet_step ((go_at_call 27; exact new_call_same (Hsz.out _))))
            refine wpQuiet_nil ?_
            rintro _ ⟨nq, rfl⟩
            have Ho2 := hide (row_new Hov.out nq.h)
            have hnz := nq.h.size
            have ll := Hlk.out
            go_wp2_with (first
              | (at_builtin; refine wpList_app1 _ rfl _ _ rfl w.heap.size _ _ _ _ rfl rfl (row_new Ho2.out ((Upd.refl _ _).alloc _)) (Blk.new _ _ _) (by omega) (by simp; omega) ?_; intro v2 w2 ho2 hg2)
              | go_in)
            have ua : New nq.w (nq.w.alloc (.cells #[.int .i64 (p.a + (k : Int))] 3)) := (Upd.refl _ _).alloc _
            have hrw := row_new Ho2.out ua
            exact ⟨⟨k + 1, by omega, by congr 1, own_ge hrw ((Hnw.out.trans_new nq.h).trans_new ua) (Nat.le_refl _) hg2, by rw [HstK.out, if_pos ⟨H1.out, H0.out, H2.out⟩]; exact ho2⟩, by simp [intOf]; omega⟩
      · have hb1 : (c.T k == host) = false := by simpa using h1
        have H1 := hide h1
        clear h1
        refine wp_region_new wr (Upd.refl _ _) (by kernel_rfl) (by kernel_rfl) ?_
        repeat (go_big_quiet_step (fail))
        refine wpQuiet_nil ?_
        rintro _ ⟨nq, rfl⟩
        go_wp2_with fail
        exact ⟨⟨k + 1, by omega, by congr 1, Hnw.out.trans_new nq.h, by rw [HstK.out, if_neg (fun hx => H1.out hx.1), List.append_nil]; exact row_new Hov.out nq.h⟩, by simp [intOf]; omega⟩
    · have hkn := hide (show k = n by omega)
      have i1 : (n : Int) ≤ (k : Int) := by omega
      clear hlt hk
      go_wp2_with fail
      go_ret
      refine ⟨_, rfl, ?_, Hnw.out⟩
      rw [← hkn.out]
      exact Hov.out
end
end Go.Proofs.YtimhbgpnkodlaaaGreatDoor

namespace Go.Proofs.YtimhbgpnkodlaaaGreatDoor
open Go.RowKit
section
variable {w w1 : World} {mp gT gB : Nat} {p : Pf} {L : Int} {c : PoolC}
theorem blk_facts (a : Int) (y : Nat) (h0 : 0 ≤ a) (h1 : a ≤ 4294967296) (h2 : y ≤ 4096) : IntKind.i64.wrap (y : Int) = (y : Int) ∧ wrap64 (y : Int) = (y : Int) ∧ IntKind.i64.wrap (a + (y : Int)) = a + (y : Int) ∧ wrap64 (a + (y : Int)) = a + (y : Int) :=
  ⟨IntWalk.i64_in _ (by omega), IntWalk.wrap64_in _ (by omega), IntWalk.i64_in _ (by omega), IntWalk.wrap64_in _ (by omega)⟩
theorem keepA {A B : Prop} (h : A ∧ B) : A ∧ B := h
/-- One more prefix is put behind a row of the call's own. -/
theorem app_pf {W : World} {base : Nat} {v : Value} {l : List Pf} (hrow0 : OwnP W base v l) (hb : base ≤ W.heap.size) (q : Pf) (hl : l.length < 5000) (ty : TypeId) :
    ∃ v2 W2, (Builtin.append_ #[46, 46] ty #[v, .slice (some ⟨W.heap.size, 0, none⟩) 1 1]).run Tryz.prog (W.drew.alloc (.cells #[.int .i64 q.a, .int .i64 q.n] TPf)) = .ok v2 W2 ∧
      OwnP W2 base v2 (l ++ [q]) ∧ ∀ w : World, New w W → w.heap.size ≤ base → New w W2 := by
  obtain ⟨i0, hi0, hz0, hz1, hz2⟩ := info_parts info_TPf
  obtain ⟨Wa, hWa⟩ : ∃ Wa, W.drew.alloc (.cells #[.int .i64 q.a, .int .i64 q.n] TPf) = Wa := ⟨_, rfl⟩
  have ua : New W Wa := by rw [← hWa]; exact (Upd.refl _ W).drew.alloc _
  have ba : Blk Wa W.heap.size TPf #[.int .i64 q.a, .int .i64 q.n] := by rw [← hWa]; exact Blk.at_ _ _ _ _ rfl
  have hs1 := ua.size
  have hrow : Wa.ownsRow base TPf 2 v l.length (flat (l.map Pf.cells)) := row_new hrow0 ua
  obtain ⟨v2, W2, hr, h2, h3, _, h5⟩ := run_append_own_at (P := Tryz.prog) Wa base 46 ty TPf i0 _ 2 16 Tryz.underlying46 hi0 hz0 hz1 hz2 rfl (by decide) v l.length (flat (l.map Pf.cells)) hrow ⟨W.heap.size, 0, none⟩ 1 1 [.int .i64 q.a, .int .i64 q.n] rfl
    (fun j u hu => by
      have e := ba.cell j
      match j, hu with
      | 0, hu => simp at hu; subst hu; exact e
      | 1, hu => simp at hu; subst hu; exact e
      | k + 2, hu => simp at hu) (fun u hu => by simp at hu; rcases hu with rfl | rfl <;> rfl) (by unfold maxLen; omega) (by omega) (by omega)
  refine ⟨v2, W2, by rw [hWa]; exact hr, ?_, fun w hn hbw => ?_⟩
  · unfold OwnP
    rw [List.map_append, List.length_append, show flat (l.map Pf.cells ++ [q].map Pf.cells) = flat (l.map Pf.cells) ++ [.int .i64 q.a, .int .i64 q.n] by simp [flat, Pf.cells]]
    exact h2
  · exact own_ge hrow (hn.trans_new ua) hbw h3
set_option maxRecDepth 20000 in
set_option maxHeartbeats 4000000 in
theorem refblocks_any (hg : PoolG p L) (h : RefM w mp gT gB p L c) (host : Int) : Calls Tryz.prog 19 #[.pointer (some ⟨mp, 0, none⟩), .int .i64 host] w fun e w1 => ∃ v, e = .returned v ∧ OwnP w1 w.heap.size v (blksH (plM p L) (plZ L) p.a L c host) ∧ New w w1 := by
  have hn := hg.n_le
  have hz := hg.z_le
  have hzp := plZ_pos L
  have hln := hg.ln
  have hmm := plM_le hg
  obtain ⟨a0, a1⟩ := hg.a_le
  obtain ⟨c0, c1, c2, c3, c4⟩ := h.cells
  have z0 := h.blk.lt
  have z2 := h.B.lt
  have Hsz := hide (sizeOf_any L (by omega))
  rw [show (2 ^ (32 - L.toNat) : Nat) = plZ L from rfl] at Hsz
  have hB := fun j hj => h.atB (j := j) hj
  have hst := fun k => blks_step (c := c) (z := plZ L) (a := p.a) (L := L) (h := host) k
  have hlen := fun k => blks_len (c := c) k (plZ L) p.a L host
  have hmz := hg.pp.mz
  clear h hg hln
  generalize hzz : plZ L = z at *
  generalize hnn : plN p = n at *
  generalize hmn : plM p L = m at *
  have hkz : ∀ k, k < m → k * z ≤ n := fun k hk => by rw [← hmz]; exact Nat.mul_le_mul_right _ (Nat.le_of_lt hk)
  have Hkz := hide hkz
  have HB := hide hB
  have Hst := hide hst
  have Hlen := hide hlen
  clear hB hst hlen hzz hnn hmn hmz hkz
  go_enter Tryz.func19, Tryz.ntmps19
  go_wp2_with fail
  go_loopw [5, 6] (fun v i wr => ∃ k : Nat, k ≤ m ∧ i = .int .i64 k ∧ New w wr ∧ OwnP wr w.heap.size v (blksH k z p.a L c host)) (fun _ i _ => m - (intOf i).toNat)
  case atStart => exact ⟨0, by omega, rfl, Upd.refl _ _, by
    have e : blksH 0 z p.a L c host = [] := List.eq_nil_of_length_eq_zero (Nat.le_zero.1 (Hlen.out 0))
    rw [e]
    exact World.ownsRow_nil _ _ _ _⟩
  case round =>
    obtain ⟨k, hk, rfl, hnw, hov⟩ := hrel
    have Hnw := hide hnw
    have Hov := hide hov
    have Hlk := hide (Hlen.out k)
    have d0 := (hnw.cell (o := 0) z0 fun z => z).trans c0
    have d2 := (hnw.cell (o := 2) z0 fun z => z).trans c2
    have d4 := (hnw.cell (o := 4) z0 fun z => z).trans c4
    have y0 := hnw.size
    have x0 : mp < wr.heap.size := by omega
    have x2 : gB < wr.heap.size := by omega
    clear hnw hov
    by_cases hlt : k < m
    · have e2 := (Hnw.out.cell (o := k) z2 fun z => z).trans (HB.out _ hlt)
      have i1 : (k : Int) < (m : Int) := by omega
      have hst := Hst.out k
      obtain ⟨y, hy⟩ : ∃ y, k * z = y := ⟨_, rfl⟩
      have hyn := Hkz.out k hlt
      rw [hy] at hst hyn
      have hq : (k : Int) * (z : Int) = (y : Int) := by rw [← hy, Int.natCast_mul]
      have HstK := hide hst
      clear hst hy
      by_cases h1 : c.B k = host
      · have hb1 : (c.B k == host) = true := by simpa using h1
        have H1 := hide h1
        clear h1
        by_cases h0 : host = 0
        · have hb0 : (host != 0) = false := by simpa using h0
          have H0 := hide h0
          clear h0
          go_wp2_with fail
          exact ⟨⟨k + 1, by omega, by congr 1, Hnw.out, by rw [HstK.out, if_neg (fun hx => hx.1 H0.out)]; exact Hov.out⟩, by simp [intOf]; omega⟩
        · have hb0 : (host != 0) = true := by simpa using h0
          have H0 := hide h0
          clear h0
          have ll := Hlk.out
          obtain ⟨i5, i6, i7, i8⟩ := blk_facts p.a y a0 (by omega) (by omega)
          obtain ⟨v2, w2, hr, ho2, hn2⟩ := app_pf Hov.out (by omega) ⟨p.a + (y : Int), L⟩ (by omega) 46
          have Hr := hide hr
          have Ho2 := hide ho2
          have Hn2 := hide (hn2 w Hnw.out (Nat.le_refl _))
          clear hr ho2 hn2
          have K0 := hide (keepA ⟨d0, d2⟩)
          have K1 := hide (keepA ⟨(((Upd.refl (fun _ => False) wr).drew.alloc (.cells #[.int .i64 (p.a + (y : Int)), .int .i64 L] TPf)).cell (o := 0) x0 fun z => z).trans d0, (((Upd.refl (fun _ => False) wr).drew.alloc (.cells #[.int .i64 (p.a + (y : Int)), .int .i64 L] TPf)).cell (o := 2) x0 fun z => z).trans d2⟩)
          have K2 := hide (keepA ⟨(Hn2.out.cell (o := 0) z0 fun z => z).trans c0, (Hn2.out.cell (o := 2) z0 fun z => z).trans c2⟩)
          go_upto_region 6 with (fail)
          clear e2 d4 c0 c1 c2 c3 c4
          go_region_held3 (fun w' => w'.cell? ⟨mp, 0, none⟩ = some (.int .i64 p.a) ∧ w'.cell? ⟨mp, 2, none⟩ = some (.int .i64 L))
            (first | go_keep | exact K2.out | exact K1.out | exact K0.out)
            (first
              | (go_at_call 27; refine (Hsz.out _).mono ?_; rintro e w' ⟨rfl, rfl⟩)
              | (rw [if_pos (by rfl)]; refine wp_append_eq rfl rfl rfl Hr.out ?_))
          go_wp2_with fail
          exact ⟨⟨k + 1, by omega, by congr 1, Hn2.out, by rw [HstK.out, if_pos ⟨H0.out, H1.out⟩]; exact Ho2.out⟩, by simp [intOf]; omega⟩
      · have hb1 : (c.B k == host) = false := by simpa using h1
        have H1 := hide h1
        clear h1
        go_wp2_with fail
        exact ⟨⟨k + 1, by omega, by congr 1, Hnw.out, by rw [HstK.out, if_neg (fun hx => H1.out hx.2)]; exact Hov.out⟩, by simp [intOf]; omega⟩
    · have hkn := hide (show k = m by omega)
      have i1 : (m : Int) ≤ (k : Int) := by omega
      clear hlt hk
      go_wp2_with fail
      go_ret
      refine ⟨_, rfl, ?_, Hnw.out⟩
      rw [← hkn.out]
      exact Hov.out
end
end Go.Proofs.YtimhbgpnkodlaaaGreatDoor

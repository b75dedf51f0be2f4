/- The document's pool in memory: two rows of numbers; its free places, its owners, how many are taken. No condition but those that stand in each theorem. -/
import Derived.Test.YtimhbgpnkodlaaaGreatDoorBpE
import Derived.Test.YtimhbgpnkodlaaaGreatDoorRf1
namespace Go.Proofs.YtimhbgpnkodlaaaGreatDoor
open Go.RowKit
abbrev TRef : TypeId := 58
def refCells (p : Pf) (L : Int) (gT gB : Nat) : Array Value := #[.int .i64 p.a, .int .i64 p.n, .int .i64 L, .slice (some ⟨gT, 0, none⟩) (plN p) (plN p), .slice (some ⟨gB, 0, none⟩) (plM p L) (plM p L)]
def rowC (n : Nat) (f : Nat → Int) : Array Value := ((List.range n).map fun i => Value.int .i64 (f i)).toArray
theorem rowC_get {n : Nat} {f : Nat → Int} {i : Nat} (h : i < n) : (rowC n f)[i]? = some (.int .i64 (f i)) := by
  unfold rowC
  rw [List.getElem?_toArray, List.getElem?_map, List.getElem?_range h]
  rfl
theorem rowC_set {n : Nat} {f : Nat → Int} {i : Nat} {v : Int} : (rowC n f).setIfInBounds i (.int .i64 v) = rowC n (updI f i v) := by
  unfold rowC
  apply Array.ext_getElem?
  intro j
  rw [Array.getElem?_setIfInBounds, List.getElem?_toArray, List.getElem?_toArray, List.getElem?_map, List.getElem?_map]
  by_cases hij : i = j
  · subst hij
    rw [if_pos rfl]
    by_cases hi : i < n
    · simp [List.getElem?_range hi, updI_same, hi]
    · simp [hi]
  · rw [if_neg hij]
    by_cases hj : j < n
    · simp [List.getElem?_range hj, updI_other f v (Ne.symm hij)]
    · simp [hj]
/-- Block mp is the document's pool. -/
structure RefM (w : World) (mp gT gB : Nat) (p : Pf) (L : Int) (c : PoolC) : Prop where
  blk : Blk w mp TRef (refCells p L gT gB)
  T : Blk w gT 3 (rowC (plN p) c.T)
  B : Blk w gB 3 (rowC (plM p L) c.B)
  ne : gT ≠ gB
section
variable {w w1 : World} {mp gT gB : Nat} {p : Pf} {L : Int} {c : PoolC}
theorem RefM.new_ (h : RefM w mp gT gB p L c) (hu : New w w1) : RefM w1 mp gT gB p L c := ⟨h.blk.new_ hu, h.T.new_ hu, h.B.new_ hu, h.ne⟩
theorem RefM.upd {S : Nat → Prop} (h : RefM w mp gT gB p L c) (hu : Upd S w w1) (h1 : ¬ S mp) (h2 : ¬ S gT) (h3 : ¬ S gB) : RefM w1 mp gT gB p L c := ⟨h.blk.upd hu h1, h.T.upd hu h2, h.B.upd hu h3, h.ne⟩
theorem RefM.mT (h : RefM w mp gT gB p L c) : mp ≠ gT := h.blk.ne_ h.T (by decide)
theorem RefM.mB (h : RefM w mp gT gB p L c) : mp ≠ gB := h.blk.ne_ h.B (by decide)
theorem RefM.setT (h : RefM w mp gT gB p L c) (i : Nat) (v : Int) : RefM (w.setCell ⟨gT, i, none⟩ (.int .i64 v)) mp gT gB p L ⟨updI c.T i v, c.B⟩ := by
  refine ⟨h.blk.far h.mT _, ?_, h.B.far (Ne.symm h.ne) _, h.ne⟩
  have := h.T.set_ i (.int .i64 v)
  rw [rowC_set] at this
  exact this
theorem RefM.setB (h : RefM w mp gT gB p L c) (i : Nat) (v : Int) : RefM (w.setCell ⟨gB, i, none⟩ (.int .i64 v)) mp gT gB p L ⟨c.T, updI c.B i v⟩ := by
  refine ⟨h.blk.far h.mB _, h.T.far h.ne _, ?_, h.ne⟩
  have := h.B.set_ i (.int .i64 v)
  rw [rowC_set] at this
  exact this
theorem RefM.cells (h : RefM w mp gT gB p L c) : w.cell? ⟨mp, 0, none⟩ = some (.int .i64 p.a) ∧ w.cell? ⟨mp, 1, none⟩ = some (.int .i64 p.n) ∧ w.cell? ⟨mp, 2, none⟩ = some (.int .i64 L) ∧
    w.cell? ⟨mp, 3, none⟩ = some (.slice (some ⟨gT, 0, none⟩) (plN p) (plN p)) ∧ w.cell? ⟨mp, 4, none⟩ = some (.slice (some ⟨gB, 0, none⟩) (plM p L) (plM p L)) := ⟨h.blk.cell 0, h.blk.cell 1, h.blk.cell 2, h.blk.cell 3, h.blk.cell 4⟩
theorem RefM.atT (h : RefM w mp gT gB p L c) {i : Nat} (hi : i < plN p) : w.cell? ⟨gT, i, none⟩ = some (.int .i64 (c.T i)) := (h.T.cell i).trans (rowC_get hi)
theorem RefM.atB (h : RefM w mp gT gB p L c) {j : Nat} (hj : j < plM p L) : w.cell? ⟨gB, j, none⟩ = some (.int .i64 (c.B j)) := (h.B.cell j).trans (rowC_get hj)
set_option maxHeartbeats 400000 in
theorem refowner_any (hg : PoolG p L) (ho : OutC (plN p) (plZ L) c) (h : RefM w mp gT gB p L c) {x : Int} (hx : I64 x) : Calls Tryz.prog 14 #[.pointer (some ⟨mp, 0, none⟩), .int .i64 x] w fun e w1 => e = .returned (.int .i64 (Go.Proofs.YtimhbgpnkodlaaaGreatDoor.atT p.a c x)) ∧ w = w1 := by
  obtain ⟨c0, c1, c2, c3, c4⟩ := h.cells
  have z0 := h.blk.lt
  have hn := hg.n_le
  obtain ⟨a0, a1⟩ := hg.a_le
  obtain ⟨hx0, hx1⟩ := hx
  by_cases hlo : x < p.a
  · rw [atT_low c hlo]
    clear h ho
    go_enter Tryz.func14, Tryz.ntmps14
    go_wp2_with fail
    go_ret
    exact ⟨rfl, rfl⟩
  · by_cases hhi : p.a + (plN p : Int) ≤ x
    · rw [atT_out ho (.inr hhi)]
      have i1 : p.a ≤ x := by omega
      have i2 : ((plN p : Nat) : Int) ≤ x - p.a := by omega
      clear h ho hlo
      go_enter Tryz.func14, Tryz.ntmps14
      go_wp2_with fail
      go_ret
      exact ⟨rfl, rfl⟩
    · obtain ⟨i, rfl⟩ : ∃ i : Nat, x = p.a + (i : Int) := ⟨(x - p.a).toNat, by omega⟩
      have hi : i < plN p := by omega
      have ht := h.atT hi
      have zt := h.T.lt
      rw [atT_place]
      have i1 : ¬ p.a + (i : Int) < p.a := by omega
      have i2 : p.a + (i : Int) - p.a = (i : Int) := by omega
      have i4 : (i : Int) < ((plN p : Nat) : Int) := by omega
      clear h ho hlo hhi
      generalize hN : plN p = N at *
      have HN := hide hN
      clear hN
      go_enter Tryz.func14, Tryz.ntmps14
      go_wp2_with fail
      go_ret
      exact ⟨rfl, rfl⟩
/-- What the document's search says. -/
def encR (o : Option Nat) : Value := .int .i64 (o.elim (-1) fun i => (i : Int))
def qOf (h : Int) : Int → Bool := fun x => decide (h < 0) || decide (x = h)
theorem qOf_host {h : Int} (hh : 0 ≤ h) : qOf h = qHost h := by
  funext x
  unfold qOf qHost
  rw [decide_eq_false (by omega)]
  rfl
theorem qOf_any : qOf (-1) = qAny := by
  funext x
  rfl
set_option maxRecDepth 20000 in
set_option maxHeartbeats 2000000 in
theorem reffree_any (hg : PoolG p L) (h : RefM w mp gT gB p L c) (host : Int) : Calls Tryz.prog 35 #[.pointer (some ⟨mp, 0, none⟩), .int .i64 host] w fun e w1 => e = .returned (encR (freeC (plN p) (plZ L) c (qOf host))) ∧ New w w1 := by
  have hn := hg.n_le
  have hz := hg.z_le
  have hzp := plZ_pos L
  have hln := hg.ln
  have hib := fun i hi => hg.pp.in_block (i := i) hi
  have Hsz := hide (sizeOf_any L (by omega))
  have Hh := hide h
  have hmm := plM_le hg
  clear h hg hln
  obtain ⟨c0, c1, c2, c3, c4⟩ := Hh.out.cells
  have z0 := Hh.out.blk.lt
  have z1 := Hh.out.T.lt
  have z2 := Hh.out.B.lt
  rw [show (2 ^ (32 - L.toNat) : Nat) = plZ L from rfl] at Hsz
  have hT := fun i hi => Hh.out.atT (i := i) hi
  have hB := fun j hj => Hh.out.atB (j := j) hj
  generalize hzz : plZ L = z at *
  generalize hnn : plN p = n at *
  generalize hmn : plM p L = m at *
  have HT := hide hT
  have HB := hide hB
  have Hib := hide hib
  clear hT hB hib
  go_enter Tryz.func35, Tryz.ntmps35
  go_upto_region 3 with ((go_at_call 27; refine (Hsz.out _).mono ?_; rintro e w' ⟨rfl, rfl⟩))
  go_loopw [6] (fun i wr => ∃ k : Nat, k ≤ n ∧ i = .int .i64 k ∧ New w wr ∧ ∀ y, y < k → (decide (c.T y = 0) && qOf host (c.B (y / z))) = false) (fun i _ => n - (intOf i).toNat)
  case atStart => exact ⟨0, by omega, rfl, Upd.refl _ _, fun y h => absurd h (by omega)⟩
  case round =>
    obtain ⟨k, hk, rfl, hnw, hy⟩ := hrel
    have Hnw := hide hnw
    have Hy := hide hy
    have d0 := (hnw.cell (o := 0) z0 fun z => z).trans c0
    have d2 := (hnw.cell (o := 2) z0 fun z => z).trans c2
    have d3 := (hnw.cell (o := 3) z0 fun z => z).trans c3
    have d4 := (hnw.cell (o := 4) z0 fun z => z).trans c4
    have y0 := hnw.size
    clear hnw hy
    by_cases hlt : k < n
    · have e1 := (Hnw.out.cell (o := k) z1 fun z => z).trans (HT.out k hlt)
      have e2 := (Hnw.out.cell (o := k / z) z2 fun z => z).trans (HB.out _ (Hib.out k hlt))
      have hjm := Hib.out k hlt
      have hq : (k : Int) / (z : Int) = ((k / z : Nat) : Int) := rfl
      have i1 : (k : Int) < (n : Int) := by omega
      obtain ⟨j, hjz⟩ : ∃ j, k / z = j := ⟨_, rfl⟩
      rw [hjz] at e2 hjm hq
      have HyS := hide (show (decide (c.T k = 0) && qOf host (c.B (k / z))) = (decide (c.T k = 0) && (decide (host < 0) || decide (c.B j = host))) by rw [hjz]; rfl)
      clear hjz
      have x0 : mp < wr.heap.size := by omega
      have x1 : gT < wr.heap.size := by omega
      have x2 : gB < wr.heap.size := by omega
      go_upto_region 5 with (fail)
      by_cases hT0 : c.T k = 0
      · have hb : (c.T k == 0) = true := by simpa using hT0
        have HT0 := hide hT0
        clear hT0
        by_cases hh : host < 0
        · have hhd : decide (host < 0) = true := decide_eq_true hh
          refine wp_region_new wr (Upd.refl _ _) (by kernel_rfl) (by kernel_rfl) ?_
          repeat (go_big_quiet_step (fail))
          refine wpQuiet_nil ?_
          rintro _ ⟨nq, rfl⟩
          go_wp2_with fail
          go_ret
          refine ⟨?_, Hnw.out.trans_new nq.h⟩
          rw [show freeC n z c (qOf host) = some k from find_range_of hlt (by rw [HyS.out, decide_eq_true HT0.out, hhd]; rfl) Hy.out]
          rfl
        · have hhd : decide (host < 0) = false := decide_eq_false hh
          by_cases hB0 : c.B j = host
          · have hb2 : (c.B j == host) = true := by simpa using hB0
            have HB0 := hide hB0
            clear hB0
            refine wp_region_new wr (Upd.refl _ _) (by kernel_rfl) (by kernel_rfl) ?_
            repeat (go_big_quiet_step (fail))
            refine wpQuiet_nil ?_
            rintro _ ⟨nq, rfl⟩
            go_wp2_with fail
            go_ret
            refine ⟨?_, Hnw.out.trans_new nq.h⟩
            rw [show freeC n z c (qOf host) = some k from find_range_of hlt (by rw [HyS.out, decide_eq_true HT0.out, hhd, decide_eq_true HB0.out]; rfl) Hy.out]
            rfl
          · have hb2 : (c.B j == host) = false := by simpa using hB0
            have HB0 := hide hB0
            clear hB0
            refine wp_region_new wr (Upd.refl _ _) (by kernel_rfl) (by kernel_rfl) ?_
            repeat (go_big_quiet_step (fail))
            refine wpQuiet_nil ?_
            rintro _ ⟨nq, rfl⟩
            go_wp2_with fail
            exact ⟨⟨k + 1, by omega, by congr 1, Hnw.out.trans_new nq.h, fun y hy => by
              by_cases hyk : y < k
              · exact Hy.out y hyk
              · rw [show y = k by omega, HyS.out, decide_eq_true HT0.out, hhd, decide_eq_false HB0.out]
                rfl⟩, by simp [intOf]; omega⟩
      · have hb : (c.T k == 0) = false := by simpa using hT0
        have HT0 := hide hT0
        clear hT0
        refine wp_region_new wr (Upd.refl _ _) (by kernel_rfl) (by kernel_rfl) ?_
        repeat (go_big_quiet_step (fail))
        refine wpQuiet_nil ?_
        rintro _ ⟨nq, rfl⟩
        go_wp2_with fail
        exact ⟨⟨k + 1, by omega, by congr 1, Hnw.out.trans_new nq.h, fun y hy => by
          by_cases hyk : y < k
          · exact Hy.out y hyk
          · rw [show y = k by omega, HyS.out, decide_eq_false HT0.out]
            rfl⟩, by simp [intOf]; omega⟩
    · have hkn := hide (show k = n by omega)
      have i1 : (n : Int) ≤ (k : Int) := by omega
      clear hlt hk
      go_wp2_with fail
      go_ret
      refine ⟨?_, Hnw.out⟩
      rw [show freeC n z c (qOf host) = none from find_range_no fun y hy => Hy.out y (by have := hkn.out; omega)]
      rfl
end
end Go.Proofs.YtimhbgpnkodlaaaGreatDoor

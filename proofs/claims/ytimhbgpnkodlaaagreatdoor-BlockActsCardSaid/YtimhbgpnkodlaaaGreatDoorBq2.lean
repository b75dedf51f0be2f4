/- The document's pool: Take. No condition but those that stand in each theorem. -/
import Derived.Test.YtimhbgpnkodlaaaGreatDoorBq1
namespace Go.Proofs.YtimhbgpnkodlaaaGreatDoor
open Go.RowKit
section
variable {w w1 : World} {mp gT gB : Nat} {p : Pf} {L : Int} {c : PoolC}
set_option maxHeartbeats 400000 in
theorem refsys_any (n : Int) (w : World) : Calls Tryz.prog 34 #[.int .i64 n] w fun e w1 => e = .returned (.bool (decide (1 ≤ n ∧ n ≤ 1000))) ∧ w = w1 := by
  by_cases h1 : 1 ≤ n
  · by_cases h2 : n ≤ 1000
    · rw [decide_eq_true (show 1 ≤ n ∧ n ≤ 1000 from ⟨h1, h2⟩)]
      go_enter Tryz.func34, Tryz.ntmps34
      go_wp2_with fail
      go_ret
      exact ⟨rfl, rfl⟩
    · rw [decide_eq_false (show ¬ (1 ≤ n ∧ n ≤ 1000) from fun h => h2 h.2)]
      have h3 : 1000 < n := by omega
      have h4 : decide (n ≤ 1000) = false := decide_eq_false h2
      clear h2
      go_enter Tryz.func34, Tryz.ntmps34
      go_wp2_with fail
      go_ret
      exact ⟨rfl, rfl⟩
  · rw [decide_eq_false (show ¬ (1 ≤ n ∧ n ≤ 1000) from fun h => h1 h.1)]
    have h3 : n < 1 := by omega
    clear h1
    go_enter Tryz.func34, Tryz.ntmps34
    go_wp2_with fail
    go_ret
    exact ⟨rfl, rfl⟩
theorem asR_some {f : Nat} {args : Array Value} {W : World} {o : Option Nat} {i : Nat} (h : Calls Tryz.prog f args W fun e w1 => e = .returned (encR o) ∧ New W w1) (ho : o = some i) :
    Calls Tryz.prog f args W fun e w1 => e = .returned (.int .i64 (i : Int)) ∧ New W w1 := by subst ho; exact h
theorem asR_none {f : Nat} {args : Array Value} {W : World} {o : Option Nat} (h : Calls Tryz.prog f args W fun e w1 => e = .returned (encR o) ∧ New W w1) (ho : o = none) :
    Calls Tryz.prog f args W fun e w1 => e = .returned (.int .i64 (-1)) ∧ New W w1 := by subst ho; exact h
set_option maxHeartbeats 400000 in
theorem reftake_out (host : Int) (hh : host < 1 ∨ 1000 < host) : Calls Tryz.prog 9 #[.pointer (some ⟨mp, 0, none⟩), .int .i64 host] w fun e w1 => e = .returned (.tuple #[.int .i64 0, .int .i64 2]) ∧ w = w1 := by
  have hs := refsys_any host w
  rw [decide_eq_false (by omega)] at hs
  have Hs := hide hs
  clear hs hh
  go_enter Tryz.func9, Tryz.ntmps9
  go_wp2_with ((go_at_call 34; refine Hs.out.mono ?_; rintro e w' ⟨rfl, rfl⟩))
  go_ret2
  exact ⟨rfl, rfl⟩
set_option maxRecDepth 20000 in
set_option maxHeartbeats 1000000 in
theorem reftake_A (hg : PoolG p L) (h : RefM w mp gT gB p L c) (host : Int) (hh : 1 ≤ host ∧ host ≤ 1000) (i : Nat) (hi : i < plN p) (f1 : freeC (plN p) (plZ L) c (qHost host) = some i) :
    Calls Tryz.prog 9 #[.pointer (some ⟨mp, 0, none⟩), .int .i64 host] w fun e w1 => e = .returned (.tuple #[.int .i64 (p.a + (i : Int)), .int .i64 0]) ∧ RefM w1 mp gT gB p L ⟨updI c.T i host, c.B⟩ ∧ Upd (fun k => k = gB ∨ k = gT) w w1 := by
  have hs := refsys_any host w
  rw [decide_eq_true hh] at hs
  have Hs := hide hs
  have HW := hide h
  have Hg := hide hg
  have hnp := hg.n_le
  obtain ⟨a0, a1⟩ := hg.a_le
  have H1 := hide (show freeC (plN p) (plZ L) c (qOf host) = some i by rw [qOf_host (by omega)]; exact f1)
  have Hi := hide hi
  obtain ⟨hh1, hh2⟩ := hh
  clear h hs hg f1 hi
  go_enter Tryz.func9, Tryz.ntmps9
  go_upto_region 4 with ((go_at_call 34; refine Hs.out.mono ?_; rintro e w' ⟨rfl, rfl⟩))
  go_upto_region 5 with ((go_at_call 35; refine (asR_some (reffree_any Hg.out HW.out host) H1.out).mono ?_; rintro e w' ⟨rfl, hu1⟩))
  have h1 := hide (HW.out.new_ hu1)
  have hu1 := hide hu1
  generalize w' = W1 at *
  have c3 : W1.cell? ⟨mp, 3, none⟩ = some (.slice (some ⟨gT, 0, none⟩) (plN p) (plN p)) := h1.out.blk.cell 3
  have c0 : W1.cell? ⟨mp, 0, none⟩ = some (.int .i64 p.a) := h1.out.blk.cell 0
  have ct := h1.out.atT Hi.out
  have ft := h1.out.T.frozen i
  have i1 : (i : Int) < ((plN p : Nat) : Int) := by have := Hi.out; omega
  have hmt := h1.out.mT
  have c0b := (h1.out.setT i host).blk.cell 0
  simp only [refCells, List.getElem?_toArray, List.getElem?_cons_zero] at c0b
  go_wp2_with fail
  go_ret2
  exact ⟨rfl, h1.out.setT i host, (Upd.of_new hu1.out).setCell (p := ⟨gT, i, none⟩) (.inl (.inr rfl)) _⟩
set_option maxRecDepth 20000 in
set_option maxHeartbeats 1000000 in
theorem reftake_C (hg : PoolG p L) (h : RefM w mp gT gB p L c) (host : Int) (hh : 1 ≤ host ∧ host ≤ 1000) (i : Nat) (hi : i < plN p) (f1 : freeC (plN p) (plZ L) c (qHost host) = none) (f2 : freeC (plN p) (plZ L) c (qHost 0) = none) (f3 : freeC (plN p) (plZ L) c qAny = some i) :
    Calls Tryz.prog 9 #[.pointer (some ⟨mp, 0, none⟩), .int .i64 host] w fun e w1 => e = .returned (.tuple #[.int .i64 (p.a + (i : Int)), .int .i64 0]) ∧ RefM w1 mp gT gB p L ⟨updI c.T i host, c.B⟩ ∧ Upd (fun k => k = gB ∨ k = gT) w w1 := by
  have hs := refsys_any host w
  rw [decide_eq_true hh] at hs
  have Hs := hide hs
  have HW := hide h
  have Hg := hide hg
  have hnp := hg.n_le
  obtain ⟨a0, a1⟩ := hg.a_le
  have H1 := hide (show freeC (plN p) (plZ L) c (qOf host) = none by rw [qOf_host (by omega)]; exact f1)
  have H2 := hide (show freeC (plN p) (plZ L) c (qOf 0) = none by rw [qOf_host (by omega)]; exact f2)
  have H3 := hide (show freeC (plN p) (plZ L) c (qOf (-1)) = some i by rw [qOf_any]; exact f3)
  have Hi := hide hi
  obtain ⟨hh1, hh2⟩ := hh
  clear h hs hg f1 f2 f3 hi
  go_enter Tryz.func9, Tryz.ntmps9
  go_upto_region 4 with ((go_at_call 34; refine Hs.out.mono ?_; rintro e w' ⟨rfl, rfl⟩))
  go_upto_region 5 with ((go_at_call 35; refine (asR_none (reffree_any Hg.out HW.out host) H1.out).mono ?_; rintro e w' ⟨rfl, hu1⟩))
  have h1 := hide (HW.out.new_ hu1)
  have hu1 := hide hu1
  generalize w' = W1 at *
  go_upto_region 7 with ((go_at_call 35; refine (asR_none (reffree_any Hg.out h1.out 0) H2.out).mono ?_; rintro e w' ⟨rfl, hu2⟩))
  have h2 := hide (h1.out.new_ hu2)
  have hu2 := hide hu2
  generalize w' = W2 at *
  go_upto_region 11 with ((go_at_call 35; refine (asR_some (reffree_any Hg.out h2.out (-1)) H3.out).mono ?_; rintro e w' ⟨rfl, hu3⟩))
  have h3 := hide (h2.out.new_ hu3)
  have hu3 := hide hu3
  generalize w' = W3 at *
  have c3 : W3.cell? ⟨mp, 3, none⟩ = some (.slice (some ⟨gT, 0, none⟩) (plN p) (plN p)) := h3.out.blk.cell 3
  have c0 : W3.cell? ⟨mp, 0, none⟩ = some (.int .i64 p.a) := h3.out.blk.cell 0
  have ct := h3.out.atT Hi.out
  have ft := h3.out.T.frozen i
  have i1 : (i : Int) < ((plN p : Nat) : Int) := by have := Hi.out; omega
  have hmt := h3.out.mT
  have c0b := (h3.out.setT i host).blk.cell 0
  simp only [refCells, List.getElem?_toArray, List.getElem?_cons_zero] at c0b
  go_wp2_with fail
  go_ret2
  exact ⟨rfl, h3.out.setT i host, (Upd.of_new ((hu1.out.trans_new hu2.out).trans_new hu3.out)).setCell (p := ⟨gT, i, none⟩) (.inl (.inr rfl)) _⟩
set_option maxRecDepth 20000 in
set_option maxHeartbeats 1000000 in
theorem reftake_D (hg : PoolG p L) (h : RefM w mp gT gB p L c) (host : Int) (hh : 1 ≤ host ∧ host ≤ 1000) (f1 : freeC (plN p) (plZ L) c (qHost host) = none) (f2 : freeC (plN p) (plZ L) c (qHost 0) = none) (f3 : freeC (plN p) (plZ L) c qAny = none) :
    Calls Tryz.prog 9 #[.pointer (some ⟨mp, 0, none⟩), .int .i64 host] w fun e w1 => e = .returned (.tuple #[.int .i64 0, .int .i64 7]) ∧ New w w1 := by
  have hs := refsys_any host w
  rw [decide_eq_true hh] at hs
  have Hs := hide hs
  have HW := hide h
  have Hg := hide hg
  have hnp := hg.n_le
  obtain ⟨a0, a1⟩ := hg.a_le
  have H1 := hide (show freeC (plN p) (plZ L) c (qOf host) = none by rw [qOf_host (by omega)]; exact f1)
  have H2 := hide (show freeC (plN p) (plZ L) c (qOf 0) = none by rw [qOf_host (by omega)]; exact f2)
  have H3 := hide (show freeC (plN p) (plZ L) c (qOf (-1)) = none by rw [qOf_any]; exact f3)
  obtain ⟨hh1, hh2⟩ := hh
  clear h hs hg f1 f2 f3
  go_enter Tryz.func9, Tryz.ntmps9
  go_upto_region 4 with ((go_at_call 34; refine Hs.out.mono ?_; rintro e w' ⟨rfl, rfl⟩))
  go_upto_region 5 with ((go_at_call 35; refine (asR_none (reffree_any Hg.out HW.out host) H1.out).mono ?_; rintro e w' ⟨rfl, hu1⟩))
  have h1 := hide (HW.out.new_ hu1)
  have hu1 := hide hu1
  generalize w' = W1 at *
  go_upto_region 7 with ((go_at_call 35; refine (asR_none (reffree_any Hg.out h1.out 0) H2.out).mono ?_; rintro e w' ⟨rfl, hu2⟩))
  have h2 := hide (h1.out.new_ hu2)
  have hu2 := hide hu2
  generalize w' = W2 at *
  go_upto_region 11 with ((go_at_call 35; refine (asR_none (reffree_any Hg.out h2.out (-1)) H3.out).mono ?_; rintro e w' ⟨rfl, hu3⟩))
  have h3 := hide (h2.out.new_ hu3)
  have hu3 := hide hu3
  generalize w' = W3 at *
  go_wp2_with fail
  go_ret2
  exact ⟨rfl, (hu1.out.trans_new hu2.out).trans_new hu3.out⟩
set_option maxRecDepth 20000 in
set_option maxHeartbeats 1000000 in
theorem reftake_B (hg : PoolG p L) (h : RefM w mp gT gB p L c) (host : Int) (hh : 1 ≤ host ∧ host ≤ 1000) (i : Nat) (hi : i < plN p) (f1 : freeC (plN p) (plZ L) c (qHost host) = none) (f2 : freeC (plN p) (plZ L) c (qHost 0) = some i) :
    Calls Tryz.prog 9 #[.pointer (some ⟨mp, 0, none⟩), .int .i64 host] w fun e w1 => e = .returned (.tuple #[.int .i64 (p.a + (i : Int)), .int .i64 0]) ∧ RefM w1 mp gT gB p L ⟨updI c.T i host, updI c.B (i / plZ L) host⟩ ∧ Upd (fun k => k = gB ∨ k = gT) w w1 := by
  have hs := refsys_any host w
  rw [decide_eq_true hh] at hs
  have Hs := hide hs
  have HW := hide h
  have Hg := hide hg
  have hnp := hg.n_le
  obtain ⟨a0, a1⟩ := hg.a_le
  have H1 := hide (show freeC (plN p) (plZ L) c (qOf host) = none by rw [qOf_host (by omega)]; exact f1)
  have H2 := hide (show freeC (plN p) (plZ L) c (qOf 0) = some i by rw [qOf_host (by omega)]; exact f2)
  have Hi := hide hi
  have hln := hg.ln
  have Hsz := hide (sizeOf_any L (by omega))
  rw [show (2 ^ (32 - L.toNat) : Nat) = plZ L from rfl] at Hsz
  have hjm := hg.pp.in_block hi
  have hmm := plM_le hg
  have hq : (i : Int) / ((plZ L : Nat) : Int) = ((i / plZ L : Nat) : Int) := rfl
  have hzz := hg.z_le
  have hzp := plZ_pos L
  obtain ⟨j, hjz⟩ : ∃ j, i / plZ L = j := ⟨_, rfl⟩
  rw [hjz] at hjm hq ⊢
  clear hjz hln
  obtain ⟨hh1, hh2⟩ := hh
  clear h hs hg f1 f2 hi
  go_enter Tryz.func9, Tryz.ntmps9
  go_upto_region 4 with ((go_at_call 34; refine Hs.out.mono ?_; rintro e w' ⟨rfl, rfl⟩))
  go_upto_region 5 with ((go_at_call 35; refine (asR_none (reffree_any Hg.out HW.out host) H1.out).mono ?_; rintro e w' ⟨rfl, hu1⟩))
  have h1 := hide (HW.out.new_ hu1)
  have hu1 := hide hu1
  generalize w' = W1 at *
  go_upto_region 7 with ((go_at_call 35; refine (asR_some (reffree_any Hg.out h1.out 0) H2.out).mono ?_; rintro e w' ⟨rfl, hu2⟩))
  have h2 := hide (h1.out.new_ hu2)
  have hu2 := hide hu2
  generalize w' = W2 at *
  obtain ⟨c0, c1, c2, c3, c4⟩ := h2.out.cells
  have cb := h2.out.atB hjm
  have fb := h2.out.B.frozen j
  have x0 := h2.out.blk.lt
  have x1 := h2.out.B.lt
  have j1 : (j : Int) < ((plM p L : Nat) : Int) := by omega
  go_upto_region 8 with (fail)
  go_region_with ((go_at_call 27; refine (Hsz.out _).mono ?_; rintro e w' ⟨rfl, rfl⟩))
  all_goals (
    have h3 := hide ((h2.out.setB j host).new_ ((Upd.refl (fun _ => False) _).drew))
    have hu5 := hide ((((Upd.of_new (S := fun k => k = gB ∨ k = gT) (hu1.out.trans_new hu2.out)).setCell (p := ⟨gB, j, none⟩) (.inl (.inl rfl)) (.int .i64 host))).drew)
    generalize (W2.setCell ⟨gB, j, none⟩ (.int .i64 host)).drew = W3 at *
    clear c0 c1 c2 c3 c4 cb fb x0 x1
    have c3 : W3.cell? ⟨mp, 3, none⟩ = some (.slice (some ⟨gT, 0, none⟩) (plN p) (plN p)) := h3.out.blk.cell 3
    have c0 : W3.cell? ⟨mp, 0, none⟩ = some (.int .i64 p.a) := h3.out.blk.cell 0
    have ct := h3.out.atT Hi.out
    have ft := h3.out.T.frozen i
    have i1 : (i : Int) < ((plN p : Nat) : Int) := by have := Hi.out; omega
    have hmt := h3.out.mT
    have c0b := (h3.out.setT i host).blk.cell 0
    simp only [refCells, List.getElem?_toArray, List.getElem?_cons_zero] at c0b
    go_wp2_with fail
    go_ret2
    exact ⟨rfl, h3.out.setT i host, (hu5.out).setCell (p := ⟨gT, i, none⟩) (.inl (.inr rfl)) _⟩)
end
end Go.Proofs.YtimhbgpnkodlaaaGreatDoor

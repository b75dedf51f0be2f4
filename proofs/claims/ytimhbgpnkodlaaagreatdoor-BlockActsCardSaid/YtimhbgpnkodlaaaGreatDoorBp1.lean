/- Package block: a pool in memory; the size of a block, where a block begins, whose an address is, how many are taken. No condition but those that stand in each theorem. -/
import Derived.Test.YtimhbgpnkodlaaaGreatDoorBk1
import Derived.Test.YtimhbgpnkodlaaaGreatDoorBm1
import Derived.Test.YtimhbgpnkodlaaaGreatDoorRb
import Derived.Test.YtimhbgpnkodlaaaGreatDoorIp2
import Derived.Maps.OwnOps
import Derived.Maps.OwnSet
namespace Go.Proofs.YtimhbgpnkodlaaaGreatDoor
open Go.RowKit Go.Maps

/-- A world in which some draws were made. -/
structure DrW (W : World) where
  n : Nat
def DrW.w {W : World} (d : DrW W) : World := W.drewN d.n
theorem DrW.new {W : World} (d : DrW W) : New W d.w := (Upd.refl _ W).drewN d.n
theorem DrW.cell {W : World} (d : DrW W) (a : Addr) : d.w.cell? a = W.cell? a := rfl
theorem DrW.frozen {W : World} (d : DrW W) (a : Addr) : d.w.frozen? a = W.frozen? a := rfl
attribute [go_sem] DrW.cell DrW.frozen
instance (W : World) : Nonempty (DrW W) := ⟨⟨0⟩⟩
theorem wp_region_drw {P : Program} {id : Nat} {Q : Exit → Act → World → Prop} {a : Act} (w : World) {l : List Oper} (hm : P.follows .mixedOrders = true) (hB : Region.lexB .any l.toArray = true)
    (h : wpQuiet P l.toArray (fun w1 => ∃ n : DrW w, w1 = n.w) (fun a1 => ∀ w1, (∃ n : DrW w, w1 = n.w) → Q .normal a1 w1) l a) : (Code.region id l.toArray true).wp P Q a w :=
  wp_region_quiet (C := fun w1 => ∃ n : DrW w, w1 = n.w) hm hB ⟨⟨1⟩, rfl⟩ (by simpa using h)
theorem drw_call_same {P : Program} {f : FuncId} {args : Array Value} {W : World} {n : DrW W} {v : Value} (h : Calls P f args n.w fun e w1 => e = .returned v ∧ n.w = w1) :
    Calls P f args n.w fun e w2 => e = .returned v ∧ ∃ m : DrW W, w2 = m.w :=
  h.mono fun _ _ ⟨he, hn⟩ => ⟨he, n, hn.symm⟩
abbrev TPool : TypeId := 55
abbrev MapP (w : World) (b : Nat) (f : Int → Int) (cnt : Nat) : Prop := MapI Tryz.prog 3 3 w b f cnt
def poolCells (p : Pf) (L : Int) (bm tm : Nat) : Array Value := #[.int .i64 p.a, .int .i64 p.n, .int .i64 L, .map (some bm), .map (some tm)]
/-- Block kp is a pool, whose maps lie in blocks bm and tm. -/
structure PoolM (w : World) (kp bm tm : Nat) (p : Pf) (L : Int) (c : PoolC) : Prop where
  blk : Blk w kp TPool (poolCells p L bm tm)
  B : MapP w bm (atB p.a (plZ L) c) (cntC (plM p L) c.B)
  T : MapP w tm (atT p.a c) (cntC (plN p) c.T)
  ne : bm ≠ tm
  out : OutC (plN p) (plZ L) c
/-- A pool's numbers: no more than 4096 places. -/
structure PoolG (p : Pf) (L : Int) : Prop where
  pp : PoolP p L
  lo : 20 ≤ p.n
section
variable {w w1 : World} {kp bm tm : Nat} {p : Pf} {L : Int} {c : PoolC}
theorem PoolM.new_ (h : PoolM w kp bm tm p L c) (hu : New w w1) : PoolM w1 kp bm tm p L c := ⟨h.blk.new_ hu, h.B.new_ hu, h.T.new_ hu, h.ne, h.out⟩
theorem PoolM.upd {S : Nat → Prop} (h : PoolM w kp bm tm p L c) (hu : Upd S w w1) (h1 : ¬ S kp) (h2 : ¬ S bm) (h3 : ¬ S tm) : PoolM w1 kp bm tm p L c := ⟨h.blk.upd hu h1, h.B.upd hu h2, h.T.upd hu h3, h.ne, h.out⟩
theorem map_blk {P : Program} {k e : TypeId} {b g cnt : Nat} {f : Int → Int} {t : TypeId} {cs : Array Value} (h : MapI P k e w b f cnt) (hb : Blk w g t cs) : g ≠ b := fun he => by
  obtain ⟨D, ⟨es, clock, h1, _⟩, _⟩ := h
  subst he
  unfold Blk at hb
  rw [hb] at h1
  cases h1
theorem PoolM.nb (h : PoolM w kp bm tm p L c) : kp ≠ bm := map_blk h.B h.blk
theorem PoolM.nt (h : PoolM w kp bm tm p L c) : kp ≠ tm := map_blk h.T h.blk
theorem PoolM.cells (h : PoolM w kp bm tm p L c) : w.cell? ⟨kp, 0, none⟩ = some (.int .i64 p.a) ∧ w.cell? ⟨kp, 1, none⟩ = some (.int .i64 p.n) ∧ w.cell? ⟨kp, 2, none⟩ = some (.int .i64 L) ∧
    w.cell? ⟨kp, 3, none⟩ = some (.map (some bm)) ∧ w.cell? ⟨kp, 4, none⟩ = some (.map (some tm)) := ⟨h.blk.cell 0, h.blk.cell 1, h.blk.cell 2, h.blk.cell 3, h.blk.cell 4⟩
theorem PoolG.ln (h : PoolG p L) : 20 ≤ p.n ∧ p.n ≤ L ∧ L ≤ 32 := ⟨h.lo, h.pp.lo, h.pp.hi⟩
theorem PoolG.z_le (h : PoolG p L) : plZ L ≤ 4096 := by
  have := h.ln
  unfold plZ
  have : 2 ^ (32 - L.toNat) ≤ 2 ^ 12 := Nat.pow_le_pow_right (by omega) (by omega)
  simpa using this
theorem PoolG.n_le (h : PoolG p L) : plN p ≤ 4096 := by
  have := h.ln
  unfold plN
  have : 2 ^ (32 - p.n.toNat) ≤ 2 ^ 12 := Nat.pow_le_pow_right (by omega) (by omega)
  simpa using this
theorem PoolG.shl (h : PoolG p L) : wrap64 (2 ^ (32 - L).toNat) = ((plZ L : Nat) : Int) := by
  have := h.ln
  rw [show (32 - L).toNat = 32 - L.toNat by omega]
  exact w64_pow _ (by omega)
theorem PoolG.a_le (h : PoolG p L) : 0 ≤ p.a ∧ p.a + (plN p : Nat) ≤ 4294967296 := by
  obtain ⟨A, q, h1, _, h3⟩ := h.pp.base
  omega

set_option maxHeartbeats 400000 in
theorem plsize_blk (hg : PoolG p L) (h : Blk w kp TPool (poolCells p L bm tm)) : Calls Tryz.prog 36 #[.pointer (some ⟨kp, 0, none⟩)] w fun e w1 => e = .returned (.int .i64 ((plZ L : Nat) : Int)) ∧ w = w1 := by
  obtain ⟨l0, l1, l2⟩ := hg.ln
  have Hw := hide hg.shl
  have c2 : w.cell? ⟨kp, 2, none⟩ = some (.int .i64 L) := h.cell 2
  have z1 := h.lt
  clear h hg
  go_enter Tryz.func36, Tryz.ntmps36
  go_wp2_with fail
  go_ret
  refine ⟨?_, rfl⟩
  rw [← Hw.out]
  rfl
theorem plsize_any (hg : PoolG p L) (h : PoolM w kp bm tm p L c) : Calls Tryz.prog 36 #[.pointer (some ⟨kp, 0, none⟩)] w fun e w1 => e = .returned (.int .i64 ((plZ L : Nat) : Int)) ∧ w = w1 := plsize_blk hg h.blk

set_option maxHeartbeats 400000 in
theorem plbegin_any (hg : PoolG p L) (h : PoolM w kp bm tm p L c) (i : Nat) (hi : i < plN p) :
    Calls Tryz.prog 32 #[.pointer (some ⟨kp, 0, none⟩), .int .i64 (p.a + (i : Int))] w fun e w1 => e = .returned (.int .i64 (p.a + ((i / plZ L * plZ L : Nat) : Int))) ∧ ∃ n, w1 = w.drewN n := by
  have hb : p.a + (i : Int) - (i : Int) % ((plZ L : Nat) : Int) = p.a + ((i / plZ L * plZ L : Nat) : Int) := by
    have h1 := mod_place i (plZ L)
    have h2 : (i : Int) % ((plZ L : Nat) : Int) = ((i % plZ L : Nat) : Int) := rfl
    omega
  have hz := hg.z_le
  have hn := hg.n_le
  obtain ⟨a0, a1⟩ := hg.a_le
  have hzp := plZ_pos L
  have ht : (p.a + (i : Int) - p.a).tmod ((plZ L : Nat) : Int) = ((i % plZ L : Nat) : Int) := by
    rw [show p.a + (i : Int) - p.a = (i : Int) by omega]
    rfl
  have hml := Nat.mod_lt i hzp
  have Hh := hide h
  have Hg := hide hg
  obtain ⟨c0, _, _, _, _⟩ := h.cells
  have z1 := h.blk.lt
  generalize hzz : plZ L = z at *
  generalize hnn : plN p = n at *
  clear h hg
  have Hb := hide hb
  clear hb
  go_enter Tryz.func32, Tryz.ntmps32
  go_upto_region 1 with (fail)
  refine wp_region_drw w (by kernel_rfl) (by kernel_rfl) ?_
  repeat (go_big_quiet_step ((go_at_call 36; exact drw_call_same (plsize_any Hg.out (Hh.out.new_ (DrW.new _))))))
  refine wpQuiet_nil ?_
  rintro _ ⟨nq, rfl⟩
  go_wp2_with fail
  go_ret
  exact ⟨congrArg (fun x => Ending.returned (.int .i64 x)) Hb.out, nq.n, rfl⟩

/-- A place as the program has it. -/
def encO (a0 : Int) (o : Option Nat) : Value := .tuple #[.int .i64 (o.elim 0 fun i => a0 + (i : Int)), .bool o.isSome]
theorem spot_at {z j x : Nat} {c : PoolC} (hx : x < z) (h0 : c.T (j * z + x) = 0) (hl : ∀ y, y < x → c.T (j * z + y) ≠ 0) : spotC z c j = some (j * z + x) := by
  unfold spotC
  have : (List.range z).find? (fun x => decide (c.T (j * z + x) = 0)) = some x := find_range_of hx (decide_eq_true h0) fun y hy => decide_eq_false (hl y hy)
  rw [this]
  rfl
theorem spot_no {z j : Nat} {c : PoolC} (hl : ∀ y, y < z → c.T (j * z + y) ≠ 0) : spotC z c j = none := by
  unfold spotC
  have : (List.range z).find? (fun x => decide (c.T (j * z + x) = 0)) = none := find_range_no fun y hy => decide_eq_false (hl y hy)
  rw [this]
  rfl
set_option maxRecDepth 20000 in
set_option maxHeartbeats 1000000 in
theorem plfree_any (hg : PoolG p L) (h : PoolM w kp bm tm p L c) (j : Nat) (hj : j < plM p L) :
    Calls Tryz.prog 48 #[.pointer (some ⟨kp, 0, none⟩), .int .i64 (p.a + ((j * plZ L : Nat) : Int))] w fun e w1 => e = .returned (encO p.a (spotC (plZ L) c j)) ∧ w = w1 := by
  have hz := hg.z_le
  have hn := hg.n_le
  obtain ⟨a0, a1⟩ := hg.a_le
  have hzp := plZ_pos L
  have hlt := fun x hx => hg.pp.block_lt (x := x) hj hx
  have hat := fun i => atT_place p.a c i
  have Hh := hide h
  have Hg := hide hg
  obtain ⟨_, _, _, _, c4⟩ := h.cells
  have z1 := h.blk.lt
  have HT := hide h.T
  clear h hg
  have Hz := hide (plsize_any Hg.out Hh.out)
  generalize hzz : plZ L = z at *
  generalize hnn : plN p = n at *
  have Hlt := hide hlt
  have Hat := hide hat
  clear hlt hat
  generalize hb : j * z = b at *
  go_enter Tryz.func48, Tryz.ntmps48
  go_wp2_with fail
  go_loop [6] (fun i => ∃ x : Nat, x ≤ z ∧ i = .int .i64 (p.a + ((b + x : Nat) : Int)) ∧ ∀ y, y < x → c.T (b + y) ≠ 0) (fun i => z - (intOf i - p.a - (b : Int)).toNat)
  case atStart => exact ⟨0, by omega, rfl, fun y h => absurd h (by omega)⟩
  case round =>
    obtain ⟨x, hx, rfl, hy⟩ := hrel
    have Hy := hide hy
    clear hy
    by_cases hlx : x < z
    · have hin := Hlt.out x hlx
      have i1 : p.a + ((b + x : Nat) : Int) < p.a + (b : Int) + (z : Int) := by omega
      have hk : I64 (p.a + ((b + x : Nat) : Int)) := ⟨by omega, by omega⟩
      have hl := Hat.out (b + x)
      by_cases h0 : c.T (b + x) = 0
      · have H0 := hide h0
        rw [h0] at hl
        have Hl := hide hl
        clear h0 hl
        go_wp2_with (first
          | (go_at_call 36; refine Hz.out.mono ?_; rintro e w' ⟨rfl, rfl⟩)
          | (at_lookup; refine wpList_look _ rfl _ _ 53 rfl 3 3 Tryz.underlying3 Tryz.underlying53 Tryz.underlying3 (Tryz.zeroValue3 _) tm _ _ rfl HT.out (p.a + ((b + x : Nat) : Int)) rfl hk ?_; rw [Hl.out])
          | go_in)
        go_ret2
        refine ⟨?_, rfl⟩
        rw [← hb] at H0 Hy
        rw [spot_at hlx H0.out Hy.out, hb]
        rfl
      · have hb0 : (c.T (b + x) == 0) = false := by simpa using h0
        have H0 := hide h0
        have Hl := hide hl
        clear h0 hl
        go_wp2_with (first
          | (go_at_call 36; refine Hz.out.mono ?_; rintro e w' ⟨rfl, rfl⟩)
          | (at_lookup; refine wpList_look _ rfl _ _ 53 rfl 3 3 Tryz.underlying3 Tryz.underlying53 Tryz.underlying3 (Tryz.zeroValue3 _) tm _ _ rfl HT.out (p.a + ((b + x : Nat) : Int)) rfl hk ?_; rw [Hl.out])
          | go_in)
        exact ⟨⟨x + 1, by omega, by congr 1; omega, fun y hy => by
          by_cases hyx : y < x
          · exact Hy.out y hyx
          · rw [show y = x by omega]
            exact H0.out⟩, by simp [intOf]; omega⟩
    · have hxz := hide (show x = z by omega)
      have i1 : p.a + (b : Int) + (z : Int) ≤ p.a + ((b : Int) + (x : Int)) := by omega
      have hin := Hlt.out 0 hzp
      clear hlx hx
      go_wp2_with (go_at_call 36; refine Hz.out.mono ?_; rintro e w' ⟨rfl, rfl⟩)
      go_ret2
      refine ⟨?_, rfl⟩
      rw [spot_no (by rw [hb]; exact fun y hy => Hy.out y (by have := hxz.out; omega))]
      rfl
end
end Go.Proofs.YtimhbgpnkodlaaaGreatDoor

namespace Go.Proofs.YtimhbgpnkodlaaaGreatDoor
open Go.RowKit Go.Maps Go.Shelf
attribute [local go_sem] Oper.semAt_some

theorem new_grown {w w1 : World} (h : New w w1) : w.grownBy w1 none := ⟨h.os, h.tape, h.output, h.size, fun k hk _ => h.block k hk fun x => x⟩
theorem Sen.below {B : Nat} {w w1 : World} {g : Nat} {a : Addr} (h : Sen w g a) (hb : Below B w w1) (hg : g < B) : Sen w1 g a := (hb.cell (p := ⟨g, 0, none⟩) hg).trans h
theorem range_pre {j m : Nat} (h : j < m) : List.range j ++ [j] <+: List.range m := by
  rw [← List.range_succ]
  have e : List.range (j + 1) = (List.range m).take (j + 1) := by rw [List.take_range, Nat.min_eq_left (show j + 1 ≤ m from h)]
  rw [e]
  exact List.take_prefix _ _
/-- Where a block begins. -/
def adr (p : Pf) (L : Int) (j : Nat) : Int := p.a + ((j * plZ L : Nat) : Int)
def encJ (p : Pf) (L : Int) (j : Nat) : Array Value := #[.int .i64 (adr p L j)]
section
variable {w w1 : World} {kp bm tm : Nat} {p : Pf} {L : Int} {E : Nat → Addr}
theorem size_here (hg : PoolG p L) (h2 : Sen w gBound (E 2)) (h3 : Sen w gShape (E 3)) : Calls Tryz.prog 50 #[.agg #[.int .i64 p.a, .int .i64 p.n]] w fun e w1 => e = .returned (.int .i64 ((plN p : Nat) : Int)) ∧ New w w1 := by
  have h := size_any p.a p.n E w h2 h3
  rw [if_pos hg.pp.ok] at h
  exact h
set_option maxRecDepth 20000 in
set_option maxHeartbeats 1000000 in
theorem plall_in (n : Nat) (hg : PoolG p L) (l n0 : Nat) (J Jx : List Nat → World → Prop) (W : World) (hJ : AbidesFrom W.heap.size J)
    (hY : ∀ pre x W1, J pre W1 → (pre = List.range x ∧ x < plM p L) → YieldAt Fence.wide (n - 1) Tryz.prog l (encJ p L x) W1 fun e W2 => (e = .returned (.bool true) ∧ J (pre ++ [x]) W2 ∧ Below n0 W1 W2) ∨ (e = .returned (.bool false) ∧ Jx (pre ++ [x]) W2))
    (hb : Blk W kp TPool (poolCells p L bm tm)) (h2 : Sen W gBound (E 2)) (h3 : Sen W gShape (E 3)) (hk : kp < n0) (hn2 : gBound < n0) (hn3 : gShape < n0) (hn0 : n0 ≤ W.heap.size) (h0 : J [] W) :
    CallsIn Fence.wide n Tryz.prog 38 #[.pointer (some ⟨kp, 0, none⟩), .func (.yield l) #[] #[]] W fun e W2 => (∃ v, e = .returned v) ∧
      ((∃ xs, xs = List.range (plM p L) ∧ J xs W2) ∨ ∃ pre, pre <+: List.range (plM p L) ∧ Jx pre W2) := by
  refine callsIn_of_wp Tryz.func38 rfl trivial ?_
  simp only [Tryz.ntmps38, List.size_toArray, List.length_cons, List.length_nil, Nat.reduceAdd, Nat.reduceSub, Array.replicate_succ, Array.replicate_zero, List.push_toArray, List.append_toArray, List.nil_append, List.cons_append]
  refine wpIn_wide.2 ?_
  have hmz := hg.pp.mz
  have hn := hg.n_le
  have hzp := plZ_pos L
  have hz := hg.z_le
  obtain ⟨a0, a1⟩ := hg.a_le
  have Hg := hide hg
  have hlt := fun j hj => hg.pp.block_lt (j := j) (x := 0) hj hzp
  have hb0 := hb.cell 0
  have hb1 := hb.cell 1
  have z0 := hb.lt
  clear hg
  have Hb := hide hb
  have H2 := hide h2
  have H3 := hide h3
  have Hlt := hide hlt
  have Hmz := hide hmz
  clear hb h2 h3 hlt hmz
  have c0 : W.cell? ⟨kp, 0, none⟩ = some (.int .i64 p.a) := hb0
  have c1 : W.cell? ⟨kp, 1, none⟩ = some (.int .i64 p.n) := hb1
  clear hb0 hb1
  have hs := fun w2 (x2 : Sen w2 gBound (E 2)) (x3 : Sen w2 gShape (E 3)) => size_here Hg.out x2 x3
  have hsz0 := fun w2 (x : Blk w2 kp TPool (poolCells p L bm tm)) => plsize_blk Hg.out x
  generalize hzz : plZ L = z at *
  generalize hnn : plN p = N at *
  generalize hmm : plM p L = m at *
  have Hs := hide hs
  have Hz := hide hsz0
  clear hs hsz0
  go_wp2_with fail
  go_loopw [4] (fun i wr => ∃ j : Nat, j ≤ m ∧ i = .int .i64 (p.a + ((j * z : Nat) : Int)) ∧ J (List.range j) wr ∧ Below n0 W wr ∧ W.heap.size ≤ wr.heap.size) (fun i _ => N - (intOf i - p.a).toNat)
  case atStart => exact ⟨0, by omega, by simp, h0, Below.refl _ _, Nat.le_refl _⟩
  case round =>
    obtain ⟨j, hj, rfl, hJs, hbw, hsz⟩ := hrel
    have bk := Hb.out.below hbw hk
    have s2 := hide (H2.out.below hbw hn2)
    have s3 := hide (H3.out.below hbw hn3)
    have c0 : wr.cell? ⟨kp, 0, none⟩ = some (.int .i64 p.a) := bk.cell 0
    have c1 : wr.cell? ⟨kp, 1, none⟩ = some (.int .i64 p.n) := bk.cell 1
    have z1 := bk.lt
    have Bk := hide bk
    clear bk
    by_cases hlt : j < m
    · have hin := Hlt.out j hlt
      have hnext : (j + 1) * z = j * z + z := by rw [Nat.add_mul, Nat.one_mul]
      have Hnext := hide hnext
      clear hnext
      generalize hjb : j * z = b at *
      have i1 : p.a + (b : Int) < p.a + (N : Int) := by omega
      go_upto_region 1 with (fail)
      refine wp_region_new wr (Upd.refl _ _) (by kernel_rfl) (by kernel_rfl) ?_
      repeat (go_big_quiet_step ((go_at_call 50; exact new_call (Hs.out _ (s2.out.new (NewW.h _)) (s3.out.new (NewW.h _))))))
      refine wpQuiet_nil ?_
      rintro _ ⟨nq, rfl⟩
      obtain ⟨fn, tmps, assign, body, hy, hR⟩ := hY (List.range j) j nq.w (hJ _ _ _ _ hJs (new_grown nq.h) fun r e => by cases e) ⟨rfl, hlt⟩
      unfold encJ adr at hy
      rw [hzz, hjb] at hy
      go_upto_region 3 with (fail)
      refine (wpIn_wide (n := n)).1 ?_
      gi_wp2
      refine ⟨fun h => absurd h (by simp [Fence.wide]), hR.mono ?_⟩
      rintro e W3 (⟨rfl, hJ3, hk3⟩ | ⟨rfl, hJx3⟩)
      · have hb3 := hide ((hbw.trans ((new_belowB nq.h (Nat.le_refl _)).mono (by omega))).trans hk3)
        have bk3 := Hb.out.below hb3.out hk
        have Bk3 := hide bk3
        clear bk3
        gi_wp2
        go_wp2_with (go_at_call 36; refine (Hz.out _ Bk3.out).mono ?_; rintro e w' ⟨rfl, rfl⟩)
        have hW3 := hb3.out.size
        exact ⟨⟨j + 1, by omega, by rw [Hnext.out]; congr 1; omega, by rw [List.range_succ]; exact hJ3, hb3.out, hW3⟩, by simp [intOf]; omega⟩
      · gi_wp2
        go_wp2_with fail
        refine bodyPost_ret (results_none rfl _ _ _) rfl ?_
        exact ⟨⟨_, rfl⟩, .inr ⟨_, range_pre hlt, hJx3⟩⟩
    · obtain rfl : j = m := by omega
      rw [Hmz.out]
      go_upto_region 1 with (fail)
      refine wp_region_new wr (Upd.refl _ _) (by kernel_rfl) (by kernel_rfl) ?_
      repeat (go_big_quiet_step ((go_at_call 50; exact new_call (Hs.out _ (s2.out.new (NewW.h _)) (s3.out.new (NewW.h _))))))
      refine wpQuiet_nil ?_
      rintro _ ⟨nq, rfl⟩
      go_wp2_with fail
      go_end0
      exact ⟨⟨_, rfl⟩, .inl ⟨_, rfl, hJ _ _ _ _ hJs (new_grown nq.h) fun r e => by cases e⟩⟩
/-- What the iterator over all blocks promises. -/
theorem plall_seq (n : Nat) (hg : PoolG p L) (n0 : Nat) (hb : Blk w kp TPool (poolCells p L bm tm)) (h2 : Sen w gBound (E 2)) (h3 : Sen w gShape (E 3)) (hk : kp < n0) (hn2 : gBound < n0) (hn3 : gShape < n0) (hn0 : n0 ≤ w.heap.size) :
    SeqB n Tryz.prog 38 #[.pointer (some ⟨kp, 0, none⟩)] (encJ p L) (fun pre x => pre = List.range x ∧ x < plM p L) n0 (fun xs => xs = List.range (plM p L)) (fun pre => pre <+: List.range (plM p L)) w := fun l J Jx W hW hJ _ hY h0 =>
  plall_in n hg l n0 J Jx W hJ hY (hb.below hW hb.lt) (h2.below hW h2.lt) (h3.below hW h3.lt) hk hn2 hn3 (Nat.le_trans hn0 hW.size) h0
end
end Go.Proofs.YtimhbgpnkodlaaaGreatDoor

namespace Go.Proofs.YtimhbgpnkodlaaaGreatDoor
open Go.RowKit Go.Maps Go.Shelf
attribute [local go_sem] Oper.semAt_some

section
variable {w w1 : World} {kp bm tm : Nat} {p : Pf} {L : Int} {c : PoolC} {E : Nat → Addr}
theorem new_grownFrom {w W W2 : World} {row : Option Nat} {B : Nat} (h : New w W) (hB : w.heap.size ≤ B) (hg : W.grownBy W2 row) (hr : ∀ r, row = some r → B ≤ r) : New w W2 :=
  h.trans (Upd.of_grown (S := fun k => B ≤ k) hg fun k _ e => hr k e) fun k hk hx => by omega
theorem Blk.grownFrom {W W2 : World} {row : Option Nat} {B g : Nat} {t : TypeId} {cs : Array Value} (h : Blk W g t cs) (hb : g < B) (hg : W.grownBy W2 row) (hr : ∀ r, row = some r → B ≤ r) : Blk W2 g t cs :=
  (hg.block g h.lt fun e => by have := hr g e.symm; omega).trans h
/-- A look-up in a map of numbers. -/
theorem MapI.look {P : Program} {k e t : TypeId} {b cnt : Nat} {f : Int → Int} (h : MapI P k e w b f cnt) (hk : P.underlying k = some (.int .i64)) (ht : P.underlying t = some (.map k e)) (he : P.underlying e = some (.int .i64)) (hz : (zeroValue e).run P w = .ok (.int .i64 0) w)
    {key : Int} (hkey : I64 key) : (Instr.lookup t (.map (some b)) (.int .i64 key) false).run P w = .ok (.int .i64 (f key)) w := by
  obtain ⟨D, h1, _, h3⟩ := h
  obtain ⟨x, hx, hat, _⟩ := h1.lookup_int (int_keyed hk) ht he hz (keyOf_int_mk hk (WalkArith.wf_i64 hkey))
  have h4 := (h3 key).2
  rw [hat] at h4
  injection h4 with h4
  injection h4 with _ h4
  rw [← h4]
  exact hx
/-- What a block that is asked for gives. -/
def spotQ (z : Nat) (c : PoolC) (q : Int → Bool) (j : Nat) : Option Nat := if q (c.B j) then spotC z c j else none
theorem find_at {m z j i : Nat} {c : PoolC} {q : Int → Bool} (hj : j < m) (h : spotQ z c q j = some i) (hl : ∀ k, k < j → spotQ z c q k = none) : findC m z c q = some i := findSome_of m hj h hl
theorem find_no {m z : Nat} {c : PoolC} {q : Int → Bool} (hl : ∀ k, k < m → spotQ z c q k = none) : findC m z c q = none := findSome_no hl
theorem PoolM.lookB (h : PoolM w kp bm tm p L c) (hg : PoolG p L) {j : Nat} (hj : j < plM p L) : (Instr.lookup 53 (.map (some bm)) (.int .i64 (adr p L j)) false).run Tryz.prog w = .ok (.int .i64 (c.B j)) w := by
  unfold adr
  have hb := hg.pp.block_lt hj (plZ_pos L)
  obtain ⟨a0, a1⟩ := hg.a_le
  have := h.B.look (t := 53) Tryz.underlying3 Tryz.underlying53 Tryz.underlying3 (Tryz.zeroValue3 _) (key := p.a + ((j * plZ L : Nat) : Int)) ⟨by omega, by omega⟩
  rw [atB_block p.a c (plZ_pos L)] at this
  exact this
theorem PoolM.lookT (h : PoolM w kp bm tm p L c) {x : Int} (hx : I64 x) : (Instr.lookup 53 (.map (some tm)) (.int .i64 x) false).run Tryz.prog w = .ok (.int .i64 (atT p.a c x)) w :=
  h.T.look (t := 53) Tryz.underlying3 Tryz.underlying53 Tryz.underlying3 (Tryz.zeroValue3 _) hx
theorem plfree_adr (hg : PoolG p L) (h : PoolM w kp bm tm p L c) (j : Nat) (hj : j < plM p L) :
    Calls Tryz.prog 48 #[.pointer (some ⟨kp, 0, none⟩), .int .i64 (adr p L j)] w fun e w1 => e = .returned (encO p.a (spotC (plZ L) c j)) ∧ w = w1 := plfree_any hg h j hj
/-- The four boxes of find. -/
structure FindW (w W : World) (kp : Nat) (f : Value) (r1 r2 : Value) : Prop where
  new : New w W
  k : Blk W w.heap.size 26 #[.pointer (some ⟨kp, 0, none⟩)]
  want : Blk W (w.heap.size + 1) 62 #[f]
  r1 : Blk W (w.heap.size + 2) 3 #[r1]
  r2 : Blk W (w.heap.size + 3) 4 #[r2]
variable {f r1 r2 : Value}
theorem FindW.start (w : World) (kp : Nat) (f : Value) : FindW w ((((w.alloc (.cells #[.pointer (some ⟨kp, 0, none⟩)] 26)).alloc (.cells #[f] 62)).alloc (.cells #[.int .i64 0] 3)).alloc (.cells #[.bool false] 4)) kp f (.int .i64 0) (.bool false) :=
  ⟨((((Upd.refl _ w).alloc _).alloc _).alloc _).alloc _, (((Blk.new w _ _).alloc _).alloc _).alloc _, ((Blk.at_ _ _ _ _ (by simp)).alloc _).alloc _, (Blk.at_ _ _ _ _ (by simp)).alloc _, Blk.at_ _ _ _ _ (by simp)⟩
theorem FindW.new_ {W W2 : World} (h : FindW w W kp f r1 r2) (hu : New W W2) : FindW w W2 kp f r1 r2 := ⟨h.new.trans_new hu, h.k.new_ hu, h.want.new_ hu, h.r1.new_ hu, h.r2.new_ hu⟩
theorem FindW.grown {W W2 : World} {row : Option Nat} {B : Nat} (h : FindW w W kp f r1 r2) (hB : w.heap.size + 4 ≤ B) (hg : W.grownBy W2 row) (hr : ∀ r, row = some r → B ≤ r) : FindW w W2 kp f r1 r2 :=
  ⟨new_grownFrom h.new (by omega) hg hr, h.k.grownFrom (by omega) hg hr, h.want.grownFrom (by omega) hg hr, h.r1.grownFrom (by omega) hg hr, h.r2.grownFrom (by omega) hg hr⟩
theorem FindW.set {W : World} (h : FindW w W kp f r1 r2) (x y : Value) : FindW w ((W.setCell ⟨w.heap.size + 2, 0, none⟩ x).setCell ⟨w.heap.size + 3, 0, none⟩ y) kp f x y :=
  ⟨(h.new.setCell (p := ⟨w.heap.size + 2, 0, none⟩) (.inr (Nat.le_add_right _ 2)) x).setCell (p := ⟨w.heap.size + 3, 0, none⟩) (.inr (Nat.le_add_right _ 3)) y,
    (h.k.far (by simp) x).far (by simp) y, (h.want.far (by simp) x).far (by simp) y, (h.r1.set_ 0 x).far (by simp) y, (h.r2.far (by simp) x).set_ 0 y⟩
end
end Go.Proofs.YtimhbgpnkodlaaaGreatDoor

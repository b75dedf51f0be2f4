/- Package ip: Halves. No condition but those that stand in each theorem. -/
import Derived.Test.YtkljanjapcpbdaaDoorIp3
namespace Go.Proofs.YtkljanjapcpbdaaDoor
open Go.RowKit

theorem or_pow (a k : Nat) (h : a % 2 ^ (k + 1) = 0) : a ||| 2 ^ k = a + 2 ^ k := by
  obtain ⟨c, rfl⟩ := Nat.dvd_of_mod_eq_zero h
  exact (Nat.two_pow_add_eq_or_of_lt (Nat.pow_lt_pow_right (by omega) (by omega)) c).symm

/-- The other half's address. -/
theorem or_i64 (a n : Int) (ha : 0 ≤ a ∧ a < 4294967296) (hn : 0 ≤ n ∧ n < 32) (hl : low a.toNat n.toNat = 0) :
    bits .or .i64 a (wrap64 (2 ^ (31 - n).toNat)) = a + ((2 ^ (31 - n.toNat) : Nat) : Int) := by
  obtain ⟨a, rfl⟩ := Int.eq_ofNat_of_zero_le ha.1
  obtain ⟨n, rfl⟩ := Int.eq_ofNat_of_zero_le hn.1
  have e : ((31 : Int) - (n : Int)).toNat = 31 - n := by omega
  rw [e, w64_pow _ (by omega), Int.toNat_natCast]
  have h1 := pow_le32 (31 - n) (by omega)
  rw [i64_or_nat a _ (by omega) (by omega), or_pow]
  · push_cast; rfl
  · simp only [low, Int.toNat_natCast] at hl
    rw [show 31 - n + 1 = 32 - n by omega]
    exact hl

abbrev gNone : Nat := 4

set_option maxHeartbeats 2000000 in
theorem halves_yes (a n : Int) (E : Nat → Addr) (w : World) (h2 : Sen w gBound (E 2)) (h3 : Sen w gShape (E 3)) (h : chk a n = 0) (hn : n < 32) :
    Calls Tryd.prog 63 #[.agg #[.int .i64 a, .int .i64 n]] w fun e w1 =>
      e = .returned (.tuple #[.agg #[.int .i64 a, .int .i64 (n + 1)], .agg #[.int .i64 (a + ((2 ^ (31 - n.toNat) : Nat) : Int)), .int .i64 (n + 1)], .nilIface]) ∧ New w w1 := by
  obtain ⟨ha, hn0, hl⟩ := chk_zero h
  have hor := or_i64 a n ha ⟨hn0.1, hn⟩ hl
  have Hor := hide hor
  have u := (((Upd.refl (fun _ => False) w).alloc (.cells #[.int .i64 a, .int .i64 n] 51)).alloc (.cells #[.int .i64 0, .int .i64 0] 51)).alloc (.cells #[.int .i64 0, .int .i64 0] 51)
  have b0 := ((Blk.new w 51 #[.int .i64 a, .int .i64 n]).alloc (.cells #[.int .i64 0, .int .i64 0] 51)).alloc (.cells #[.int .i64 0, .int .i64 0] 51)
  have b1 := (Blk.at_ (w.alloc (.cells #[.int .i64 a, .int .i64 n] 51)) 51 #[.int .i64 0, .int .i64 0] (w.heap.size + 1) (by simp)).alloc (.cells #[.int .i64 0, .int .i64 0] 51)
  have b2 := Blk.at_ ((w.alloc (.cells #[.int .i64 a, .int .i64 n] 51)).alloc (.cells #[.int .i64 0, .int .i64 0] 51)) 51 #[.int .i64 0, .int .i64 0] (w.heap.size + 1 + 1) (by simp)
  have Hc := hide (check_yes a n E _ (h2.new u) (h3.new u) h)
  have Hu := hide u
  have B0 := hide b0
  have B1 := hide b1
  have B2 := hide b2
  obtain ⟨n0, n1⟩ := hn0
  clear u b0 b1 b2 h2 h3 h hl hor ha
  go_enter Tryd.func63, Tryd.ntmps63
  go_wp2_with fail
  refine Hc.out.mono ?_
  rintro e w1 ⟨rfl, hu⟩
  have b0 := B0.out.new_ hu
  have b1 := B1.out.new_ hu
  have b2 := B2.out.new_ hu
  have c00 := b0.cell 0
  have c01 := b0.cell 1
  have c10 := b1.cell 0
  have c11 := b1.cell 1
  have c20 := b2.cell 0
  have c21 := b2.cell 1
  have k10 := b1.frozen 0
  have k11 := b1.frozen 1
  have k20 := b2.frozen 0
  have k21 := b2.frozen 1
  have z0 := b0.lt
  have z1 := b1.lt
  have z2 := b2.lt
  simp only [List.getElem?_toArray, List.getElem?_cons_zero, List.getElem?_cons_succ] at c00 c01 c10 c11 c20 c21
  clear b0 b1 b2
  go_wp2_with fail
  go_region
  all_goals go_wp2_with fail
  refine bodyPost_ret (v := .tuple #[.agg #[.int .i64 a, .int .i64 (n + 1)], .agg #[.int .i64 (a + ((2 ^ (31 - n.toNat) : Nat) : Int)), .int .i64 (n + 1)], .nilIface]) ?_ rfl ⟨rfl, ?_⟩
  · rw [Hor.out]
    simp [results, Tryd.results63, go_sem, c10, c11, c20, c21]
  · exact (((((Hu.out.trans_new hu).setCell (p := ⟨w.heap.size + 1, 0, none⟩) (.inr (by show w.heap.size ≤ w.heap.size + 1; omega)) _).setCell (p := ⟨w.heap.size + 1, 1, none⟩) (.inr (by show w.heap.size ≤ w.heap.size + 1; omega)) _).setCell (p := ⟨w.heap.size + 1 + 1, 0, none⟩) (.inr (by show w.heap.size ≤ w.heap.size + 1 + 1; omega)) _).setCell (p := ⟨w.heap.size + 1 + 1, 1, none⟩) (.inr (by show w.heap.size ≤ w.heap.size + 1 + 1; omega)) _).drew

set_option maxHeartbeats 2000000 in
theorem halves_end (a : Int) (E : Nat → Addr) (w : World) (h2 : Sen w gBound (E 2)) (h3 : Sen w gShape (E 3)) (h5 : Sen w gNone (E 5)) (h : chk a 32 = 0) :
    Calls Tryd.prog 63 #[.agg #[.int .i64 a, .int .i64 32]] w fun e w1 =>
      e = .returned (.tuple #[.agg #[.int .i64 0, .int .i64 0], .agg #[.int .i64 0, .int .i64 0], .iface 272 (.pointer (some (E 5)))]) ∧ New w w1 := by
  have u := (((Upd.refl (fun _ => False) w).alloc (.cells #[.int .i64 a, .int .i64 32] 51)).alloc (.cells #[.int .i64 0, .int .i64 0] 51)).alloc (.cells #[.int .i64 0, .int .i64 0] 51)
  have b0 := ((Blk.new w 51 #[.int .i64 a, .int .i64 32]).alloc (.cells #[.int .i64 0, .int .i64 0] 51)).alloc (.cells #[.int .i64 0, .int .i64 0] 51)
  have b1 := (Blk.at_ (w.alloc (.cells #[.int .i64 a, .int .i64 32] 51)) 51 #[.int .i64 0, .int .i64 0] (w.heap.size + 1) (by simp)).alloc (.cells #[.int .i64 0, .int .i64 0] 51)
  have b2 := Blk.at_ ((w.alloc (.cells #[.int .i64 a, .int .i64 32] 51)).alloc (.cells #[.int .i64 0, .int .i64 0] 51)) 51 #[.int .i64 0, .int .i64 0] (w.heap.size + 1 + 1) (by simp)
  have Hc := hide (check_yes a 32 E _ (h2.new u) (h3.new u) h)
  have Hu := hide u
  have H5 := hide (h5.new u)
  have B0 := hide b0
  have B1 := hide b1
  have B2 := hide b2
  have zz : 4 < w.heap.size := h5.lt
  have ne1 : ¬ (w.heap.size + 1 = 4) := by omega
  have ne2 : ¬ (w.heap.size + 1 + 1 = 4) := by omega
  clear u b0 b1 b2 h2 h3 h5 h
  go_enter Tryd.func63, Tryd.ntmps63
  go_wp2_with fail
  refine Hc.out.mono ?_
  rintro e w1 ⟨rfl, hu⟩
  have b0 := B0.out.new_ hu
  have b1 := B1.out.new_ hu
  have b2 := B2.out.new_ hu
  have s5 : Sen w1 gNone (E 5) := H5.out.new hu
  have z5 : 4 < w1.heap.size := s5.lt
  have c5 : w1.cell? ⟨4, 0, none⟩ = some (.iface 272 (.pointer (some (E 5)))) := s5
  have c00 := b0.cell 0
  have c01 := b0.cell 1
  have c10 := b1.cell 0
  have c11 := b1.cell 1
  have c20 := b2.cell 0
  have c21 := b2.cell 1
  have k10 := b1.frozen 0
  have k11 := b1.frozen 1
  have k20 := b2.frozen 0
  have k21 := b2.frozen 1
  have z0 := b0.lt
  have z1 := b1.lt
  have z2 := b2.lt
  simp only [List.getElem?_toArray, List.getElem?_cons_zero, List.getElem?_cons_succ] at c00 c01 c10 c11 c20 c21
  clear b0 b1 b2 s5
  go_wp2_with fail
  go_region
  all_goals go_wp2_with fail
  refine bodyPost_ret (v := .tuple #[.agg #[.int .i64 0, .int .i64 0], .agg #[.int .i64 0, .int .i64 0], .iface 272 (.pointer (some (E 5)))]) ?_ rfl ⟨rfl, ?_⟩
  · simp [results, Tryd.results63, go_sem, c10, c11, c20, c21]
  · exact (((((Hu.out.trans_new hu).setCell (p := ⟨w.heap.size + 1, 0, none⟩) (.inr (by show w.heap.size ≤ w.heap.size + 1; omega)) _).setCell (p := ⟨w.heap.size + 1, 1, none⟩) (.inr (by show w.heap.size ≤ w.heap.size + 1; omega)) _).setCell (p := ⟨w.heap.size + 1 + 1, 0, none⟩) (.inr (by show w.heap.size ≤ w.heap.size + 1 + 1; omega)) _).setCell (p := ⟨w.heap.size + 1 + 1, 1, none⟩) (.inr (by show w.heap.size ≤ w.heap.size + 1 + 1; omega)) _).drew

theorem halves_end2 (a n : Int) (hn : n = 32) (E : Nat → Addr) (w : World) (h2 : Sen w gBound (E 2)) (h3 : Sen w gShape (E 3)) (h5 : Sen w gNone (E 5)) (h : chk a n = 0) :
    Calls Tryd.prog 63 #[.agg #[.int .i64 a, .int .i64 n]] w fun e w1 =>
      e = .returned (.tuple #[.agg #[.int .i64 0, .int .i64 0], .agg #[.int .i64 0, .int .i64 0], .iface 272 (.pointer (some (E 5)))]) ∧ New w w1 := by
  subst hn
  exact halves_end a E w h2 h3 h5 h
end Go.Proofs.YtkljanjapcpbdaaDoor

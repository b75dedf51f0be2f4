/- Package fib: the way down a trie. No condition but those that stand in each theorem. -/
import Derived.Test.YtkljanjapcpbdaaDoorFib1
namespace Go.Proofs.YtkljanjapcpbdaaDoor
open Go.RowKit

theorem bit_q (a i : Int) (ha : 0 ≤ a ∧ a < 4294967296) (hi : 0 ≤ i ∧ i ≤ 31) (w : World) :
    Calls Tryd.prog 81 #[.int .i64 a, .int .i64 i] w fun e w1 => e = .returned (.int .i64 (bt a i : Int)) ∧ w1 = w :=
  (bit_any a i ha hi w).mono fun _ _ ⟨h, h1⟩ => ⟨h, h1.symm⟩

theorem info_TP : (Tryd.prog.info? TP).map (fun i => (i.zero, i.size, i.bytes)) = some (some (.agg #[.int .i64 0, .int .i64 0]), 2, 16) := by kernel_rfl

theorem top_zero (a : Int) (ha : 0 ≤ a ∧ a < 4294967296) : Fm.top a.toNat 0 = 0 := by
  unfold Fm.top
  exact Nat.div_eq_of_lt (by omega)

set_option maxHeartbeats 1000000 in
theorem at_find (a n : Int) (t r : Nat) (ms cn : Value) (N : Nat → Nat → Option Nat) (V : Fm.VM) (hp : chk a n = 0) (w : World)
    (ht : Blk w t TT #[.pointer (some ⟨r, 0, none⟩), ms, cn]) (hN : Nodes w r N V) :
    Calls Tryd.prog 75 #[.pointer (some ⟨t, 0, none⟩), .agg #[.int .i64 a, .int .i64 n], .bool false] w fun e w1 =>
      e = .returned (ptr (N n.toNat (Fm.top a.toNat n.toNat))) ∧ New w w1 := by
  obtain ⟨ha, hn, _⟩ := chk_zero hp
  obtain ⟨n, rfl⟩ := Int.eq_ofNat_of_zero_le hn.1
  have hn2 : n ≤ 32 := by omega
  have Ha := hide ha
  have ct := ht.cell 0
  simp only [List.getElem?_toArray, List.getElem?_cons_zero] at ct
  have zt : t < w.heap.size := ht.lt
  clear hp hn
  go_enter Tryd.func75, Tryd.ntmps75
  go_wp2
  go_loopw [7, 16] (fun v i wr => ∃ (k b : Nat), k ≤ n ∧ i = .int .i64 k ∧ v = .pointer (some ⟨b, 0, none⟩) ∧ N k (Fm.top a.toNat k) = some b ∧ New w wr ∧ Blk wr w.heap.size TP #[.int .i64 a, .int .i64 n]) (fun _ i _ => n - (intOf i).toNat)
  case atStart => exact ⟨0, r, by omega, rfl, rfl, by rw [top_zero a ha]; exact hN.root, (Upd.refl _ _).alloc _, Blk.new _ _ _⟩
  case round =>
    obtain ⟨k, b, hk, rfl, rfl, hb, hnew, hbox⟩ := hrel
    have hN1 := hN.new hnew
    by_cases hlt : k < n
    · have hkid := hN1.kid a k b (by omega) hb
      have Hb := hide hb
      have Hbit := hide (bit_q a k Ha.out ⟨by omega, by omega⟩)
      have hd := bt_lt a k
      have ca := hbox.cell 0
      have zb := hbox.lt
      have zb2 := (hN1.blk _ _ _ hb).lt
      simp only [List.getElem?_toArray, List.getElem?_cons_zero] at ca
      obtain ⟨c, hc⟩ : ∃ c, c = N (k + 1) (Fm.top a.toNat (k + 1)) := ⟨_, rfl⟩
      rw [← hc] at hkid
      have Hc := hide hc
      have Hgone := hide (hN1.gone_all a (k + 1))
      generalize bt a k = d at *
      clear hb hc ha hN hN1 ht
      cases c with
      | none =>
        simp only [ptr] at hkid
        go_wp2
        go_quiet ((go_at_call 81; exact Calls.quiet_of_same (Hbit.out _)))
        go_wp2
        go_ret
        refine ⟨?_, hnew.drewN _⟩
        rw [Int.toNat_natCast, Hgone.out Hc.out.symm n (by omega) hn2]
        rfl
      | some b1 =>
        simp only [ptr] at hkid
        go_wp2
        go_quiet ((go_at_call 81; exact Calls.quiet_of_same (Hbit.out _)))
        go_wp2
        exact ⟨⟨k + 1, b1, by omega, by go_num, rfl, Hc.out.symm, hnew.drewN _, hbox.drewN _⟩, by simp [intOf]; omega⟩
    · have hkn : k = n := by omega
      have Hb := hide hb
      have Hkn := hide hkn
      clear hb hkn
      go_wp2
      go_ret
      refine ⟨?_, hnew⟩
      have h := Hb.out
      rw [Hkn.out] at h
      rw [Int.toNat_natCast, h]
      rfl
end Go.Proofs.YtkljanjapcpbdaaDoor

/- The law Names: the walk. No condition but those that stand in each theorem. -/
import Derived.Test.YtcnccfhgjdaniaaDoorCd1
namespace Go.Proofs.YtcnccfhgjdaniaaDoor
open Go.RowKit

abbrev TInt : TypeId := 3
def bounds : List Int := [1000, 12, 8, 9999, 1000, 60, 10, 6, 8000, 3, 2000, 80, 16]

theorem new_any (s : ByteArray) (w : World) : Calls Tryd.prog 26 #[.string s] w fun e w1 => e = .returned (errv ⟨w.heap.size, 0, none⟩) ∧ w1 = w.alloc (.cells #[.string s] 141) := by
  go_enter Tryd.func26, Tryd.ntmps26
  go_wp2
  go_ret
  exact ⟨rfl, rfl⟩

set_option maxRecDepth 100000 in
set_option maxHeartbeats 4000000 in
theorem names_main (E : Nat → Addr) (w : World) (h : Errs w E) : Calls Tryd.prog 4 #[] w fun e w1 => e = .returned (.bool true) ∧ New w w1 := by
  have H := hide h
  have n0 := ((Upd.refl (fun _ => False) w).alloc (.cells #[.int .i64 1000, .int .i64 12, .int .i64 8, .int .i64 9999, .int .i64 1000, .int .i64 60, .int .i64 10, .int .i64 6, .int .i64 8000, .int .i64 3, .int .i64 2000, .int .i64 80, .int .i64 16] TInt)).alloc (.cells #[.int .i64 1000, .int .i64 12, .int .i64 8, .int .i64 9999, .int .i64 1000, .int .i64 60, .int .i64 10, .int .i64 6, .int .i64 8000, .int .i64 3, .int .i64 2000, .int .i64 80, .int .i64 16] TInt)
  have hs := sameInts_any (some ⟨w.heap.size, 0, none⟩) (some ⟨w.heap.size + 1, 0, none⟩) 13 13 13 13 bounds bounds ((w.alloc (.cells #[.int .i64 1000, .int .i64 12, .int .i64 8, .int .i64 9999, .int .i64 1000, .int .i64 60, .int .i64 10, .int .i64 6, .int .i64 8000, .int .i64 3, .int .i64 2000, .int .i64 80, .int .i64 16] TInt)).alloc (.cells #[.int .i64 1000, .int .i64 12, .int .i64 8, .int .i64 9999, .int .i64 1000, .int .i64 60, .int .i64 10, .int .i64 6, .int .i64 8000, .int .i64 3, .int .i64 2000, .int .i64 80, .int .i64 16] TInt))
    (Ints.of_blk ((Blk.new w TInt _).alloc _) rfl) (Ints.of_blk (Blk.at_ _ TInt _ (w.heap.size + 1) (by simp)) rfl) rfl rfl (by omega) (by omega)
  rw [decide_eq_true rfl] at hs
  have Hs := hide hs
  have N0 := hide n0
  clear hs n0 h
  go_enter Tryd.func4, Tryd.ntmps4
  go_wp2_with fail
  refine Hs.out.mono ?_
  rintro e w1 ⟨rfl, hu1⟩
  have n1 : New w w1 := N0.out.trans_new hu1
  have He := H.out.new n1
  have c1 : w1.cell? ⟨0, 0, none⟩ = some (.iface TES (.pointer (some (E 1)))) := He.s1
  have c2 : w1.cell? ⟨1, 0, none⟩ = some (.iface TES (.pointer (some (E 2)))) := He.s2
  have c3 : w1.cell? ⟨2, 0, none⟩ = some (.iface TES (.pointer (some (E 3)))) := He.s3
  have c4 : w1.cell? ⟨3, 0, none⟩ = some (.iface TES (.pointer (some (E 4)))) := He.s4
  have c5 : w1.cell? ⟨4, 0, none⟩ = some (.iface TES (.pointer (some (E 5)))) := He.s5
  have c6 : w1.cell? ⟨5, 0, none⟩ = some (.iface TES (.pointer (some (E 6)))) := He.s6
  have c7 : w1.cell? ⟨6, 0, none⟩ = some (.iface TES (.pointer (some (E 7)))) := He.s7
  have c8 : w1.cell? ⟨7, 0, none⟩ = some (.iface TES (.pointer (some (E 8)))) := He.s8
  have c9 : w1.cell? ⟨8, 0, none⟩ = some (.iface TES (.pointer (some (E 9)))) := He.s9
  clear He
  have b9 : Blk (w1.alloc (.cells #[.iface TES (.pointer (some (E 1))), .iface TES (.pointer (some (E 2))), .iface TES (.pointer (some (E 3))), .iface TES (.pointer (some (E 4))), .iface TES (.pointer (some (E 5))), .iface TES (.pointer (some (E 6))), .iface TES (.pointer (some (E 7))), .iface TES (.pointer (some (E 8))), .iface TES (.pointer (some (E 9)))] TErr)) w1.heap.size TErr (nine E) := Blk.new _ _ _
  have n2 : New w (w1.alloc (.cells #[.iface TES (.pointer (some (E 1))), .iface TES (.pointer (some (E 2))), .iface TES (.pointer (some (E 3))), .iface TES (.pointer (some (E 4))), .iface TES (.pointer (some (E 5))), .iface TES (.pointer (some (E 6))), .iface TES (.pointer (some (E 7))), .iface TES (.pointer (some (E 8))), .iface TES (.pointer (some (E 9)))] TErr)) := n1.alloc _
  have B9 := hide b9
  have N2 := hide n2
  clear b9 n2
  go_wp2_with fail
  clear c1 c2 c3 c4 c5 c6 c7 c8 c9
  generalize (w1.alloc (.cells #[.iface TES (.pointer (some (E 1))), .iface TES (.pointer (some (E 2))), .iface TES (.pointer (some (E 3))), .iface TES (.pointer (some (E 4))), .iface TES (.pointer (some (E 5))), .iface TES (.pointer (some (E 6))), .iface TES (.pointer (some (E 7))), .iface TES (.pointer (some (E 8))), .iface TES (.pointer (some (E 9)))] TErr)) = w2 at *
  go_loopw [4] (fun j wr => ∃ n : Nat, n ≤ 9 ∧ j = .int .i64 n ∧ New w2 wr) (fun j _ => 9 - (intOf j).toNat)
  case atStart => exact ⟨0, by omega, rfl, Upd.refl _ _⟩
  case round =>
    obtain ⟨n, hn, rfl, hnew⟩ := hrel
    by_cases hlt : n < 9
    · have i1 : (n : Int) < 9 := by omega
      have b9 := B9.out.new_ hnew
      have cn := b9.cell n
      rw [nine_at E n hlt] at cn
      have z2 := b9.lt
      have nr := (N2.out).trans_new hnew
      have hf : Blk (wr.alloc (.cells #[.int .i64 7, errv (E (n + 1))] TF)) wr.heap.size TF #[.int .i64 7, errv (E (n + 1))] := Blk.new _ _ _
      have nf := nr.alloc (.cells #[.int .i64 7, errv (E (n + 1))] TF)
      have Hc := hide (code_any (.iface TFP (.pointer (some ⟨wr.heap.size, 0, none⟩))) (n + 1) 7 _ E (H.out.new nf) (.inr (.inr ⟨by omega, by omega, _, rfl, hf⟩)))
      have Nf := hide nf
      have N9 := hide (b9.alloc (.cells #[.int .i64 7, errv (E (n + 1))] TF))
      clear b9 hf nf nr
      unfold errv at cn Hc Nf N9
      go_wp2_with fail
      refine Hc.out.mono ?_
      rintro e w3 ⟨rfl, hu3⟩
      have b9 := N9.out.new_ hu3
      have cm := b9.cell n
      rw [nine_at E n hlt] at cm
      have z3 := b9.lt
      have n3 : New w w3 := Nf.out.trans_new hu3
      have Hd := hide (coded1_any (errv (E (n + 1))) (n + 1) (-1) (n + 1 : Nat) w3 E (H.out.new n3) (.inr (.inl ⟨by omega, by omega, rfl, rfl⟩)))
      rw [show decide (((n + 1 : Nat) : Int) = ((n + 1 : Nat) : Int) ∧ (-1 : Int) = -1) = true from by simp] at Hd
      clear cn b9
      unfold errv at cm Hd
      push_cast at Hd
      go_wp2_with fail
      refine Hd.out.mono ?_
      rintro e w4 ⟨rfl, hu4⟩
      have hq : ((n : Int) + 1 != (n : Int) + 1) = false := by simp
      have n4 : New w2 w4 := ((hnew.alloc _).trans_new hu3).trans_new hu4
      go_wp2_with fail
      exact ⟨⟨n + 1, by omega, by go_num, n4⟩, by simp [intOf]; omega⟩
    · have h9 : n = 9 := by omega
      subst h9
      have nr := (N2.out).trans_new hnew
      have Hn := hide (new_any ⟨#[97, 110, 111, 116, 104, 101, 114, 32, 111, 110, 101]⟩ wr)
      have nn := nr.alloc (.cells #[.string ⟨#[97, 110, 111, 116, 104, 101, 114, 32, 111, 110, 101]⟩] 141)
      have hr := Blk.new wr 141 #[.string ⟨#[97, 110, 111, 116, 104, 101, 114, 32, 111, 110, 101]⟩]
      have hc := code_sent ⟨wr.heap.size, 0, none⟩ 10 _ E (H.out.new nn) (by omega) (isAt_other (H.out.new nn) _ _ _ hr fun j h1 h9 he => by
        obtain ⟨c, t, hrow⟩ := (H.out.new nr).row j h1 h9
        have := block_lt_of_row hrow
        rw [← he] at this
        exact absurd this (by simp))
      rw [show codeV 10 = -1 from rfl] at hc
      have Hc := hide hc
      have Nn := hide nn
      clear hc nn hr nr
      go_wp2_with fail
      refine Hn.out.mono ?_
      rintro e w3 ⟨rfl, rfl⟩
      go_wp2_with fail
      refine Hc.out.mono ?_
      rintro e w4 ⟨rfl, hu4⟩
      have n4 := Nn.out.trans_new hu4
      have Hd := hide (coded1_any .nilIface 0 (-1) (0 : Nat) w4 E (H.out.new n4) (.inl ⟨rfl, rfl, rfl⟩))
      rw [show decide (((0 : Nat) : Int) = ((0 : Nat) : Int) ∧ (-1 : Int) = -1) = true from by simp] at Hd
      go_wp2_with fail
      refine Hd.out.mono ?_
      rintro e w5 ⟨rfl, hu5⟩
      go_wp2_with fail
      go_ret
      exact ⟨rfl, n4.trans_new hu5⟩
end Go.Proofs.YtcnccfhgjdaniaaDoor

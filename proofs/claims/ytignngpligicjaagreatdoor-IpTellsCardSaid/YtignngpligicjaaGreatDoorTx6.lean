/- The closed fact of prefixes: a prefix is read. No condition but those that stand in each theorem. -/
import Derived.Test.YtignngpligicjaaGreatDoorTx5
import Derived.Test.YtignngpligicjaaGreatDoorIp3
namespace Go.Proofs.YtignngpligicjaaGreatDoor
open Go.RowKit

def ten : ByteArray := ⟨#[49, 48, 46, 49, 46, 48, 46, 48, 47, 49, 54]⟩
theorem ten_read : readP ten = (0, 167837696, 16) := by decide +kernel
theorem ten_text : prefT 167837696 16 = ten.data.toList := by decide +kernel
theorem ten_has : hasB 167837696 16 167837773 = true := by decide +kernel

theorem errc_nil0 (E : Nat → Addr) : errc E 0 = .nilIface := rfl
set_option maxRecDepth 8000 in
set_option maxHeartbeats 2000000 in
theorem addressed_any (E : Nat → Addr) (w : World) (h : TxtOk w) (h1 : Sen w gText1 (E 1)) (h2 : Sen w gBound (E 2)) (h3 : Sen w gShape (E 3)) :
    Calls Tryz.prog 6 #[] w fun e w1 => e = .returned (.bool true) ∧ New w w1 := by
  have hre := read_any ten E w h h1 h2 h3 (by decide)
  rw [ten_read] at hre
  dsimp only at hre
  rw [errc_nil0] at hre
  unfold ten at hre
  have Hre := hide hre
  have H := hide h
  have H2 := hide h2
  have H3 := hide h3
  clear hre h h1 h2 h3
  go_enter Tryz.func6, Tryz.ntmps6
  go_wp2_with fail
  refine Hre.out.mono ?_
  rintro e w1 ⟨rfl, hu⟩
  have N := hide (hu.trans_new ((Upd.refl (fun _ => False) w1).alloc (.cells #[.int .i64 167837696, .int .i64 16] TPf)))
  have B := hide (Blk.new w1 TPf #[.int .i64 167837696, .int .i64 16])
  clear hu Hre
  go_upto_region 2 with (fail)
  generalize w1.alloc (.cells #[.int .i64 167837696, .int .i64 16] TPf) = W at *
  generalize w1.heap.size = X at *
  have bq := B.out
  have c0 := bq.cell 0
  have c1 := bq.cell 1
  have zb := bq.lt
  simp only [List.getElem?_toArray, List.getElem?_cons_zero, List.getElem?_cons_succ] at c0 c1
  clear bq
  have hte := text_any 167837696 16 E W (H.out.new N.out) (H2.out.new N.out) (H3.out.new N.out)
  rw [ten_text] at hte
  unfold ten at hte
  have Hte := hide hte
  clear hte
  go_wp2_with fail
  refine Hte.out.mono ?_
  rintro e w2 ⟨rfl, hu⟩
  have N2 := hide (N.out.trans_new hu)
  have bq := B.out.new_ hu
  have d0 := bq.cell 0
  have d1 := bq.cell 1
  have zd := bq.lt
  simp only [List.getElem?_toArray, List.getElem?_cons_zero, List.getElem?_cons_succ] at d0 d1
  clear bq hu Hte c0 c1 zb
  have hha := has_any 167837696 16 167837773 E w2 (H2.out.new N2.out) (H3.out.new N2.out)
  rw [ten_has] at hha
  have Hha := hide hha
  clear hha
  go_wp2_with fail
  refine Hha.out.mono ?_
  rintro e w3 ⟨rfl, hu⟩
  have N3 := hide (N2.out.trans_new hu)
  clear hu
  go_wp2_with fail
  go_ret
  exact ⟨rfl, N3.out⟩
end Go.Proofs.YtignngpligicjaaGreatDoor

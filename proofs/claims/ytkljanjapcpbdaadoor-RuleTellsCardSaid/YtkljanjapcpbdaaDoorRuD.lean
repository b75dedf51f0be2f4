/- The closed fact of rules: a rule fits. No condition but those that stand in each theorem. -/
import Derived.Test.YtkljanjapcpbdaaDoorRuC
import Derived.Test.YtkljanjapcpbdaaDoorRu4
namespace Go.Proofs.YtkljanjapcpbdaaDoor
open Go.RowKit

/-- The two rules of the closed fact. -/
def rA : RuR := ⟨256, 24, 0, 32, 0, 0, true, 0, 0, 0, 0⟩
def rB : RuR := ⟨0, 0, 0, 32, 0, 0, false, 200, -1, 0, 0⟩
theorem ruled_one : (apF [rA, rB] 7 300 32 ownR.con) = (0, -1) ∧ apB [rA, rB] 7 300 32 ownR.con = false := by decide +kernel
theorem ruled_two : (apF [rA, rB] 7 600 32 ownR.con) = (0, -1) ∧ apB [rA, rB] 7 600 32 ownR.con = true ∧ (apX [rA, rB] 7 600 32 ownR.con).pref = 200 := by decide +kernel
theorem ErrV.zero {w : World} {E : Nat → Addr} {v : Value} {k : Nat} {i : Int} (h : ErrV w E v k i) (hk : k = 0) : v = .nilIface := by
  rcases h.form with ⟨_, _, h⟩ | ⟨h, _⟩
  · exact h
  · exact absurd hk h
theorem rules_of_blk {w : World} {g : Nat} {t : TypeId} {l : List RuR} (h : Blk w g t (flat (l.map RuR.cells)).toArray) : Rules w (some ⟨g, 0, none⟩) l := fun _ => by
  refine ⟨g, 0, rfl, h.lt, fun i r hr j v hv => ?_⟩
  have hj : j < 11 := by
    have h1 := ru_size l r (List.mem_of_getElem? hr)
    rw [← h1]
    exact (Array.getElem?_eq_some_iff.1 hv).1
  rw [show 0 + i * 11 + j = i * 11 + j by omega, h.cell (i * 11 + j), List.getElem?_toArray, flat_get _ (ru_size l) i r hr j hj]
  exact hv
set_option maxRecDepth 8000 in
set_option maxHeartbeats 4000000 in
theorem ruled_any (E : Nat → Addr) (w : World) (h2 : Sen w gBound (E 2)) (h3 : Sen w gShape (E 3)) (h7 : Sen w gFull_ (E 7)) (h8 : Sen w gOrder (E 8)) :
    Calls Tryd.prog 37 #[] w fun e w1 => e = .returned (.bool true) ∧ New w w1 := by
  have u := (Upd.refl (fun _ => False) w).alloc (.cells #[.int .i64 256, .int .i64 24, .int .i64 0, .int .i64 32, .int .i64 0, .int .i64 0, .bool true, .int .i64 0, .int .i64 0, .int .i64 0, .int .i64 0, .int .i64 0, .int .i64 0, .int .i64 0, .int .i64 32, .int .i64 0, .int .i64 0, .bool false, .int .i64 200, .int .i64 (-1), .int .i64 0, .int .i64 0] TRu)
  have b0 := Blk.new w TRu #[.int .i64 256, .int .i64 24, .int .i64 0, .int .i64 32, .int .i64 0, .int .i64 0, .bool true, .int .i64 0, .int .i64 0, .int .i64 0, .int .i64 0, .int .i64 0, .int .i64 0, .int .i64 0, .int .i64 32, .int .i64 0, .int .i64 0, .bool false, .int .i64 200, .int .i64 (-1), .int .i64 0, .int .i64 0]
  have Hr := hide (rules_of_blk (l := [rA, rB]) b0)
  have H2 := hide h2
  have H3 := hide h3
  have H7 := hide h7
  have H8 := hide h8
  have N1 := hide u
  clear u b0 h2 h3 h7 h8
  go_enter Tryd.func37, Tryd.ntmps37
  go_upto_region 2 with (fail)
  generalize w.alloc (.cells #[.int .i64 256, .int .i64 24, .int .i64 0, .int .i64 32, .int .i64 0, .int .i64 0, .bool true, .int .i64 0, .int .i64 0, .int .i64 0, .int .i64 0, .int .i64 0, .int .i64 0, .int .i64 0, .int .i64 32, .int .i64 0, .int .i64 0, .bool false, .int .i64 200, .int .i64 (-1), .int .i64 0, .int .i64 0] TRu) = W at *
  go_wp2_with fail
  refine (attrOwn_any _).mono ?_
  rintro e w1 ⟨rfl, hu1⟩
  have N2 := hide (N1.out.trans_new hu1)
  have Hr2 := hide (Hr.out.new_ hu1)
  have Hap := hide (apply_any (some ⟨w.heap.size, 0, none⟩) 2 2 [rA, rB] 7 300 32 ownR E w1 (H2.out.new N2.out) (H3.out.new N2.out) (H7.out.new N2.out) (H8.out.new N2.out) Hr2.out rfl (by omega) (ownR_ok _) (by decide) (by decide))
  clear hu1 Hr
  go_wp2_with fail
  refine Hap.out.mono ?_
  rintro e w2 ⟨⟨P5, pc5, p5, f5, g5, o5, T5, tc5, t5⟩, v, rfl, hcon, hok, hfr, hv, hu2⟩
  rw [ruled_one.2]
  obtain rfl := hv.zero (by rw [ruled_one.1])
  have n3 := hu2.trans_new ((Upd.refl (fun _ => False) w2).alloc (.cells #[.slice P5 p5.length pc5, .int .i64 f5, .int .i64 g5, .int .i64 o5, .slice T5 t5.length tc5] TA))
  have N3 := hide (N2.out.trans_new n3)
  have Hr3 := hide (Hr2.out.new_ n3)
  clear hu2 hv hcon hok hfr Hap Hr2 N2 n3
  unfold AttrR.cells
  dsimp only
  go_upto_region 3 with (fail)
  generalize w2.alloc (.cells #[.slice P5 p5.length pc5, .int .i64 f5, .int .i64 g5, .int .i64 o5, .slice T5 t5.length tc5] TA) = W2 at *
  go_wp2_with fail
  refine (attrOwn_any _).mono ?_
  rintro e w3 ⟨rfl, hu1⟩
  have N4 := hide (N3.out.trans_new hu1)
  have Hr4 := hide (Hr3.out.new_ hu1)
  have Hap := hide (apply_any (some ⟨w.heap.size, 0, none⟩) 2 2 [rA, rB] 7 600 32 ownR E w3 (H2.out.new N4.out) (H3.out.new N4.out) (H7.out.new N4.out) (H8.out.new N4.out) Hr4.out rfl (by omega) (ownR_ok _) (by decide) (by decide))
  clear hu1 Hr3
  go_wp2_with fail
  refine Hap.out.mono ?_
  rintro e w4 ⟨⟨P6, pc6, p6, f6, g6, o6, T6, tc6, t6⟩, v, rfl, hcon, hok, hfr, hv, hu2⟩
  rw [ruled_two.2.1]
  obtain rfl := hv.zero (by rw [ruled_two.1])
  obtain rfl : f6 = 200 := (congrArg AtC.pref hcon).trans ruled_two.2.2
  have N5 := hide (N4.out.trans_new (hu2.trans_new ((Upd.refl (fun _ => False) w4).alloc (.cells #[.slice P6 p6.length pc6, .int .i64 200, .int .i64 g6, .int .i64 o6, .slice T6 t6.length tc6] TA))))
  have b6 := Blk.new w4 TA #[.slice P6 p6.length pc6, .int .i64 200, .int .i64 g6, .int .i64 o6, .slice T6 t6.length tc6]
  clear hu2 hv hcon hok hfr Hap Hr4
  unfold AttrR.cells
  dsimp only
  go_upto_region 4 with (fail)
  have q1 := b6.cell 1
  have zq := b6.lt
  simp only [List.getElem?_toArray, List.getElem?_cons_zero, List.getElem?_cons_succ] at q1
  clear b6
  generalize w4.alloc (.cells #[.slice P6 p6.length pc6, .int .i64 200, .int .i64 g6, .int .i64 o6, .slice T6 t6.length tc6] TA) = W4 at *
  go_wp2_with fail
  go_ret
  exact ⟨rfl, N5.out⟩
end Go.Proofs.YtkljanjapcpbdaaDoor

/- Package fib: a table: Find. No condition but those that stand in each theorem. -/
import Derived.Test.YtkljanjapcpbdaaDoorFib6
namespace Go.Proofs.YtkljanjapcpbdaaDoor
open Go.RowKit

def fhA : Option (Nat × Int) → Int
  | none => -1
  | some (i, _) => i
def fhB : Option (Nat × Int) → Int
  | none => 0
  | some (_, h) => h

/-- What is found of an address. -/
def found (V : Fm.VM) (a : Int) : Option (Nat × Int) := if 0 ≤ a ∧ a < 4294967296 then Fm.fnd V a.toNat 33 else none

/-- .. as Find answers it. -/
def foundR (a : Int) : Option (Nat × Int) → Array Value
  | none => #[.agg #[.int .i64 0, .int .i64 0], .int .i64 0, .bool false]
  | some (i, h) => #[.agg #[.int .i64 (a - low a.toNat i), .int .i64 i], .int .i64 h, .bool true]

set_option maxHeartbeats 1000000 in
theorem find_no (a : Int) (t : Nat) (E : Nat → Addr) (V : Fm.VM) (w : World) (h2 : Sen w gBound (E 2)) (ha : ¬ (0 ≤ a ∧ a < 4294967296)) :
    Calls Tryd.prog 33 #[.pointer (some ⟨t, 0, none⟩), .int .i64 a] w fun e w1 => e = .returned (.tuple (foundR a (found V a))) ∧ New w w1 := by
  have hf : found V a = none := by unfold found; rw [if_neg ha]
  have Hf := hide hf
  have ub := (Upd.refl (fun _ => False) w).alloc (.cells #[.int .i64 0, .int .i64 0] TP)
  have Hc := hide (cut_no a 0 E (by omega) _ (h2.new ub))
  clear hf ha h2
  go_enter Tryd.func33, Tryd.ntmps33
  go_wp2_with fail
  refine Hc.out.mono ?_
  rintro e w1 ⟨rfl, hu⟩
  have zb : w.heap.size < w1.heap.size := by have := hu.size; simp at this; omega
  have bb := (Blk.new w TP #[.int .i64 0, .int .i64 0]).new_ hu
  have c0 := bb.cell 0
  have c1 := bb.cell 1
  have k0 := bb.frozen 0
  have k1 := bb.frozen 1
  simp only [List.getElem?_toArray, List.getElem?_cons_zero, List.getElem?_cons_succ] at c0 c1
  unfold errv
  go_wp2_with fail
  refine bodyPost_ret (v := .tuple #[.agg #[.int .i64 0, .int .i64 0], .int .i64 0, .bool false]) (by simp [results, Tryd.results33, go_sem, c0, c1, k0, k1, zb]) rfl ?_
  rw [Hf.out]
  refine ⟨rfl, ?_⟩
  have u1 : New w w1 := ub.trans_new hu
  exact ((u1.setCell (p := ⟨w.heap.size, 0, none⟩) (.inr (Nat.le_refl _)) _).setCell (p := ⟨w.heap.size, 1, none⟩) (.inr (Nat.le_refl _)) _).alloc _

theorem fnd_step (V : Fm.VM) (a k : Nat) (h : Int) (e : V k (Fm.top a k) = some h) : Fm.fnd V a (k + 1) = some (k, h) := by rw [Fm.fnd, e]
theorem fnd_skip (V : Fm.VM) (a k : Nat) (e : V k (Fm.top a k) = none) : Fm.fnd V a (k + 1) = Fm.fnd V a k := by rw [Fm.fnd, e]

theorem tail_none {w w1 wr W : World} (u1 : New w w1) (hnew : New w1 wr) (hw : New wr W) :
    New w (((W.setCell ⟨w.heap.size, 0, none⟩ (.int .i64 0)).setCell ⟨w.heap.size, 1, none⟩ (.int .i64 0))) :=
  ((((u1.trans_new hnew).trans_new hw).setCell (p := ⟨w.heap.size, 0, none⟩) (.inr (Nat.le_refl _)) _).setCell (p := ⟨w.heap.size, 1, none⟩) (.inr (Nat.le_refl _)) _)

theorem tail_some {w w1 wr w3 : World} {x y : Value} {o : Obj} (u1 : New w w1) (hnew : New w1 wr) (hw : New wr w3) :
    New w ((((w3.setCell ⟨w.heap.size, 0, none⟩ x).setCell ⟨w.heap.size, 1, none⟩ y).alloc o).drew) :=
  (((((u1.trans_new hnew).trans_new hw).setCell (p := ⟨w.heap.size, 0, none⟩) (.inr (Nat.le_refl _)) _).setCell (p := ⟨w.heap.size, 1, none⟩) (.inr (Nat.le_refl _)) _).alloc _).drew

theorem quiet_add_same {P : Program} {f : FuncId} {args : Array Value} {w : World} {a n : Nat} {v : Value}
    (h : Calls P f args (w.drewN (a + n)) fun e w' => e = .returned v ∧ w' = w.drewN (a + n)) :
    Calls P f args (w.drewN (a + n)) fun e w'' => e = .returned v ∧ ∃ m, w'' = w.drewN (a + m) :=
  h.mono fun _ _ ⟨he, hm⟩ => ⟨he, n, hm⟩

set_option maxHeartbeats 2000000 in
theorem find_yes (a ms cn : Int) (t r : Nat) (N : Nat → Nat → Option Nat) (V : Fm.VM) (w : World) (ha : 0 ≤ a ∧ a < 4294967296) (hT : TabAt w t ms cn r N V) :
    Calls Tryd.prog 33 #[.pointer (some ⟨t, 0, none⟩), .int .i64 a] w fun e w1 => e = .returned (.tuple (foundR a (found V a))) ∧ New w w1 := by
  have hf : found V a = Fm.fnd V a.toNat 33 := by unfold found; rw [if_pos ha]
  have Hf := hide hf
  have ub := (Upd.refl (fun _ => False) w).alloc (.cells #[.int .i64 0, .int .i64 0] TP)
  have Hc := hide (cut_yes a 0 ha (by omega) (w.alloc (.cells #[.int .i64 0, .int .i64 0] TP)))
  have Ha := hide ha
  have HT := hide (hT.new ub)
  clear hf ha hT
  go_enter Tryd.func33, Tryd.ntmps33
  go_wp2_with fail
  refine Hc.out.mono ?_
  rintro e w1 ⟨rfl, hu⟩
  have zb : w.heap.size < w1.heap.size := by have := hu.size; simp at this; omega
  have bb := (Blk.new w TP #[.int .i64 0, .int .i64 0]).new_ hu
  have T1 := HT.out.new hu
  have t0 := T1.tab.cell 0
  have zt := T1.tab.lt
  simp only [List.getElem?_toArray, List.getElem?_cons_zero, List.getElem?_cons_succ] at t0
  have HT1 := hide T1
  have Hbb := hide bb
  have u1 : New w w1 := ub.trans_new hu
  clear T1 bb ub hu
  go_wp2_with fail
  go_quiet (fail)
  go_wp2_with fail
  go_loopw [9, 10, 11, 12] (fun f h i p wr => ∃ (k : Nat), k ≤ 32 ∧ f = .int .i64 (fhA (Fm.fnd V a.toNat k)) ∧ h = .int .i64 (fhB (Fm.fnd V a.toNat k)) ∧ i = .int .i64 k ∧ p = ptr (N k (Fm.top a.toNat k)) ∧ New w1 wr) (fun _ _ i _ _ => 33 - (intOf i).toNat)
  case atStart =>
    refine ⟨0, by omega, rfl, rfl, rfl, ?_, (((Upd.refl _ _).alloc _).drewN _)⟩
    rw [top_zero a Ha.out, HT1.out.nodes.root]
    rfl
  case round =>
    obtain ⟨k, hk, rfl, rfl, rfl, rfl, hnew⟩ := hrel
    have T2 := HT1.out.new hnew
    have bb1 := Hbb.out.new_ hnew
    have c0 := bb1.cell 0
    have c1 := bb1.cell 1
    have k0 := bb1.frozen 0
    have k1 := bb1.frozen 1
    have zb1 := bb1.lt
    simp only [List.getElem?_toArray, List.getElem?_cons_zero, List.getElem?_cons_succ] at c0 c1
    obtain ⟨c, hc⟩ : ∃ c, c = N k (Fm.top a.toNat k) := ⟨_, rfl⟩
    rw [← hc]
    have Hc := hide hc
    have hN2 := T2.nodes
    rcases c with _ | b
    · have hfin : Fm.fnd V a.toNat 33 = Fm.fnd V a.toNat k := Fm.fnd_stop V a.toNat k (fun j h1 h2 => hN2.said _ _ (hN2.gone_all a k hc.symm j h1 h2)) 33 (by omega) (by omega)
      have Hfin := hide hfin
      have hlt := Fm.fnd_lt V a.toNat k
      generalize Fm.fnd V a.toNat k = o at *
      clear hc hfin T2 hN2
      simp only [ptr]
      rcases o with _ | ⟨i, h⟩
      · simp only [fhA, fhB]
        clear hlt
        go_wp2_with fail
        refine bodyPost_ret (v := .tuple #[.agg #[.int .i64 0, .int .i64 0], .int .i64 0, .bool false]) (by simp [results, Tryd.results33, go_sem, c0, c1, k0, k1, zb1]) rfl ?_
        rw [Hf.out, Hfin.out]
        exact ⟨rfl, tail_none u1 hnew (by first | exact Upd.refl _ _ | exact (Upd.refl _ _).drewN _)⟩
      · simp only [fhA, fhB]
        have hi := hlt i h rfl
        clear hlt
        go_wp2_with fail
        refine (cut_yes a i Ha.out ⟨by omega, by omega⟩ _).mono ?_
        rintro e w3 ⟨rfl, hu3⟩
        have hu4 : New wr w3 := by first | exact hu3 | exact ((Upd.refl _ _).drewN _).trans_new hu3
        have bb3 := bb1.new_ hu4
        have d0 := bb3.cell 0
        have d1 := bb3.cell 1
        have q0 := bb3.frozen 0
        have q1 := bb3.frozen 1
        have zb3 := bb3.lt
        simp only [List.getElem?_toArray, List.getElem?_cons_zero, List.getElem?_cons_succ] at d0 d1
        clear bb3 c0 c1 k0 k1 zb1
        go_wp2_with fail
        go_region
        all_goals go_wp2_with fail
        all_goals exact bodyPost_ret (v := .tuple #[.agg #[.int .i64 (a - (low a.toNat i : Int)), .int .i64 i], .int .i64 h, .bool true]) (by simp [results, Tryd.results33, go_sem, d0, d1, q0, q1, zb3]) rfl ⟨by rw [Hf.out, Hfin.out]; rfl, tail_some u1 hnew hu4⟩
    · have hb := hN2.blk _ _ _ hc.symm
      have b2 := hb.cell 2
      have b3 := hb.cell 3
      have zb3 := hb.lt
      simp only [List.getElem?_toArray, List.getElem?_cons_zero, List.getElem?_cons_succ] at b2 b3
      by_cases hk32 : k < 32
      · have hkid := hN2.kid a k b hk32 hc.symm
        have Hbit := hide (bit_q a k Ha.out ⟨by omega, by omega⟩)
        have hd := bt_lt a k
        generalize hnx : N (k + 1) (Fm.top a.toNat (k + 1)) = nx at *
        have Hnx := hide hnx
        cases hov : V k (Fm.top a.toNat k) with
        | none =>
          have hs := hide (fnd_skip V a.toNat k hov)
          rw [hov] at b2 b3
          generalize bt a k = d at *
          simp only [Option.isSome_none, Option.getD_none] at b2 b3
          clear hov hc hN2 hb T2 hnx
          simp only [ptr]
          go_wp2_with fail
          go_quiet ((go_at_call 81; exact Calls.quiet_of_same (Hbit.out _)))
          go_wp2_with fail
          exact ⟨⟨k + 1, by omega, by rw [hs.out], by rw [hs.out], by go_num, by rw [Hnx.out]; cases nx <;> rfl, hnew.drewN _⟩, by simp [intOf]; omega⟩
        | some h =>
          have hs := hide (fnd_step V a.toNat k h hov)
          rw [hov] at b2 b3
          generalize bt a k = d at *
          simp only [Option.isSome_some, Option.getD_some] at b2 b3
          clear hov hc hN2 hb T2 hnx
          simp only [ptr]
          go_wp2_with fail
          go_quiet (fail)
          go_wp2_with fail
          go_quiet ((go_at_call 81; exact quiet_add_same (Hbit.out _)))
          go_wp2_with fail
          exact ⟨⟨k + 1, by omega, by rw [hs.out]; rfl, by rw [hs.out]; rfl, by go_num, by rw [Hnx.out]; cases nx <;> rfl, hnew.drewN _⟩, by simp [intOf]; omega⟩
      · obtain rfl : k = 32 := by omega
        cases hov : V 32 (Fm.top a.toNat 32) with
        | none =>
          have hfin : Fm.fnd V a.toNat 33 = Fm.fnd V a.toNat 32 := fnd_skip V a.toNat 32 hov
          have Hfin := hide hfin
          rw [hov] at b2 b3
          have hlt := Fm.fnd_lt V a.toNat 32
          generalize Fm.fnd V a.toNat 32 = o at *
          simp only [Option.isSome_none, Option.getD_none] at b2 b3
          clear hov hc hN2 hb T2 hfin
          simp only [ptr]
          rcases o with _ | ⟨i, h⟩
          · simp only [fhA, fhB]
            clear hlt
            go_wp2_with fail
            refine bodyPost_ret (v := .tuple #[.agg #[.int .i64 0, .int .i64 0], .int .i64 0, .bool false]) (by simp [results, Tryd.results33, go_sem, c0, c1, k0, k1, zb1]) rfl ?_
            rw [Hf.out, Hfin.out]
            exact ⟨rfl, tail_none u1 hnew (by first | exact Upd.refl _ _ | exact (Upd.refl _ _).drewN _)⟩
          · simp only [fhA, fhB]
            have hi := hlt i h rfl
            clear hlt
            go_wp2_with fail
            refine (cut_yes a i Ha.out ⟨by omega, by omega⟩ _).mono ?_
            rintro e w3 ⟨rfl, hu3⟩
            have hu4 : New wr w3 := by first | exact hu3 | exact ((Upd.refl _ _).drewN _).trans_new hu3
            have bb3 := bb1.new_ hu4
            have d0 := bb3.cell 0
            have d1 := bb3.cell 1
            have q0 := bb3.frozen 0
            have q1 := bb3.frozen 1
            have zb3 := bb3.lt
            simp only [List.getElem?_toArray, List.getElem?_cons_zero, List.getElem?_cons_succ] at d0 d1
            clear bb3 c0 c1 k0 k1 zb1
            go_wp2_with fail
            go_region
            all_goals go_wp2_with fail
            all_goals exact bodyPost_ret (v := .tuple #[.agg #[.int .i64 (a - (low a.toNat i : Int)), .int .i64 i], .int .i64 h, .bool true]) (by simp [results, Tryd.results33, go_sem, d0, d1, q0, q1, zb3]) rfl ⟨by rw [Hf.out, Hfin.out]; rfl, tail_some u1 hnew hu4⟩
        | some h =>
          have Hfin := hide (fnd_step V a.toNat 32 h hov)
          rw [hov] at b2 b3
          simp only [Option.isSome_some, Option.getD_some] at b2 b3
          clear hov hc hN2 hb T2
          simp only [ptr]
          go_wp2_with fail
          go_quiet (fail)
          go_wp2_with fail
          refine (cut_yes a 32 Ha.out ⟨by omega, by omega⟩ _).mono ?_
          rintro e w3 ⟨rfl, hu3⟩
          have hu4 : New wr w3 := by first | exact hu3 | exact ((Upd.refl _ _).drewN _).trans_new hu3
          have bb3 := bb1.new_ hu4
          have d0 := bb3.cell 0
          have d1 := bb3.cell 1
          have q0 := bb3.frozen 0
          have q1 := bb3.frozen 1
          have zb3 := bb3.lt
          simp only [List.getElem?_toArray, List.getElem?_cons_zero, List.getElem?_cons_succ] at d0 d1
          clear bb3 c0 c1 k0 k1 zb1
          go_wp2_with fail
          go_region
          all_goals go_wp2_with fail
          all_goals exact bodyPost_ret (v := .tuple #[.agg #[.int .i64 (a - (low a.toNat 32 : Int)), .int .i64 32], .int .i64 h, .bool true]) (by simp [results, Tryd.results33, go_sem, d0, d1, q0, q1, zb3]) rfl ⟨by rw [Hf.out, Hfin.out]; rfl, tail_some u1 hnew hu4⟩
end Go.Proofs.YtkljanjapcpbdaaDoor

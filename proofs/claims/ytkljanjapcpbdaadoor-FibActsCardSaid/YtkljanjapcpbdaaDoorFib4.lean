/- Package fib: a table: Put. No condition but those that stand in each theorem. -/
import Derived.Test.YtkljanjapcpbdaaDoorFib3
import Derived.Test.YtkljanjapcpbdaaDoorIp4
namespace Go.Proofs.YtkljanjapcpbdaaDoor
open Go.RowKit

structure TabAt (w : World) (t : Nat) (ms n : Int) (r : Nat) (N : Nat → Nat → Option Nat) (V : Fm.VM) : Prop where
  tab : Blk w t TT #[.pointer (some ⟨r, 0, none⟩), .int .i64 ms, .int .i64 n]
  nodes : Nodes w r N V

def inT (t : Nat) (N : Nat → Nat → Option Nat) (k : Nat) : Prop := k = t ∨ inN N k

theorem TabAt.upd {S : Nat → Prop} {w w1 : World} {t r : Nat} {ms n : Int} {N : Nat → Nat → Option Nat} {V : Fm.VM} (h : TabAt w t ms n r N V) (hu : Upd S w w1) (hs : ∀ k, inT t N k → ¬ S k) : TabAt w1 t ms n r N V :=
  ⟨h.tab.upd hu (hs _ (.inl rfl)), h.nodes.upd hu fun i v b hb => hs _ (.inr ⟨i, v, hb⟩)⟩
theorem TabAt.new {w w1 : World} {t r : Nat} {ms n : Int} {N : Nat → Nat → Option Nat} {V : Fm.VM} (h : TabAt w t ms n r N V) (hu : New w w1) : TabAt w1 t ms n r N V :=
  h.upd hu fun _ _ x => x
theorem TabAt.t_notin {w : World} {t r : Nat} {ms n : Int} {N : Nat → Nat → Option Nat} {V : Fm.VM} (h : TabAt w t ms n r N V) : ¬ inN N t := by
  rintro ⟨i, v, hb⟩
  exact (h.nodes.blk _ _ _ hb).ne_ h.tab (by decide) rfl

abbrev gFull : Nat := 3

/-- The place of a prefix. -/
def at1 (V : Fm.VM) (a n : Int) : Option Int := V n.toNat (Fm.top a.toNat n.toNat)

set_option maxHeartbeats 1000000 in
theorem put_bad (a n hop : Int) (t : Nat) (E : Nat → Addr) (w : World) (h2 : Sen w gBound (E 2)) (h3 : Sen w gShape (E 3)) (h : chk a n ≠ 0) :
    Calls Tryd.prog 25 #[.pointer (some ⟨t, 0, none⟩), .agg #[.int .i64 a, .int .i64 n], .int .i64 hop] w fun e w1 => e = .returned (errv (E (chk a n))) ∧ New w w1 := by
  have h2' := h2.new ((Upd.refl (fun _ => False) w).alloc (.cells #[.int .i64 a, .int .i64 n] TP))
  have h3' := h3.new ((Upd.refl (fun _ => False) w).alloc (.cells #[.int .i64 a, .int .i64 n] TP))
  have Hc := hide (check_no a n E _ h2' h3' h)
  clear h2 h3 h h2' h3'
  go_enter Tryd.func25, Tryd.ntmps25
  go_wp2_with fail
  refine Hc.out.mono ?_
  rintro e w1 ⟨rfl, hu⟩
  unfold errv
  go_wp2_with fail
  go_ret
  exact ⟨rfl, (((Upd.refl _ _).alloc _).trans_new hu)⟩

set_option maxHeartbeats 1000000 in
theorem put_full (a n hop ms cn : Int) (t r : Nat) (N : Nat → Nat → Option Nat) (V : Fm.VM) (E : Nat → Addr) (w : World) (h2 : Sen w gBound (E 2)) (h3 : Sen w gShape (E 3)) (h7 : Sen w gFull (E 7)) (h : chk a n = 0)
    (hT : TabAt w t ms cn r N V) (hv : at1 V a n = none) (hfull : ms ≤ cn) :
    Calls Tryd.prog 25 #[.pointer (some ⟨t, 0, none⟩), .agg #[.int .i64 a, .int .i64 n], .int .i64 hop] w fun e w1 => e = .returned (errv (E 7)) ∧ New w w1 := by
  have ub := (Upd.refl (fun _ => False) w).alloc (.cells #[.int .i64 a, .int .i64 n] TP)
  have bb : Blk (w.alloc (.cells #[.int .i64 a, .int .i64 n] TP)) w.heap.size TP #[.int .i64 a, .int .i64 n] := Blk.new _ _ _
  have Hc := hide (check_yes a n E _ (h2.new ub) (h3.new ub) h)
  have HT := hide (hT.new ub)
  have H7 := hide (h7.new ub)
  have Hv := hide hv
  have Hh := hide h
  clear h2 h3 h7 h hT hv ub
  go_enter Tryd.func25, Tryd.ntmps25
  go_wp2_with fail
  refine Hc.out.mono ?_
  rintro e w1 ⟨rfl, hu⟩
  have bb1 := bb.new_ hu
  have c0 := bb1.cell 0
  have c1 := bb1.cell 1
  have zb := bb1.lt
  simp only [List.getElem?_toArray, List.getElem?_cons_zero, List.getElem?_cons_succ] at c0 c1
  go_wp2_with fail
  have T1 := HT.out.new hu
  have S7 : Sen w1 gFull (E 7) := H7.out.new hu
  refine (at_find a n t r _ _ N V Hh.out _ T1.tab T1.nodes).mono ?_
  rintro e w2 ⟨rfl, hu2⟩
  have T2 := T1.new hu2
  have t1 := T2.tab.cell 1
  have t2 := T2.tab.cell 2
  have S7' := S7.new hu2
  have zt := T2.tab.lt
  have z7 : 3 < w2.heap.size := S7'.lt
  have c7 : w2.cell? ⟨3, 0, none⟩ = some (errv (E 7)) := S7'
  simp only [List.getElem?_toArray, List.getElem?_cons_zero, List.getElem?_cons_succ] at t1 t2
  have fin : New w w2 := (((Upd.refl _ _).alloc _).trans_new hu).trans_new hu2
  obtain ⟨c, hc⟩ : ∃ c, c = N n.toNat (Fm.top a.toNat n.toNat) := ⟨_, rfl⟩
  have Hc := hide hc
  rw [← hc]
  have hN2 := T2.nodes
  cases c with
  | none =>
    clear hc T1 T2 S7 S7' hN2
    simp only [ptr]
    go_wp2_with fail
    go_quiet (fail)
    go_wp2_with fail
    go_ret
    exact ⟨rfl, fin.drewN _⟩
  | some b =>
    have hb := hN2.blk _ _ _ hc.symm
    have b2 := hb.cell 2
    have zb2 := hb.lt
    have e : V n.toNat (Fm.top a.toNat n.toNat) = none := Hv.out
    rw [e] at b2
    simp only [List.getElem?_toArray, List.getElem?_cons_zero, List.getElem?_cons_succ, Option.isSome_none] at b2
    clear hc T1 T2 S7 S7' hN2 hb e
    simp only [ptr]
    go_wp2_with fail
    go_quiet (fail)
    go_wp2_with fail
    go_ret
    exact ⟨rfl, fin.drewN _⟩
end Go.Proofs.YtkljanjapcpbdaaDoor

/- Package herepathlaw2: faulted. No condition but those that stand in each theorem. -/
import Derived.Test.YtkljanjapcpbdaaDoorPc3
import Derived.Test.YtkljanjapcpbdaaDoorSl
import Derived.Test.YtkljanjapcpbdaaDoorRf2
namespace Go.Proofs.YtkljanjapcpbdaaDoor
open Go.RowKit

set_option maxHeartbeats 1000000 in
theorem faulted2_any (v : Value) (k : Nat) (i c a : Int) (w : World) (E : Nat → Addr) (h : Errs w E) (hv : ErrV w E v k i) :
    Calls Tryd.prog 53 #[v, .agg #[.int .i64 c, .int .i64 a]] w fun e w1 => e = .returned (.bool (decide ((k : Int) = c ∧ (k = 0 ∨ i = a)))) ∧ New w w1 := by
  have u := (Upd.refl (fun _ => False) w).alloc (.cells #[.int .i64 c, .int .i64 a] 65)
  have Hb := hide (Blk.new w 65 #[.int .i64 c, .int .i64 a])
  have Hc := hide (code_any v k i _ E (h.new u) (hv.new u))
  have Hu := hide u
  clear h hv u
  by_cases h1 : (k : Int) = c
  · subst h1
    by_cases h0 : k = 0
    · subst h0
      go_enter Tryd.func53, Tryd.ntmps53
      go_wp2_with fail
      refine Hc.out.mono ?_
      rintro e w1 ⟨rfl, hu⟩
      have b1 := Hb.out.new_ hu
      have c0 := b1.cell 0
      have c1 := b1.cell 1
      simp only [List.getElem?_toArray, List.getElem?_cons_zero, List.getElem?_cons_succ] at c0 c1
      clear b1
      go_wp2_with fail
      go_ret
      exact ⟨ret_bool (by simp), Hu.out.trans_new hu⟩
    · have b0 : ((k : Int) == 0) = false := by simpa using h0
      have H0 := hide h0
      clear h0
      by_cases h2 : i = a
      · subst h2
        go_enter Tryd.func53, Tryd.ntmps53
        go_wp2_with fail
        refine Hc.out.mono ?_
        rintro e w1 ⟨rfl, hu⟩
        have b1 := Hb.out.new_ hu
        have c0 := b1.cell 0
        have c1 := b1.cell 1
        simp only [List.getElem?_toArray, List.getElem?_cons_zero, List.getElem?_cons_succ] at c0 c1
        clear b1
        go_wp2_with fail
        go_ret
        exact ⟨ret_bool (by simp), Hu.out.trans_new hu⟩
      · have b2 : (i == a) = false := by simpa using h2
        have H2 := hide h2
        clear h2
        go_enter Tryd.func53, Tryd.ntmps53
        go_wp2_with fail
        refine Hc.out.mono ?_
        rintro e w1 ⟨rfl, hu⟩
        have b1 := Hb.out.new_ hu
        have c0 := b1.cell 0
        have c1 := b1.cell 1
        simp only [List.getElem?_toArray, List.getElem?_cons_zero, List.getElem?_cons_succ] at c0 c1
        clear b1
        go_wp2_with fail
        go_ret
        exact ⟨ret_bool (by have h2 := H2.out; have h0 := H0.out; simp [h2, h0]), Hu.out.trans_new hu⟩
  · have b1 : ((k : Int) == c) = false := by simpa using h1
    have H1 := hide h1
    clear h1
    go_enter Tryd.func53, Tryd.ntmps53
    go_wp2_with fail
    refine Hc.out.mono ?_
    rintro e w1 ⟨rfl, hu⟩
    have b1 := Hb.out.new_ hu
    have c0 := b1.cell 0
    have c1 := b1.cell 1
    simp only [List.getElem?_toArray, List.getElem?_cons_zero, List.getElem?_cons_succ] at c0 c1
    clear b1
    go_wp2_with fail
    go_ret
    exact ⟨ret_bool (by have := H1.out; simp [this]), Hu.out.trans_new hu⟩
theorem faulted2_same (v : Value) (c : Nat × Int) (w : World) (E : Nat → Addr) (h : Errs w E) (hv : ErrV w E v c.1 c.2) : Calls Tryd.prog 53 #[v, faultV c] w fun e w1 => e = .returned (.bool true) ∧ New w w1 := by
  have := faulted2_any v c.1 c.2 c.1 c.2 w E h hv
  rw [decide_eq_true ⟨rfl, .inr rfl⟩] at this
  exact this
end Go.Proofs.YtkljanjapcpbdaaDoor

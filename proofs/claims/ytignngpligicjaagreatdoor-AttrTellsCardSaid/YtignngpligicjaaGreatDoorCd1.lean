/- Package herepathlaw1: coded and faulted. No condition but those that stand in each theorem. -/
import Derived.Test.YtignngpligicjaaGreatDoorPc1
import Derived.Test.YtignngpligicjaaGreatDoorSl
namespace Go.Proofs.YtignngpligicjaaGreatDoor
open Go.RowKit

set_option maxHeartbeats 1000000 in
theorem coded1_any (v : Value) (k : Nat) (i c : Int) (w : World) (E : Nat → Addr) (h : Errs w E) (hv : ErrV w E v k i) :
    Calls Tryz.prog 9 #[v, .int .i64 c] w fun e w1 => e = .returned (.bool (decide ((k : Int) = c ∧ i = -1))) ∧ New w w1 := by
  have Hc := hide (code_any v k i w E h hv)
  clear h hv
  by_cases h1 : (k : Int) = c
  · subst h1
    by_cases h2 : i = -1
    · subst h2
      go_enter Tryz.func9, Tryz.ntmps9
      go_wp2_with fail
      refine Hc.out.mono ?_
      rintro e w1 ⟨rfl, hu⟩
      go_wp2_with fail
      go_ret
      exact ⟨ret_bool (by simp), hu⟩
    · have b2 : (i == -1) = false := by simpa using h2
      have H2 := hide h2
      clear h2
      go_enter Tryz.func9, Tryz.ntmps9
      go_wp2_with fail
      refine Hc.out.mono ?_
      rintro e w1 ⟨rfl, hu⟩
      go_wp2_with fail
      go_ret
      exact ⟨ret_bool (by have := H2.out; simp [this]), hu⟩
  · have b1 : ((k : Int) == c) = false := by simpa using h1
    have H1 := hide h1
    clear h1
    go_enter Tryz.func9, Tryz.ntmps9
    go_wp2_with fail
    refine Hc.out.mono ?_
    rintro e w1 ⟨rfl, hu⟩
    go_wp2_with fail
    go_ret
    exact ⟨ret_bool (by have := H1.out; simp [this]), hu⟩

set_option maxHeartbeats 1000000 in
theorem faulted1_any (v : Value) (k : Nat) (i c a : Int) (w : World) (E : Nat → Addr) (h : Errs w E) (hv : ErrV w E v k i) :
    Calls Tryz.prog 32 #[v, .agg #[.int .i64 c, .int .i64 a]] w fun e w1 => e = .returned (.bool (decide ((k : Int) = c ∧ (k = 0 ∨ i = a)))) ∧ New w w1 := by
  have u := (Upd.refl (fun _ => False) w).alloc (.cells #[.int .i64 c, .int .i64 a] 51)
  have Hb := hide (Blk.new w 51 #[.int .i64 c, .int .i64 a])
  have Hc := hide (code_any v k i _ E (h.new u) (hv.new u))
  have Hu := hide u
  clear h hv u
  by_cases h1 : (k : Int) = c
  · subst h1
    by_cases h0 : k = 0
    · subst h0
      go_enter Tryz.func32, Tryz.ntmps32
      go_wp2_with fail
      refine Hc.out.mono ?_
      rintro e w1 ⟨rfl, hu⟩
      have b1 := Hb.out.new_ hu
      have c0 := b1.cell 0
      have c1 := b1.cell 1
      simp only [List.getElem?_toArray, List.getElem?_cons_zero, List.getElem?_cons_succ] at c0 c1
      clear b1
      go_wp2_with fail
      go_ret
      exact ⟨ret_bool (by simp), Hu.out.trans_new hu⟩
    · have b0 : ((k : Int) == 0) = false := by simpa using h0
      have H0 := hide h0
      clear h0
      by_cases h2 : i = a
      · subst h2
        go_enter Tryz.func32, Tryz.ntmps32
        go_wp2_with fail
        refine Hc.out.mono ?_
        rintro e w1 ⟨rfl, hu⟩
        have b1 := Hb.out.new_ hu
        have c0 := b1.cell 0
        have c1 := b1.cell 1
        simp only [List.getElem?_toArray, List.getElem?_cons_zero, List.getElem?_cons_succ] at c0 c1
        clear b1
        go_wp2_with fail
        go_ret
        exact ⟨ret_bool (by simp), Hu.out.trans_new hu⟩
      · have b2 : (i == a) = false := by simpa using h2
        have H2 := hide h2
        clear h2
        go_enter Tryz.func32, Tryz.ntmps32
        go_wp2_with fail
        refine Hc.out.mono ?_
        rintro e w1 ⟨rfl, hu⟩
        have b1 := Hb.out.new_ hu
        have c0 := b1.cell 0
        have c1 := b1.cell 1
        simp only [List.getElem?_toArray, List.getElem?_cons_zero, List.getElem?_cons_succ] at c0 c1
        clear b1
        go_wp2_with fail
        go_ret
        exact ⟨ret_bool (by have h2 := H2.out; have h0 := H0.out; simp [h2, h0]), Hu.out.trans_new hu⟩
  · have b1 : ((k : Int) == c) = false := by simpa using h1
    have H1 := hide h1
    clear h1
    go_enter Tryz.func32, Tryz.ntmps32
    go_wp2_with fail
    refine Hc.out.mono ?_
    rintro e w1 ⟨rfl, hu⟩
    have b1 := Hb.out.new_ hu
    have c0 := b1.cell 0
    have c1 := b1.cell 1
    simp only [List.getElem?_toArray, List.getElem?_cons_zero, List.getElem?_cons_succ] at c0 c1
    clear b1
    go_wp2_with fail
    go_ret
    exact ⟨ret_bool (by have := H1.out; simp [this]), Hu.out.trans_new hu⟩
end Go.Proofs.YtignngpligicjaaGreatDoor

/- Slices of ints: Index, Contains, Equal; isNaN, cmp.Less; package rule: in; package attr: Through, Same. No condition but those that stand in each theorem. -/
import Derived.Test.YtignngpligicjaaGreatDoorRs1
import Derived.Test.YtignngpligicjaaGreatDoorAt2
namespace Go.Proofs.YtignngpligicjaaGreatDoor
open Go.RowKit

set_option maxHeartbeats 1000000 in
theorem idxInt_any (A : Option Addr) (n c : Nat) (xs : List Int) (v : Int) (w : World) (hx : Ints w A xs) (hn : xs.length = n) (hl : n ≤ 1000000) :
    Calls Tryz.prog 130 #[.slice A n c, .int .i64 v] w fun e w1 => e = .returned (.int .i64 (idxB (fun x => decide (v = x)) xs)) ∧ w = w1 := by
  have Hx := hide hx
  have Hn := hide hn
  clear hx hn
  go_enter Tryz.func130, Tryz.ntmps130
  go_wp2_with fail
  go_loop [8] (fun i => ∃ k : Nat, k ≤ n ∧ i = .int .i64 k ∧ ∀ (j : Nat) x, j < k → xs[j]? = some x → decide (v = x) = false) (fun i => n - (intOf i).toNat)
  case atStart => exact ⟨0, by omega, rfl, fun j x h => absurd h (by omega)⟩
  case round =>
    obtain ⟨k, hk, rfl, hz⟩ := hrel
    have Hz := hide hz
    clear hz
    by_cases hlt : k < n
    · obtain ⟨b, o, x, rfl, hb, hxk, hcx⟩ := Hx.out.at_ (k := k) (by have := Hn.out; omega)
      have Hxk := hide hxk
      have i1 : (k : Int) < (n : Int) := by omega
      clear hxk
      by_cases hd : v = x
      · subst hd
        go_wp2_with fail
        go_ret
        exact ⟨ret_int (idxB_at (fun x => decide (v = x)) xs k v Hxk.out (decide_eq_true rfl) Hz.out).symm, rfl⟩
      · have Hd := hide (decide_eq_false hd)
        have hbq : (v == x) = false := by simpa using hd
        go_wp2_with fail
        refine ⟨⟨k + 1, by omega, by go_num, fun j y hj hy => ?_⟩, by simp [intOf]; omega⟩
        by_cases hjk : j < k
        · exact Hz.out j y hjk hy
        · obtain rfl : j = k := by omega
          rw [Hxk.out] at hy; injection hy with hy; subst hy; exact Hd.out
    · have hkn : k = n := by omega
      subst hkn
      go_wp2_with fail
      go_ret
      exact ⟨ret_int (idxB_no (fun x => decide (v = x)) xs fun j y hy => Hz.out j y (by have := (List.getElem?_eq_some_iff.1 hy).1; have := Hn.out; omega) hy).symm, rfl⟩

theorem containsInt_any (A : Option Addr) (n c : Nat) (xs : List Int) (v : Int) (w : World) (hx : Ints w A xs) (hn : xs.length = n) (hl : n ≤ 1000000) :
    Calls Tryz.prog 99 #[.slice A n c, .int .i64 v] w fun e w1 => e = .returned (.bool (xs.any fun x => decide (v = x))) ∧ w = w1 := by
  have Hc := hide (idxInt_any A n c xs v w hx hn hl)
  clear hx hn
  go_enter Tryz.func99, Tryz.ntmps99
  go_wp2_with fail
  refine Hc.out.mono ?_
  rintro e w1 ⟨rfl, rfl⟩
  go_wp2_with fail
  go_ret
  exact ⟨ret_bool (idxB_any _ _), rfl⟩

theorem isNaN_any (v : Int) (w : World) : Calls Tryz.prog 127 #[.int .i64 v] w fun e w1 => e = .returned (.bool false) ∧ w = w1 := by
  have hne : (v != v) = false := by simp
  go_enter Tryz.func127, Tryz.ntmps127
  go_wp2
  go_ret
  exact ⟨rfl, rfl⟩

theorem cmpNaN_any (v : Int) (w : World) : Calls Tryz.prog 145 #[.int .i64 v] w fun e w1 => e = .returned (.bool false) ∧ w = w1 := by
  have hne : (v != v) = false := by simp
  go_enter Tryz.func145, Tryz.ntmps145
  go_wp2
  go_ret
  exact ⟨rfl, rfl⟩

set_option maxHeartbeats 1000000 in
theorem cmpLess_any (a b : Int) (w : World) : Calls Tryz.prog 126 #[.int .i64 a, .int .i64 b] w fun e w1 => e = .returned (.bool (decide (a < b))) ∧ w = w1 := by
  have Ha := hide (cmpNaN_any a w)
  have Hb := hide (cmpNaN_any b w)
  by_cases h : a < b
  · have hd : decide (a < b) = true := decide_eq_true h
    have Hd := hide hd
    clear hd
    go_enter Tryz.func126, Tryz.ntmps126
    go_wp2_with (go_at_call 145; first | (refine Ha.out.mono ?_; rintro e w1 ⟨rfl, rfl⟩) | (refine Hb.out.mono ?_; rintro e w1 ⟨rfl, rfl⟩))
    go_ret
    first | exact ⟨ret_bool Hd.out.symm, rfl⟩ | exact ⟨rfl, rfl⟩
  · have hd : decide (a < b) = false := decide_eq_false h
    have Hd := hide hd
    clear hd
    go_enter Tryz.func126, Tryz.ntmps126
    go_wp2_with (go_at_call 145; first | (refine Ha.out.mono ?_; rintro e w1 ⟨rfl, rfl⟩) | (refine Hb.out.mono ?_; rintro e w1 ⟨rfl, rfl⟩))
    go_ret
    first | exact ⟨ret_bool Hd.out.symm, rfl⟩ | exact ⟨rfl, rfl⟩

set_option maxHeartbeats 1000000 in
theorem equalInt_any (A B : Option Addr) (n m c d : Nat) (xs ys : List Int) (w : World) (hx : Ints w A xs) (hy : Ints w B ys) (hn : xs.length = n) (hm : ys.length = m) (hl : n ≤ 1000000) (hl2 : m ≤ 1000000) :
    Calls Tryz.prog 98 #[.slice A n c, .slice B m d] w fun e w1 => e = .returned (.bool (decide (xs = ys))) ∧ New w w1 := by
  have Hx := hide hx
  have Hy := hide hy
  have Hn := hide hn
  have Hm := hide hm
  clear hx hy hn hm
  by_cases hnm : n = m
  · subst hnm
    go_enter Tryz.func98, Tryz.ntmps98
    go_wp2_with fail
    go_loopw [13] (fun i wr => ∃ k : Nat, k ≤ n ∧ i = .int .i64 k ∧ New w wr ∧ ∀ j : Nat, j < k → xs[j]? = ys[j]?) (fun i _ => n - (intOf i).toNat)
    case atStart => exact ⟨0, by omega, rfl, Upd.refl _ _, fun j h => absurd h (by omega)⟩
    case round =>
      obtain ⟨k, hk, rfl, hnew, hz⟩ := hrel
      have Hz := hide hz
      clear hz
      by_cases hlt : k < n
      · obtain ⟨b, o, x, rfl, hb, hxk, hcx⟩ := (Hx.out.new_ hnew).at_ (k := k) (by have := Hn.out; omega)
        obtain ⟨b2, o2, y, rfl, hb2, hyk, hcy⟩ := (Hy.out.new_ hnew).at_ (k := k) (by have := Hm.out; omega)
        have Hxk := hide hxk
        have Hyk := hide hyk
        clear hxk hyk
        have i1 : (k : Int) < (n : Int) := by omega
        by_cases he : x = y
        · subst he
          have hne : (x != x) = false := by simp
          go_wp2_with fail
          go_quiet (fail)
          go_wp2_with fail
          refine ⟨⟨k + 1, by omega, by go_num, ?_, fun j hj => ?_⟩, by simp [intOf]; omega⟩
          · exact hnew.drewN _
          · by_cases hjk : j < k
            · exact Hz.out j hjk
            · obtain rfl : j = k := by omega
              rw [Hxk.out, Hyk.out]
        · have hne : (x != y) = true := by simpa using he
          have He := hide he
          clear he
          go_wp2_with fail
          go_quiet (fail)
          go_wp2_with fail
          go_ret
          refine ⟨ret_bool (decide_eq_false ?_).symm, hnew.drewN _⟩
          intro hxy
          have h1 := Hxk.out
          rw [hxy, Hyk.out] at h1
          injection h1 with h1
          exact He.out h1.symm
      · have hkn : k = n := by omega
        subst hkn
        go_wp2_with fail
        go_ret
        refine ⟨ret_bool (decide_eq_true ?_).symm, hnew⟩
        refine List.ext_getElem? fun j => ?_
        by_cases hj : j < k
        · exact Hz.out j hj
        · rw [List.getElem?_eq_none (by have := Hn.out; omega), List.getElem?_eq_none (by have := Hm.out; omega)]
  · have hb : decide ((n : Int) = (m : Int)) = false := by simp; omega
    have hb2 : ((n : Int) != (m : Int)) = true := by simp; omega
    have Hnm := hide hnm
    clear hnm
    go_enter Tryz.func98, Tryz.ntmps98
    go_wp2_with fail
    go_ret
    refine ⟨ret_bool (decide_eq_false ?_).symm, Upd.refl _ _⟩
    rintro rfl
    exact Hnm.out (Hn.out.symm.trans Hm.out)

set_option maxHeartbeats 1000000 in
theorem through_any (a : AttrR) (v : Int) (w : World) (ha : AttrOk w a) (hl : a.path.length ≤ 1000) :
    Calls Tryz.prog 57 #[.agg a.cells, .int .i64 v] w fun e w1 => e = .returned (.bool (a.path.any fun x => decide (v = x))) ∧ New w w1 := by
  have u := (Upd.refl (fun _ => False) w).alloc (.cells a.cells TA)
  have Hc := hide (containsInt_any a.P a.path.length a.pc a.path v _ (ha.path.new_ u) rfl (by omega))
  have Hu := hide u
  clear u ha
  unfold AttrR.cells at *
  go_enter Tryz.func57, Tryz.ntmps57
  go_wp2_with fail
  refine Hc.out.mono ?_
  rintro e w1 ⟨rfl, rfl⟩
  go_wp2_with fail
  go_ret
  exact ⟨rfl, Hu.out⟩
end Go.Proofs.YtignngpligicjaaGreatDoor

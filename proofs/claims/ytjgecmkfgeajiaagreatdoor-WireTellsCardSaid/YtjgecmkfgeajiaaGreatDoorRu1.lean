/- Slices of ints: Index, Contains, Equal; isNaN, cmp.Less; package rule: in; package attr: Through, Same. No condition but those that stand in each theorem. -/
import Derived.Test.YtjgecmkfgeajiaaGreatDoorRs1
import Derived.Test.YtjgecmkfgeajiaaGreatDoorAt2
import Derived.Test.YtjgecmkfgeajiaaGreatDoorOw1
import Derived.Lib.SliceRun
namespace Go.Proofs.YtjgecmkfgeajiaaGreatDoor
open Go.RowKit

theorem cmpNaN_any (v : Int) (w : World) : Calls Tryz.prog 128 #[.int .i64 v] w fun e w1 => e = .returned (.bool false) ∧ w = w1 := by
  have hne : (v != v) = false := by simp
  go_enter Tryz.func128, Tryz.ntmps128
  go_wp2
  go_ret
  exact ⟨rfl, rfl⟩

set_option maxHeartbeats 1000000 in
theorem equalInt_any (A B : Option Addr) (n m c d : Nat) (xs ys : List Int) (w : World) (hx : Ints w A xs) (hy : Ints w B ys) (hn : xs.length = n) (hm : ys.length = m) (hl : n ≤ 1000000) (hl2 : m ≤ 1000000) :
    Calls Tryz.prog 37 #[.slice A n c, .slice B m d] w fun e w1 => e = .returned (.bool (decide (xs = ys))) ∧ New w w1 := by
  have Hx := hide hx
  have Hy := hide hy
  have Hn := hide hn
  have Hm := hide hm
  clear hx hy hn hm
  by_cases hnm : n = m
  · subst hnm
    go_enter Tryz.func37, Tryz.ntmps37
    go_wp2_with fail
    go_loopw [13] (fun i wr => ∃ k : Nat, k ≤ n ∧ i = .int .i64 k ∧ New w wr ∧ ∀ j : Nat, j < k → xs[j]? = ys[j]?) (fun i _ => n - (intOf i).toNat)
    case atStart => exact ⟨0, by omega, rfl, Upd.refl _ _, fun j h => absurd h (by omega)⟩
    case round =>
      obtain ⟨k, hk, rfl, hnew, hz⟩ := hrel
      have Hz := hide hz
      clear hz
      by_cases hlt : k < n
      · obtain ⟨b, o, x, rfl, hb, hxk, hcx⟩ := (Hx.out.new_ hnew).at_ (k := k) (by have := Hn.out; omega)
        obtain ⟨b2, o2, y, rfl, hb2, hyk, hcy⟩ := (Hy.out.new_ hnew).at_ (k := k) (by have := Hm.out; omega)
        have Hxk := hide hxk
        have Hyk := hide hyk
        clear hxk hyk
        have i1 : (k : Int) < (n : Int) := by omega
        by_cases he : x = y
        · subst he
          have hne : (x != x) = false := by simp
          go_wp2_with fail
          go_quiet (fail)
          go_wp2_with fail
          refine ⟨⟨k + 1, by omega, by go_num, ?_, fun j hj => ?_⟩, by simp [intOf]; omega⟩
          · exact hnew.drewN _
          · by_cases hjk : j < k
            · exact Hz.out j hjk
            · obtain rfl : j = k := by omega
              rw [Hxk.out, Hyk.out]
        · have hne : (x != y) = true := by simpa using he
          have He := hide he
          clear he
          go_wp2_with fail
          go_quiet (fail)
          go_wp2_with fail
          go_ret
          refine ⟨ret_bool (decide_eq_false ?_).symm, hnew.drewN _⟩
          intro hxy
          have h1 := Hxk.out
          rw [hxy, Hyk.out] at h1
          injection h1 with h1
          exact He.out h1.symm
      · have hkn : k = n := by omega
        subst hkn
        go_wp2_with fail
        go_ret
        refine ⟨ret_bool (decide_eq_true ?_).symm, hnew⟩
        refine List.ext_getElem? fun j => ?_
        by_cases hj : j < k
        · exact Hz.out j hj
        · rw [List.getElem?_eq_none (by have := Hn.out; omega), List.getElem?_eq_none (by have := Hm.out; omega)]
  · have hb : decide ((n : Int) = (m : Int)) = false := by simp; omega
    have hb2 : ((n : Int) != (m : Int)) = true := by simp; omega
    have Hnm := hide hnm
    clear hnm
    go_enter Tryz.func37, Tryz.ntmps37
    go_wp2_with fail
    go_ret
    refine ⟨ret_bool (decide_eq_false ?_).symm, Upd.refl _ _⟩
    rintro rfl
    exact Hnm.out (Hn.out.symm.trans Hm.out)

end Go.Proofs.YtjgecmkfgeajiaaGreatDoor

namespace Go.Proofs.YtjgecmkfgeajiaaGreatDoor
open Go.RowKit

theorem ownLt {w : World} {base : Nat} {e : TypeId} {size n : Nat} {v : Value} {xs : List Value} (h : w.ownsRow base e size v n xs) {g : Nat} (hg : v.ownBlock = some g) : g < w.heap.size := by
  rcases h.2 with ⟨rfl, _⟩ | ⟨g1, cap, cur, rfl, hb, hh, _⟩
  · simp [Value.ownBlock] at hg
  · have : g1 = g := by simpa [Value.ownBlock] using hg
    subst this
    rcases Nat.lt_or_ge g1 w.heap.size with hlt | hge
    · exact hlt
    · rw [Array.getElem?_eq_none hge] at hh; cases hh
theorem ownKeep {S : Nat → Prop} {w w1 : World} {base : Nat} {e : TypeId} {size n : Nat} {v : Value} {xs : List Value} (h : w.ownsRow base e size v n xs) (hu : Upd S w w1) (hn : ∀ g, v.ownBlock = some g → ¬ S g) : w1.ownsRow base e size v n xs := by
  have hlt := fun g (hg : v.ownBlock = some g) => ownLt h hg
  obtain ⟨h1, h2⟩ := h
  refine ⟨h1, ?_⟩
  rcases h2 with h2 | ⟨g, cap, cur, rfl, hg, hh, r⟩
  · exact .inl h2
  · exact .inr ⟨g, cap, cur, rfl, hg, (hu.block g (hlt g (by simp [Value.ownBlock])) (hn g (by simp [Value.ownBlock]))).trans hh, r⟩
theorem copy_upd (w : World) (M : Nat) (x0 x4 y0 y1 y2 y3 y4 : Value) :
    Upd (fun b => b = M ∨ b = M + 1) w (((((((w.setCell ⟨M, 0, none⟩ x0).setCell ⟨M, 4, none⟩ x4).setCell ⟨M + 1, 0, none⟩ y0).setCell ⟨M + 1, 1, none⟩ y1).setCell ⟨M + 1, 2, none⟩ y2).setCell ⟨M + 1, 3, none⟩ y3).setCell ⟨M + 1, 4, none⟩ y4) :=
  (((((((Upd.refl (fun b => b = M ∨ b = M + 1) w).setCell (p := ⟨M, 0, none⟩) (.inl (.inl rfl)) x0).setCell (p := ⟨M, 4, none⟩) (.inl (.inl rfl)) x4).setCell (p := ⟨M + 1, 0, none⟩) (.inl (.inr rfl)) y0).setCell (p := ⟨M + 1, 1, none⟩) (.inl (.inr rfl)) y1).setCell (p := ⟨M + 1, 2, none⟩) (.inl (.inr rfl)) y2).setCell (p := ⟨M + 1, 3, none⟩) (.inl (.inr rfl)) y3).setCell (p := ⟨M + 1, 4, none⟩) (.inl (.inr rfl)) y4

end Go.Proofs.YtjgecmkfgeajiaaGreatDoor

/- Package fib: All; is an entry among others. No condition but those that stand in each theorem. -/
import Derived.Test.YtkljanjapcpbdaaDoorFb2
import Derived.Test.YtkljanjapcpbdaaDoorLs
import Derived.Test.YtkljanjapcpbdaaDoorFoA
import Derived.Test.YtkljanjapcpbdaaDoorEq
namespace Go.Proofs.YtkljanjapcpbdaaDoor
open Go.RowKit

set_option maxHeartbeats 1000000 in
theorem all_tab (B : Nat) (E : Nat → Addr) (ms cn : Int) (t : Nat) (V : Fm.VM) (F : Nat → Prop) (w : World) (hT : TabB B w t ms cn V F) (h2 : Sen w gBound (E 2)) (h3 : Sen w gShape (E 3)) (h5 : Sen w gNone (E 5)) (hlen : (lst V 33 0 0).length ≤ 1000) :
    Calls Tryd.prog 36 #[.pointer (some ⟨t, 0, none⟩)] w fun e w1 =>
      ∃ out, e = .returned out ∧ w1.ownsRow w.heap.size TE 3 out (lst V 33 0 0).length (cells3 (lst V 33 0 0)) ∧ New w w1 := by
  obtain ⟨r, N, hT1, rfl⟩ := hT.ex
  have t0 := hT1.tab.cell 0
  have zt := hT1.tab.lt
  simp only [List.getElem?_toArray, List.getElem?_cons_zero, List.getElem?_cons_succ] at t0
  have hc := all_any w.heap.size E V N r h2.lt h3.lt h5.lt 33 0 0 0 (.slice none 0 0) [] w (by omega) (by omega) (by decide) hT1.nodes ⟨by simp, .inl ⟨rfl, rfl⟩⟩ h2 h3 h5 (by omega) (Nat.le_refl _)
  rw [hT1.nodes.root, show adr 0 0 = 0 from rfl] at hc
  simp only [ptr] at hc
  have Hc := hide hc
  clear hc hT hT1 h2 h3 h5 hlen
  go_enter Tryd.func36, Tryd.ntmps36
  go_wp2_with fail
  refine Hc.out.mono ?_
  rintro e w1 ⟨o1, rfl, own1, hu, _⟩
  have Own1 := hide own1
  clear own1
  go_wp2_with fail
  go_ret
  refine ⟨o1, rfl, ?_, hu.mono fun k _ hk => by simp [Value.ownBlock] at hk⟩
  simpa using Own1.out

/-- An entry, by value. -/
def ev (x : E3) : Value := .agg #[.int .i64 x.a, .int .i64 x.n, .int .i64 x.h]

set_option maxHeartbeats 1000000 in
theorem set1_any (x y : E3) (q : Nat) (w : World) (hq : Blk w q TE #[.int .i64 y.a, .int .i64 y.n, .int .i64 y.h]) :
    Calls Tryd.prog 79 #[.agg #[.int .i64 x.a, .int .i64 x.n, .int .i64 x.h], .pointer (some ⟨q, 0, none⟩)] w fun e w1 => e = .returned (.bool (x.a == y.a && x.n == y.n)) ∧ New w w1 := by
  have c0 := hq.cell 0
  have c1 := hq.cell 1
  have zq := hq.lt
  simp only [List.getElem?_toArray, List.getElem?_cons_zero, List.getElem?_cons_succ] at c0 c1
  have g1 := guard_pfx
  have g2 := eql_pfx
  clear hq
  go_enter Tryd.func79, Tryd.ntmps79
  go_wp2_with fail
  go_ret
  exact ⟨rfl, (Upd.refl _ _).alloc _⟩

/-- Same place. -/
def sameP (y x : E3) : Bool := x.a == y.a && x.n == y.n

set_option maxHeartbeats 1000000 in
theorem idx_entry (b o c q : Nat) (xs : List E3) (y : E3) (w : World) (hx : Ents w b o xs) (hb : b < w.heap.size) (hq : Blk w q TE #[.int .i64 y.a, .int .i64 y.n, .int .i64 y.h]) (hl : xs.length ≤ 1000) :
    Calls Tryd.prog 128 #[.slice (some ⟨b, o, none⟩) xs.length c, .func (.func 79) #[] #[.pointer (some ⟨q, 0, none⟩)]] w fun e w1 => e = .returned (.int .i64 (idxB (sameP y) xs)) ∧ New w w1 := by
  have Hx := hide hx
  have Hq := hide hq
  generalize hlen : xs.length = len at *
  have Hlen := hide hlen
  clear hx hq hlen
  go_enter Tryd.func128, Tryd.ntmps128
  go_wp2_with fail
  go_loopw [8] (fun i wr => ∃ k : Nat, k ≤ len ∧ i = .int .i64 k ∧ New w wr ∧ ∀ j x, j < k → xs[j]? = some x → sameP y x = false) (fun i _ => len - (intOf i).toNat)
  case atStart => exact ⟨0, by omega, rfl, Upd.refl _ _, fun j x h => absurd h (by omega)⟩
  case round =>
    obtain ⟨k, hk, rfl, hnew, hz⟩ := hrel
    have Hz := hide hz
    clear hz
    by_cases hlt : k < len
    · obtain ⟨x, hxk⟩ : ∃ x, xs[k]? = some x := ⟨_, List.getElem?_eq_getElem (by have := Hlen.out; omega)⟩
      obtain ⟨p1, p2, p3⟩ := Hx.out.upd hnew hb (fun h => h) k x hxk
      have Hxk := hide hxk
      have hc := set1_any x y q wr (Hq.out.new_ hnew)
      have i1 : (k : Int) < (len : Int) := by omega
      have zb : b < wr.heap.size := Nat.lt_of_lt_of_le hb hnew.size
      clear hxk
      cases hs : sameP y x with
      | true =>
        have hs2 : (x.a == y.a && x.n == y.n) = true := hs
        rw [hs2] at hc
        have Hc := hide hc
        have Hs := hide hs
        clear hs hs2 hc
        go_wp2_with fail
        refine Hc.out.mono ?_
        rintro e w2 ⟨rfl, hu2⟩
        go_wp2_with fail
        go_ret
        exact ⟨by rw [idxB_at (sameP y) xs k x Hxk.out Hs.out Hz.out]; rfl, hnew.trans_new hu2⟩
      | false =>
        have hs2 : (x.a == y.a && x.n == y.n) = false := hs
        rw [hs2] at hc
        have Hc := hide hc
        have Hs := hide hs
        clear hs hs2 hc
        go_wp2_with fail
        refine Hc.out.mono ?_
        rintro e w2 ⟨rfl, hu2⟩
        go_wp2_with fail
        refine ⟨⟨k + 1, by omega, by go_num, hnew.trans_new hu2, ?_⟩, by simp [intOf]; omega⟩
        intro j z hj hzj
        by_cases hjk : j < k
        · exact Hz.out j z hjk hzj
        · obtain rfl : j = k := by omega
          rw [Hxk.out] at hzj; injection hzj with hzj; subst hzj; exact Hs.out
    · have hkl : k = len := by omega
      have Hkl := hide hkl
      clear hkl
      go_wp2_with fail
      go_ret
      refine ⟨?_, hnew⟩
      rw [idxB_no (sameP y) xs fun j z hz => Hz.out j z (by have := (List.getElem?_eq_some_iff.1 hz).1; have := Hlen.out; have := Hkl.out; omega) hz]
      rfl

set_option maxHeartbeats 1000000 in
theorem contains_entry (b o c q : Nat) (xs : List E3) (y : E3) (w : World) (hx : Ents w b o xs) (hb : b < w.heap.size) (hq : Blk w q TE #[.int .i64 y.a, .int .i64 y.n, .int .i64 y.h]) (hl : xs.length ≤ 1000) :
    Calls Tryd.prog 78 #[.slice (some ⟨b, o, none⟩) xs.length c, .func (.func 79) #[] #[.pointer (some ⟨q, 0, none⟩)]] w fun e w1 => e = .returned (.bool (xs.any (sameP y))) ∧ New w w1 := by
  have Hc := hide (idx_entry b o c q xs y w hx hb hq hl)
  clear hx hq
  go_enter Tryd.func78, Tryd.ntmps78
  go_wp2_with fail
  refine Hc.out.mono ?_
  rintro e w2 ⟨rfl, hu2⟩
  go_wp2_with fail
  go_ret
  refine ⟨?_, hu2⟩
  rw [← idxB_any]
  rfl
end Go.Proofs.YtkljanjapcpbdaaDoor

/- Package attr: Bare; Contains over strings and prefixes. No condition but those that stand in each theorem. -/
import Derived.Test.YtkljanjapcpbdaaDoorWi0
import Derived.Test.YtkljanjapcpbdaaDoorAt2
import Derived.Test.YtkljanjapcpbdaaDoorEq
import Derived.WalkLawsBesides
import Derived.WalkSpells
namespace Go.Proofs.YtkljanjapcpbdaaDoor
open Go.RowKit

theorem assertNil (xT : TypeId) (w : World) : (Instr.typeAssert .nilIface xT TFP true).run Tryd.prog w = .ok (.tuple #[.pointer none, .bool false]) w := by kernel_rfl
theorem assertSent (v : Value) (xT : TypeId) (w : World) : (Instr.typeAssert (.iface TES v) xT TFP true).run Tryd.prog w = .ok (.tuple #[.pointer none, .bool false]) w := by kernel_rfl
theorem assertFault (v : Value) (xT : TypeId) (w : World) : (Instr.typeAssert (.iface TFP v) xT TFP true).run Tryd.prog w = .ok (.tuple #[v, .bool true]) w := by kernel_rfl

set_option maxRecDepth 8000 in
set_option maxHeartbeats 400000 in
/-- What Bare gives is the error alone. -/
theorem bare_any (v : Value) (k : Nat) (i : Int) (w : World) (E : Nat → Addr) (hv : ErrV w E v k i) :
    Calls Tryd.prog 86 #[v] w fun e w1 => e = .returned (errc E k) ∧ w = w1 := by
  have a1 := assertNil
  have a2 := assertSent
  have a3 := assertFault
  rcases hv with ⟨rfl, rfl, rfl⟩ | ⟨h1, h9, rfl, rfl⟩ | ⟨h1, h9, p, rfl, hb⟩
  · go_enter Tryd.func86, Tryd.ntmps86
    go_wp2
    go_ret
    exact ⟨rfl, rfl⟩
  · have e : errc E k = errv (E k) := by unfold errc; rw [if_neg (by omega)]
    have He := hide e
    clear e
    unfold errv
    go_enter Tryd.func86, Tryd.ntmps86
    go_wp2
    go_ret
    exact ⟨by rw [He.out]; rfl, rfl⟩
  · have e : errc E k = errv (E k) := by unfold errc; rw [if_neg (by omega)]
    have He := hide e
    have c1 := hb.cell 1
    have zb := hb.lt
    simp only [List.getElem?_toArray, List.getElem?_cons_zero, List.getElem?_cons_succ] at c1
    clear e hb
    unfold errv at c1
    go_enter Tryd.func86, Tryd.ntmps86
    go_wp2
    go_ret
    exact ⟨by rw [He.out]; rfl, rfl⟩

/-- The same text. -/
def strEq (s t : ByteArray) : Bool := s.toList == t.toList

set_option maxHeartbeats 1000000 in
theorem idxStr_any (A : Option Addr) (n c : Nat) (ss : List ByteArray) (v : ByteArray) (w : World) (hx : Strs w A ss) (hn : ss.length = n) (hl : n ≤ 1000000) :
    Calls Tryd.prog 115 #[.slice A n c, .string v] w fun e w1 => e = .returned (.int .i64 (idxB (fun s => strEq v s) ss)) ∧ w = w1 := by
  have Hx := hide hx
  have Hn := hide hn
  clear hx hn
  go_enter Tryd.func115, Tryd.ntmps115
  go_wp2_with fail
  go_loop [8] (fun i => ∃ k : Nat, k ≤ n ∧ i = .int .i64 k ∧ ∀ (j : Nat) x, j < k → ss[j]? = some x → strEq v x = false) (fun i => n - (intOf i).toNat)
  case atStart => exact ⟨0, by omega, rfl, fun j x h => absurd h (by omega)⟩
  case round =>
    obtain ⟨k, hk, rfl, hz⟩ := hrel
    have Hz := hide hz
    clear hz
    by_cases hlt : k < n
    · have hkl : k < ss.length := by have := Hn.out; omega
      obtain ⟨b, o, rfl, hb, hc⟩ := Hx.out (by omega)
      obtain ⟨x, hxk⟩ : ∃ x, ss[k]? = some x := ⟨_, List.getElem?_eq_getElem hkl⟩
      have hcx := hc k x hxk
      have Hxk := hide hxk
      have i1 : (k : Int) < (n : Int) := by omega
      clear hc hxk
      cases hd : strEq v x with
      | true =>
        have he : (v.toList == x.toList) = true := hd
        have Hd := hide hd
        clear hd
        go_wp2_with fail
        go_ret
        exact ⟨ret_int (idxB_at (fun s => strEq v s) ss k x Hxk.out Hd.out Hz.out).symm, rfl⟩
      | false =>
        have he : (v.toList == x.toList) = false := hd
        have Hd := hide hd
        clear hd
        go_wp2_with fail
        refine ⟨⟨k + 1, by omega, by go_num, fun j y hj hy => ?_⟩, by simp [intOf]; omega⟩
        by_cases hjk : j < k
        · exact Hz.out j y hjk hy
        · obtain rfl : j = k := by omega
          rw [Hxk.out] at hy; injection hy with hy; subst hy; exact Hd.out
    · have hkn : k = n := by omega
      subst hkn
      go_wp2_with fail
      go_ret
      exact ⟨ret_int (idxB_no (fun s => strEq v s) ss fun j y hy => Hz.out j y (by have := (List.getElem?_eq_some_iff.1 hy).1; have := Hn.out; omega) hy).symm, rfl⟩

theorem containsStr_any (A : Option Addr) (n c : Nat) (ss : List ByteArray) (v : ByteArray) (w : World) (hx : Strs w A ss) (hn : ss.length = n) (hl : n ≤ 1000000) :
    Calls Tryd.prog 72 #[.slice A n c, .string v] w fun e w1 => e = .returned (.bool (ss.any fun s => strEq v s)) ∧ w = w1 := by
  have Hc := hide (idxStr_any A n c ss v w hx hn hl)
  clear hx hn
  go_enter Tryd.func72, Tryd.ntmps72
  go_wp2_with fail
  refine Hc.out.mono ?_
  rintro e w1 ⟨rfl, rfl⟩
  go_wp2_with fail
  go_ret
  exact ⟨ret_bool (idxB_any _ _), rfl⟩

/-- The same prefix. -/
def samePf (p q : Pf) : Bool := p.a == q.a && p.n == q.n

set_option maxHeartbeats 2000000 in
theorem idxPf_any (A : Option Addr) (n c : Nat) (ps : List Pf) (p : Pf) (w : World) (hx : Pfs w A ps) (hn : ps.length = n) (hl : n ≤ 1000000) :
    Calls Tryd.prog 146 #[.slice A n c, .agg #[.int .i64 p.a, .int .i64 p.n]] w fun e w1 => e = .returned (.int .i64 (idxB (samePf p) ps)) ∧ New w w1 := by
  have u := (Upd.refl (fun _ => False) w).alloc (.cells #[.int .i64 p.a, .int .i64 p.n] 51)
  have Hb := hide (Blk.new w 51 #[.int .i64 p.a, .int .i64 p.n])
  have Hx := hide (hx.new_ u)
  have Hu := hide u
  have Hn := hide hn
  have g1 := guard_pfx
  have g2 := eql_pfx
  clear hx hn u
  go_enter Tryd.func146, Tryd.ntmps146
  go_wp2_with fail
  generalize w.alloc (.cells #[.int .i64 p.a, .int .i64 p.n] 51) = w2 at *
  go_loopw [8] (fun i wr => ∃ k : Nat, k ≤ n ∧ i = .int .i64 k ∧ New w2 wr ∧ ∀ (j : Nat) x, j < k → ps[j]? = some x → samePf p x = false) (fun i _ => n - (intOf i).toNat)
  case atStart => exact ⟨0, by omega, rfl, Upd.refl _ _, fun j x h => absurd h (by omega)⟩
  case round =>
    obtain ⟨k, hk, rfl, hnew, hz⟩ := hrel
    have Hz := hide hz
    clear hz
    by_cases hlt : k < n
    · obtain ⟨b, o, x, rfl, hb, hxk, hc0, hc1⟩ := (Hx.out.new_ hnew).at_ (k := k) (by have := Hn.out; omega)
      have Hxk := hide hxk
      have i1 : (k : Int) < (n : Int) := by omega
      have bb := Hb.out.new_ hnew
      have c0 := bb.cell 0
      have c1 := bb.cell 1
      have zb := bb.lt
      simp only [List.getElem?_toArray, List.getElem?_cons_zero, List.getElem?_cons_succ] at c0 c1
      clear hxk bb
      cases he : samePf p x with
      | true =>
        have he2 : (p.a == x.a && p.n == x.n) = true := he
        have He := hide he
        clear he
        go_wp2_with fail
        go_quiet (fail)
        go_wp2_with fail
        go_ret
        exact ⟨ret_int (idxB_at (samePf p) ps k x Hxk.out He.out Hz.out).symm, (Hu.out.trans_new hnew).drewN _⟩
      | false =>
        have he2 : (p.a == x.a && p.n == x.n) = false := he
        have He := hide he
        clear he
        go_wp2_with fail
        go_quiet (fail)
        go_wp2_with fail
        refine ⟨⟨k + 1, by omega, by go_num, hnew.drewN _, fun j y hj hy => ?_⟩, by simp [intOf]; omega⟩
        by_cases hjk : j < k
        · exact Hz.out j y hjk hy
        · obtain rfl : j = k := by omega
          rw [Hxk.out] at hy; injection hy with hy; subst hy; exact He.out
    · have hkn : k = n := by omega
      subst hkn
      go_wp2_with fail
      go_ret
      exact ⟨ret_int (idxB_no (samePf p) ps fun j y hy => Hz.out j y (by have := (List.getElem?_eq_some_iff.1 hy).1; have := Hn.out; omega) hy).symm, Hu.out.trans_new hnew⟩

theorem containsPf_any (A : Option Addr) (n c : Nat) (ps : List Pf) (p : Pf) (w : World) (hx : Pfs w A ps) (hn : ps.length = n) (hl : n ≤ 1000000) :
    Calls Tryd.prog 123 #[.slice A n c, .agg #[.int .i64 p.a, .int .i64 p.n]] w fun e w1 => e = .returned (.bool (ps.any (samePf p))) ∧ New w w1 := by
  have u := (Upd.refl (fun _ => False) w).alloc (.cells #[.int .i64 p.a, .int .i64 p.n] 51)
  have Hc := hide (idxPf_any A n c ps p _ (hx.new_ u) hn hl)
  have Hu := hide u
  clear hx hn u
  go_enter Tryd.func123, Tryd.ntmps123
  go_wp2_with fail
  refine Hc.out.mono ?_
  rintro e w1 ⟨rfl, hu1⟩
  go_wp2_with fail
  go_ret
  exact ⟨ret_bool (idxB_any _ _), Hu.out.trans_new hu1⟩
end Go.Proofs.YtkljanjapcpbdaaDoor

/- Package attr: Bare; Contains over strings and prefixes. No condition but those that stand in each theorem. -/
import Derived.Test.YtjgecmkfgeajiaaGreatDoorWi0
import Derived.Test.YtjgecmkfgeajiaaGreatDoorAt2
import Derived.Test.YtjgecmkfgeajiaaGreatDoorEq
import Derived.WalkLawsBesides
import Derived.WalkSpells
import Derived.Test.YtjgecmkfgeajiaaGreatDoorIp2
import Derived.Test.YtjgecmkfgeajiaaGreatDoorPfo
namespace Go.Proofs.YtjgecmkfgeajiaaGreatDoor
open Go.RowKit

theorem assertNil (xT : TypeId) (w : World) : (Instr.typeAssert .nilIface xT TFP true).run Tryz.prog w = .ok (.tuple #[.pointer none, .bool false]) w := by kernel_rfl
theorem assertSent (v : Value) (xT : TypeId) (w : World) : (Instr.typeAssert (.iface TES v) xT TFP true).run Tryz.prog w = .ok (.tuple #[.pointer none, .bool false]) w := by kernel_rfl
theorem assertFault (v : Value) (xT : TypeId) (w : World) : (Instr.typeAssert (.iface TFP v) xT TFP true).run Tryz.prog w = .ok (.tuple #[v, .bool true]) w := by kernel_rfl

set_option maxRecDepth 8000 in
set_option maxHeartbeats 400000 in
/-- What Bare gives is the error alone. -/
theorem bare_any (v : Value) (k : Nat) (i : Int) (w : World) (E : Nat → Addr) (hv : ErrV w E v k i) :
    Calls Tryz.prog 28 #[v] w fun e w1 => e = .returned (errc E k) ∧ w = w1 := by
  have a1 := assertNil
  have a2 := assertSent
  have a3 := assertFault
  rcases hv with ⟨rfl, rfl, rfl⟩ | ⟨h1, h9, rfl, rfl⟩ | ⟨h1, h9, p, rfl, hb⟩
  · go_enter Tryz.func28, Tryz.ntmps28
    go_wp2
    go_ret
    exact ⟨rfl, rfl⟩
  · have e : errc E k = errv (E k) := by unfold errc; rw [if_neg (by omega)]
    have He := hide e
    clear e
    unfold errv
    go_enter Tryz.func28, Tryz.ntmps28
    go_wp2
    go_ret
    exact ⟨by rw [He.out]; rfl, rfl⟩
  · have e : errc E k = errv (E k) := by unfold errc; rw [if_neg (by omega)]
    have He := hide e
    have c1 := hb.cell 1
    have zb := hb.lt
    simp only [List.getElem?_toArray, List.getElem?_cons_zero, List.getElem?_cons_succ] at c1
    clear e hb
    unfold errv at c1
    go_enter Tryz.func28, Tryz.ntmps28
    go_wp2
    go_ret
    exact ⟨by rw [He.out]; rfl, rfl⟩

/-- The same text. -/
def strEq (s t : ByteArray) : Bool := s.toList == t.toList

set_option maxHeartbeats 1000000 in
theorem idxStr_any (A : Option Addr) (n c : Nat) (ss : List ByteArray) (v : ByteArray) (w : World) (hx : Strs w A ss) (hn : ss.length = n) (hl : n ≤ 1000000) :
    Calls Tryz.prog 78 #[.slice A n c, .string v] w fun e w1 => e = .returned (.int .i64 (idxB (fun s => strEq v s) ss)) ∧ w = w1 := by
  have Hx := hide hx
  have Hn := hide hn
  clear hx hn
  go_enter Tryz.func78, Tryz.ntmps78
  go_wp2_with fail
  go_loop [8] (fun i => ∃ k : Nat, k ≤ n ∧ i = .int .i64 k ∧ ∀ (j : Nat) x, j < k → ss[j]? = some x → strEq v x = false) (fun i => n - (intOf i).toNat)
  case atStart => exact ⟨0, by omega, rfl, fun j x h => absurd h (by omega)⟩
  case round =>
    obtain ⟨k, hk, rfl, hz⟩ := hrel
    have Hz := hide hz
    clear hz
    by_cases hlt : k < n
    · have hkl : k < ss.length := by have := Hn.out; omega
      obtain ⟨b, o, rfl, hb, hc⟩ := Hx.out (by omega)
      obtain ⟨x, hxk⟩ : ∃ x, ss[k]? = some x := ⟨_, List.getElem?_eq_getElem hkl⟩
      have hcx := hc k x hxk
      have Hxk := hide hxk
      have i1 : (k : Int) < (n : Int) := by omega
      clear hc hxk
      cases hd : strEq v x with
      | true =>
        have he : (v.toList == x.toList) = true := hd
        have Hd := hide hd
        clear hd
        go_wp2_with fail
        go_ret
        exact ⟨ret_int (idxB_at (fun s => strEq v s) ss k x Hxk.out Hd.out Hz.out).symm, rfl⟩
      | false =>
        have he : (v.toList == x.toList) = false := hd
        have Hd := hide hd
        clear hd
        go_wp2_with fail
        refine ⟨⟨k + 1, by omega, by go_num, fun j y hj hy => ?_⟩, by simp [intOf]; omega⟩
        by_cases hjk : j < k
        · exact Hz.out j y hjk hy
        · obtain rfl : j = k := by omega
          rw [Hxk.out] at hy; injection hy with hy; subst hy; exact Hd.out
    · have hkn : k = n := by omega
      subst hkn
      go_wp2_with fail
      go_ret
      exact ⟨ret_int (idxB_no (fun s => strEq v s) ss fun j y hy => Hz.out j y (by have := (List.getElem?_eq_some_iff.1 hy).1; have := Hn.out; omega) hy).symm, rfl⟩

theorem containsStr_any (A : Option Addr) (n c : Nat) (ss : List ByteArray) (v : ByteArray) (w : World) (hx : Strs w A ss) (hn : ss.length = n) (hl : n ≤ 1000000) :
    Calls Tryz.prog 45 #[.slice A n c, .string v] w fun e w1 => e = .returned (.bool (ss.any fun s => strEq v s)) ∧ w = w1 := by
  have Hc := hide (idxStr_any A n c ss v w hx hn hl)
  clear hx hn
  go_enter Tryz.func45, Tryz.ntmps45
  go_wp2_with fail
  refine Hc.out.mono ?_
  rintro e w1 ⟨rfl, rfl⟩
  go_wp2_with fail
  go_ret
  exact ⟨ret_bool (idxB_any _ _), rfl⟩

/-- The same prefix. -/
def samePf (p q : Pf) : Bool := p.a == q.a && p.n == q.n

set_option maxHeartbeats 2000000 in
theorem idxPf_any (A : Option Addr) (n c : Nat) (ps : List Pf) (p : Pf) (w : World) (hx : Pfs w A ps) (hn : ps.length = n) (hl : n ≤ 1000000) :
    Calls Tryz.prog 115 #[.slice A n c, .agg #[.int .i64 p.a, .int .i64 p.n]] w fun e w1 => e = .returned (.int .i64 (idxB (samePf p) ps)) ∧ New w w1 := by
  have u := (Upd.refl (fun _ => False) w).alloc (.cells #[.int .i64 p.a, .int .i64 p.n] 43)
  have Hb := hide (Blk.new w 43 #[.int .i64 p.a, .int .i64 p.n])
  have Hx := hide (hx.new_ u)
  have Hu := hide u
  have Hn := hide hn
  have g1 := guard_pfx
  have g2 := eql_pfx
  clear hx hn u
  go_enter Tryz.func115, Tryz.ntmps115
  go_wp2_with fail
  generalize w.alloc (.cells #[.int .i64 p.a, .int .i64 p.n] 43) = w2 at *
  go_loopw [8] (fun i wr => ∃ k : Nat, k ≤ n ∧ i = .int .i64 k ∧ New w2 wr ∧ ∀ (j : Nat) x, j < k → ps[j]? = some x → samePf p x = false) (fun i _ => n - (intOf i).toNat)
  case atStart => exact ⟨0, by omega, rfl, Upd.refl _ _, fun j x h => absurd h (by omega)⟩
  case round =>
    obtain ⟨k, hk, rfl, hnew, hz⟩ := hrel
    have Hz := hide hz
    clear hz
    by_cases hlt : k < n
    · obtain ⟨b, o, x, rfl, hb, hxk, hc0, hc1⟩ := (Hx.out.new_ hnew).at_ (k := k) (by have := Hn.out; omega)
      have Hxk := hide hxk
      have i1 : (k : Int) < (n : Int) := by omega
      have bb := Hb.out.new_ hnew
      have c0 := bb.cell 0
      have c1 := bb.cell 1
      have zb := bb.lt
      simp only [List.getElem?_toArray, List.getElem?_cons_zero, List.getElem?_cons_succ] at c0 c1
      clear hxk bb
      cases he : samePf p x with
      | true =>
        have he2 : (p.a == x.a && p.n == x.n) = true := he
        have He := hide he
        clear he
        go_wp2_with fail
        go_quiet (fail)
        go_wp2_with fail
        go_ret
        exact ⟨ret_int (idxB_at (samePf p) ps k x Hxk.out He.out Hz.out).symm, (Hu.out.trans_new hnew).drewN _⟩
      | false =>
        have he2 : (p.a == x.a && p.n == x.n) = false := he
        have He := hide he
        clear he
        go_wp2_with fail
        go_quiet (fail)
        go_wp2_with fail
        refine ⟨⟨k + 1, by omega, by go_num, hnew.drewN _, fun j y hj hy => ?_⟩, by simp [intOf]; omega⟩
        by_cases hjk : j < k
        · exact Hz.out j y hjk hy
        · obtain rfl : j = k := by omega
          rw [Hxk.out] at hy; injection hy with hy; subst hy; exact He.out
    · have hkn : k = n := by omega
      subst hkn
      go_wp2_with fail
      go_ret
      exact ⟨ret_int (idxB_no (samePf p) ps fun j y hy => Hz.out j y (by have := (List.getElem?_eq_some_iff.1 hy).1; have := Hn.out; omega) hy).symm, Hu.out.trans_new hnew⟩

theorem containsPf_any (A : Option Addr) (n c : Nat) (ps : List Pf) (p : Pf) (w : World) (hx : Pfs w A ps) (hn : ps.length = n) (hl : n ≤ 1000000) :
    Calls Tryz.prog 86 #[.slice A n c, .agg #[.int .i64 p.a, .int .i64 p.n]] w fun e w1 => e = .returned (.bool (ps.any (samePf p))) ∧ New w w1 := by
  have u := (Upd.refl (fun _ => False) w).alloc (.cells #[.int .i64 p.a, .int .i64 p.n] 43)
  have Hc := hide (idxPf_any A n c ps p _ (hx.new_ u) hn hl)
  have Hu := hide u
  clear hx hn u
  go_enter Tryz.func86, Tryz.ntmps86
  go_wp2_with fail
  refine Hc.out.mono ?_
  rintro e w1 ⟨rfl, hu1⟩
  go_wp2_with fail
  go_ret
  exact ⟨ret_bool (idxB_any _ _), Hu.out.trans_new hu1⟩
end Go.Proofs.YtjgecmkfgeajiaaGreatDoor

namespace Go.Proofs.YtjgecmkfgeajiaaGreatDoor
open Go.RowKit

abbrev TM : TypeId := 25

/-- What is wrong at the i-th: by a check, by their order, by more. -/
def riseC (f : Nat → Pf) (more : Nat → Nat) (i : Nat) : Nat :=
  if chk (f i).a (f i).n ≠ 0 then chk (f i).a (f i).n else if 0 < i ∧ lessB (f (i - 1)).a (f (i - 1)).n (f i).a (f i).n = false then 8 else more i
theorem riseC_chk {f : Nat → Pf} {more : Nat → Nat} {i : Nat} (h : chk (f i).a (f i).n ≠ 0) : riseC f more i = chk (f i).a (f i).n := by unfold riseC; rw [if_pos h]
theorem riseC_low {f : Nat → Pf} {more : Nat → Nat} {i : Nat} (h : chk (f i).a (f i).n = 0) (h1 : 0 < i) (h2 : lessB (f (i - 1)).a (f (i - 1)).n (f i).a (f i).n = false) : riseC f more i = 8 := by unfold riseC; rw [if_neg (by simp [h]), if_pos ⟨h1, h2⟩]
theorem riseC_more {f : Nat → Pf} {more : Nat → Nat} {i : Nat} (h : chk (f i).a (f i).n = 0) (h1 : 0 < i → lessB (f (i - 1)).a (f (i - 1)).n (f i).a (f i).n = true) : riseC f more i = more i := by
  unfold riseC; rw [if_neg (by simp [h]), if_neg]
  rintro ⟨h2, h3⟩; rw [h1 h2] at h3; cases h3
theorem chk_le (a n : Int) : chk a n ≤ 3 := by unfold chk; split <;> (try split) <;> omega

theorem ErrPost.fault_at {E : Nat → Addr} {F : Nat → Nat} {n k c p : Nat} {w w1 : World} (h1 : firstC F n 0 = (c, (k : Int))) (hc1 : 1 ≤ c) (hc9 : c ≤ 9) (hb : Blk w1 p TF #[.int .i64 k, errv (E c)]) (hu : New w w1) :
    ErrPost E (firstC F n 0).1 (firstC F n 0).2 w (.returned (.iface TFP (.pointer (some ⟨p, 0, none⟩)))) w1 :=
  ⟨_, rfl, by rw [h1]; exact .fault hc1 hc9 hb, hu⟩
def pfAt (l : List Pf) (i : Nat) : Pf := l.getD i ⟨0, 0⟩
def rtAt (l : List RouteR) (i : Nat) : RouteR := l.getD i ⟨0, 0, ⟨none, 0, [], 0, 0, 0, none, 0, []⟩, 0⟩
theorem pfAt_some {l : List Pf} {i : Nat} {p : Pf} (h : l[i]? = some p) : pfAt l i = p := by unfold pfAt; rw [List.getD_eq_getElem?_getD, h]; rfl
theorem rtAt_some {l : List RouteR} {i : Nat} {p : RouteR} (h : l[i]? = some p) : rtAt l i = p := by unfold rtAt; rw [List.getD_eq_getElem?_getD, h]; rfl
/-- What is wrong with a route of a message, beside its prefix. -/
def addC (r : RouteR) : Nat := if (attrC r.at_).1 ≠ 0 then (attrC r.at_).1 else if r.frm ≠ 0 then 3 else 0
def rtPf (r : RouteR) : Pf := ⟨r.a, r.n⟩
def dropF (m : MsgR) (i : Nat) : Pf := pfAt m.drops i
def dropM (_ : MsgR) (_ : Nat) : Nat := 0
def addF (m : MsgR) (i : Nat) : Pf := rtPf (rtAt m.adds i)
def addM (m : MsgR) (i : Nat) : Nat := addC (rtAt m.adds i)

set_option maxRecDepth 8000 in
set_option maxHeartbeats 1000000 in
theorem news1_any (m : MsgR) (q k : Nat) (w : World) (hq : Blk w q TM m.cells) (hm : MsgOk w m) (hk : k < m.drops.length) (hl : m.drops.length ≤ 100000) :
    Calls Tryz.prog 80 #[.int .i64 k, .pointer (some ⟨q, 0, none⟩)] w fun e w1 => e = .returned (.agg #[.int .i64 (dropF m k).a, .int .i64 (dropF m k).n]) ∧ New w w1 := by
  unfold dropF
  obtain ⟨b, o, p, hD, hb, hp, hc0, hc1⟩ := hm.drops.at_ hk
  rw [pfAt_some hp]
  have d2 := hq.cell 2
  have zq := hq.lt
  unfold MsgR.cells at d2
  simp only [List.getElem?_toArray, List.getElem?_cons_zero, List.getElem?_cons_succ] at d2
  rw [hD] at d2
  generalize m.drops.length = n at *
  have i1 : (k : Int) < (n : Int) := by omega
  clear hq hm hp hD
  go_enter Tryz.func80, Tryz.ntmps80
  go_wp2_with fail
  exact bodyPost_ret (v := .agg #[.int .i64 p.a, .int .i64 p.n]) (by simp [results, Tryz.results80, go_sem]) rfl ⟨rfl, (Upd.refl _ _).alloc _⟩

theorem news2_any (m : MsgR) (k : Nat) (E : Nat → Addr) (w : World) : Calls Tryz.prog 81 #[.int .i64 k] w fun e w1 => e = .returned (errc E (dropM m k)) ∧ New w w1 := by
  go_enter Tryz.func81, Tryz.ntmps81
  go_wp2
  go_ret
  exact ⟨rfl, Upd.refl _ _⟩

set_option maxRecDepth 8000 in
set_option maxHeartbeats 1000000 in
theorem news3_any (m : MsgR) (q k : Nat) (w : World) (hq : Blk w q TM m.cells) (hm : MsgOk w m) (hk : k < m.adds.length) (hl : m.adds.length ≤ 100000) :
    Calls Tryz.prog 82 #[.int .i64 k, .pointer (some ⟨q, 0, none⟩)] w fun e w1 => e = .returned (.agg #[.int .i64 (addF m k).a, .int .i64 (addF m k).n]) ∧ New w w1 := by
  unfold addF
  obtain ⟨b, o, r, hD, hb, hp, _, hc0, hc1, _⟩ := hm.adds.at_ hk
  rw [rtAt_some hp]
  unfold rtPf
  have d3 := hq.cell 3
  have zq := hq.lt
  unfold MsgR.cells at d3
  simp only [List.getElem?_toArray, List.getElem?_cons_zero, List.getElem?_cons_succ] at d3
  rw [hD] at d3
  generalize m.adds.length = n at *
  have i1 : (k : Int) < (n : Int) := by omega
  clear hq hm hp hD
  go_enter Tryz.func82, Tryz.ntmps82
  go_wp2_with fail
  exact bodyPost_ret (v := .agg #[.int .i64 r.a, .int .i64 r.n]) (by simp [results, Tryz.results82, go_sem]) rfl ⟨rfl, (Upd.refl _ _).alloc _⟩

theorem attrC_le (a : AttrR) : (attrC a).1 ≤ 8 := by
  unfold attrC
  have : ∀ (l : List Int) (p i : Int), (tagC p l i).1 ≤ 8 := by
    intro l
    induction l with
    | nil => intro p i; simp [tagC]
    | cons t l ih => intro p i; unfold tagC; split; · simp
                     · split; · simp
                       · exact ih _ _
  split; · simp
  · split; · simp
    · split; · simp
      · exact this _ _ _
theorem addC_le (r : RouteR) : addC r ≤ 8 := by
  unfold addC
  split
  · exact attrC_le _
  · split <;> omega

theorem dropM_le (m : MsgR) (k : Nat) : dropM m k ≤ 9 := Nat.zero_le _
theorem addM_le (m : MsgR) (k : Nat) : addM m k ≤ 9 := Nat.le_succ_of_le (addC_le _)

set_option maxRecDepth 8000 in
set_option maxHeartbeats 2000000 in
theorem news4_any (m : MsgR) (q k : Nat) (E : Nat → Addr) (w : World) (h2 : Sen w gBound (E 2)) (h3 : Sen w gShape (E 3)) (h7 : Sen w gFull_ (E 7)) (h8 : Sen w gOrder (E 8)) (hq : Blk w q TM m.cells) (hm : MsgOk w m) (hk : k < m.adds.length) (hl : m.adds.length ≤ 100000)
    (hs : ∀ (i : Nat) (r : RouteR), m.adds[i]? = some r → r.at_.path.length ≤ 1000 ∧ r.at_.tags.length ≤ 1000) :
    Calls Tryz.prog 83 #[.int .i64 k, .pointer (some ⟨q, 0, none⟩)] w fun e w1 => e = .returned (errc E (addM m k)) ∧ New w w1 := by
  unfold addM
  obtain ⟨b, o, r, hD, hb, hp, hr, hc0, hc1, hc2, hc3, hc4, hc5, hc6, hc7⟩ := hm.adds.at_ hk
  rw [rtAt_some hp]
  have d3 := hq.cell 3
  have zq := hq.lt
  unfold MsgR.cells at d3
  simp only [List.getElem?_toArray, List.getElem?_cons_zero, List.getElem?_cons_succ] at d3
  rw [hD] at d3
  have Ha := hide (attrCheck_any r.at_ E w h2 h7 h8 hr (hs _ _ hp).1 (hs _ _ hp).2)
  have H3 := hide h3
  have Hq := hide hq
  generalize hn : m.adds.length = n at *
  have Hn := hide hn
  clear hn
  have i1 : (k : Int) < (n : Int) := by omega
  clear hq hm hp h2 h3 h7 h8 hr hs hc0 hc1
  unfold AttrR.cells at Ha
  go_enter Tryz.func83, Tryz.ntmps83
  go_wp2_with fail
  refine Ha.out.mono ?_
  rintro e w1 ⟨v, rfl, hv, hu⟩
  have g3 := (Hq.out.new_ hu).cell 3
  have zq1 := (Hq.out.new_ hu).lt
  have e7 : w1.cell? ⟨b, o + k * 8 + 7, none⟩ = some (.int .i64 r.frm) := (hu.cell hb (fun x => x)).trans hc7
  have z3 : 3 < w1.heap.size := (H3.out.new hu).lt
  have s3 : w1.cell? ⟨3, 0, none⟩ = some (errv (E 3)) := H3.out.new hu
  have hb1 : b < w1.heap.size := Nat.lt_of_lt_of_le hb hu.size
  unfold MsgR.cells at g3
  simp only [List.getElem?_toArray, List.getElem?_cons_zero, List.getElem?_cons_succ] at g3
  rw [hD] at g3
  rw [Hn.out] at g3
  unfold errv at s3
  rcases hv.form with ⟨h0, _, rfl⟩ | ⟨h0, t, p, rfl⟩
  · by_cases hf : r.frm = 0
    · have hA : addC r = 0 := by unfold addC; rw [if_neg (by simp [h0]), if_neg (by simp [hf])]
      have HA := hide hA
      have hne : (r.frm != 0) = false := by simpa using hf
      clear hA hf h0 hv
      go_wp2_with fail
      go_ret
      exact ⟨by rw [HA.out]; rfl, hu⟩
    · have hA : addC r = 3 := by unfold addC; rw [if_neg (by simp [h0]), if_pos hf]
      have HA := hide hA
      have hne : (r.frm != 0) = true := by simpa using hf
      clear hA hf h0 hv
      go_wp2_with fail
      go_ret
      exact ⟨by rw [HA.out]; rfl, hu⟩
  · have hA : addC r = (attrC r.at_).1 := by unfold addC; rw [if_pos h0]
    have Hc := hide (bare_any _ _ _ w1 E hv)
    have HA := hide hA
    clear hA hv h0
    go_wp2_with fail
    refine Hc.out.mono ?_
    rintro e w2 ⟨rfl, rfl⟩
    go_wp2_with fail
    go_ret
    exact ⟨by rw [HA.out]; rfl, hu⟩

set_option maxRecDepth 8000 in
set_option maxHeartbeats 4000000 in
theorem riseDrops_any (m : MsgR) (q n : Nat) (E : Nat → Addr) (w : World) (h2 : Sen w gBound (E 2)) (h3 : Sen w gShape (E 3)) (h7 : Sen w gFull_ (E 7)) (h8 : Sen w gOrder (E 8)) (hq : Blk w q TM m.cells) (hm : MsgOk w m) (hn : m.drops.length = n) (hl : n ≤ 100000) :
    Calls Tryz.prog 79 #[.int .i64 n, .func (.func 80) #[] #[.pointer (some ⟨q, 0, none⟩)], .func (.func 81) #[] #[]] w (ErrPost E (firstC (riseC (dropF m) (dropM m)) n 0).1 (firstC (riseC (dropF m) (dropM m)) n 0).2 w) := by
  have H2 := hide h2
  have H3 := hide h3
  have H7 := hide h7
  have H8 := hide h8
  have Hq := hide hq
  have Hm := hide hm
  have Hn := hide hn
  clear h2 h3 h7 h8 hq hm hn
  generalize hF : riseC (dropF m) (dropM m) = F
  have HF := hide hF
  clear hF
  go_enter Tryz.func79, Tryz.ntmps79
  go_wp2_with fail
  go_loopw [10] (fun i wr => ∃ k : Nat, k ≤ n ∧ i = .int .i64 k ∧ New w wr ∧ ∀ j : Nat, 0 ≤ j → j < k → F j = 0) (fun i _ => n - (intOf i).toNat)
  case atStart => exact ⟨0, by omega, rfl, Upd.refl _ _, fun j _ h => absurd h (by omega)⟩
  case round =>
    obtain ⟨k, hk, rfl, hnew, hz⟩ := hrel
    have Hz := hide hz
    clear hz
    by_cases hlt : k < n
    · have i1 : (k : Int) < (n : Int) := by omega
      have Hto := hide (news1_any m q k wr (Hq.out.new_ hnew) (Hm.out.new_ hnew) (by have := Hn.out; omega) (by have := Hn.out; omega))
      go_wp2_with fail
      refine Hto.out.mono ?_
      rintro e w2 ⟨rfl, hu2⟩
      have n2 : New w w2 := hnew.trans_new hu2
      by_cases hc : chk ((dropF m) k).a ((dropF m) k).n = 0
      · have Hc := hide hc
        have Hck := hide (check_yes _ _ E w2 (H2.out.new n2) (H3.out.new n2) hc)
        clear hc
        go_wp2_with fail
        refine Hck.out.mono ?_
        rintro e w3 ⟨rfl, hu3⟩
        have n3 : New w w3 := n2.trans_new hu3
        rcases k with _ | j
        · have hF0 : F 0 = (dropM m) 0 := by rw [← HF.out]; exact riseC_more Hc.out (fun h => absurd h (by omega))
          have HF0 := hide hF0
          clear hF0
          by_cases hmo : (dropM m) 0 = 0
          · have hmc := news2_any m 0 E w3
            rw [hmo] at hmc
            have Hmc := hide hmc
            have Hmo := hide hmo
            clear hmc hmo
            go_wp2_with fail
            refine Hmc.out.mono ?_
            rintro e w4 ⟨rfl, hu4⟩
            rw [errc_nil]
            go_wp2_with fail
            refine ⟨⟨0 + 1, by omega, by go_num, n3.trans_new hu4, fun j _ hj => ?_⟩, by simp [intOf]; omega⟩
            obtain rfl : j = 0 := by omega
            rw [HF0.out]; exact Hmo.out
          · have hmc := news2_any m 0 E w3
            rw [errc_err E hmo] at hmc
            have Hmc := hide hmc
            have Hmo := hide hmo
            clear hmc hmo
            go_wp2_with fail
            refine Hmc.out.mono ?_
            rintro e w4 ⟨rfl, hu4⟩
            go_wp2_with fail
            go_ret
            have h1 := firstC_at F n 0 0 (by omega) (by omega) (by rw [HF0.out]; exact Hmo.out) (fun i h1 h2 => absurd h2 (by omega))
            rw [HF0.out] at h1
            exact ErrPost.fault_at h1 (Nat.pos_of_ne_zero Hmo.out) (dropM_le _ _) (Blk.new _ _ _) ((n3.trans_new hu4).alloc _)
        · have Hj0 := hide (news1_any m q j w3 (Hq.out.new_ n3) (Hm.out.new_ n3) (by have := Hn.out; omega) (by have := Hn.out; omega))
          have hcc := Hc.out
          go_wp2_with fail
          refine Hj0.out.mono ?_
          rintro e w4 ⟨rfl, hu4⟩
          have n4 : New w w4 := n3.trans_new hu4
          have hj1 := news1_any m q (j + 1) w4 (Hq.out.new_ n4) (Hm.out.new_ n4) (by have := Hn.out; omega) (by have := Hn.out; omega)
          push_cast at hj1
          have Hj1 := hide hj1
          clear hj1
          go_wp2_with fail
          refine Hj1.out.mono ?_
          rintro e w5 ⟨rfl, hu5⟩
          have n5 : New w w5 := n4.trans_new hu5
          have hls := less_any (dropF m j).a (dropF m j).n (dropF m (j + 1)).a (dropF m (j + 1)).n E w5 (H2.out.new n5) (H3.out.new n5)
          cases hlb : lessB (dropF m j).a (dropF m j).n (dropF m (j + 1)).a (dropF m (j + 1)).n with
          | false =>
            rw [hlb] at hls
            have Hls := hide hls
            have hF1 : F (j + 1) = 8 := by rw [← HF.out]; exact riseC_low Hc.out (by omega) hlb
            have HF1 := hide hF1
            clear hls hlb hF1 hcc
            go_wp2_with fail
            refine Hls.out.mono ?_
            rintro e w6 ⟨rfl, hu6⟩
            have n6 : New w w6 := n5.trans_new hu6
            have z8 : 5 < w6.heap.size := (H8.out.new n6).lt
            have c8 : w6.cell? ⟨5, 0, none⟩ = some (errv (E 8)) := H8.out.new n6
            unfold errv at c8
            go_wp2_with fail
            go_ret
            have h1 := firstC_at F n 0 (j + 1) (by omega) (by omega) (by rw [HF1.out]; omega) Hz.out
            rw [HF1.out] at h1
            exact ErrPost.fault_at h1 (by omega) (by omega) (Blk.new _ _ _) (n6.alloc _)
          | true =>
            rw [hlb] at hls
            have Hls := hide hls
            have hF1 : F (j + 1) = dropM m (j + 1) := by rw [← HF.out]; exact riseC_more Hc.out (fun _ => hlb)
            have HF1 := hide hF1
            clear hls hlb hF1 hcc
            go_wp2_with fail
            refine Hls.out.mono ?_
            rintro e w6 ⟨rfl, hu6⟩
            have n6 : New w w6 := n5.trans_new hu6
            have hmc := news2_any m (j + 1) E w6
            push_cast at hmc
            by_cases hmo : dropM m (j + 1) = 0
            · rw [hmo] at hmc
              have Hmc := hide hmc
              have Hmo := hide hmo
              clear hmc hmo
              go_wp2_with fail
              refine Hmc.out.mono ?_
              rintro e w7 ⟨rfl, hu7⟩
              rw [errc_nil]
              go_wp2_with fail
              refine ⟨⟨j + 1 + 1, by omega, by go_num, n6.trans_new hu7, fun i hi0 hi => ?_⟩, by simp [intOf]; omega⟩
              by_cases hij : i < j + 1
              · exact Hz.out i hi0 hij
              · obtain rfl : i = j + 1 := by omega
                rw [HF1.out]; exact Hmo.out
            · rw [errc_err E hmo] at hmc
              have Hmc := hide hmc
              have Hmo := hide hmo
              clear hmc hmo
              go_wp2_with fail
              refine Hmc.out.mono ?_
              rintro e w7 ⟨rfl, hu7⟩
              go_wp2_with fail
              go_ret
              have h1 := firstC_at F n 0 (j + 1) (by omega) (by omega) (by rw [HF1.out]; exact Hmo.out) Hz.out
              rw [HF1.out] at h1
              exact ErrPost.fault_at h1 (Nat.pos_of_ne_zero Hmo.out) (dropM_le _ _) (Blk.new _ _ _) ((n6.trans_new hu7).alloc _)
      · have Hc := hide hc
        have hck := check_no _ _ E w2 (H2.out.new n2) (H3.out.new n2) hc
        have Hck := hide hck
        clear hck hc
        have hFk : F k = chk ((dropF m) k).a ((dropF m) k).n := by rw [← HF.out]; exact riseC_chk Hc.out
        have HFk := hide hFk
        clear hFk
        go_wp2_with fail
        refine Hck.out.mono ?_
        rintro e w3 ⟨rfl, hu3⟩
        unfold errv
        go_wp2_with fail
        go_ret
        have h1 := firstC_at F n 0 k (by omega) (by omega) (by rw [HFk.out]; exact Hc.out) Hz.out
        rw [HFk.out] at h1
        exact ErrPost.fault_at h1 (Nat.pos_of_ne_zero Hc.out) (by have := chk_le ((dropF m) k).a ((dropF m) k).n; omega) (Blk.new _ _ _) ((n2.trans_new hu3).alloc _)
    · have hkn : k = n := by omega
      subst hkn
      have h1 := firstC_no F k 0 (fun i h1 h2 => Hz.out i h1 (by omega))
      have H1 := hide h1
      clear h1
      go_wp2_with fail
      go_ret
      exact ⟨_, rfl, by rw [H1.out]; exact .nil, hnew⟩

set_option maxRecDepth 8000 in
set_option maxHeartbeats 4000000 in
theorem riseAdds_any (m : MsgR) (q n : Nat) (E : Nat → Addr) (w : World) (h2 : Sen w gBound (E 2)) (h3 : Sen w gShape (E 3)) (h7 : Sen w gFull_ (E 7)) (h8 : Sen w gOrder (E 8)) (hq : Blk w q TM m.cells) (hm : MsgOk w m) (hn : m.adds.length = n) (hl : n ≤ 100000) (hs : ∀ (i : Nat) (r : RouteR), m.adds[i]? = some r → r.at_.path.length ≤ 1000 ∧ r.at_.tags.length ≤ 1000) :
    Calls Tryz.prog 79 #[.int .i64 n, .func (.func 82) #[] #[.pointer (some ⟨q, 0, none⟩)], .func (.func 83) #[] #[.pointer (some ⟨q, 0, none⟩)]] w (ErrPost E (firstC (riseC (addF m) (addM m)) n 0).1 (firstC (riseC (addF m) (addM m)) n 0).2 w) := by
  have H2 := hide h2
  have H3 := hide h3
  have H7 := hide h7
  have H8 := hide h8
  have Hq := hide hq
  have Hm := hide hm
  have Hn := hide hn
  clear h2 h3 h7 h8 hq hm hn
  generalize hF : riseC (addF m) (addM m) = F
  have HF := hide hF
  clear hF
  go_enter Tryz.func79, Tryz.ntmps79
  go_wp2_with fail
  go_loopw [10] (fun i wr => ∃ k : Nat, k ≤ n ∧ i = .int .i64 k ∧ New w wr ∧ ∀ j : Nat, 0 ≤ j → j < k → F j = 0) (fun i _ => n - (intOf i).toNat)
  case atStart => exact ⟨0, by omega, rfl, Upd.refl _ _, fun j _ h => absurd h (by omega)⟩
  case round =>
    obtain ⟨k, hk, rfl, hnew, hz⟩ := hrel
    have Hz := hide hz
    clear hz
    by_cases hlt : k < n
    · have i1 : (k : Int) < (n : Int) := by omega
      have Hto := hide (news3_any m q k wr (Hq.out.new_ hnew) (Hm.out.new_ hnew) (by have := Hn.out; omega) (by have := Hn.out; omega))
      go_wp2_with fail
      refine Hto.out.mono ?_
      rintro e w2 ⟨rfl, hu2⟩
      have n2 : New w w2 := hnew.trans_new hu2
      by_cases hc : chk ((addF m) k).a ((addF m) k).n = 0
      · have Hc := hide hc
        have Hck := hide (check_yes _ _ E w2 (H2.out.new n2) (H3.out.new n2) hc)
        clear hc
        go_wp2_with fail
        refine Hck.out.mono ?_
        rintro e w3 ⟨rfl, hu3⟩
        have n3 : New w w3 := n2.trans_new hu3
        rcases k with _ | j
        · have hF0 : F 0 = (addM m) 0 := by rw [← HF.out]; exact riseC_more Hc.out (fun h => absurd h (by omega))
          have HF0 := hide hF0
          clear hF0
          by_cases hmo : (addM m) 0 = 0
          · have hmc := news4_any m q 0 E w3 (H2.out.new n3) (H3.out.new n3) (H7.out.new n3) (H8.out.new n3) (Hq.out.new_ n3) (Hm.out.new_ n3) (by have := Hn.out; omega) (by have := Hn.out; omega) hs
            rw [hmo] at hmc
            have Hmc := hide hmc
            have Hmo := hide hmo
            clear hmc hmo
            go_wp2_with fail
            refine Hmc.out.mono ?_
            rintro e w4 ⟨rfl, hu4⟩
            rw [errc_nil]
            go_wp2_with fail
            refine ⟨⟨0 + 1, by omega, by go_num, n3.trans_new hu4, fun j _ hj => ?_⟩, by simp [intOf]; omega⟩
            obtain rfl : j = 0 := by omega
            rw [HF0.out]; exact Hmo.out
          · have hmc := news4_any m q 0 E w3 (H2.out.new n3) (H3.out.new n3) (H7.out.new n3) (H8.out.new n3) (Hq.out.new_ n3) (Hm.out.new_ n3) (by have := Hn.out; omega) (by have := Hn.out; omega) hs
            rw [errc_err E hmo] at hmc
            have Hmc := hide hmc
            have Hmo := hide hmo
            clear hmc hmo
            go_wp2_with fail
            refine Hmc.out.mono ?_
            rintro e w4 ⟨rfl, hu4⟩
            go_wp2_with fail
            go_ret
            have h1 := firstC_at F n 0 0 (by omega) (by omega) (by rw [HF0.out]; exact Hmo.out) (fun i h1 h2 => absurd h2 (by omega))
            rw [HF0.out] at h1
            exact ErrPost.fault_at h1 (Nat.pos_of_ne_zero Hmo.out) (addM_le _ _) (Blk.new _ _ _) ((n3.trans_new hu4).alloc _)
        · have Hj0 := hide (news3_any m q j w3 (Hq.out.new_ n3) (Hm.out.new_ n3) (by have := Hn.out; omega) (by have := Hn.out; omega))
          have hcc := Hc.out
          go_wp2_with fail
          refine Hj0.out.mono ?_
          rintro e w4 ⟨rfl, hu4⟩
          have n4 : New w w4 := n3.trans_new hu4
          have hj1 := news3_any m q (j + 1) w4 (Hq.out.new_ n4) (Hm.out.new_ n4) (by have := Hn.out; omega) (by have := Hn.out; omega)
          push_cast at hj1
          have Hj1 := hide hj1
          clear hj1
          go_wp2_with fail
          refine Hj1.out.mono ?_
          rintro e w5 ⟨rfl, hu5⟩
          have n5 : New w w5 := n4.trans_new hu5
          have hls := less_any (addF m j).a (addF m j).n (addF m (j + 1)).a (addF m (j + 1)).n E w5 (H2.out.new n5) (H3.out.new n5)
          cases hlb : lessB (addF m j).a (addF m j).n (addF m (j + 1)).a (addF m (j + 1)).n with
          | false =>
            rw [hlb] at hls
            have Hls := hide hls
            have hF1 : F (j + 1) = 8 := by rw [← HF.out]; exact riseC_low Hc.out (by omega) hlb
            have HF1 := hide hF1
            clear hls hlb hF1 hcc
            go_wp2_with fail
            refine Hls.out.mono ?_
            rintro e w6 ⟨rfl, hu6⟩
            have n6 : New w w6 := n5.trans_new hu6
            have z8 : 5 < w6.heap.size := (H8.out.new n6).lt
            have c8 : w6.cell? ⟨5, 0, none⟩ = some (errv (E 8)) := H8.out.new n6
            unfold errv at c8
            go_wp2_with fail
            go_ret
            have h1 := firstC_at F n 0 (j + 1) (by omega) (by omega) (by rw [HF1.out]; omega) Hz.out
            rw [HF1.out] at h1
            exact ErrPost.fault_at h1 (by omega) (by omega) (Blk.new _ _ _) (n6.alloc _)
          | true =>
            rw [hlb] at hls
            have Hls := hide hls
            have hF1 : F (j + 1) = addM m (j + 1) := by rw [← HF.out]; exact riseC_more Hc.out (fun _ => hlb)
            have HF1 := hide hF1
            clear hls hlb hF1 hcc
            go_wp2_with fail
            refine Hls.out.mono ?_
            rintro e w6 ⟨rfl, hu6⟩
            have n6 : New w w6 := n5.trans_new hu6
            have hmc := news4_any m q (j + 1) E w6 (H2.out.new n6) (H3.out.new n6) (H7.out.new n6) (H8.out.new n6) (Hq.out.new_ n6) (Hm.out.new_ n6) (by have := Hn.out; omega) (by have := Hn.out; omega) hs
            push_cast at hmc
            by_cases hmo : addM m (j + 1) = 0
            · rw [hmo] at hmc
              have Hmc := hide hmc
              have Hmo := hide hmo
              clear hmc hmo
              go_wp2_with fail
              refine Hmc.out.mono ?_
              rintro e w7 ⟨rfl, hu7⟩
              rw [errc_nil]
              go_wp2_with fail
              refine ⟨⟨j + 1 + 1, by omega, by go_num, n6.trans_new hu7, fun i hi0 hi => ?_⟩, by simp [intOf]; omega⟩
              by_cases hij : i < j + 1
              · exact Hz.out i hi0 hij
              · obtain rfl : i = j + 1 := by omega
                rw [HF1.out]; exact Hmo.out
            · rw [errc_err E hmo] at hmc
              have Hmc := hide hmc
              have Hmo := hide hmo
              clear hmc hmo
              go_wp2_with fail
              refine Hmc.out.mono ?_
              rintro e w7 ⟨rfl, hu7⟩
              go_wp2_with fail
              go_ret
              have h1 := firstC_at F n 0 (j + 1) (by omega) (by omega) (by rw [HF1.out]; exact Hmo.out) Hz.out
              rw [HF1.out] at h1
              exact ErrPost.fault_at h1 (Nat.pos_of_ne_zero Hmo.out) (addM_le _ _) (Blk.new _ _ _) ((n6.trans_new hu7).alloc _)
      · have Hc := hide hc
        have hck := check_no _ _ E w2 (H2.out.new n2) (H3.out.new n2) hc
        have Hck := hide hck
        clear hck hc
        have hFk : F k = chk ((addF m) k).a ((addF m) k).n := by rw [← HF.out]; exact riseC_chk Hc.out
        have HFk := hide hFk
        clear hFk
        go_wp2_with fail
        refine Hck.out.mono ?_
        rintro e w3 ⟨rfl, hu3⟩
        unfold errv
        go_wp2_with fail
        go_ret
        have h1 := firstC_at F n 0 k (by omega) (by omega) (by rw [HFk.out]; exact Hc.out) Hz.out
        rw [HFk.out] at h1
        exact ErrPost.fault_at h1 (Nat.pos_of_ne_zero Hc.out) (by have := chk_le ((addF m) k).a ((addF m) k).n; omega) (Blk.new _ _ _) ((n2.trans_new hu3).alloc _)
    · have hkn : k = n := by omega
      subst hkn
      have h1 := firstC_no F k 0 (fun i h1 h2 => Hz.out i h1 (by omega))
      have H1 := hide h1
      clear h1
      go_wp2_with fail
      go_ret
      exact ⟨_, rfl, by rw [H1.out]; exact .nil, hnew⟩

end Go.Proofs.YtjgecmkfgeajiaaGreatDoor

/- Package set: whether an address is in spans, in prefixes. No condition but those that stand in each theorem. -/
import Derived.Test.YtignngpligicjaaGreatDoorSt3
import Derived.Test.YtignngpligicjaaGreatDoorWi1
namespace Go.Proofs.YtignngpligicjaaGreatDoor
open Go.RowKit

def inSp (a : Int) (s : Nat × Nat) : Bool := decide ((s.1 : Int) ≤ a) && decide (a < (s.2 : Int))
set_option maxHeartbeats 1000000 in
theorem inSpan_any (s : Nat × Nat) (a : Int) (q : Nat) (w : World) (hq : Blk w q 3 #[.int .i64 a]) :
    Calls Tryz.prog 120 #[.agg #[.int .i64 (s.1 : Int), .int .i64 (s.2 : Int)], .pointer (some ⟨q, 0, none⟩)] w fun e w1 => e = .returned (.bool (inSp a s)) ∧ New w w1 := by
  have BX := hide (Blk.new w TSp #[.int .i64 (s.1 : Int), .int .i64 (s.2 : Int)])
  have U := hide ((Upd.refl (fun _ => False) w).alloc (.cells #[.int .i64 (s.1 : Int), .int .i64 (s.2 : Int)] TSp))
  have hq2 := hq.alloc (.cells #[.int .i64 (s.1 : Int), .int .i64 (s.2 : Int)] TSp)
  have HQ := hide hq2
  clear hq hq2
  go_enter Tryz.func120, Tryz.ntmps120
  go_upto_region 1 with (fail)
  generalize w.alloc (.cells #[.int .i64 (s.1 : Int), .int .i64 (s.2 : Int)] TSp) = W at *
  generalize w.heap.size = X at *
  have x0 := BX.out.cell 0
  have x1 := BX.out.cell 1
  have xz := BX.out.lt
  have q0 := HQ.out.cell 0
  have qz := HQ.out.lt
  simp only [List.getElem?_toArray, List.getElem?_cons_zero, List.getElem?_cons_succ] at x0 x1 q0
  by_cases h1 : (s.1 : Int) ≤ a
  · by_cases h2 : a < (s.2 : Int)
    · have He := hide (show inSp a s = true by unfold inSp; simp [h1, h2])
      go_wp2_with fail
      go_ret
      exact ⟨by rw [He.out]; rfl, U.out⟩
    · have He := hide (show inSp a s = false by unfold inSp; simp [h2])
      go_wp2_with fail
      go_ret
      exact ⟨by rw [He.out]; rfl, U.out⟩
  · have He := hide (show inSp a s = false by unfold inSp; simp [h1])
    go_wp2_with fail
    go_ret
    exact ⟨by rw [He.out]; rfl, U.out⟩

set_option maxRecDepth 8000 in
set_option maxHeartbeats 2000000 in
theorem idx_sp (A : Option Addr) (n c q : Nat) (a : Int) (xs : List (Nat × Nat))  (w : World) (hx : Rws w A 2 (xs.map spc)) (hn : xs.length = n) (hq : Blk w q 3 #[.int .i64 a]) (hl : n ≤ 4294967296) :
    Calls Tryz.prog 151 #[.slice A n c, .func (.func 120) #[] #[.pointer (some ⟨q, 0, none⟩)]] w fun e w1 => e = .returned (.int .i64 (idxB (inSp a) xs)) ∧ New w w1 := by
  have Hx := hide hx
  have Hq := hide hq
  have Hn := hide hn
  clear hx hq hn
  go_enter Tryz.func151, Tryz.ntmps151
  go_wp2_with fail
  go_loopw [8] (fun i wr => ∃ k : Nat, k ≤ n ∧ i = .int .i64 k ∧ New w wr ∧ ∀ j x, j < k → xs[j]? = some x → inSp a x = false) (fun i _ => n - (intOf i).toNat)
  case atStart => exact ⟨0, by omega, rfl, Upd.refl _ _, fun j x h => absurd h (by omega)⟩
  case round =>
    obtain ⟨k, hk, rfl, hnew, hz⟩ := hrel
    have Hz := hide hz
    have Hnew := hide hnew
    clear hz
    by_cases hlt : k < n
    · obtain ⟨b, o, x, rfl, zb, hxk, p1, p2⟩ := sps_at (k := k) (Hx.out.new_ hnew) (by have := Hn.out; omega)
      have Hxk := hide hxk
      have hc := inSpan_any x a q wr (Hq.out.new_ Hnew.out)
      have i1 : (k : Int) < (n : Int) := by omega
      clear hxk hnew
      cases hs : inSp a x with
      | true =>
        rw [hs] at hc
        have Hc := hide hc
        have Hs := hide hs
        clear hs hc
        go_wp2_with fail
        refine Hc.out.mono ?_
        rintro e w2 ⟨rfl, hu2⟩
        have N2 := hide (Hnew.out.trans_new hu2)
        clear hu2
        go_wp2_with fail
        go_ret
        exact ⟨by rw [idxB_at (inSp a) xs k x Hxk.out Hs.out Hz.out]; rfl, N2.out⟩
      | false =>
        rw [hs] at hc
        have Hc := hide hc
        have Hs := hide hs
        clear hs hc
        go_wp2_with fail
        refine Hc.out.mono ?_
        rintro e w2 ⟨rfl, hu2⟩
        have N2 := hide (Hnew.out.trans_new hu2)
        clear hu2
        go_wp2_with fail
        refine ⟨⟨k + 1, by omega, by go_num, N2.out, fun j y hj hy => ?_⟩, by simp [intOf]; omega⟩
        by_cases hjk : j < k
        · exact Hz.out j y hjk hy
        · obtain rfl : j = k := by omega
          rw [Hxk.out] at hy
          injection hy with hy
          subst hy
          exact Hs.out
    · have hkn : k = n := by omega
      subst hkn
      have Hno := hide (show idxB (inSp a) xs = -1 from idxB_no _ _ fun i x hx => Hz.out i x (by have := (List.getElem?_eq_some_iff.1 hx).1; have := Hn.out; omega) hx)
      clear hlt
      go_wp2_with fail
      go_ret
      exact ⟨by rw [Hno.out]; rfl, Hnew.out⟩
set_option maxHeartbeats 1000000 in
theorem con_sp (A : Option Addr) (n c q : Nat) (a : Int) (xs : List (Nat × Nat))  (w : World) (hx : Rws w A 2 (xs.map spc)) (hn : xs.length = n) (hq : Blk w q 3 #[.int .i64 a]) (hl : n ≤ 4294967296) :
    Calls Tryz.prog 119 #[.slice A n c, .func (.func 120) #[] #[.pointer (some ⟨q, 0, none⟩)]] w fun e w1 => e = .returned (.bool (xs.any (inSp a))) ∧ New w w1 := by
  have hi := idx_sp A n c q a xs w hx hn hq hl
  have hany := (idxB_any (inSp a) xs).symm
  have hb := idxB_neg (inSp a) xs
  generalize idxB (inSp a) xs = i at *
  have Hi := hide hi
  have Hany := hide hany
  clear hi hx hq hany
  go_enter Tryz.func119, Tryz.ntmps119
  go_wp2_with fail
  refine Hi.out.mono ?_
  rintro e w1 ⟨rfl, hu⟩
  go_wp2_with fail
  go_ret
  exact ⟨by rw [Hany.out]; rfl, hu⟩

/-- Whether an address is in spans. -/
def inSL (r : List (Nat × Nat)) (a : Int) : Bool := r.any (inSp a)
set_option maxHeartbeats 1000000 in
theorem inSpans_any (A : Option Addr) (n c : Nat) (r : List (Nat × Nat)) (a : Int) (w : World) (hx : Rws w A 2 (r.map spc)) (hn : r.length = n) (hl : n ≤ 1000000) :
    Calls Tryz.prog 118 #[.slice A n c, .int .i64 a] w fun e w1 => e = .returned (.bool (inSL r a)) ∧ New w w1 := by
  have U := hide ((Upd.refl (fun _ => False) w).alloc (.cells #[.int .i64 a] 3))
  have Hc := hide (con_sp A n c w.heap.size a r (w.alloc (.cells #[.int .i64 a] 3)) (hx.new_ U.out) hn (Blk.new _ _ _) (by omega))
  unfold inSL
  generalize r.any (inSp a) = b at *
  clear hx hn
  go_enter Tryz.func118, Tryz.ntmps118
  go_wp2_with fail
  refine Hc.out.mono ?_
  rintro e w1 ⟨rfl, hu⟩
  go_wp2_with fail
  go_ret
  exact ⟨rfl, U.out.trans_new hu⟩
def hasP (a : Int) (p : Pf) : Bool := hasB p.a p.n a
set_option maxHeartbeats 1000000 in
theorem hasCl_any (p : Pf) (a : Int) (E : Nat → Addr) (q : Nat) (w : World) (h2 : Sen w gBound (E 2)) (h3 : Sen w gShape (E 3)) (hq : Blk w q 3 #[.int .i64 a]) :
    Calls Tryz.prog 77 #[.agg #[.int .i64 p.a, .int .i64 p.n], .pointer (some ⟨q, 0, none⟩)] w fun e w1 => e = .returned (.bool (hasP a p)) ∧ New w w1 := by
  have e0 : hasP a p = hasB p.a p.n a := rfl
  rw [e0]
  clear e0
  have BX := hide (Blk.new w TPf #[.int .i64 p.a, .int .i64 p.n])
  have U := hide ((Upd.refl (fun _ => False) w).alloc (.cells #[.int .i64 p.a, .int .i64 p.n] TPf))
  have hq2 := hq.alloc (.cells #[.int .i64 p.a, .int .i64 p.n] TPf)
  have HQ := hide hq2
  have Hc := hide (has_any p.a p.n a E (w.alloc (.cells #[.int .i64 p.a, .int .i64 p.n] TPf)) (h2.new U.out) (h3.new U.out))
  clear hq hq2 h2 h3
  go_enter Tryz.func77, Tryz.ntmps77
  go_upto_region 1 with (fail)
  generalize w.alloc (.cells #[.int .i64 p.a, .int .i64 p.n] TPf) = W at *
  generalize w.heap.size = X at *
  have x0 := BX.out.cell 0
  have x1 := BX.out.cell 1
  have xz := BX.out.lt
  have q0 := HQ.out.cell 0
  have qz := HQ.out.lt
  simp only [List.getElem?_toArray, List.getElem?_cons_zero, List.getElem?_cons_succ] at x0 x1 q0
  go_wp2_with fail
  refine Hc.out.mono ?_
  rintro e w1 ⟨rfl, hu⟩
  go_wp2_with fail
  go_ret
  exact ⟨rfl, U.out.trans_new hu⟩

set_option maxRecDepth 8000 in
set_option maxHeartbeats 2000000 in
theorem idx_pf (A : Option Addr) (n c q : Nat) (a : Int) (xs : List Pf) (E : Nat → Addr) (w : World) (h2 : Sen w gBound (E 2)) (h3 : Sen w gShape (E 3)) (hx : Rws w A 2 (xs.map Pf.cells)) (hn : xs.length = n) (hq : Blk w q 3 #[.int .i64 a]) (hl : n ≤ 4294967296) :
    Calls Tryz.prog 115 #[.slice A n c, .func (.func 77) #[] #[.pointer (some ⟨q, 0, none⟩)]] w fun e w1 => e = .returned (.int .i64 (idxB (hasP a) xs)) ∧ New w w1 := by
  have Hx := hide hx
  have Hq := hide hq
  have Hn := hide hn
  have H2 := hide h2
  have H3 := hide h3
  clear hx hq hn h2 h3
  go_enter Tryz.func115, Tryz.ntmps115
  go_wp2_with fail
  go_loopw [8] (fun i wr => ∃ k : Nat, k ≤ n ∧ i = .int .i64 k ∧ New w wr ∧ ∀ j x, j < k → xs[j]? = some x → hasP a x = false) (fun i _ => n - (intOf i).toNat)
  case atStart => exact ⟨0, by omega, rfl, Upd.refl _ _, fun j x h => absurd h (by omega)⟩
  case round =>
    obtain ⟨k, hk, rfl, hnew, hz⟩ := hrel
    have Hz := hide hz
    have Hnew := hide hnew
    clear hz
    by_cases hlt : k < n
    · obtain ⟨b, o, x, rfl, zb, hxk, p1, p2⟩ := rws_two (k := k) (Hx.out.new_ hnew) (by have := Hn.out; omega)
      have Hxk := hide hxk
      have hc := hasCl_any x a E q wr (H2.out.new Hnew.out) (H3.out.new Hnew.out) (Hq.out.new_ Hnew.out)
      have i1 : (k : Int) < (n : Int) := by omega
      clear hxk hnew
      cases hs : hasP a x with
      | true =>
        rw [hs] at hc
        have Hc := hide hc
        have Hs := hide hs
        clear hs hc
        go_wp2_with fail
        refine Hc.out.mono ?_
        rintro e w2 ⟨rfl, hu2⟩
        have N2 := hide (Hnew.out.trans_new hu2)
        clear hu2
        go_wp2_with fail
        go_ret
        exact ⟨by rw [idxB_at (hasP a) xs k x Hxk.out Hs.out Hz.out]; rfl, N2.out⟩
      | false =>
        rw [hs] at hc
        have Hc := hide hc
        have Hs := hide hs
        clear hs hc
        go_wp2_with fail
        refine Hc.out.mono ?_
        rintro e w2 ⟨rfl, hu2⟩
        have N2 := hide (Hnew.out.trans_new hu2)
        clear hu2
        go_wp2_with fail
        refine ⟨⟨k + 1, by omega, by go_num, N2.out, fun j y hj hy => ?_⟩, by simp [intOf]; omega⟩
        by_cases hjk : j < k
        · exact Hz.out j y hjk hy
        · obtain rfl : j = k := by omega
          rw [Hxk.out] at hy
          injection hy with hy
          subst hy
          exact Hs.out
    · have hkn : k = n := by omega
      subst hkn
      have Hno := hide (show idxB (hasP a) xs = -1 from idxB_no _ _ fun i x hx => Hz.out i x (by have := (List.getElem?_eq_some_iff.1 hx).1; have := Hn.out; omega) hx)
      clear hlt
      go_wp2_with fail
      go_ret
      exact ⟨by rw [Hno.out]; rfl, Hnew.out⟩
set_option maxHeartbeats 1000000 in
theorem con_pf (A : Option Addr) (n c q : Nat) (a : Int) (xs : List Pf) (E : Nat → Addr) (w : World) (h2 : Sen w gBound (E 2)) (h3 : Sen w gShape (E 3)) (hx : Rws w A 2 (xs.map Pf.cells)) (hn : xs.length = n) (hq : Blk w q 3 #[.int .i64 a]) (hl : n ≤ 4294967296) :
    Calls Tryz.prog 76 #[.slice A n c, .func (.func 77) #[] #[.pointer (some ⟨q, 0, none⟩)]] w fun e w1 => e = .returned (.bool (xs.any (hasP a))) ∧ New w w1 := by
  have hi := idx_pf A n c q a xs E w h2 h3 hx hn hq hl
  have hany := (idxB_any (hasP a) xs).symm
  have hb := idxB_neg (hasP a) xs
  generalize idxB (hasP a) xs = i at *
  have Hi := hide hi
  have Hany := hide hany
  clear hi hx hq hany
  go_enter Tryz.func76, Tryz.ntmps76
  go_wp2_with fail
  refine Hi.out.mono ?_
  rintro e w1 ⟨rfl, hu⟩
  go_wp2_with fail
  go_ret
  exact ⟨by rw [Hany.out]; rfl, hu⟩

set_option maxHeartbeats 1000000 in
theorem setHas_any (A : Option Addr) (n c : Nat) (ps : List Pf) (a : Int) (E : Nat → Addr) (w : World) (h2 : Sen w gBound (E 2)) (h3 : Sen w gShape (E 3)) (hx : Rws w A 2 (ps.map Pf.cells)) (hn : ps.length = n) (hl : n ≤ 4294967296) :
    Calls Tryz.prog 36 #[.slice A n c, .int .i64 a] w fun e w1 => e = .returned (.bool (hasL ps a)) ∧ New w w1 := by
  have U := hide ((Upd.refl (fun _ => False) w).alloc (.cells #[.int .i64 a] 3))
  have Hc := hide (con_pf A n c w.heap.size a ps E (w.alloc (.cells #[.int .i64 a] 3)) (h2.new U.out) (h3.new U.out) (hx.new_ U.out) hn (Blk.new _ _ _) hl)
  have e : hasL ps a = ps.any (hasP a) := rfl
  rw [e]
  generalize ps.any (hasP a) = b at *
  clear hx hn e h2 h3
  go_enter Tryz.func36, Tryz.ntmps36
  go_wp2_with fail
  refine Hc.out.mono ?_
  rintro e w1 ⟨rfl, hu⟩
  go_wp2_with fail
  go_ret
  exact ⟨rfl, U.out.trans_new hu⟩
end Go.Proofs.YtignngpligicjaaGreatDoor

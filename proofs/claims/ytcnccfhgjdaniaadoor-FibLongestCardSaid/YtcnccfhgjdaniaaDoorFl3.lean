/- What is found is the longest: the walk. No condition but those that stand in each theorem. -/
import Derived.Test.YtcnccfhgjdaniaaDoorFl2
import Derived.Test.YtcnccfhgjdaniaaDoorFoS
namespace Go.Proofs.YtcnccfhgjdaniaaDoor
open Go.RowKit

/-- A table of at most sixty. -/
structure FT (B : Nat) (w : World) (t : Nat) (V : Fm.VM) (F : Nat → Prop) : Prop where
  tab : TabB B w t 60 (allT V).length V F
  val : Val V
  le : (allT V).length ≤ 60

theorem FT.upd {B : Nat} {S : Nat → Prop} {w w1 : World} {t : Nat} {V : Fm.VM} {F : Nat → Prop} (h : FT B w t V F) (hu : Upd S w w1) (hs : ∀ k, F k → ¬ S k) : FT B w1 t V F := ⟨h.tab.upd hu hs, h.val, h.le⟩
theorem FT.new {B : Nat} {w w1 : World} {t : Nat} {V : Fm.VM} {F : Nat → Prop} (h : FT B w t V F) (hu : New w w1) : FT B w1 t V F := ⟨h.tab.new hu, h.val, h.le⟩

theorem put_out (B : Nat) (a n hop : Int) (t : Nat) (V : Fm.VM) (F : Nat → Prop) (E : Nat → Addr) (w : World) (h2 : Sen w gBound (E 2)) (h3 : Sen w gShape (E 3)) (h7 : Sen w gFull (E 7)) (hT : FT B w t V F) (hB : B ≤ w.heap.size) :
    Calls Tryd.prog 14 #[.pointer (some ⟨t, 0, none⟩), .agg #[.int .i64 a, .int .i64 n], .int .i64 hop] w fun e w1 =>
      ∃ v V1 G, e = .returned v ∧ FT B w1 t V1 G ∧ Upd F w w1 := by
  by_cases h : chk a n = 0
  · have hl := len_put (V := V) h (some hop)
    cases hv : at1 V a n with
    | none =>
      rw [hv] at hl
      simp only [b2n, Option.isSome_none, Option.isSome_some, Bool.false_eq_true, ↓reduceIte, Nat.add_zero] at hl
      by_cases hf : ((allT V).length : Int) < 60
      · refine (put_tab B a n hop 60 _ t V F E w h2 h3 h hT.tab hv hf (by omega) (by decide) hB).mono ?_
        rintro e w1 ⟨G, rfl, hG, _, hu⟩
        refine ⟨_, put1 V a n (some hop), G, rfl, ⟨?_, hT.val.put h _, by have := hT.le; omega⟩, hu⟩
        rw [hl]; push_cast; exact hG
      · obtain ⟨r, N, hT1, hF⟩ := hT.tab.ex
        refine (put_full a n hop 60 _ t r N V E w h2 h3 h7 h hT1 hv (by omega)).mono ?_
        rintro e w1 ⟨rfl, hu⟩
        exact ⟨_, V, F, rfl, hT.new hu, Upd.of_new hu⟩
    | some x =>
      rw [hv] at hl
      simp only [b2n, Option.isSome_some, ↓reduceIte] at hl
      have hl2 : (allT (put1 V a n (some hop))).length = (allT V).length := by omega
      obtain ⟨r, N, hT1, hF⟩ := hT.tab.ex
      refine (put_old a n hop 60 _ x t r N V E w h2 h3 h hT1 hv).mono ?_
      rintro e w1 ⟨rfl, hG, hu⟩
      refine ⟨_, put1 V a n (some hop), F, rfl, ⟨?_, hT.val.put h _, by have := hT.le; omega⟩, by rw [hF]; exact hu⟩
      rw [hl2]
      exact ⟨⟨r, N, hG, hF⟩, hT.tab.from_⟩
  · refine (put_bad a n hop t E w h2 h3 h).mono ?_
    rintro e w1 ⟨rfl, hu⟩
    exact ⟨_, V, F, rfl, hT.new hu, Upd.of_new hu⟩

theorem cells3_get : ∀ (l : List (Nat × Nat × Int)) (k : Nat) (e : Nat × Nat × Int), l[k]? = some e →
    (cells3 l)[k * 3]? = some (.int .i64 (adr e.1 e.2.1)) ∧ (cells3 l)[k * 3 + 1]? = some (.int .i64 e.1) ∧ (cells3 l)[k * 3 + 2]? = some (.int .i64 e.2.2) := by
  intro l
  induction l with
  | nil => intro k e h; simp at h
  | cons z l ih =>
    intro k e h
    have hz : cells3 (z :: l) = [.int .i64 (adr z.1 z.2.1), .int .i64 z.1, .int .i64 z.2.2] ++ cells3 l := by simp [cells3]
    cases k with
    | zero => simp at h; subst h; rw [hz]; exact ⟨rfl, rfl, rfl⟩
    | succ k =>
      have := ih k e (by simpa using h)
      rw [hz, show (k + 1) * 3 = k * 3 + 3 by omega]
      simpa [List.getElem?_append] using this

/-- The row of all entries. -/
theorem row_ents {B : Nat} {w : World} {out : Value} {V : Fm.VM} (h : w.ownsRow B TE 3 out (allT V).length (cells3 (allT V))) :
    ∃ g c, out = .slice g (allT V).length c ∧ (allT V).length ≤ c ∧ (0 < (allT V).length → ∃ b, g = some ⟨b, 0, none⟩ ∧ Ents w b 0 (allX V) ∧ B ≤ b ∧ b < w.heap.size) := by
  rcases h.2 with ⟨rfl, h0⟩ | ⟨g, cap, cur, rfl, hg, hh, hc, _, _, ht⟩
  · exact ⟨none, 0, by rw [h0], by omega, fun h => by omega⟩
  · have hlt : g < w.heap.size := by
      rcases Nat.lt_or_ge g w.heap.size with hlt | hge
      · exact hlt
      · rw [Array.getElem?_eq_none hge] at hh; cases hh
    refine ⟨_, cap, rfl, hc, fun _ => ⟨g, rfl, ?_, hg, hlt⟩⟩
    intro i x hx
    unfold allX at hx
    rw [List.getElem?_map] at hx
    cases he : (allT V)[i]? with
    | none => rw [he] at hx; cases hx
    | some e =>
      rw [he] at hx
      simp only [Option.map_some, Option.some.injEq] at hx
      subst hx
      have hi := (List.getElem?_eq_some_iff.1 he).1
      obtain ⟨c1, c2, c3⟩ := cells3_get _ _ _ he
      have cell : ∀ j v, j < (allT V).length * 3 → (cells3 (allT V))[j]? = some v → w.cell? ⟨g, 0 + j, none⟩ = some v := by
        intro j v hj hv
        rw [← ht, List.getElem?_take_of_lt hj] at hv
        simp [World.cell?, hh]
        simpa using hv
      exact ⟨cell _ _ (by omega) c1, cell (i * 3 + 1) _ (by omega) c2, cell (i * 3 + 2) _ (by omega) c3⟩

set_option maxRecDepth 100000 in
set_option maxHeartbeats 4000000 in
theorem long_early (A : Option Addr) (len c : Nat) (a : Int) (E : Nat → Addr) (w : World) (h2 : Sen w gBound (E 2)) (h3 : Sen w gShape (E 3)) (h : (60 : Int) < len) :
    Calls Tryd.prog 3 #[.slice A len c, .int .i64 a] w fun e w1 => e = .returned (.bool true) ∧ New w w1 := by
  have Ht := hide (tabled_any E w h2 h3)
  clear h2 h3
  go_enter Tryd.func3, Tryd.ntmps3
  go_wp2_with fail
  refine Ht.out.mono ?_
  rintro e w1 ⟨rfl, hu⟩
  go_wp2_with fail
  all_goals go_ret
  all_goals exact ⟨rfl, hu⟩

theorem find_tab2 (B : Nat) (a ms cn : Int) (t : Nat) (V : Fm.VM) (F : Nat → Prop) (E : Nat → Addr) (w : World) (h2 : Sen w gBound (E 2)) (hT : TabB B w t ms cn V F) {p0 p1 p2 : Int} {p3 : Bool}
    (e0 : p0 = fA a (found V a)) (e1 : p1 = fB (found V a)) (e2 : p2 = fC (found V a)) (e3 : p3 = (found V a).isSome) :
    Calls Tryd.prog 16 #[.pointer (some ⟨t, 0, none⟩), .int .i64 a] w fun e w1 => e = .returned (.tuple #[.agg #[.int .i64 p0, .int .i64 p1], .int .i64 p2, .bool p3]) ∧ New w w1 := by
  subst e0; subst e1; subst e2; subst e3
  rw [← foundR_eq]
  exact find_tab B a ms cn t V F E w h2 hT

theorem any_take {α : Type} (l : List α) (p : α → Bool) (k : Nat) (x : α) (h : l[k]? = some x) : (l.take (k + 1)).any p = ((l.take k).any p || p x) := by
  rw [List.take_add_one, h]
  simp

set_option maxRecDepth 100000 in
set_option maxHeartbeats 4000000 in
theorem long_main (A : Option Addr) (len c : Nat) (xs : List E3) (a : Int) (E : Nat → Addr) (w : World) (h2 : Sen w gBound (E 2)) (h3 : Sen w gShape (E 3)) (h5 : Sen w gNone (E 5)) (h6 : Sen w gExist (E 6)) (h7 : Sen w gFull (E 7))
    (hx : 0 < len → ∃ b o, A = some ⟨b, o, none⟩ ∧ Ents w b o xs ∧ b < w.heap.size ∧ xs.length = len) (hl : (len : Int) ≤ 60) :
    Calls Tryd.prog 3 #[.slice A len c, .int .i64 a] w fun e w1 => e = .returned (.bool true) ∧ New w w1 := by
  have Ht := hide (tabled_any E w h2 h3)
  have H2 := hide h2
  have H3 := hide h3
  have H5 := hide h5
  have H6 := hide h6
  have H7 := hide h7
  have Hx := hide hx
  clear h2 h3 h5 h6 h7 hx
  go_enter Tryd.func3, Tryd.ntmps3
  go_wp2_with fail
  refine Ht.out.mono ?_
  rintro e w1 ⟨rfl, hu⟩
  go_wp2_with fail
  refine (new_tab w.heap.size 60 w1 hu.size).mono ?_
  rintro e w2 ⟨t, Ft, rfl, hT, hTn, hu2⟩
  have n2 := hu.trans_new hu2
  have HT := hide hT
  clear hT
  go_wp2_with fail
  go_loopw [7] (fun i wr => ∃ (k : Nat) (V : Fm.VM) (F : Nat → Prop), k ≤ len ∧ i = .int .i64 k ∧ New w wr ∧ FT w.heap.size wr t V F) (fun i _ => len - (intOf i).toNat)
  case atStart => exact ⟨0, V0, Ft, by omega, rfl, n2, ⟨by rw [len_zero]; exact HT.out, Val.zero, by rw [len_zero]; omega⟩⟩
  case round =>
    obtain ⟨k, V, F, hk, rfl, hnew, hft⟩ := hrel
    have Hft := hide hft
    clear hft
    by_cases hlt : k < len
    · obtain ⟨b, o, rfl, he, zb, hlen⟩ := Hx.out (by omega)
      obtain ⟨x, hxk⟩ : ∃ x, xs[k]? = some x := ⟨_, List.getElem?_eq_getElem (by omega)⟩
      have hxs := he.upd hnew zb (fun h => h)
      have Hxs := hide hxs
      have Hxk := hide hxk
      obtain ⟨p1, p2, p3⟩ := hxs k x hxk
      have i1 : (k : Int) < (len : Int) := by omega
      have zbq : b < wr.heap.size := Nat.lt_of_lt_of_le zb hnew.size
      have S2 := hide (H2.out.new hnew)
      have S3 := hide (H3.out.new hnew)
      have S7 := hide (H7.out.new hnew)
      clear hxk hxs he hlen
      go_wp2_with fail
      go_region_held3 (fun w' => w'.cell? ⟨b, o + k * 3, none⟩ = some (.int .i64 x.a) ∧ w'.cell? ⟨b, o + k * 3 + 1, none⟩ = some (.int .i64 x.n) ∧ w'.cell? ⟨b, o + k * 3 + 2, none⟩ = some (.int .i64 x.h))
        (first | go_keep | exact He5.out k x Hxk.out)
        (first
          | (go_at_call 14; refine (put_out w.heap.size _ _ _ _ _ F E _ (by exact S2.out.drew) (by exact S3.out.drew) (by exact S7.out.drew) (by exact Hft.out.new (Upd.refl _ _).drew) (by exact hnew.size)).mono ?_; rintro e w5 ⟨v5, V5, F5, rfl, ht5, hu5⟩; have He5 := hide (Hxs.out.drew.upd hu5 zbq (fun hq => absurd (Hft.out.tab.from_ _ hq) (by omega))); have Ht5 := hide ht5; clear ht5))
      go_wp2_with fail
      exact ⟨⟨k + 1, V5, F5, by omega, by go_num, hnew.trans ((Upd.refl _ _).drew.trans' hu5) (fun q h1 h2 => absurd (Hft.out.tab.from_ _ h2) (by omega)), Ht5.out⟩, by simp [intOf]; omega⟩
    · have S2 := hide (H2.out.new hnew)
      have S3 := hide (H3.out.new hnew)
      have S5 := hide (H5.out.new hnew)
      have S6 := hide (H6.out.new hnew)
      have S7 := hide (H7.out.new hnew)
      have zwr := hnew.size
      have Ha := hide (all_tab w.heap.size E 60 _ t V F wr Hft.out.tab S2.out S3.out S5.out (by have h0 : (lst V 33 0 0).length ≤ 60 := Hft.out.le; omega))
      go_wp2_with fail
      refine Ha.out.mono ?_
      rintro e w3 ⟨out, rfl, hrow, hu3⟩
      obtain ⟨g, c1, rfl, hnc, hg⟩ := row_ents hrow
      obtain ⟨p0, e0⟩ : ∃ p, p = fA a (found V a) := ⟨_, rfl⟩
      obtain ⟨p1, e1⟩ : ∃ p, p = fB (found V a) := ⟨_, rfl⟩
      obtain ⟨p2, e2⟩ : ∃ p, p = fC (found V a) := ⟨_, rfl⟩
      obtain ⟨p3, e3⟩ : ∃ p, p = (found V a).isSome := ⟨_, rfl⟩
      have hle := Hft.out.le
      have hlx := allX_len V
      have hthere := found_there Hft.out.val a
      rw [← e0, ← e1, ← e2, ← e3] at hthere
      have T1 := hide (Hft.out.new hu3)
      have F1 := hide (find_tab2 w.heap.size a 60 _ t V F E w3 (S2.out.new hu3) T1.out.tab e0 e1 e2 e3)
      generalize hn : (allT V).length = n at *
      have Hg := hide hg
      have Hn := hide hn
      have Hlx := hide hlx
      have Hthere := hide hthere
      have E0 := hide e0
      have E1 := hide e1
      have E2 := hide e2
      have E3 := hide e3
      clear hrow hg hn e0 e1 e2 e3 hlx hthere
      go_wp2_with fail
      refine F1.out.mono ?_
      rintro e w4 ⟨rfl, hu4⟩
      have n4 : New wr w4 := hu3.trans_new hu4
      have n5 : New wr (w4.alloc (.cells #[.int .i64 p0, .int .i64 p1] TP)) := n4.alloc _
      have B5 := hide (Blk.new w4 TP #[.int .i64 p0, .int .i64 p1])
      have G5 : Hid (0 < n → ∃ b o, g = some ⟨b, o, none⟩ ∧ Ents (w4.alloc (.cells #[.int .i64 p0, .int .i64 p1] TP)) b o (allX V) ∧ b < (w4.alloc (.cells #[.int .i64 p0, .int .i64 p1] TP)).heap.size ∧ w.heap.size ≤ b) := by
        intro hpos
        obtain ⟨b, e, he, hb1, hb2⟩ := Hg.out hpos
        exact ⟨b, 0, e, he.upd (hu4.alloc _) hb2 (fun h => h), by have := hu4.size; simp; omega, by omega⟩
      go_wp2_with fail
      generalize hw5 : w4.alloc (.cells #[.int .i64 p0, .int .i64 p1] TP) = w5 at *
      obtain ⟨q, hq⟩ : ∃ q, q = w4.heap.size := ⟨_, rfl⟩
      rw [← hq] at B5
      simp only [← hq]
      have Hw5 := hide hw5
      have Hq := hide hq
      clear hw5 hq
      go_loopw [12, 13] (fun th i wq => ∃ (k : Nat), k ≤ n ∧ i = .int .i64 k ∧ th = .bool (((allX V).take k).any (isF p0 p1 p2 a)) ∧ New w5 wq) (fun _ i _ => n - (intOf i).toNat)
      case atStart => exact ⟨0, by omega, rfl, rfl, Upd.refl _ _⟩
      case round =>
        obtain ⟨k, hk, rfl, rfl, hnq⟩ := hrel
        by_cases hlt2 : k < n
        · obtain ⟨b, o, rfl, he, zb, _⟩ := G5.out (by omega)
          obtain ⟨x, hxk⟩ : ∃ x, (allX V)[k]? = some x := ⟨_, List.getElem?_eq_getElem (by have := Hlx.out; omega)⟩
          have hxs := he.upd hnq zb (fun h => h)
          have Hxs := hide hxs
          obtain ⟨p1_, p2_, p3_⟩ := hxs k x hxk
          have Hxk := hide hxk
          have i1 : (k : Int) < (n : Int) := by omega
          have zbq : b < wr.heap.size := Nat.lt_of_lt_of_le zb hnq.size
          have hat := any_take (allX V) (isF p0 p1 p2 a) k x hxk
          have Hat := hide hat
          generalize hth : ((allX V).take k).any (isF p0 p1 p2 a) = th at *
          have Hth := hide hth
          clear he hxs hxk hat hth
          have T2 := hide (S2.out.new (n5.trans_new hnq))
          have T3 := hide (S3.out.new (n5.trans_new hnq))
          have T5 := hide (T1.out)
          generalize hW0 : wr = W0 at *
          have HW0 := hide hW0
          clear hW0
          by_cases hk0 : k = 0
          · subst hk0
            simp only [Nat.zero_mul, Nat.add_zero] at p1_ p2_ p3_
            go_upto_region 17 with (fail)
            refine wp_region_new W0 (Upd.refl _ _) (by kernel_rfl) (by kernel_rfl) ?_
            repeat (go_big_quiet_step (fail))
            refine wpQuiet_nil ?_
            rintro _ ⟨nq, rfl⟩
            go_wp2_with fail
            refine (has_any x.a x.n a E nq.w (T2.out.new nq.h) (T3.out.new nq.h)).mono ?_
            rintro e w6 ⟨rfl, hu6⟩
            have n6 : New W0 w6 := nq.h.trans_new hu6
            obtain ⟨r1, r2, r3⟩ := Hxs.out.upd n6 zbq (fun h => h) 0 x Hxk.out
            simp only [Nat.zero_mul, Nat.add_zero] at r1 r2 r3
            have zb6 : b < w6.heap.size := Nat.lt_of_lt_of_le zbq n6.size
            have bq := (B5.out.new_ hnq).new_ n6
            have d0 := bq.cell 0
            have d1 := bq.cell 1
            have zq6 := bq.lt
            simp only [List.getElem?_toArray, List.getElem?_cons_zero, List.getElem?_cons_succ] at d0 d1
            have g1 := guard_pfx
            have g2 := eql_pfx x.a x.n p0 p1
            have hisF : isF p0 p1 p2 a x = ((x.a == p0 && x.n == p1) && x.h == p2 && hasB x.a x.n a) := rfl
            generalize he1 : (x.a == p0 && x.n == p1) = e1 at *
            have HisF := hide hisF
            clear bq hisF he1 p1_ p2_ p3_
            cases hh : hasB x.a x.n a with
            | false =>
              have Hh := hide hh
              clear hh
              go_upto_region 20 with (fail)
              refine wp_region_new w6 (Upd.refl _ _) (by kernel_rfl) (by kernel_rfl) ?_
              repeat (go_big_quiet_step (fail))
              refine wpQuiet_nil ?_
              rintro _ ⟨n7, rfl⟩
              go_wp2_with fail
              cases th with
              | true =>
                go_upto_region 22 with (fail)
                refine wp_region_new w6 n7.h (by kernel_rfl) (by kernel_rfl) ?_
                repeat (go_big_quiet_step (fail))
                refine wpQuiet_nil ?_
                rintro _ ⟨n8, rfl⟩
                go_wp2_with fail
                exact ⟨⟨0 + 1, by omega, by go_num, by rw [Hat.out]; rfl, (hnq.trans_new n6).trans_new n8.h⟩, by simp [intOf]; omega⟩
              | false =>
                cases e1 with
                | false =>
                  go_upto_region 22 with (fail)
                  refine wp_region_new w6 n7.h (by kernel_rfl) (by kernel_rfl) ?_
                  repeat (go_big_quiet_step (fail))
                  refine wpQuiet_nil ?_
                  rintro _ ⟨n8, rfl⟩
                  go_wp2_with fail
                  exact ⟨⟨0 + 1, by omega, by go_num, by rw [Hat.out, HisF.out]; rfl, (hnq.trans_new n6).trans_new n8.h⟩, by simp [intOf]; omega⟩
                | true =>
                  obtain ⟨xh, hxh⟩ : ∃ z, z = x.h := ⟨_, rfl⟩
                  rw [← hxh] at r3
                  have Hxh := hide hxh
                  clear hxh
                  by_cases hp : xh = p2
                  · subst hp
                    go_upto_region 22 with (fail)
                    refine wp_region_new w6 n7.h (by kernel_rfl) (by kernel_rfl) ?_
                    repeat (go_big_quiet_step (fail))
                    refine wpQuiet_nil ?_
                    rintro _ ⟨n8, rfl⟩
                    go_wp2_with fail
                    exact ⟨⟨0 + 1, by omega, by go_num, by rw [Hat.out, HisF.out, Hh.out, ← Hxh.out]; simp, (hnq.trans_new n6).trans_new n8.h⟩, by simp [intOf]; omega⟩
                  · have hp2 : (xh == p2) = false := by simpa using hp
                    go_upto_region 22 with (fail)
                    refine wp_region_new w6 n7.h (by kernel_rfl) (by kernel_rfl) ?_
                    repeat (go_big_quiet_step (fail))
                    refine wpQuiet_nil ?_
                    rintro _ ⟨n8, rfl⟩
                    go_wp2_with fail
                    exact ⟨⟨0 + 1, by omega, by go_num, by rw [Hat.out, HisF.out, ← Hxh.out, hp2]; simp, (hnq.trans_new n6).trans_new n8.h⟩, by simp [intOf]; omega⟩
            | true =>
              obtain ⟨hp3, hle3⟩ := found_has Hft.out.val Hxk.out hh
              rw [← E3.out] at hp3
              rw [← E1.out] at hle3
              have Hh := hide hh
              clear hh
              subst hp3
              have hgt : ¬ p1 < x.n := by omega
              go_upto_region 20 with (fail)
              refine wp_region_new w6 (Upd.refl _ _) (by kernel_rfl) (by kernel_rfl) ?_
              repeat (go_big_quiet_step (fail))
              refine wpQuiet_nil ?_
              rintro _ ⟨n7, rfl⟩
              go_wp2_with fail
              cases th with
              | true =>
                go_upto_region 22 with (fail)
                refine wp_region_new w6 n7.h (by kernel_rfl) (by kernel_rfl) ?_
                repeat (go_big_quiet_step (fail))
                refine wpQuiet_nil ?_
                rintro _ ⟨n8, rfl⟩
                go_wp2_with fail
                exact ⟨⟨0 + 1, by omega, by go_num, by rw [Hat.out]; rfl, (hnq.trans_new n6).trans_new n8.h⟩, by simp [intOf]; omega⟩
              | false =>
                cases e1 with
                | false =>
                  go_upto_region 22 with (fail)
                  refine wp_region_new w6 n7.h (by kernel_rfl) (by kernel_rfl) ?_
                  repeat (go_big_quiet_step (fail))
                  refine wpQuiet_nil ?_
                  rintro _ ⟨n8, rfl⟩
                  go_wp2_with fail
                  exact ⟨⟨0 + 1, by omega, by go_num, by rw [Hat.out, HisF.out]; rfl, (hnq.trans_new n6).trans_new n8.h⟩, by simp [intOf]; omega⟩
                | true =>
                  obtain ⟨xh, hxh⟩ : ∃ z, z = x.h := ⟨_, rfl⟩
                  rw [← hxh] at r3
                  have Hxh := hide hxh
                  clear hxh
                  by_cases hp : xh = p2
                  · subst hp
                    go_upto_region 22 with (fail)
                    refine wp_region_new w6 n7.h (by kernel_rfl) (by kernel_rfl) ?_
                    repeat (go_big_quiet_step (fail))
                    refine wpQuiet_nil ?_
                    rintro _ ⟨n8, rfl⟩
                    go_wp2_with fail
                    exact ⟨⟨0 + 1, by omega, by go_num, by rw [Hat.out, HisF.out, Hh.out, ← Hxh.out]; simp, (hnq.trans_new n6).trans_new n8.h⟩, by simp [intOf]; omega⟩
                  · have hp2 : (xh == p2) = false := by simpa using hp
                    go_upto_region 22 with (fail)
                    refine wp_region_new w6 n7.h (by kernel_rfl) (by kernel_rfl) ?_
                    repeat (go_big_quiet_step (fail))
                    refine wpQuiet_nil ?_
                    rintro _ ⟨n8, rfl⟩
                    go_wp2_with fail
                    exact ⟨⟨0 + 1, by omega, by go_num, by rw [Hat.out, HisF.out, ← Hxh.out, hp2]; simp, (hnq.trans_new n6).trans_new n8.h⟩, by simp [intOf]; omega⟩
          · have i0 : (0:Int) < (k:Int) := by omega
            have i0n : 0 < k := by omega
            obtain ⟨m, hm⟩ : ∃ m : Nat, m = k - 1 := ⟨_, rfl⟩
            obtain ⟨y, hym⟩ : ∃ y, (allX V)[m]? = some y := ⟨_, List.getElem?_eq_getElem (by have := Hlx.out; omega)⟩
            have hmi : (k : Int) - 1 = (m : Int) := by omega
            have i2 : (m : Int) < (n : Int) := by omega
            obtain ⟨q1, q2, q3⟩ := Hxs.out m y hym
            have Hless := hide (allX_less Hft.out.val (by omega) hym Hxk.out)
            have Hym := hide hym
            have Hm := hide hm
            clear hym hm hk0
            go_upto_region 17 with (fail)
            have Hlt := hide (less_any y.a y.n x.a x.n E)
            rw [Hless.out] at Hlt
            refine wp_region_new W0 (Upd.refl _ _) (by kernel_rfl) (by kernel_rfl) ?_
            repeat (go_big_quiet_step ((go_at_call 17; exact new_call (Hlt.out _ (T2.out.new (NewW.h _)) (T3.out.new (NewW.h _))))))
            refine wpQuiet_nil ?_
            rintro _ ⟨nq, rfl⟩
            go_wp2_with fail
            refine (has_any x.a x.n a E nq.w (T2.out.new nq.h) (T3.out.new nq.h)).mono ?_
            rintro e w6 ⟨rfl, hu6⟩
            have n6 : New W0 w6 := nq.h.trans_new hu6
            obtain ⟨r1, r2, r3⟩ := Hxs.out.upd n6 zbq (fun h => h) k x Hxk.out
            have zb6 : b < w6.heap.size := Nat.lt_of_lt_of_le zbq n6.size
            have bq := (B5.out.new_ hnq).new_ n6
            have d0 := bq.cell 0
            have d1 := bq.cell 1
            have zq6 := bq.lt
            simp only [List.getElem?_toArray, List.getElem?_cons_zero, List.getElem?_cons_succ] at d0 d1
            have g1 := guard_pfx
            have g2 := eql_pfx x.a x.n p0 p1
            have hisF : isF p0 p1 p2 a x = ((x.a == p0 && x.n == p1) && x.h == p2 && hasB x.a x.n a) := rfl
            generalize he1 : (x.a == p0 && x.n == p1) = e1 at *
            have HisF := hide hisF
            clear bq hisF he1 p1_ p2_ p3_ q1 q2 q3
            cases hh : hasB x.a x.n a with
            | false =>
              have Hh := hide hh
              clear hh
              go_upto_region 20 with (fail)
              refine wp_region_new w6 (Upd.refl _ _) (by kernel_rfl) (by kernel_rfl) ?_
              repeat (go_big_quiet_step (fail))
              refine wpQuiet_nil ?_
              rintro _ ⟨n7, rfl⟩
              go_wp2_with fail
              cases th with
              | true =>
                go_upto_region 22 with (fail)
                refine wp_region_new w6 n7.h (by kernel_rfl) (by kernel_rfl) ?_
                repeat (go_big_quiet_step (fail))
                refine wpQuiet_nil ?_
                rintro _ ⟨n8, rfl⟩
                go_wp2_with fail
                exact ⟨⟨k + 1, by omega, by go_num, by rw [Hat.out]; rfl, (hnq.trans_new n6).trans_new n8.h⟩, by simp [intOf]; omega⟩
              | false =>
                cases e1 with
                | false =>
                  go_upto_region 22 with (fail)
                  refine wp_region_new w6 n7.h (by kernel_rfl) (by kernel_rfl) ?_
                  repeat (go_big_quiet_step (fail))
                  refine wpQuiet_nil ?_
                  rintro _ ⟨n8, rfl⟩
                  go_wp2_with fail
                  exact ⟨⟨k + 1, by omega, by go_num, by rw [Hat.out, HisF.out]; rfl, (hnq.trans_new n6).trans_new n8.h⟩, by simp [intOf]; omega⟩
                | true =>
                  obtain ⟨xh, hxh⟩ : ∃ z, z = x.h := ⟨_, rfl⟩
                  rw [← hxh] at r3
                  have Hxh := hide hxh
                  clear hxh
                  by_cases hp : xh = p2
                  · subst hp
                    go_upto_region 22 with (fail)
                    refine wp_region_new w6 n7.h (by kernel_rfl) (by kernel_rfl) ?_
                    repeat (go_big_quiet_step (fail))
                    refine wpQuiet_nil ?_
                    rintro _ ⟨n8, rfl⟩
                    go_wp2_with fail
                    exact ⟨⟨k + 1, by omega, by go_num, by rw [Hat.out, HisF.out, Hh.out, ← Hxh.out]; simp, (hnq.trans_new n6).trans_new n8.h⟩, by simp [intOf]; omega⟩
                  · have hp2 : (xh == p2) = false := by simpa using hp
                    go_upto_region 22 with (fail)
                    refine wp_region_new w6 n7.h (by kernel_rfl) (by kernel_rfl) ?_
                    repeat (go_big_quiet_step (fail))
                    refine wpQuiet_nil ?_
                    rintro _ ⟨n8, rfl⟩
                    go_wp2_with fail
                    exact ⟨⟨k + 1, by omega, by go_num, by rw [Hat.out, HisF.out, ← Hxh.out, hp2]; simp, (hnq.trans_new n6).trans_new n8.h⟩, by simp [intOf]; omega⟩
            | true =>
              obtain ⟨hp3, hle3⟩ := found_has Hft.out.val Hxk.out hh
              rw [← E3.out] at hp3
              rw [← E1.out] at hle3
              have Hh := hide hh
              clear hh
              subst hp3
              have hgt : ¬ p1 < x.n := by omega
              go_upto_region 20 with (fail)
              refine wp_region_new w6 (Upd.refl _ _) (by kernel_rfl) (by kernel_rfl) ?_
              repeat (go_big_quiet_step (fail))
              refine wpQuiet_nil ?_
              rintro _ ⟨n7, rfl⟩
              go_wp2_with fail
              cases th with
              | true =>
                go_upto_region 22 with (fail)
                refine wp_region_new w6 n7.h (by kernel_rfl) (by kernel_rfl) ?_
                repeat (go_big_quiet_step (fail))
                refine wpQuiet_nil ?_
                rintro _ ⟨n8, rfl⟩
                go_wp2_with fail
                exact ⟨⟨k + 1, by omega, by go_num, by rw [Hat.out]; rfl, (hnq.trans_new n6).trans_new n8.h⟩, by simp [intOf]; omega⟩
              | false =>
                cases e1 with
                | false =>
                  go_upto_region 22 with (fail)
                  refine wp_region_new w6 n7.h (by kernel_rfl) (by kernel_rfl) ?_
                  repeat (go_big_quiet_step (fail))
                  refine wpQuiet_nil ?_
                  rintro _ ⟨n8, rfl⟩
                  go_wp2_with fail
                  exact ⟨⟨k + 1, by omega, by go_num, by rw [Hat.out, HisF.out]; rfl, (hnq.trans_new n6).trans_new n8.h⟩, by simp [intOf]; omega⟩
                | true =>
                  obtain ⟨xh, hxh⟩ : ∃ z, z = x.h := ⟨_, rfl⟩
                  rw [← hxh] at r3
                  have Hxh := hide hxh
                  clear hxh
                  by_cases hp : xh = p2
                  · subst hp
                    go_upto_region 22 with (fail)
                    refine wp_region_new w6 n7.h (by kernel_rfl) (by kernel_rfl) ?_
                    repeat (go_big_quiet_step (fail))
                    refine wpQuiet_nil ?_
                    rintro _ ⟨n8, rfl⟩
                    go_wp2_with fail
                    exact ⟨⟨k + 1, by omega, by go_num, by rw [Hat.out, HisF.out, Hh.out, ← Hxh.out]; simp, (hnq.trans_new n6).trans_new n8.h⟩, by simp [intOf]; omega⟩
                  · have hp2 : (xh == p2) = false := by simpa using hp
                    go_upto_region 22 with (fail)
                    refine wp_region_new w6 n7.h (by kernel_rfl) (by kernel_rfl) ?_
                    repeat (go_big_quiet_step (fail))
                    refine wpQuiet_nil ?_
                    rintro _ ⟨n8, rfl⟩
                    go_wp2_with fail
                    exact ⟨⟨k + 1, by omega, by go_num, by rw [Hat.out, HisF.out, ← Hxh.out, hp2]; simp, (hnq.trans_new n6).trans_new n8.h⟩, by simp [intOf]; omega⟩
        · have hkn : k = n := by omega
          have hth : ((allX V).take k).any (isF p0 p1 p2 a) = p3 := by rw [hkn, List.take_of_length_le (by have := Hlx.out; omega)]; exact Hthere.out
          rw [hth]
          have nW : New w wr := (hnew.trans_new n5).trans_new hnq
          have Nfq : Hid (¬ F q) := fun h => by have h1 := Hft.out.tab.lt h; have h2 := n4.size; have h3 := Hq.out; omega
          have T6 := hide ((Hft.out.new n5).new hnq)
          have B6 := hide (B5.out.new_ hnq)
          obtain ⟨b, o, hA⟩ : ∃ b o, 0 < n → g = some ⟨b, o, none⟩ ∧ Ents wr b o (allX V) ∧ b < wr.heap.size := by
            by_cases h0 : 0 < n
            · obtain ⟨b, o, hg, he, hb, _⟩ := G5.out h0
              exact ⟨b, o, fun _ => ⟨hg, he.upd hnq hb (fun h => h), Nat.lt_of_lt_of_le hb hnq.size⟩⟩
            · exact ⟨0, 0, fun h => absurd h h0⟩
          have HA := hide hA
          have hzq := B6.out.lt
          have Hzw := hide nW.size
          clear hA hth hkn
          go_wp2_with fail
          refine (new_tab w.heap.size 60 wr nW.size).mono ?_
          rintro e w6 ⟨u, Fu, rfl, hU, hUn, hu6⟩
          have HU := hide hU
          have HUn := hide hUn
          have n6 := nW.trans_new hu6
          clear hU hUn
          go_wp2_with fail
          refine (set_any w.heap.size b o c1 u n g 60 0 (allX V) V0 Fu E w6 (H2.out.new n6) (H3.out.new n6) (H6.out.new n6) (H7.out.new n6) (fun h => ⟨(HA.out h).1, (HA.out h).2.1.upd hu6 (HA.out h).2.2 (fun h => h), Nat.lt_of_lt_of_le (HA.out h).2.2 hu6.size⟩) Hlx.out (by omega) hnc (by omega) HU.out n6.size).mono ?_
          rintro e w7 (⟨k1, f, x, hxk, hbad, _⟩ | ⟨_, rfl, G, hG, hGn, hu7⟩)
          · exact absurd (allX_set Hft.out.val Hft.out.le hxk) hbad
          rw [allX_VI Hft.out.val, Hlx.out] at hG
          have un : ∀ q, Fu q → w.heap.size ≤ q := fun q h => Nat.le_trans Hzw.out (HUn.out q h)
          have Un := hide un
          have n7 : New w w7 := n6.trans hu7 fun q h1 h2 => absurd (un q h2) (by omega)
          have T7 := hide ((T6.out.new hu6).upd hu7 fun q h1 h2 => by have := T6.out.tab.lt h1; have := HUn.out q h2; omega)
          have B7 := hide ((B6.out.new_ hu6).upd hu7 fun h => by have := HUn.out q h; omega)
          have HG := hide hG
          have F2 := hide (find_tab2 w.heap.size a 60 _ u V G E w7 (H2.out.new n7) hG E0.out E1.out E2.out E3.out)
          clear hG hGn un hzq
          go_wp2_with fail
          refine F2.out.mono ?_
          rintro e w8 ⟨rfl, hu8⟩
          have T8 := hide ((T7.out.new hu8).new ((Upd.refl _ _).alloc (.cells #[.int .i64 p0, .int .i64 p1] TP)))
          have G8 := hide ((HG.out.new hu8).new ((Upd.refl _ _).alloc (.cells #[.int .i64 p0, .int .i64 p1] TP)))
          have B8 := hide ((B7.out.new_ hu8).alloc (.cells #[.int .i64 p0, .int .i64 p1] TP))
          have Z8 := hide (Blk.new w8 TP #[.int .i64 p0, .int .i64 p1])
          have n8 : New w (w8.alloc (.cells #[.int .i64 p0, .int .i64 p1] TP)) := (n7.trans_new hu8).alloc _
          have zz8 : q < w8.heap.size := (B7.out.new_ hu8).lt
          have zw8 : w.heap.size ≤ w8.heap.size := (n7.trans_new hu8).size
          have hft8 : ∀ q, F q → q < w8.heap.size := fun q h => (T7.out.new hu8).tab.lt h
          have Hf8 := hide hft8
          have c1 := count_tab w.heap.size 60 n u V G _ G8.out
          have c2 := count_tab w.heap.size 60 (allT V).length t V F _ T8.out.tab
          rw [Hn.out] at c2
          have nq : ¬ F q := Nfq.out
          have Nq := hide nq
          have C1 := hide c1
          have C2 := hide c2
          have d0 := (B7.out.new_ hu8).cell 0
          have d1 := (B7.out.new_ hu8).cell 1
          simp only [List.getElem?_toArray, List.getElem?_cons_zero, List.getElem?_cons_succ] at d0 d1
          have g1 := guard_pfx
          have g3 := neq_pfx p0 p1 p0 p1
          rw [show (!(p0 == p0 && p1 == p1)) = false from by simp] at g3
          clear c1 c2 hft8 nq
          go_wp2_with fail
          clear d0 d1
          have d0 := B8.out.cell 0
          have d1 := B8.out.cell 1
          have zq8 := B8.out.lt
          have f0 := Z8.out.cell 0
          have f1 := Z8.out.cell 1
          have zq9 := Z8.out.lt
          simp only [List.getElem?_toArray, List.getElem?_cons_zero, List.getElem?_cons_succ] at d0 d1 f0 f1
          generalize w8.alloc (.cells #[.int .i64 p0, .int .i64 p1] TP) = w9 at *
          generalize w8.heap.size = z at *
          refine C1.out.mono ?_
          rintro e w10 ⟨rfl, rfl⟩
          go_wp2_with fail
          refine C2.out.mono ?_
          rintro e w11 ⟨rfl, rfl⟩
          cases p3 with
          | false =>
            go_wp2_with fail
            go_ret
            exact ⟨rfl, n8⟩
          | true =>
            have his : (found V a).isSome = true := E3.out.symm
            obtain ⟨hc0, hat0⟩ := found_at Hft.out.val his
            have hless := found_less Hft.out.val his
            rw [← E0.out, ← E1.out] at hc0 hat0 hless
            rw [← E2.out] at hat0
            have hpos : 0 < n := by
              have h1 := len_put (V := V) hc0 none
              rw [hat0] at h1
              have h2 := Hn.out
              simp only [b2n, Option.isSome_some, Option.isSome_none, Bool.false_eq_true, ↓reduceIte, Nat.add_zero] at h1
              omega
            have Hlen1 : Hid ((allT (put1 V p0 p1 none)).length = n - 1) := by
              have h1 := len_put (V := V) hc0 none
              rw [hat0] at h1
              have h2 := Hn.out
              simp only [b2n, Option.isSome_some, Option.isSome_none, Bool.false_eq_true, ↓reduceIte, Nat.add_zero] at h1
              show _ = _
              omega
            have ht9 := T8.out.tab
            rw [Hn.out] at ht9
            have Hd := hide (drop_tab w.heap.size p0 p1 60 n p2 t V F E w9 (H2.out.new n8) (H3.out.new n8) hc0 ht9 hat0 (by omega) (by omega))
            have Hless := hide hless
            clear hless hc0 hat0 ht9 his
            go_wp2_with fail
            refine Hd.out.mono ?_
            rintro e w12 ⟨rfl, ht12, hu12⟩
            obtain ⟨q0, e0⟩ : ∃ p, p = fA a (found (put1 V p0 p1 none) a) := ⟨_, rfl⟩
            obtain ⟨q1, e1⟩ : ∃ p, p = fB (found (put1 V p0 p1 none) a) := ⟨_, rfl⟩
            obtain ⟨q2, e2⟩ : ∃ p, p = fC (found (put1 V p0 p1 none) a) := ⟨_, rfl⟩
            obtain ⟨q3, e3⟩ : ∃ p, p = (found (put1 V p0 p1 none) a).isSome := ⟨_, rfl⟩
            have hless := Hless.out
            rw [← e3, ← e0, ← e1] at hless
            have Hles := hide hless
            have n12 : New w w12 := n8.trans hu12 fun q h1 h2 => absurd (T8.out.tab.from_ q h2) (by omega)
            have F3 := hide (find_tab2 w.heap.size a 60 _ t _ F E w12 (H2.out.new n12) ht12 e0 e1 e2 e3)
            have nq : ¬ F q := Nq.out
            have nz : ¬ F z := fun h => by have := Hf8.out z h; omega
            have B12 := hide (B8.out.upd hu12 nq)
            have Z12 := hide (Z8.out.upd hu12 nz)
            clear e0 e1 e2 e3 hless ht12 nq nz d0 d1 f0 f1
            go_wp2_with fail
            refine F3.out.mono ?_
            rintro e w13 ⟨rfl, hu13⟩
            have n13 := n12.trans_new hu13
            have b13 := B12.out.new_ hu13
            have z13 := Z12.out.new_ hu13
            have k0 := z13.frozen 0
            have k1 := z13.frozen 1
            have f0 := z13.cell 0
            have f1 := z13.cell 1
            have d0 := b13.cell 0
            have d1 := b13.cell 1
            have zq13 := b13.lt
            have zz13 := z13.lt
            simp only [List.getElem?_toArray, List.getElem?_cons_zero, List.getElem?_cons_succ] at d0 d1 f0 f1
            have hqz : q ≠ z := by omega
            have hzq : z ≠ q := by omega
            have nA : New w ((w13.setCell ⟨z, 0, none⟩ (.int .i64 q0)).setCell ⟨z, 1, none⟩ (.int .i64 q1)) := (n13.setCell (p := ⟨z, 0, none⟩) (.inr zw8) _).setCell (p := ⟨z, 1, none⟩) (.inr zw8) _
            have NA := hide nA
            cases q3 with
            | false =>
              clear b13 z13 nA
              go_wp2_with fail
              go_ret
              exact ⟨rfl, NA.out⟩
            | true =>
              obtain ⟨hlt, hin⟩ := Hles.out rfl
              have Hi := in_any p0 p1 q0 q1 E _ (H2.out.new nA) (H3.out.new nA)
              rw [hin] at Hi
              have HI := hide Hi
              clear b13 z13 nA hin Hi
              go_wp2_with fail
              refine HI.out.mono ?_
              rintro e w14 ⟨rfl, hu14⟩
              go_wp2_with fail
              go_ret
              exact ⟨rfl, NA.out.trans_new hu14⟩
end Go.Proofs.YtcnccfhgjdaniaaDoor

/- Package fib: Set. No condition but those that stand in each theorem. -/
import Derived.Test.YtkljanjapcpbdaaDoorFb3
namespace Go.Proofs.YtkljanjapcpbdaaDoor
open Go.RowKit

theorem VI_take {xs : List E3} {k j : Nat} (h : j ≤ k) : VI (xs.take k) (js1 j) = VI xs (js1 j) := by
  unfold VI
  have : ∀ l : List Nat, (∀ i, i ∈ l → i < j) → l.filterMap ((xs.take k)[·]?) = l.filterMap (xs[·]?) := by
    intro l
    induction l with
    | nil => intro _; rfl
    | cons i l ih =>
      intro hi
      have h1 := hi i (by simp)
      rw [List.filterMap_cons, List.filterMap_cons, List.getElem?_take_of_lt (by omega), ih fun i h => hi i (by simp [h])]
  rw [this _ fun i hi => by simpa [js1] using hi]
theorem Good.take {xs : List E3} {k : Nat} (h : Good xs k) : Good (xs.take k) k := by
  intro j x hj hx
  rw [List.getElem?_take_of_lt hj] at hx
  obtain ⟨h1, h2⟩ := h j x hj hx
  refine ⟨h1, fun m y hm hy => h2 m y hm ?_⟩
  rwa [List.getElem?_take_of_lt (by omega)] at hy
theorem VI_snoc1 {xs : List E3} {k : Nat} {x : E3} (h : Good xs (k + 1)) (hx : xs[k]? = some x) : put1 (VI xs (js1 k)) x.a x.n (some x.h) = VI xs (js1 (k + 1)) := by
  rw [← VI_take (xs := xs) (Nat.le_succ k), ← VI_take (xs := xs) (Nat.le_refl (k + 1)), VI_snoc h.take (List.length_take_le _ _) (by rw [List.getElem?_take_of_lt (by omega)]; exact hx) (js1_not k), js1_succ]
theorem VI_free1 {xs : List E3} {k : Nat} {x : E3} (h : Good xs (k + 1)) (hx : xs[k]? = some x) : at1 (VI xs (js1 k)) x.a x.n = none := by
  rw [← VI_take (xs := xs) (Nat.le_succ k)]
  exact VI_free h.take (List.length_take_le _ _) (by rw [List.getElem?_take_of_lt (by omega)]; exact hx) (js1_not k)

/-- What is wrong at an entry that is to be set; 0: nothing. -/
def setC (ms : Int) (xs : List E3) (k : Nat) (x : E3) : Nat :=
  if chk x.a x.n ≠ 0 then chk x.a x.n else if (xs.take k).any (sameP x) then 6 else if ms ≤ k then 7 else 0

theorem setC_chk {ms : Int} {xs : List E3} {k : Nat} {x : E3} (h : chk x.a x.n ≠ 0) : setC ms xs k x = chk x.a x.n := by unfold setC; rw [if_pos h]
theorem setC_old {ms : Int} {xs : List E3} {k : Nat} {x : E3} (h : chk x.a x.n = 0) (h1 : (xs.take k).any (sameP x) = true) : setC ms xs k x = 6 := by unfold setC; rw [if_neg (by simp [h]), if_pos h1]
theorem setC_full {ms : Int} {xs : List E3} {k : Nat} {x : E3} (h : chk x.a x.n = 0) (h1 : (xs.take k).any (sameP x) = false) (h2 : ms ≤ k) : setC ms xs k x = 7 := by unfold setC; rw [if_neg (by simp [h]), if_neg (by simp [h1]), if_pos h2]
theorem setC_ok {ms : Int} {xs : List E3} {k : Nat} {x : E3} (h : chk x.a x.n = 0) (h1 : (xs.take k).any (sameP x) = false) (h2 : (k : Int) < ms) : setC ms xs k x = 0 := by unfold setC; rw [if_neg (by simp [h]), if_neg (by simp [h1]), if_neg (by omega)]
theorem Good.any {xs : List E3} {k : Nat} {x : E3} (h : Good xs k) (hx : xs[k]? = some x) (h0 : chk x.a x.n = 0) (h1 : (xs.take k).any (sameP x) = false) : Good xs (k + 1) := by
  refine h.succ hx h0 fun m y hm hy he => ?_
  rw [List.any_eq_false] at h1
  refine h1 y (List.mem_of_getElem? (i := m) (by rw [List.getElem?_take_of_lt hm]; exact hy)) ?_
  simp [sameP, he.1, he.2]
theorem Ents.take {w : World} {b o : Nat} {xs : List E3} (h : Ents w b o xs) (k : Nat) : Ents w b o (xs.take k) := by
  intro i x hx
  refine h i x ?_
  by_cases hk : i < k
  · rwa [List.getElem?_take_of_lt hk] at hx
  · rw [List.getElem?_take_eq_none (by omega)] at hx; cases hx

abbrev gExist : Nat := 5

/-- What Set leaves. -/
def SetPost (E : Nat → Addr) (B : Nat) (xs : List E3) (t : Nat) (ms : Int) (F : Nat → Prop) (w : World) (e : Ending) (w1 : World) : Prop :=
  (∃ (k f : Nat) (x : E3), xs[k]? = some x ∧ setC ms xs k x ≠ 0 ∧ (∀ j y, j < k → xs[j]? = some y → setC ms xs j y = 0) ∧ e = .returned (.iface TFP (.pointer (some ⟨f, 0, none⟩))) ∧ Blk w1 f TF #[.int .i64 k, errv (E (setC ms xs k x))] ∧ New w w1) ∨
  ((∀ j y, xs[j]? = some y → setC ms xs j y = 0) ∧ e = .returned .nilIface ∧ ∃ G, TabB B w1 t ms xs.length (VI xs (js1 xs.length)) G ∧ (∀ k, G k → F k ∨ w.heap.size ≤ k) ∧ Upd F w w1)

set_option maxHeartbeats 2000000 in
theorem set_any (B b o c t len : Nat) (A : Option Addr) (ms cn : Int) (xs : List E3) (V : Fm.VM) (F : Nat → Prop) (E : Nat → Addr) (w : World) (h2 : Sen w gBound (E 2)) (h3 : Sen w gShape (E 3)) (h6 : Sen w gExist (E 6)) (h7 : Sen w gFull (E 7))
    (hA : 0 < len → A = some ⟨b, o, none⟩ ∧ Ents w b o xs ∧ b < w.heap.size) (hlen : xs.length = len) (hl : len ≤ 1000) (hc : len ≤ c) (hms : 0 ≤ ms ∧ ms ≤ 60) (hT : TabB B w t ms cn V F) (hB : B ≤ w.heap.size) :
    Calls Tryd.prog 30 #[.pointer (some ⟨t, 0, none⟩), .slice A len c] w (SetPost E B xs t ms F w) := by
  have H2 := hide h2
  have H3 := hide h3
  have H6 := hide h6
  have H7 := hide h7
  have HA := hide hA
  have Hlen := hide hlen
  have HT := hide hT
  have HB := hide hB
  obtain ⟨r, N, hT1, hF⟩ := hT.ex
  have t1 := hT1.tab.cell 1
  have zt := hT1.tab.lt
  simp only [List.getElem?_toArray, List.getElem?_cons_zero, List.getElem?_cons_succ] at t1
  clear h2 h3 h6 h7 hA hlen hT hB hT1 hF
  go_enter Tryd.func30, Tryd.ntmps30
  go_wp2_with fail
  refine (new_tab w.heap.size ms w (Nat.le_refl _)).mono ?_
  rintro e w1 ⟨x, Fx, rfl, hX, hXn, hu1⟩
  rw [show min (max ms 0) 60 = ms from by omega] at hX
  have HX := hide hX
  clear hX
  go_wp2_with fail
  go_loopw [16] (fun i wr => ∃ (k : Nat) (Fx : Nat → Prop), k ≤ len ∧ i = .int .i64 k ∧ New w wr ∧ TabB w.heap.size wr x ms k (VI xs (js1 k)) Fx ∧ Good xs k ∧ (∀ j y, j < k → xs[j]? = some y → setC ms xs j y = 0)) (fun i _ => len - (intOf i).toNat)
  case atStart => exact ⟨0, Fx, by omega, rfl, hu1, by rw [show js1 0 = [] from rfl, VI_nil]; exact HX.out, Good.zero xs, fun _ _ h => absurd h (by omega)⟩
  case round =>
    obtain ⟨k, Fk, hk, rfl, hnew, hK, hgood, hz⟩ := hrel
    have HK := hide hK
    have Hgood := hide hgood
    have Hz := hide hz
    clear hK hgood hz
    by_cases hlt : k < len
    · obtain ⟨rfl, hx, zb⟩ := HA.out (by omega)
      obtain ⟨x1, hxk⟩ : ∃ x, xs[k]? = some x := ⟨_, List.getElem?_eq_getElem (by have := Hlen.out; omega)⟩
      have Hx := hide hx
      have Hxk := hide hxk
      obtain ⟨p1, p2, p3⟩ := hx.upd hnew zb (fun h => h) k x1 hxk
      have i1 : (k : Int) < (len : Int) := by omega
      have zbr : b < wr.heap.size := Nat.lt_of_lt_of_le zb hnew.size
      have S2 := hide (H2.out.new hnew)
      have S3 := hide (H3.out.new hnew)
      have hz0 : Sen wr gExist (E 6) := H6.out.new hnew
      have S7 := hide (H7.out.new hnew)
      unfold Sen errv at hz0
      have ub := hnew.alloc (.cells #[.int .i64 x1.a, .int .i64 x1.n, .int .i64 x1.h] TE)
      have bb := Blk.new wr TE #[.int .i64 x1.a, .int .i64 x1.n, .int .i64 x1.h]
      have eb := (hx.upd ub zb (fun h => h))
      have zbb : b < (wr.alloc (.cells #[.int .i64 x1.a, .int .i64 x1.n, .int .i64 x1.h] TE)).heap.size := by simp; omega
      have hbne : b ≠ wr.heap.size := by omega
      have Hbb := hide bb
      have Heb := hide eb
      have Hub := hide ub
      have T2 := hide (H2.out.new ub)
      have T3 := hide (H3.out.new ub)
      have T6 := hide (H6.out.new ub)
      have T7 := hide (H7.out.new ub)
      clear hx hxk bb eb ub hz0 S2 S3 S7
      by_cases k1 : chk x1.a x1.n = 0
      · have K1 := hide k1
        have Hc := hide (check_yes x1.a x1.n E _ T2.out T3.out k1)
        clear k1
        go_wp2_with fail
        refine Hc.out.mono ?_
        rintro e w2 ⟨rfl, hu2⟩
        have n2 : New w w2 := Hub.out.trans_new hu2
        have b2 := Hbb.out.new_ hu2
        have e2 := Heb.out.upd hu2 zbb (fun h => h)
        have hcon := contains_entry b o c wr.heap.size (xs.take k) x1 w2 (e2.take k) (Nat.lt_of_lt_of_le zb n2.size) b2 (by rw [List.length_take]; omega)
        rw [show (xs.take k).length = k from by rw [List.length_take]; have := Hlen.out; omega] at hcon
        have HK2 := hide ((HK.out.new ((Upd.refl _ _).alloc (.cells #[.int .i64 x1.a, .int .i64 x1.n, .int .i64 x1.h] TE))).new hu2)
        have U2 := hide (T2.out.new hu2)
        have U3 := hide (T3.out.new hu2)
        have U6 := hide (T6.out.new hu2)
        have U7 := hide (T7.out.new hu2)
        have HB2 := hide b2
        cases hany : (xs.take k).any (sameP x1) with
        | true =>
          rw [hany] at hcon
          have Hany := hide hany
          have Hcon := hide hcon
          clear hcon hany e2 b2
          go_wp2_with fail
          refine Hcon.out.mono ?_
          rintro e w3 ⟨rfl, hu3⟩
          have z6 : Sen w3 gExist (E 6) := U6.out.new hu3
          unfold Sen errv at z6
          go_wp2_with fail
          go_ret
          exact .inl ⟨k, _, x1, Hxk.out, by rw [setC_old K1.out Hany.out]; decide, Hz.out, rfl, by rw [setC_old K1.out Hany.out]; exact Blk.new _ _ _, (n2.trans_new hu3).alloc _⟩
        | false =>
          rw [hany] at hcon
          have Hany := hide hany
          have Hcon := hide hcon
          clear hcon hany e2 b2
          go_wp2_with fail
          refine Hcon.out.mono ?_
          rintro e w3 ⟨rfl, hu3⟩
          have b3 := HB2.out.new_ hu3
          have c30 := b3.cell 0
          have c31 := b3.cell 1
          have c32 := b3.cell 2
          have z3 := b3.lt
          simp only [List.getElem?_toArray, List.getElem?_cons_zero, List.getElem?_cons_succ] at c30 c31 c32
          have n3 : New w w3 := n2.trans_new hu3
          by_cases hful : (k : Int) < ms
          · have Hp := hide (put_tab w.heap.size x1.a x1.n x1.h ms k x _ Fk E w3 (U2.out.new hu3) (U3.out.new hu3) K1.out (HK2.out.new hu3) (VI_free1 (Hgood.out.any Hxk.out K1.out Hany.out) Hxk.out) hful (by omega) hms.2 n3.size)
            clear b3
            go_wp2_with fail
            refine Hp.out.mono ?_
            rintro e w4 ⟨G, rfl, hG, hGn, hu4⟩
            have HG := hide hG
            clear hG
            go_wp2_with fail
            refine ⟨⟨k + 1, G, by omega, by go_num, n3.trans hu4 fun q h1 h2 => absurd (HK2.out.from_ q h2) (by omega), ?_, Hgood.out.any Hxk.out K1.out Hany.out, ?_⟩, by simp [intOf]; omega⟩
            · have hG := HG.out
              rw [VI_snoc1 (Hgood.out.any Hxk.out K1.out Hany.out) Hxk.out] at hG
              push_cast
              exact hG
            · intro j y hj hy
              by_cases hjk : j < k
              · exact Hz.out j y hjk hy
              · obtain rfl : j = k := by omega
                rw [Hxk.out] at hy; injection hy with hy; subst hy
                exact setC_ok K1.out Hany.out hful
          · obtain ⟨r1, N1, hX, hXF⟩ := (HK2.out.new hu3).ex
            have Hp := hide (put_full x1.a x1.n x1.h ms k x r1 N1 _ E w3 (U2.out.new hu3) (U3.out.new hu3) (U7.out.new hu3) K1.out hX (VI_free1 (Hgood.out.any Hxk.out K1.out Hany.out) Hxk.out) (by omega))
            clear b3 hX hXF
            go_wp2_with fail
            refine Hp.out.mono ?_
            rintro e w4 ⟨rfl, hu4⟩
            unfold errv
            go_wp2_with fail
            go_ret
            exact .inl ⟨k, _, x1, Hxk.out, by rw [setC_full K1.out Hany.out (by omega)]; decide, Hz.out, rfl, by rw [setC_full K1.out Hany.out (by omega)]; exact Blk.new _ _ _, (n3.trans_new hu4).alloc _⟩
      · have K1 := hide k1
        have Hc := hide (check_no x1.a x1.n E _ T2.out T3.out k1)
        clear k1
        go_wp2_with fail
        refine Hc.out.mono ?_
        rintro e w2 ⟨rfl, hu2⟩
        unfold errv
        go_wp2_with fail
        go_ret
        exact .inl ⟨k, _, x1, Hxk.out, by rw [setC_chk K1.out]; exact K1.out, Hz.out, rfl, by rw [setC_chk K1.out]; exact Blk.new _ _ _, (Hub.out.trans_new hu2).alloc _⟩
    · have hkl : k = len := by omega
      have Hkl := hide hkl
      obtain ⟨r1, N1, hX, hXF⟩ := HK.out.ex
      have y0 := hX.tab.cell 0
      have y1 := hX.tab.cell 1
      have y2 := hX.tab.cell 2
      have zx := hX.tab.lt
      have HX := hide hX
      have HXF := hide hXF
      have ht := (HT.out.new hnew)
      obtain ⟨r2, N2, hT2, hF2⟩ := ht.ex
      have hb2 := hT2.tab
      have HT2 := hide hT2
      have u0 := hb2.cell 0
      have u1 := hb2.cell 1
      have u2 := hb2.cell 2
      have k0 := hb2.frozen 0
      have k1 := hb2.frozen 1
      have k2 := hb2.frozen 2
      have HB2 := hide hb2
      have Ht := hide ht
      have HF2 := hide hF2
      have ztr : t < wr.heap.size := Nat.lt_of_lt_of_le zt hnew.size
      clear hb2 hT2 ht hF2 t1
      simp only [List.getElem?_toArray, List.getElem?_cons_zero, List.getElem?_cons_succ] at y0 y1 y2 u0 u1 u2
      clear hX hXF hkl
      go_wp2_with fail
      go_ret
      have ft : F t := by rw [HF2.out]; exact .inl rfl
      have fk : ∀ q, inN N1 q → w.heap.size ≤ q := fun q hq => HK.out.from_ q (by rw [HXF.out]; exact .inr hq)
      have tn : ∀ q, inN N1 q → q ≠ t := fun q hq e => by have := fk q hq; omega
      have up : Upd (fun q => q = t) wr (((wr.setCell ⟨t, 0, none⟩ (Value.pointer (some ⟨r1, 0, none⟩))).setCell ⟨t, 1, none⟩ (.int .i64 ms)).setCell ⟨t, 2, none⟩ (.int .i64 k)) :=
        (((Upd.refl (fun q => q = t) wr).setCell (p := ⟨t, 0, none⟩) (.inl rfl) _).setCell (p := ⟨t, 1, none⟩) (.inl rfl) _).setCell (p := ⟨t, 2, none⟩) (.inl rfl) _
      have hkl := Hkl.out
      have hle : xs.length = k := by have := Hlen.out; omega
      refine .inr ⟨fun j y hy => Hz.out j y (by have := (List.getElem?_eq_some_iff.1 hy).1; omega) hy, rfl, inT t N1, ?_, ?_, ?_⟩
      · rw [hle]
        refine ⟨⟨r1, N1, ⟨?_, HX.out.nodes.upd up fun i v q hq => tn q ⟨i, v, hq⟩⟩, rfl⟩, ?_⟩
        · simpa using ((HB2.out.set_ 0 (Value.pointer (some ⟨r1, 0, none⟩))).set_ 1 (.int .i64 ms)).set_ 2 (.int .i64 k)
        · rintro q (rfl | hq)
          · exact HT.out.from_ _ ft
          · exact Nat.le_trans HB.out (fk q hq)
      · rintro q (rfl | hq)
        · exact .inl ft
        · exact .inr (fk q hq)
      · exact (Upd.of_new hnew).trans' (up.mono fun q _ h => by rw [h]; exact ft)
end Go.Proofs.YtkljanjapcpbdaaDoor

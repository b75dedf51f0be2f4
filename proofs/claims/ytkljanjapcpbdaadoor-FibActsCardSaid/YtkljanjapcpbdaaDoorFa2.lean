/- The law FibActs: the walk. No condition but those that stand in each theorem. -/
import Derived.Test.YtkljanjapcpbdaaDoorFa1
import Derived.Test.YtkljanjapcpbdaaDoorFb3
import Derived.Deep.RegionHeld3
import Derived.Deep.DeepCutAuto
import Derived.Deep.CutBlock
namespace Go.Proofs.YtkljanjapcpbdaaDoor
open Go.RowKit

theorem cells3_rows (l : List (Nat × Nat × Int)) : cells3 l = rows (l.map e3) := by
  induction l with
  | nil => rfl
  | cons e l ih =>
    rw [List.map_cons, rows_cons, ← ih]
    rfl
theorem find_tab3 (B : Nat) (a ms cn : Int) (t : Nat) (V : Fm.VM) (F : Nat → Prop) (E : Nat → Addr) (w : World) (h2 : Sen w gBound (E 2)) (hT : TabB B w t ms cn V F) {p0 p1 p2 : Int} {p3 : Bool}
    (e0 : p0 = fA a (found V a)) (e1 : p1 = fB (found V a)) (e2 : p2 = fC (found V a)) (e3 : p3 = (found V a).isSome) :
    Calls Tryd.prog 33 #[.pointer (some ⟨t, 0, none⟩), .int .i64 a] w fun e w1 => e = .returned (.tuple #[.agg #[.int .i64 p0, .int .i64 p1], .int .i64 p2, .bool p3]) ∧ New w w1 := by
  subst e0; subst e1; subst e2; subst e3
  rw [← foundR_eq]
  exact find_tab B a ms cn t V F E w h2 hT
abbrev TAc : TypeId := 54
/-- The kind of an act. -/
def actK (s : ByteArray) : Nat := if s.toList = [112, 117, 116] then 1 else if s.toList = [100, 114, 111, 112] then 2 else if s.toList = [115, 101, 116] then 3 else 0
theorem actK_text (s : ByteArray) : s.toList = [112, 117, 116] ∨ s.toList = [100, 114, 111, 112] ∨ s.toList = [115, 101, 116] ∨ (s.toList ≠ [112, 117, 116] ∧ s.toList ≠ [100, 114, 111, 112] ∧ s.toList ≠ [115, 101, 116]) := by
  by_cases h1 : s.toList = [112, 117, 116]
  · exact .inl h1
  · by_cases h2 : s.toList = [100, 114, 111, 112]
    · exact .inr (.inl h2)
    · by_cases h3 : s.toList = [115, 101, 116]
      · exact .inr (.inr (.inl h3))
      · exact .inr (.inr (.inr ⟨h1, h2, h3⟩))
theorem min60 (m : Int) : 0 ≤ min (max m 0) 60 ∧ min (max m 0) 60 ≤ 60 := by rw [mm]; split; omega; split <;> omega
/-- What holds behind the switch. -/
def ActF (w : World) (t y : Nat) (ms : Int) (wc : World) : Prop := ∃ V F G, New w wc ∧ FA w.heap.size wc t y ms V F G
theorem ActF.new_ {w wc w1 : World} {t y : Nat} {ms : Int} (h : ActF w t y ms wc) (hu : New wc w1) : ActF w t y ms w1 := by
  obtain ⟨V, F, G, h1, h2⟩ := h
  exact ⟨V, F, G, h1.trans_new hu, h2.new hu⟩
theorem new_F {w w1 w2 : World} {t y : Nat} {ms : Int} {V : Fm.VM} {F G : Nat → Prop} (h : New w w1) (hF : FA w.heap.size w1 t y ms V F G) (hu : Upd F w1 w2) : New w w2 := h.trans hu fun q hq hx => by have := hF.tab.from_ q hx; omega
theorem new_G {w w1 w2 : World} {y : Nat} {ms : Int} {L : List E3} {G : Nat → Prop} (h : New w w1) (hG : TabL w.heap.size w1 y ms L G) (hu : Upd G w1 w2) : New w w2 := h.trans hu fun q hq hx => by have := hG.ge hx; omega
theorem keepA {w : World} {X : Nat} {v0 v1 v2 v3 v4 : Value} (h : Blk w X TAc #[v0, v1, v2, v3, v4]) : w.cell? ⟨X, 1, none⟩ = some v1 ∧ w.cell? ⟨X, 2, none⟩ = some v2 ∧ w.cell? ⟨X, 3, none⟩ = some v3 ∧ w.cell? ⟨X, 4, none⟩ = some v4 := ⟨h.cell 1, h.cell 2, h.cell 3, h.cell 4⟩

theorem rws_updF {w w1 w2 : World} {F : Nat → Prop} {A : Option Addr} {sz : Nat} {rs : List (Array Value)} (h : Rws w A sz rs) (hu : New w w1) (hF : ∀ q, F q → w.heap.size ≤ q) (hu2 : Upd F w1 w2) : Rws w2 A sz rs :=
  h.new_ (hu.trans hu2 fun q hq hx => by have := hF q hx; omega)

set_option maxRecDepth 20000 in
set_option maxHeartbeats 4000000 in
theorem fibActs_main (most : Int) (A : Option Addr) (n c : Nat) (l : List ActR) (a : Int) (E : Nat → Addr) (w : World) (h : Errs w E) (hx : Acts w A l) (hn : l.length = n) (hl : longL l = false) :
    Calls Tryd.prog 4 #[.int .i64 most, .slice A n c, .int .i64 a] w fun e w1 => e = .returned (.bool true) ∧ New w w1 := by
  have Htb := hide (tabled_any E w h.s2 h.s3)
  have hlo := fun w1 (hu : New w w1) => longActs_any A n c l w1 (hx.new_ hu) hn
  rw [hl] at hlo
  have Hlo := hide hlo
  have H := hide h
  have Hx := hide hx
  have Hn := hide hn
  have n80 : n ≤ 80 := by
    unfold longL at hl
    simp only [Bool.or_eq_false_iff, decide_eq_false_iff_not] at hl
    omega
  have H70 := hide (show ∀ (i : Nat) x, l[i]? = some x → x.xs.length ≤ 70 by
    intro i x hi
    unfold longL at hl
    simp only [Bool.or_eq_false_iff, List.any_eq_false, decide_eq_true_eq] at hl
    have := hl.2 x (List.mem_of_getElem? hi)
    omega)
  have Hms := hide (min60 most)
  have g1 := guard_pfx
  have g2 := neq_pfx
  clear hlo hl h hx hn
  go_enter Tryd.func4, Tryd.ntmps4
  go_wp2_with fail
  refine Htb.out.mono ?_
  rintro e w1 ⟨rfl, hu1⟩
  have Hlo1 := hide (Hlo.out w1 hu1)
  have U1 := hide hu1
  clear hu1
  go_wp2_with fail
  refine Hlo1.out.mono ?_
  rintro e w2 ⟨rfl, hu2⟩
  have n2 : New w w2 := U1.out.trans_new hu2
  have Hnt := hide (new_tab w.heap.size most w2 n2.size)
  have N2 := hide n2
  clear hu2 n2
  go_wp2_with fail
  refine Hnt.out.mono ?_
  rintro e w3 ⟨t, F, rfl, hT, hF, hu3⟩
  have hnl := newTable_any w.heap.size most w3 (N2.out.trans_new hu3).size
  obtain ⟨ms, hmse⟩ : ∃ ms, ms = min (max most 0) 60 := ⟨_, rfl⟩
  rw [← hmse] at hT hnl Hms
  have Hnl := hide hnl
  have HT3 := hide hT
  have HF3 := hide hF
  have N3 := hide (N2.out.trans_new hu3)
  clear hT hF hu3 hnl hmse
  go_wp2_with fail
  refine Hnl.out.mono ?_
  rintro e w4 ⟨y, G, rfl, hL, hG, hu4⟩
  have Hfa := hide (show FA w.heap.size w4 t y ms V0 F G from
    ⟨by rw [allX_zero]; exact HT3.out.new hu4, by rw [allX_zero]; exact hL, fun k hk hg => by have := HT3.out.lt hk; have := hG k hg; omega, Val.zero, by rw [allX_zero]; simp, Hms.out.1, Hms.out.2⟩)
  have N4 := hide (N3.out.trans_new hu4)
  clear hL hG hu4
  go_wp2_with fail
  go_loopw [10] (fun i wr => ∃ (j : Nat) (V : Fm.VM) (F G : Nat → Prop), j ≤ n ∧ i = .int .i64 j ∧ New w wr ∧ FA w.heap.size wr t y ms V F G) (fun i _ => n - (intOf i).toNat)
  case atStart => exact ⟨0, V0, F, G, by omega, rfl, N4.out, Hfa.out⟩
  case round =>
    clear Hfa N4 HT3 HF3 N3 Hnl Hnt
    obtain ⟨j, V, F, G, hj, rfl, hnew, hfa⟩ := hrel
    have Hfa := hide hfa
    have Hnew := hide hnew
    clear hfa
    by_cases hlt : j < n
    · obtain ⟨b, o, x, hA, hb, hxj, hok, c0, c1, c2, c3, c4⟩ := (Hx.out.new_ hnew).at_ (k := j) (by have := Hn.out; omega)
      subst hA
      have Hxj := hide hxj
      have Hok := hide hok
      have i1 : (j : Int) < (n : Int) := by omega
      obtain ⟨wo, rfl⟩ : ∃ wo : World, wo = wr := ⟨_, rfl⟩
      have HX8 := hide (Blk.new wo TAc #[.string x.kind, .int .i64 x.a, .int .i64 x.n, .int .i64 x.h, .slice x.A x.xs.length x.c])
      have ual := hide ((Upd.refl (fun _ => False) wo).alloc (.cells #[.string x.kind, .int .i64 x.a, .int .i64 x.n, .int .i64 x.h, .slice x.A x.xs.length x.c] TAc))
      clear hxj hok hnew
      go_upto_region 12 with (fail)
      obtain ⟨X, hXe⟩ : ∃ X, X = wo.heap.size := ⟨_, rfl⟩
      rw [← hXe] at HX8 ⊢
      have HXF : Hid (¬ F X ∧ ¬ G X) := hide ⟨fun hf => by have := Hfa.out.tab.lt hf; omega, fun hg => by have := Hfa.out.ref.lt hg; omega⟩
      clear hXe c0 c1 c2 c3 c4 hb
      generalize (wo.alloc (.cells #[.string x.kind, .int .i64 x.a, .int .i64 x.n, .int .i64 x.h, .slice x.A x.xs.length x.c] TAc)) = wa at *
      have Na := hide (Hnew.out.trans_new ual.out)
      have Fa := hide (Hfa.out.new ual.out)
      have Oka := hide (Hok.out.new_ ual.out)
      have c0 := HX8.out.cell 0
      have c1 := HX8.out.cell 1
      have c2 := HX8.out.cell 2
      have c3 := HX8.out.cell 3
      have c4 := HX8.out.cell 4
      have zX := HX8.out.lt
      simp only [List.getElem?_toArray, List.getElem?_cons_zero, List.getElem?_cons_succ] at c0 c1 c2 c3 c4
      have zB : w.heap.size ≤ wa.heap.size := Na.out.size
      have ZB := hide zB
      go_upto_block 2 with (fail)
      go_cut [11] (fun _ wc => ActF w t y ms wc)
      case first =>
        rcases actK_text x.kind with ht | ht | ht | ⟨ht1, ht2, ht3⟩
        · have Dr := hide (Fa.out.new ((Upd.refl _ wa).drew))
          have Nd := hide (Na.out.trans_new ((Upd.refl _ wa).drew))
          have Tp := hide (fun w' (nw : New wa w') => tput_any w.heap.size t ms x.a x.n x.h V F E w' (H.out.new (Na.out.trans_new nw)).s2 (H.out.new (Na.out.trans_new nw)).s3 (H.out.new (Na.out.trans_new nw)).s7 (Fa.out.new nw).tab Fa.out.val Fa.out.le Fa.out.ms60 (Na.out.trans_new nw).size)
          have Rp := hide (fun w5 (hu5 : Upd F wa.drew w5) => rput_any w.heap.size y ms (allX V) G x.a x.n x.h w5 (Dr.out.ref.upd hu5 fun k hk hf => Dr.out.dis k hf hk) (by have := Fa.out.le; omega) (by have := hu5.size; exact Nat.le_trans ZB.out this))
          have Cd := hide (fun w6 (n6 : New w w6) (v : Value) (hv : ErrV w6 E v (rputC ms (allX V) x.a x.n x.h).1 (-1)) => coded_same v _ w6 E (H.out.new n6) hv)
          have Np := hide (fun w5 w6 (u5 : Upd F wa.drew w5) (u6 : Upd G w5 w6) => (show New w w6 from new_G (new_F Nd.out Dr.out u5) (Dr.out.ref.upd u5 fun k hk hf => Dr.out.dis k hf hk) u6))
          go_upto_region 20 with (fail)
          go_region_held3 (fun w' => w'.cell? ⟨X, 1, none⟩ = some (.int .i64 x.a) ∧ w'.cell? ⟨X, 2, none⟩ = some (.int .i64 x.n) ∧ w'.cell? ⟨X, 3, none⟩ = some (.int .i64 x.h) ∧ w'.cell? ⟨X, 4, none⟩ = some (.slice x.A x.xs.length x.c))
            (first | go_keep | exact K1.out | exact K2.out | exact K3.out)
            (first
              | (go_at_call 25; refine (Tp.out _ (by exact (Upd.refl _ wa).drew)).mono ?_; rintro e w5 ⟨v, V', F', rfl, he5, hl5, hV5, hle5, hT5, hF5, hu5⟩; have K1 := hide (keepA (HX8.out.drew.upd hu5 HXF.out.1)); have E5 := hide he5; have L5 := hide hl5; have V5 := hide hV5; have Le5 := hide hle5; have T5 := hide hT5; have F5 := hide hF5; have U5 := hide hu5; clear he5 hl5 hV5 hle5 hT5 hF5 hu5)
              | (go_at_call 26; refine (Rp.out _ (by exact U5.out)).mono ?_; rintro e w6 ⟨rfl, G', hL6, hG6, hu6⟩; have K2 := hide (keepA ((HX8.out.drew.upd U5.out HXF.out.1).upd hu6 HXF.out.2)); have E6 := hide (E5.out.updG (Dr.out.ref.upd U5.out fun k hk hf => Dr.out.dis k hf hk) hu6); have L6 := hide hL6; have G6 := hide hG6; have U6 := hide hu6; clear hL6 hG6 hu6; have N6 := hide (Np.out _ _ U5.out U6.out))
              | (go_at_call 24; refine (Cd.out _ (by exact N6.out) v (by exact E6.out)).mono ?_; rintro e w7 ⟨rfl, hu7⟩; have K3 := hide (keepA (((HX8.out.drew.upd U5.out HXF.out.1).upd U6.out HXF.out.2).new_ hu7)); have U7 := hide hu7; clear hu7))
          have hfin := FA.step Dr.out T5.out F5.out U5.out (by rw [← L5.out]; exact L6.out) G6.out U6.out V5.out Le5.out
          have Hfin := hide (ActF.new_ ⟨V', F', G', N6.out, hfin⟩ U7.out)
          clear hfin
          go_wp2_with fail
          go_meet
          exact Hfin.out
        · have Dr := hide (Fa.out.new ((Upd.refl _ wa).drew))
          have Nd := hide (Na.out.trans_new ((Upd.refl _ wa).drew))
          have Tp := hide (fun w' (nw : New wa w') => tdrop_any w.heap.size t ms x.a x.n V F E w' (H.out.new (Na.out.trans_new nw)).s2 (H.out.new (Na.out.trans_new nw)).s3 (H.out.new (Na.out.trans_new nw)).s5 (Fa.out.new nw).tab Fa.out.val Fa.out.le)
          have Rp := hide (fun w5 (hu5 : Upd F wa.drew w5) => rdrop_any w.heap.size y ms (allX V) G x.a x.n w5 (Dr.out.ref.upd hu5 fun k hk hf => Dr.out.dis k hf hk) (by have := Fa.out.le; omega) (by have := hu5.size; exact Nat.le_trans ZB.out this))
          have Cd := hide (fun w6 (n6 : New w w6) (v : Value) (hv : ErrV w6 E v (rdropC (allX V) x.a x.n).1 (-1)) => coded_same v _ w6 E (H.out.new n6) hv)
          have Np := hide (fun w5 w6 (u5 : Upd F wa.drew w5) (u6 : Upd G w5 w6) => (show New w w6 from new_G (new_F Nd.out Dr.out u5) (Dr.out.ref.upd u5 fun k hk hf => Dr.out.dis k hf hk) u6))
          go_upto_region 23 with (fail)
          go_region_held3 (fun w' => w'.cell? ⟨X, 1, none⟩ = some (.int .i64 x.a) ∧ w'.cell? ⟨X, 2, none⟩ = some (.int .i64 x.n) ∧ w'.cell? ⟨X, 3, none⟩ = some (.int .i64 x.h) ∧ w'.cell? ⟨X, 4, none⟩ = some (.slice x.A x.xs.length x.c))
            (first | go_keep | exact K1.out | exact K2.out | exact K3.out)
            (first
              | (go_at_call 27; refine (Tp.out _ (by exact (Upd.refl _ wa).drew)).mono ?_; rintro e w5 ⟨v, V', F', rfl, he5, hl5, hV5, hle5, hT5, hF5, hu5⟩; have K1 := hide (keepA (HX8.out.drew.upd hu5 HXF.out.1)); have E5 := hide he5; have L5 := hide hl5; have V5 := hide hV5; have Le5 := hide hle5; have T5 := hide hT5; have F5 := hide hF5; have U5 := hide hu5; clear he5 hl5 hV5 hle5 hT5 hF5 hu5)
              | (go_at_call 28; refine (Rp.out _ (by exact U5.out)).mono ?_; rintro e w6 ⟨rfl, G', hL6, hG6, hu6⟩; have K2 := hide (keepA ((HX8.out.drew.upd U5.out HXF.out.1).upd hu6 HXF.out.2)); have E6 := hide (E5.out.updG (Dr.out.ref.upd U5.out fun k hk hf => Dr.out.dis k hf hk) hu6); have L6 := hide hL6; have G6 := hide hG6; have U6 := hide hu6; clear hL6 hG6 hu6; have N6 := hide (Np.out _ _ U5.out U6.out))
              | (go_at_call 24; refine (Cd.out _ (by exact N6.out) v (by exact E6.out)).mono ?_; rintro e w7 ⟨rfl, hu7⟩; have K3 := hide (keepA (((HX8.out.drew.upd U5.out HXF.out.1).upd U6.out HXF.out.2).new_ hu7)); have U7 := hide hu7; clear hu7))
          have hfin := FA.step Dr.out T5.out F5.out U5.out (by rw [← L5.out]; exact L6.out) G6.out U6.out V5.out Le5.out
          have Hfin := hide (ActF.new_ ⟨V', F', G', N6.out, hfin⟩ U7.out)
          clear hfin
          go_wp2_with fail
          go_meet
          exact Hfin.out
        · have Hx70 := hide (H70.out j x Hxj.out)
          have Nd := hide (Na.out.trans_new ((Upd.refl _ wa).drew))
          have As := hide (fun w' (nw : New wa w') => asEntries_any x.A x.xs.length x.c x.xs w' (Oka.out.new_ nw).rows rfl (by have := Hx70.out; omega))
          have Cd := hide (fun w6 (n6 : New w w6) (v : Value) (k : Nat) (i : Int) (hv : ErrV w6 E v k i) => faulted_same v k i w6 E (H.out.new n6) hv)
          have Rw := hide (fun w' w5 (nw : New wa w') (u5 : Upd F w' w5) => rws_updF (Hx.out.ok j x Hxj.out).rows (Na.out.trans_new nw) (fun q hq => (Fa.out.tab.from_ q hq)) u5)
          have Wd := hide (show New wa wa.drew from (Upd.refl _ wa).drew)
          go_upto_region 26 with (fail)
          go_region_held3 (fun w' => w'.cell? ⟨X, 1, none⟩ = some (.int .i64 x.a) ∧ w'.cell? ⟨X, 2, none⟩ = some (.int .i64 x.n) ∧ w'.cell? ⟨X, 3, none⟩ = some (.int .i64 x.h) ∧ w'.cell? ⟨X, 4, none⟩ = some (.slice x.A x.xs.length x.c))
            (first | go_keep | exact K1.out | exact K2.out | exact K3.out | exact K4.out)
            (first
              | (go_at_call 31; refine (As.out _ (by exact (Upd.refl _ wa).drew)).mono ?_; rintro e w4' ⟨A', c', rfl, hr4, hc4, hu4⟩; have K4 := hide (keepA (HX8.out.drew.new_ hu4)); have R4 := hide hr4; have C4 := hide hc4; have Dr := hide ((Fa.out.new ((Upd.refl _ wa).drew)).new hu4); have Nd4 := hide (Nd.out.trans_new hu4); have Nd4' := hide (Wd.out.trans_new hu4); have X4 := hide (HX8.out.drew.new_ hu4); clear hr4 hc4 hu4)
              | (go_at_call 30; refine (tset_any w.heap.size t x.xs.length c' A' ms x.xs V F E _ (by exact (H.out.new Nd4.out).s2) (by exact (H.out.new Nd4.out).s3) (by exact (H.out.new Nd4.out).s6) (by exact (H.out.new Nd4.out).s7) (by exact R4.out) rfl (by have := Hx70.out; omega) C4.out ⟨Fa.out.ms0, Fa.out.ms60⟩ (by exact Dr.out.tab) Fa.out.val Fa.out.le (by exact Nd4.out.size)).mono ?_; rintro e w5 ⟨v, kk, ii, V', F', rfl, he5, hsr, h0, h1, hV5, hle5, hT5, hF5, hu5⟩; have K1 := hide (keepA (X4.out.upd hu5 HXF.out.1)); have E5 := hide he5; have SR5 := hide hsr; have H05 := hide h0; have H15 := hide h1; have V5 := hide hV5; have Le5 := hide hle5; have T5 := hide hT5; have F5 := hide hF5; have U5 := hide hu5; clear he5 hsr h0 h1 hV5 hle5 hT5 hF5 hu5)
              | (go_at_call 32; refine (rset2_any w.heap.size y x.xs.length x.c x.A ms V G x.xs _ (by exact Dr.out.ref.upd U5.out fun k hk hf => Dr.out.dis k hf hk) ⟨Fa.out.ms0, Fa.out.ms60⟩ (by exact Rw.out _ _ Nd4'.out U5.out) rfl (by have := Hx70.out; omega) (by exact (new_F Nd4.out Dr.out U5.out).size) SR5.out H05.out H15.out).mono ?_; rintro e w6 ⟨G', rfl, hL6, hG6, hu6⟩; have K2 := hide (keepA ((X4.out.upd U5.out HXF.out.1).upd hu6 HXF.out.2)); have E6 := hide (E5.out.updG (Dr.out.ref.upd U5.out fun k hk hf => Dr.out.dis k hf hk) hu6); have L6 := hide hL6; have G6 := hide hG6; have U6 := hide hu6; clear hL6 hG6 hu6; have N6 := hide (new_G (new_F Nd4.out Dr.out U5.out) (Dr.out.ref.upd U5.out fun k hk hf => Dr.out.dis k hf hk) U6.out))
              | (go_at_call 29; refine (Cd.out _ (by exact N6.out) v kk ii (by exact E6.out)).mono ?_; rintro e w7 ⟨rfl, hu7⟩; have K3 := hide (keepA (((X4.out.upd U5.out HXF.out.1).upd U6.out HXF.out.2).new_ hu7)); have U7 := hide hu7; clear hu7))
          have hfin := FA.step Dr.out T5.out F5.out U5.out L6.out G6.out U6.out V5.out Le5.out
          have Hfin := hide (ActF.new_ ⟨V', F', G', N6.out, hfin⟩ U7.out)
          clear hfin
          go_wp2_with fail
          go_meet
          exact Hfin.out
        · have Fl := hide (find_law Fa.out.val x.h)
          have nb1 : (x.kind.toList == [112, 117, 116]) = false := beq_eq_false_iff_ne.2 ht1
          have nb2 : (x.kind.toList == [100, 114, 111, 112]) = false := beq_eq_false_iff_ne.2 ht2
          have nb3 : (x.kind.toList == [115, 101, 116]) = false := beq_eq_false_iff_ne.2 ht3
          cases hfd : found V x.h with
          | none =>
            have hb0 : bestI (allX V) x.h (allX V).length = -1 := Fl.out.1 (by rw [hfd]; rfl)
            have hft := find_tab3 w.heap.size x.h ms _ t V F E wa (H.out.new Na.out).s2 Fa.out.tab (p0 := 0) (p1 := 0) (p2 := 0) (p3 := false) (by rw [hfd]; rfl) (by rw [hfd]; rfl) (by rw [hfd]; rfl) (by rw [hfd]; rfl)
            have hrf := fun w' (nw : New wa w') => rfind_any w.heap.size y ms (allX V) G x.h w' (Fa.out.new nw).ref (by have := Fa.out.le; omega)
            rw [hb0] at hrf
            have Hft := hide hft
            have Hrf := hide hrf
            clear hft hrf hb0 hfd Fl
            go_wp2_with fail
            refine Hft.out.mono ?_
            rintro e w5 ⟨rfl, hu5⟩
            have HX9 := hide (HX8.out.new_ hu5)
            have N5 := hide hu5
            clear hu5
            clear c0 c1 c2 c3 c4 zX
            have K := keepA HX9.out
            have zX := HX9.out.lt
            go_upto_region 14 with (fail)
            have HY8 := hide (Blk.new w5 51 #[.int .i64 0, .int .i64 0])
            have uy := hide (N5.out.trans_new ((Upd.refl (fun _ => False) w5).alloc (.cells #[.int .i64 0, .int .i64 0] 51)))
            have HX10 := hide (HX9.out.new_ ((Upd.refl (fun _ => False) w5).alloc (.cells #[.int .i64 0, .int .i64 0] 51)))
            clear K zX
            obtain ⟨Y, hYe⟩ : ∃ Y, Y = w5.heap.size := ⟨_, rfl⟩
            rw [← hYe] at HY8 ⊢
            clear hYe
            generalize (w5.alloc (.cells #[.int .i64 0, .int .i64 0] 51)) = wb at *
            have K := keepA HX10.out
            have zX := HX10.out.lt
            go_wp2_with fail
            refine (Hrf.out wb uy.out).mono ?_
            rintro e w6 ⟨rfl, hu6⟩
            have hy := HY8.out.new_ hu6
            have y0 := hy.cell 0
            have y1 := hy.cell 1
            have zY := hy.lt
            simp only [List.getElem?_toArray, List.getElem?_cons_zero, List.getElem?_cons_succ] at y0 y1
            have N6 := hide (uy.out.trans_new hu6)
            clear hy hu6 K zX
            go_upto_region 17 with (fail)
            refine wp_region_new w6 (Upd.refl _ _) (by kernel_rfl) (by kernel_rfl) ?_
            repeat (go_big_quiet_step (fail))
            refine wpQuiet_nil ?_
            rintro _ ⟨nq, rfl⟩
            go_wp2_with fail
            go_meet
            exact ⟨V, F, G, (Na.out.trans_new N6.out).trans_new nq.h, (Fa.out.new N6.out).new nq.h⟩
          | some z =>
            have hzs : (found V x.h).isSome = true := by rw [hfd]; rfl
            obtain ⟨q, hbq, hLq⟩ := Fl.out.2 hzs
            obtain ⟨fa, hfa⟩ : ∃ fa, fa = fA x.h (found V x.h) := ⟨_, rfl⟩
            obtain ⟨fb, hfb⟩ : ∃ fb, fb = fB (found V x.h) := ⟨_, rfl⟩
            obtain ⟨fc, hfc⟩ : ∃ fc, fc = fC (found V x.h) := ⟨_, rfl⟩
            have hft := find_tab3 w.heap.size x.h ms _ t V F E wa (H.out.new Na.out).s2 Fa.out.tab (p0 := fa) (p1 := fb) (p2 := fc) (p3 := true) hfa hfb hfc hzs.symm
            have hrf := fun w' (nw : New wa w') => rfind_any w.heap.size y ms (allX V) G x.h w' (Fa.out.new nw).ref (by have := Fa.out.le; omega)
            rw [hbq] at hrf
            rw [← hfa, ← hfb, ← hfc] at hLq
            have Hft := hide hft
            have Hrf := hide hrf
            have HLq := hide hLq
            clear hft hrf hbq hfd Fl hzs hfa hfb hfc hLq
            go_wp2_with fail
            refine Hft.out.mono ?_
            rintro e w5 ⟨rfl, hu5⟩
            have HX9 := hide (HX8.out.new_ hu5)
            have N5 := hide hu5
            clear hu5
            clear c0 c1 c2 c3 c4 zX
            have K := keepA HX9.out
            have zX := HX9.out.lt
            go_upto_region 14 with (fail)
            have HY8 := hide (Blk.new w5 51 #[.int .i64 fa, .int .i64 fb])
            have uy := hide (N5.out.trans_new ((Upd.refl (fun _ => False) w5).alloc (.cells #[.int .i64 fa, .int .i64 fb] 51)))
            have HX10 := hide (HX9.out.new_ ((Upd.refl (fun _ => False) w5).alloc (.cells #[.int .i64 fa, .int .i64 fb] 51)))
            clear K zX
            obtain ⟨Y, hYe⟩ : ∃ Y, Y = w5.heap.size := ⟨_, rfl⟩
            rw [← hYe] at HY8 ⊢
            clear hYe
            generalize (w5.alloc (.cells #[.int .i64 fa, .int .i64 fb] 51)) = wb at *
            have K := keepA HX10.out
            have zX := HX10.out.lt
            go_wp2_with fail
            refine (Hrf.out wb uy.out).mono ?_
            rintro e w6 ⟨rfl, hu6⟩
            have hy := HY8.out.new_ hu6
            have y0 := hy.cell 0
            have y1 := hy.cell 1
            have zY := hy.lt
            simp only [List.getElem?_toArray, List.getElem?_cons_zero, List.getElem?_cons_succ] at y0 y1
            have N6 := hide (uy.out.trans_new hu6)
            clear hy hu6 K zX
            obtain ⟨A', cap, hb', _, hr', hc', _, _, _⟩ := (Fa.out.new N6.out).ref.open_
            have ql : q < (allX V).length := (List.getElem?_eq_some_iff.1 HLq.out).1
            obtain ⟨b', o', x', hA', hbl', hx', d0, d1, d2⟩ := hr'.e3 ql
            rw [HLq.out] at hx'
            injection hx' with hx'
            subst hx'
            subst hA'
            have r1 := hb'.cell 1
            have zr := hb'.lt
            simp only [List.getElem?_toArray, List.getElem?_cons_zero, List.getElem?_cons_succ] at r1 d0 d1 d2
            have qi : (q : Int) < ((allX V).length : Int) := by omega
            generalize (allX V).length = LL at *
            have q0 : (0 : Int) ≤ (q : Int) := by omega
            have g0 : decide ((0 : Int) ≤ (q : Int)) = true := decide_eq_true (by omega)
            clear hb' hr' hc' HLq
            go_upto_region 17 with (fail)
            refine wp_region_new w6 (Upd.refl _ _) (by kernel_rfl) (by kernel_rfl) ?_
            repeat (go_big_quiet_step (fail))
            refine wpQuiet_nil ?_
            rintro _ ⟨nq, rfl⟩
            go_wp2_with fail
            go_meet
            exact ⟨V, F, G, (Na.out.trans_new N6.out).trans_new nq.h, (Fa.out.new N6.out).new nq.h⟩
      case rest =>
        obtain ⟨V', F', G', hn1, hf1⟩ := hcut
        have N1 := hide hn1
        have F1 := hide hf1
        obtain ⟨LL, hLL⟩ : ∃ LL, LL = (allX V').length := ⟨_, rfl⟩
        have hct := fun w' (nw : New wc w') => count_tab w.heap.size ms _ t V' F' w' (hf1.new nw).tab
        rw [← hLL] at hct
        have Hct := hide hct
        obtain ⟨A', cap, hb', _, _, _, _, _, _⟩ := hf1.ref.open_
        have r1 := hb'.cell 1
        have zr := hb'.lt
        simp only [List.getElem?_toArray, List.getElem?_cons_zero, List.getElem?_cons_succ] at r1
        rw [← hLL] at r1
        clear hb' hLL hct hn1 hf1 c0 c1 c2 c3 c4 zX HX8 Na Fa Oka ual ZB zB
        go_upto_region 28 with (fail)
        refine wp_region_new wc (Upd.refl _ _) (by kernel_rfl) (by kernel_rfl) ?_
        repeat (go_big_quiet_step ((go_at_call 35; exact new_call_same (Hct.out _ (NewW.h _)))))
        refine wpQuiet_nil ?_
        rintro _ ⟨nq, rfl⟩
        go_wp2_with fail
        exact ⟨⟨j + 1, V', F', G', by omega, by go_num, N1.out.trans_new nq.h, F1.out.new nq.h⟩, by simp [intOf]; omega⟩
    · have hje : n = j := by omega
      subst hje
      have i1 : ¬ (n : Int) < (n : Int) := by omega
      have Fl := hide (find_law Hfa.out.val a)
      obtain ⟨LL, hLL⟩ : ∃ LL, LL = (allX V).length := ⟨_, rfl⟩
      have Hall := hide (all_tab w.heap.size E ms _ t V F wr Hfa.out.tab (H.out.new Hnew.out).s2 (H.out.new Hnew.out).s3 (H.out.new Hnew.out).s5 (show (allT V).length ≤ 1000 by have := Hfa.out.le; have := allX_len V; omega))
      go_wp2_with fail
      refine Hall.out.mono ?_
      rintro e w5 ⟨out, rfl, ho, hu5⟩
      have ho2 : w5.ownsRow wr.heap.size TE 3 out LL (rows (allX V)) := by
        have h1 := ho
        rw [cells3_rows] at h1
        rw [hLL, allX_len]
        exact h1
      obtain ⟨A5, cap5, rfl, _, _, hr5, _, _⟩ := rws_of_own (by omega) ho2 (e3_size _)
      have R5 := hide hr5
      have F5 := hide (Hfa.out.new hu5)
      have N5 := hide (Hnew.out.trans_new hu5)
      clear ho ho2 hu5 hr5 Hall
      obtain ⟨A', cap, hb', _, hr', _, _, _, _⟩ := F5.out.ref.open_
      rw [← hLL] at hb'
      have Rr := hide hr'
      have Hb := hide hb'
      have HL := hide hLL
      have r1 := hb'.cell 1
      have zr := hb'.lt
      simp only [List.getElem?_toArray, List.getElem?_cons_zero, List.getElem?_cons_succ] at r1
      clear hb' hr' hLL Hfa Hnew hnew
      go_wp2_with fail
      clear r1 zr
      go_loopw [17] (fun i wr => ∃ k : Nat, k ≤ LL ∧ i = .int .i64 k ∧ New w5 wr) (fun i _ => LL - (intOf i).toNat)
      case atStart => exact ⟨0, by omega, rfl, Upd.refl _ _⟩
      case round =>
        obtain ⟨k, hk, rfl, hnew2⟩ := hrel
        have N6 := hide hnew2
        have hb6 := Hb.out.new_ hnew2
        have r1 := hb6.cell 1
        have zr := hb6.lt
        simp only [List.getElem?_toArray, List.getElem?_cons_zero, List.getElem?_cons_succ] at r1
        clear hb6 hnew2
        by_cases hlt2 : k < LL
        · obtain ⟨b1, o1, x1, hA1, hl1, hx1, c0, c1, c2⟩ := (R5.out.new_ N6.out).e3 (k := k) (by have := HL.out; omega)
          obtain ⟨b2, o2, x2, hA2, hl2, hx2, d0, d1, d2⟩ := (Rr.out.new_ N6.out).e3 (k := k) (by have := HL.out; omega)
          rw [hx1] at hx2
          injection hx2 with hx2
          subst hx2
          subst hA1
          subst hA2
          have i2 : (k : Int) < (LL : Int) := by omega
          have hL60 : LL ≤ 60 := by have h1 := F5.out.le; have h2 := HL.out; omega
          clear hx1
          go_upto_region 36 with (fail)
          refine wp_region_new wr (Upd.refl _ _) (by kernel_rfl) (by kernel_rfl) ?_
          repeat (go_big_quiet_step (fail))
          refine wpQuiet_nil ?_
          rintro _ ⟨nq, rfl⟩
          go_wp2_with fail
          exact ⟨⟨k + 1, by omega, by go_num, N6.out.trans_new nq.h⟩, by simp [intOf]; omega⟩
        · have i2 : ¬ (k : Int) < (LL : Int) := by omega
          have hrf := fun w' (nw : New wr w') => rfind_any w.heap.size y ms (allX V) G a w' (F5.out.new (N6.out.trans_new nw)).ref (by have := F5.out.le; omega)
          cases hfd : found V a with
          | none =>
            have hb0 : bestI (allX V) a (allX V).length = -1 := Fl.out.1 (by rw [hfd]; rfl)
            have hft := find_tab3 w.heap.size a ms _ t V F E wr (H.out.new (N5.out.trans_new N6.out)).s2 (F5.out.new N6.out).tab (p0 := 0) (p1 := 0) (p2 := 0) (p3 := false) (by rw [hfd]; rfl) (by rw [hfd]; rfl) (by rw [hfd]; rfl) (by rw [hfd]; rfl)
            rw [hb0] at hrf
            have Hft := hide hft
            have Hrf := hide hrf
            clear hft hrf hb0 hfd Fl
            go_wp2_with fail
            refine Hft.out.mono ?_
            rintro e w7 ⟨rfl, hu7⟩
            have N7 := hide hu7
            clear hu7
            go_upto_region 39 with (fail)
            have uy := hide (N7.out.trans_new ((Upd.refl (fun _ => False) w7).alloc (.cells #[.int .i64 0, .int .i64 0] 51)))
            generalize (w7.alloc (.cells #[.int .i64 0, .int .i64 0] 51)) = wb at *
            go_wp2_with fail
            refine (Hrf.out wb uy.out).mono ?_
            rintro e w8 ⟨rfl, hu8⟩
            have N8 := hide ((N5.out.trans_new N6.out).trans_new (uy.out.trans_new hu8))
            clear hu8
            go_wp2_with fail
            go_ret
            exact ⟨by simp, N8.out⟩
          | some z =>
            have hzs : (found V a).isSome = true := by rw [hfd]; rfl
            obtain ⟨q, hbq, _⟩ := Fl.out.2 hzs
            obtain ⟨fa, hfa⟩ : ∃ fa, fa = fA a (found V a) := ⟨_, rfl⟩
            obtain ⟨fb, hfb⟩ : ∃ fb, fb = fB (found V a) := ⟨_, rfl⟩
            obtain ⟨fc, hfc⟩ : ∃ fc, fc = fC (found V a) := ⟨_, rfl⟩
            have hft := find_tab3 w.heap.size a ms _ t V F E wr (H.out.new (N5.out.trans_new N6.out)).s2 (F5.out.new N6.out).tab (p0 := fa) (p1 := fb) (p2 := fc) (p3 := true) hfa hfb hfc hzs.symm
            rw [hbq] at hrf
            have Hft := hide hft
            have Hrf := hide hrf
            have q0 : (0 : Int) ≤ (q : Int) := by omega
            have g0 : decide ((0 : Int) ≤ (q : Int)) = true := decide_eq_true (by omega)
            clear hft hrf hbq hfd Fl hzs hfa hfb hfc
            go_wp2_with fail
            refine Hft.out.mono ?_
            rintro e w7 ⟨rfl, hu7⟩
            have N7 := hide hu7
            clear hu7
            go_upto_region 39 with (fail)
            have uy := hide (N7.out.trans_new ((Upd.refl (fun _ => False) w7).alloc (.cells #[.int .i64 fa, .int .i64 fb] 51)))
            generalize (w7.alloc (.cells #[.int .i64 fa, .int .i64 fb] 51)) = wb at *
            go_wp2_with fail
            refine (Hrf.out wb uy.out).mono ?_
            rintro e w8 ⟨rfl, hu8⟩
            have N8 := hide ((N5.out.trans_new N6.out).trans_new (uy.out.trans_new hu8))
            clear hu8
            go_wp2_with fail
            go_ret
            exact ⟨by simp, N8.out⟩
end Go.Proofs.YtkljanjapcpbdaaDoor

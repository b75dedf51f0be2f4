/- The law FibOrder: the walk. No condition but those that stand in each theorem. -/
import Derived.Test.YtgoiighbgmhaoaaDoorFoA
import Derived.Test.YtgoiighbgmhaoaaDoorEq
import Derived.Deep.RegionHeld3
namespace Go.Proofs.YtgoiighbgmhaoaaDoor
open Go.RowKit

set_option maxRecDepth 100000 in
set_option maxHeartbeats 4000000 in
theorem order_early (A : Option Addr) (len c : Nat) (at1 a : Int) (E : Nat → Addr) (w : World) (h2 : Sen w gBound (E 2)) (h3 : Sen w gShape (E 3)) (h : (50 : Int) < len ∨ at1 < 0 ∨ len ≤ at1) :
    Calls Tryd.prog 3 #[.slice A len c, .int .i64 at1, .int .i64 a] w fun e w1 => e = .returned (.bool true) ∧ New w w1 := by
  have Ht := hide (tabled_any E w h2 h3)
  clear h2 h3
  go_enter Tryd.func3, Tryd.ntmps3
  go_wp2_with fail
  refine Ht.out.mono ?_
  rintro e w1 ⟨rfl, hu⟩
  go_wp2_with fail
  all_goals go_ret
  all_goals exact ⟨rfl, hu⟩

theorem six {w : World} {b o k m : Nat} {xs : List E3} {x y : E3} (h : Ents w b o xs) (hx : xs[k]? = some x) (hy : xs[m]? = some y) :
    w.cell? ⟨b, o + k * 3, none⟩ = some (.int .i64 x.a) ∧ w.cell? ⟨b, o + k * 3 + 1, none⟩ = some (.int .i64 x.n) ∧ w.cell? ⟨b, o + k * 3 + 2, none⟩ = some (.int .i64 x.h)
      ∧ w.cell? ⟨b, o + m * 3, none⟩ = some (.int .i64 y.a) ∧ w.cell? ⟨b, o + m * 3 + 1, none⟩ = some (.int .i64 y.n) ∧ w.cell? ⟨b, o + m * 3 + 2, none⟩ = some (.int .i64 y.h) :=
  have h1 := h k x hx
  have h2 := h m y hy
  ⟨h1.1, h1.2.1, h1.2.2, h2.1, h2.2.1, h2.2.2⟩
theorem Ents.drew {w : World} {b o : Nat} {xs : List E3} (h : Ents w b o xs) : Ents w.drew b o xs := h
theorem Sen.drew {w : World} {g : Nat} {p : Addr} (h : Sen w g p) : Sen w.drew g p := h
theorem Tri.drew {B : Nat} {w : World} {t u v : Nat} {nt nu nv : Int} {Vt Vu Vv : Fm.VM} (h : Tri B w t u v nt nu nv Vt Vu Vv) : Tri B w.drew t u v nt nu nv Vt Vu Vv := h.new ((Upd.refl _ _).drew)

set_option maxRecDepth 100000 in
set_option maxHeartbeats 4000000 in
theorem order_main (b o c : Nat) (xs : List E3) (at1 a : Int) (E : Nat → Addr) (w : World) (h2 : Sen w gBound (E 2)) (h3 : Sen w gShape (E 3)) (hx : Ents w b o xs)
    (h50 : xs.length ≤ 50) (ha0 : 0 ≤ at1) (ha1 : at1 < xs.length) :
    Calls Tryd.prog 3 #[.slice (some ⟨b, o, none⟩) xs.length c, .int .i64 at1, .int .i64 a] w fun e w1 => e = .returned (.bool true) ∧ New w w1 := by
  have Ht := hide (tabled_any E w h2 h3)
  have H2 := hide h2
  have H3 := hide h3
  have zb : b < w.heap.size := by
    obtain ⟨x, hxx⟩ : ∃ x, xs[0]? = some x := ⟨_, List.getElem?_eq_getElem (by omega)⟩
    exact World.block_lt_of_cell? _ _ (hx 0 x hxx).1
  have Hx := hide hx
  generalize hlen : xs.length = len at *
  have Hlen := hide hlen
  have d1 : decide ((50 : Int) < (len : Int)) = false := by simp; omega
  have d2 : decide (at1 < 0) = false := by simp; omega
  have d3 : decide ((len : Int) ≤ at1) = false := by simp; omega
  have g1 := guard_pfx
  have g2 := eql_pfx
  have g3 := neq_pfx
  clear h2 h3 hx hlen
  go_enter Tryd.func3, Tryd.ntmps3
  go_wp2_with fail
  refine Ht.out.mono ?_
  rintro e w1 ⟨rfl, hu⟩
  go_wp2_with fail
  go_loopw [8] (fun i wr => ∃ (k : Nat), k ≤ len ∧ i = .int .i64 k ∧ New w wr ∧ Good xs k) (fun i _ => len - (intOf i).toNat)
  case atStart => exact ⟨0, by omega, rfl, hu, Good.zero xs⟩
  case round =>
    obtain ⟨k, hk, rfl, hnew, hgood⟩ := hrel
    by_cases hlt : k < len
    · go_wp2_with fail
      go_loopw [9] (fun j wq => ∃ (m : Nat), m ≤ k ∧ j = .int .i64 m ∧ New w wq ∧ ∀ x m' y, xs[k]? = some x → m' < m → xs[m']? = some y → ¬ (x.a = y.a ∧ x.n = y.n)) (fun j _ => k - (intOf j).toNat)
      case atStart => exact ⟨0, by omega, rfl, hnew, fun _ _ _ _ h => absurd h (by omega)⟩
      case round =>
        obtain ⟨m, hm, rfl, hnewq, hne⟩ := hrel
        obtain ⟨x, hxk⟩ : ∃ x, xs[k]? = some x := ⟨_, List.getElem?_eq_getElem (by have := Hlen.out; omega)⟩
        obtain ⟨p1, p2, _⟩ := Hx.out.upd hnewq zb (fun h => h) k x hxk
        have Hne := hide hne
        have Hgood := hide hgood
        have Hxk := hide hxk
        clear hne hgood
        by_cases hmk : m < k
        · obtain ⟨y, hym⟩ : ∃ y, xs[m]? = some y := ⟨_, List.getElem?_eq_getElem (by have := Hlen.out; omega)⟩
          obtain ⟨q1, q2, _⟩ := Hx.out.upd hnewq zb (fun h => h) m y hym
          have Hym := hide hym
          have zbq : b < wr.heap.size := Nat.lt_of_lt_of_le zb hnewq.size
          have i1 : (k : Int) < (len : Int) := by omega
          have i2 : (m : Int) < (len : Int) := by omega
          clear hxk hym
          go_wp2_with fail
          go_quiet (fail)
          go_wp2_with fail
          · go_ret
            exact ⟨rfl, hnewq.drewN _⟩
          · rename_i hne2
            refine ⟨⟨m + 1, by omega, by go_num, hnewq.drewN _, ?_⟩, by simp [intOf]; omega⟩
            intro x1 m1 y1 e1 e2 e3
            by_cases hmm : m1 < m
            · exact Hne.out x1 m1 y1 e1 hmm e3
            · obtain rfl : m1 = m := by omega
              rw [Hxk.out] at e1; injection e1 with e1; subst e1
              rw [Hym.out] at e3; injection e3 with e3; subst e3
              rintro ⟨z1, z2⟩
              simp [z1, z2] at hne2
        · have i1 : (k : Int) < (len : Int) := by omega
          have hmk2 : m = k := by omega
          have Hmk := hide hmk2
          have zbq : b < wr.heap.size := Nat.lt_of_lt_of_le zb hnewq.size
          by_cases h0 : chk x.a x.n = 0
          · have Hc := hide (check_yes x.a x.n E wr (H2.out.new hnewq) (H3.out.new hnewq) h0)
            have H0 := hide h0
            clear hxk h0 hmk2
            go_wp2_with fail
            refine Hc.out.mono ?_
            rintro e w2 ⟨rfl, hu2⟩
            go_wp2_with fail
            exact ⟨⟨k + 1, by omega, by go_num, hnewq.trans_new hu2, Hgood.out.succ Hxk.out H0.out fun m1 y1 z1 z2 => Hne.out x m1 y1 Hxk.out (by have := Hmk.out; omega) z2⟩, by simp [intOf]; omega⟩
          · have Hc := hide (check_no x.a x.n E wr (H2.out.new hnewq) (H3.out.new hnewq) h0)
            clear hxk h0 hmk2
            go_wp2_with fail
            refine Hc.out.mono ?_
            rintro e w2 ⟨rfl, hu2⟩
            unfold errv
            go_wp2_with fail
            go_ret
            exact ⟨rfl, hnewq.trans_new hu2⟩
    · have hkl : k = len := by omega
      have Hgood := hide (hkl ▸ hgood)
      clear hgood hkl
      go_wp2_with fail
      refine (new_tab w.heap.size 60 wr hnew.size).mono ?_
      rintro e w2 ⟨t, Ft, rfl, hT, hTn, hu2⟩
      have n2 := hnew.trans_new hu2
      have HT := hide hT
      clear hT
      go_wp2_with fail
      refine (new_tab w.heap.size 60 w2 n2.size).mono ?_
      rintro e w3 ⟨u, Fu, rfl, hU, hUn, hu3⟩
      have n3 := n2.trans_new hu3
      have HU := hide hU
      clear hU
      go_wp2_with fail
      refine (new_tab w.heap.size 60 w3 n3.size).mono ?_
      rintro e w4 ⟨v, Fv, rfl, hV, hVn, hu4⟩
      have n4 := n3.trans_new hu4
      have tri : Tri w.heap.size w4 t u v 0 0 0 (VI xs (js1 0)) (VI xs (js2 len 0)) (VI xs (js3 at1.toNat 0)) := by
        refine ⟨Ft, Fu, Fv, ?_, ?_, ?_, ?_, ?_, ?_⟩
        · rw [show js1 0 = [] from rfl, VI_nil]; exact (HT.out.new hu3).new hu4
        · rw [show js2 len 0 = [] from rfl, VI_nil]; exact HU.out.new hu4
        · rw [show js3 at1.toNat 0 = [] from rfl, VI_nil]; exact hV
        · exact fun k hk hx => by have := HT.out.lt hk; have := hUn k hx; omega
        · exact fun k hk hx => by have := HT.out.lt hk; have := hVn k hx; have := hu3.size; omega
        · exact fun k hk hx => by have := HU.out.lt hk; have := hVn k hx; omega
      have Htri := hide tri
      clear hV tri
      go_wp2_with fail
      go_loopw [13] (fun i wr => ∃ (k : Nat), k ≤ len ∧ i = .int .i64 k ∧ New w wr ∧ Tri w.heap.size wr t u v k k (cnt3 at1.toNat k) (VI xs (js1 k)) (VI xs (js2 len k)) (VI xs (js3 at1.toNat k))) (fun i _ => len - (intOf i).toNat)
      case atStart => exact ⟨0, by omega, rfl, n4, Htri.out⟩
      case round =>
        obtain ⟨k, hk, rfl, hnew, htri⟩ := hrel
        by_cases hlt : k < len
        · obtain ⟨x, hxk⟩ : ∃ x, xs[k]? = some x := ⟨_, List.getElem?_eq_getElem (by have := Hlen.out; omega)⟩
          obtain ⟨m, hm⟩ : ∃ m : Nat, m = len - 1 - k := ⟨_, rfl⟩
          obtain ⟨y, hyk⟩ : ∃ y, xs[m]? = some y := ⟨_, List.getElem?_eq_getElem (by have := Hlen.out; omega)⟩
          have hmi : (len : Int) - 1 - (k : Int) = (m : Int) := by omega
          have Hmi := hide hmi
          have Hm := hide hm
          have i2 : (m : Int) < (len : Int) := by omega
          have hxs := Hx.out.upd hnew zb (fun h => h)
          obtain ⟨p1, p2, p3⟩ := hxs k x hxk
          obtain ⟨q1, q2, q3⟩ := hxs m y hyk
          have i1 : (k : Int) < (len : Int) := by omega
          have zbq : b < wr.heap.size := Nat.lt_of_lt_of_le zb hnew.size
          have hle : xs.length ≤ len := by have := Hlen.out; omega
          have Hle := hide hle
          have S2 := hide (H2.out.new hnew)
          have S3 := hide (H3.out.new hnew)
          have zg2 := H2.out.lt
          have zg3 := H3.out.lt
          have zww := hnew.size
          have Hxs := hide hxs
          have Htr := hide htri
          have Hcx := hide (Hgood.out k x (by omega) hxk).1
          have Hcy := hide (Hgood.out m y (by omega) hyk).1
          have Hxk := hide hxk
          have Hyk := hide hyk
          have Hj2 := hide (js2_not hlt)
          rw [← hm] at Hj2
          clear hxk hyk htri hle hxs hmi hm
          go_wp2_with fail
          rw [Hmi.out]
          go_region_held3 (fun w' => w'.cell? ⟨b, o + k * 3, none⟩ = some (.int .i64 x.a) ∧ w'.cell? ⟨b, o + k * 3 + 1, none⟩ = some (.int .i64 x.n) ∧ w'.cell? ⟨b, o + k * 3 + 2, none⟩ = some (.int .i64 x.h)
              ∧ w'.cell? ⟨b, o + m * 3, none⟩ = some (.int .i64 y.a) ∧ w'.cell? ⟨b, o + m * 3 + 1, none⟩ = some (.int .i64 y.n) ∧ w'.cell? ⟨b, o + m * 3 + 2, none⟩ = some (.int .i64 y.h))
            (first | go_keep | exact six He5.out Hxk.out Hyk.out | exact six He6.out Hxk.out Hyk.out)
            (first
              | (go_at_call_of 15 (Value.pointer (some ⟨t, 0, none⟩)); refine (put_tri w.heap.size _ _ _ _ _ _ _ u v _ _ _ E _ (by exact S2.out.drew) (by exact S3.out.drew) Hcx.out (by exact Htr.out.drew) (VI_free Hgood.out Hle.out Hxk.out (js1_not k)) (by omega) (by omega) (by exact hnew.size)).mono ?_; rintro e w5 ⟨rfl, ht5, hu5⟩; have He5 := hide (Hxs.out.drew.upd hu5 zbq (by omega)); have Ht5 := hide ht5; have S25 := hide (S2.out.drew.upd hu5 (by omega)); have S35 := hide (S3.out.drew.upd hu5 (by omega)); clear ht5)
              | (go_at_call_of 15 (Value.pointer (some ⟨u, 0, none⟩)); refine (put_tri w.heap.size _ _ _ _ _ _ _ v t _ _ _ E _ (by exact S25.out) (by exact S35.out) Hcy.out (by exact Ht5.out.rot) (VI_free Hgood.out Hle.out Hyk.out Hj2.out) (by omega) (by omega) (by exact Nat.le_trans hnew.size hu5.size)).mono ?_; rintro e w6 ⟨rfl, ht6, hu6⟩; have He6 := hide (He5.out.upd hu6 (Nat.lt_of_lt_of_le zbq hu5.size) (by omega)); have Ht6 := hide ht6; have S26 := hide (S25.out.upd hu6 (by omega)); have S36 := hide (S35.out.upd hu6 (by omega)); clear ht6))
          go_wp2_with fail
          have hn6 : New w w6 := by
            have z2 := hu5.size
            exact ((hnew.trans ((Upd.refl _ _).drew.trans' hu5) (fun q h1 h2 => absurd h2 (by omega))).trans hu6 (fun q h1 h2 => absurd h2 (by omega)))
          have hcl := cnt3_le at1.toNat k
          clear p1 p2 p3 q1 q2 q3
          obtain ⟨r1, r2, r3⟩ := He6.out k x Hxk.out
          have zb6 : b < w6.heap.size := Nat.lt_of_lt_of_le zb hn6.size
          have zw6 := hn6.size
          by_cases hka : (k : Int) = at1
          · have hkb : ((k : Int) != at1) = false := by simpa using hka
            have Hka := hide hka
            clear hka
            go_quiet (fail)
            go_wp2_with fail
            exact ⟨⟨k + 1, by omega, by go_num, hn6.drewN _, (tri_skip Hgood.out Hle.out Hxk.out Hyk.out hlt Hm.out Hka.out Ht6.out.rot.rot).new ((Upd.refl _ _).drewN _)⟩, by simp [intOf]; omega⟩
          · have hkb : ((k : Int) != at1) = true := by simpa using hka
            have hkc : k ≠ at1.toNat := by omega
            have Hkc := hide hkc
            clear hka hkc
            go_region_held3 (fun w' => w'.cell? ⟨b, o + k * 3, none⟩ = some (.int .i64 x.a) ∧ w'.cell? ⟨b, o + k * 3 + 1, none⟩ = some (.int .i64 x.n) ∧ w'.cell? ⟨b, o + k * 3 + 2, none⟩ = some (.int .i64 x.h))
              (first | go_keep | exact He7.out k x Hxk.out)
              (first
                | (go_at_call 15; refine (put_tri w.heap.size _ _ _ _ _ _ _ t u _ _ _ E _ (by exact S26.out.drew) (by exact S36.out.drew) Hcx.out (by exact Ht6.out.rot.drew) (VI_free Hgood.out Hle.out Hxk.out (js3_not at1.toNat k)) (by omega) (by omega) (by exact hn6.size)).mono ?_; rintro e w7 ⟨rfl, ht7, hu7⟩; have He7 := hide (He6.out.drew.upd hu7 zb6 (by omega)); have Ht7 := hide ht7; clear ht7))
            go_wp2_with fail
            exact ⟨⟨k + 1, by omega, by go_num, hn6.trans ((Upd.refl _ _).drew.trans' hu7) (fun q h1 h2 => absurd h2 (by omega)), tri_step Hgood.out Hle.out Hxk.out Hyk.out hlt Hm.out Hkc.out Ht7.out.rot⟩, by simp [intOf]; omega⟩
        · have hkl : k = len := by omega
          obtain ⟨i, hi⟩ : ∃ i : Nat, i = at1.toNat := ⟨_, rfl⟩
          have hiat : at1 = (i : Int) := by omega
          have hil : i < len := by omega
          obtain ⟨x, hxi⟩ : ∃ x, xs[i]? = some x := ⟨_, List.getElem?_eq_getElem (by have := Hlen.out; omega)⟩
          have hle : xs.length ≤ len := by have := Hlen.out; omega
          have hcx := (Hgood.out i x hil hxi).1
          rw [hkl, ← hi] at htri
          have hct : cnt3 i len = len - 1 := by unfold cnt3; rw [if_pos hil]
          rw [hct] at htri
          have hsame : VI xs (js2 len len) = VI xs (js1 len) := VI_same Hgood.out hle (js2_nodup len len (Nat.le_refl _)) (js1_nodup len) (js2_mem len)
          rw [hsame] at htri
          have Htri2 := hide htri
          have hxs := Hx.out.upd hnew zb (fun h => h)
          have Hxs := hide hxs
          have Hiat := hide hiat
          have Hxi := hide hxi
          have Hle := hide hle
          have Hcx := hide hcx
          have Hvat := hide (VI_at Hgood.out hle (js1_nodup len) hxi (by simp [js1]; omega))
          have Hdrop := hide (VI_drop Hgood.out hle (js1_nodup len) (js3_nodup i len) hxi (js3_mem i len))
          have zbq : b < wr.heap.size := Nat.lt_of_lt_of_le zb hnew.size
          have zww := hnew.size
          have i1 : at1 < (len : Int) := ha1
          have S2 := hide (H2.out.new hnew)
          have S3 := hide (H3.out.new hnew)
          have zg2 := H2.out.lt
          have zg3 := H3.out.lt
          obtain ⟨p0, e0⟩ : ∃ p, p = fA a (found (VI xs (js1 len)) a) := ⟨_, rfl⟩
          obtain ⟨p1, e1⟩ : ∃ p, p = fB (found (VI xs (js1 len)) a) := ⟨_, rfl⟩
          obtain ⟨p2, e2⟩ : ∃ p, p = fC (found (VI xs (js1 len)) a) := ⟨_, rfl⟩
          obtain ⟨p3, e3⟩ : ∃ p, p = (found (VI xs (js1 len)) a).isSome := ⟨_, rfl⟩
          obtain ⟨q0, f0⟩ : ∃ p, p = fA a (found (VI xs (js3 i len)) a) := ⟨_, rfl⟩
          obtain ⟨q1, f1⟩ : ∃ p, p = fB (found (VI xs (js3 i len)) a) := ⟨_, rfl⟩
          obtain ⟨q2, f2⟩ : ∃ p, p = fC (found (VI xs (js3 i len)) a) := ⟨_, rfl⟩
          obtain ⟨q3, f3⟩ : ∃ p, p = (found (VI xs (js3 i len)) a).isSome := ⟨_, rfl⟩
          have F1 := hide (fun (W : World) (s : Sen W gBound (E 2)) (T : Tri w.heap.size W t u v len len ((len - 1 : Nat) : Int) (VI xs (js1 len)) (VI xs (js1 len)) (VI xs (js3 i len))) => find_tri2 _ a _ _ _ t u v _ _ _ E W s T e0 e1 e2 e3)
          have F2 := hide (fun (W : World) (s : Sen W gBound (E 2)) (T : Tri w.heap.size W u v t len ((len - 1 : Nat) : Int) len (VI xs (js1 len)) (VI xs (js3 i len)) (VI xs (js1 len))) => find_tri2 _ a _ _ _ u v t _ _ _ E W s T e0 e1 e2 e3)
          have F3 := hide (fun (W : World) (s : Sen W gBound (E 2)) (T : Tri w.heap.size W t u v ((len : Int) - 1) len ((len - 1 : Nat) : Int) (VI xs (js3 i len)) (VI xs (js1 len)) (VI xs (js3 i len))) => find_tri2 _ a _ _ _ t u v _ _ _ E W s T f0 f1 f2 f3)
          have F4 := hide (fun (W : World) (s : Sen W gBound (E 2)) (T : Tri w.heap.size W v t u ((len - 1 : Nat) : Int) ((len : Int) - 1) len (VI xs (js3 i len)) (VI xs (js3 i len)) (VI xs (js1 len))) => find_tri2 _ a _ _ _ v t u _ _ _ E W s T f0 f1 f2 f3)
          clear htri hxs hiat hxi hle hcx hct hsame hkl hi e0 e1 e2 e3 f0 f1 f2 f3
          go_wp2_with fail
          refine (F1.out _ S2.out Htri2.out).mono ?_
          rintro e w5 ⟨rfl, hu5⟩
          have n5 : New w w5 := hnew.trans_new hu5
          go_wp2_with fail
          refine (F2.out _ (by exact S2.out.new (hu5.alloc _)) (by exact (Htri2.out.new (hu5.alloc _)).rot)).mono ?_
          rintro e w6 ⟨rfl, hu6⟩
          have b5 := (Blk.new w5 TP #[.int .i64 p0, .int .i64 p1]).new_ hu6
          have c50 := b5.cell 0
          have c51 := b5.cell 1
          have k50 := b5.frozen 0
          have k51 := b5.frozen 1
          have zb5 := b5.lt
          simp only [List.getElem?_toArray, List.getElem?_cons_zero, List.getElem?_cons_succ] at c50 c51
          have n6 : New w (w6.alloc (.cells #[.int .i64 p0, .int .i64 p1] TP)) := ((n5.alloc (.cells #[.int .i64 p0, .int .i64 p1] TP)).trans_new hu6).alloc _
          have m6 : New wr w6 := (hu5.alloc (.cells #[.int .i64 p0, .int .i64 p1] TP)).trans_new hu6
          obtain ⟨r1, r2, r3⟩ := (Hxs.out.upd m6 zbq (fun h => h)) i x Hxi.out
          have zb6 : b < w6.heap.size := Nat.lt_of_lt_of_le zbq m6.size
          have zw6 := n6.size
          have zq : w5.heap.size ≠ w6.heap.size := by omega
          simp only [World.size_alloc] at zw6
          clear b5
          have ei := Hiat.out
          go_wp2_with fail
          refine (drop_tri0 w.heap.size x.a x.n len x.h len ((len - 1 : Nat) : Int) t u v _ _ _ E wr _ (by exact S2.out.new (m6.alloc _)) (by exact S3.out.new (m6.alloc _)) Hcx.out (by exact Htri2.out) (by exact m6.alloc _) Hvat.out (by omega) (by omega)).mono ?_
          rintro e w7 ⟨rfl, ht7, hu7⟩
          rw [Hdrop.out] at ht7
          have z5r : wr.heap.size ≤ w5.heap.size := hu5.size
          have b5 := (((Blk.new w5 TP #[.int .i64 p0, .int .i64 p1]).new_ hu6).alloc (.cells #[.int .i64 p0, .int .i64 p1] TP)).upd hu7 (by omega)
          have b6 := (Blk.new w6 TP #[.int .i64 p0, .int .i64 p1]).upd hu7 (by omega)
          have s2 := S2.out.new (m6.alloc (.cells #[.int .i64 p0, .int .i64 p1] TP))
          have S27 := hide (s2.upd hu7 (by omega))
          have n7 : New w w7 := n6.trans hu7 fun q h1 h2 => absurd h2.1 (by omega)
          have Ht7 := hide ht7
          have B5 := hide b5
          have B6 := hide b6
          clear c50 c51 k50 k51 r1 r2 r3 b5 b6 s2 ht7
          go_wp2_with fail
          refine (F3.out _ S27.out Ht7.out.tri).mono ?_
          rintro e w8 ⟨rfl, hu8⟩
          have b5 := B5.out.new_ hu8
          have b6 := B6.out.new_ hu8
          have c50 := b5.cell 0
          have c51 := b5.cell 1
          have k50 := b5.frozen 0
          have k51 := b5.frozen 1
          have zb8 := b5.lt
          have zb9 := b6.lt
          simp only [List.getElem?_toArray, List.getElem?_cons_zero, List.getElem?_cons_succ] at c50 c51
          clear b5 b6
          go_wp2_with fail
          have T9 := (Ht7.out.new hu8).set2 (g := w5.heap.size) z5r (.int .i64 q0) (.int .i64 q1)
          have s8 := (S27.out.new hu8)
          have s9 : Sen ((w8.setCell ⟨w5.heap.size, 0, none⟩ (.int .i64 q0)).setCell ⟨w5.heap.size, 1, none⟩ (.int .i64 q1)) gBound (E 2) :=
            s8.upd (S := fun k => wr.heap.size ≤ k) (((Upd.refl _ _).setCell (p := ⟨w5.heap.size, 0, none⟩) (.inl z5r) _).setCell (p := ⟨w5.heap.size, 1, none⟩) (.inl z5r) _) (by omega)
          have b5 := ((B5.out.new_ hu8).set_ 0 (.int .i64 q0)).set_ 1 (.int .i64 q1)
          have b6 := ((B6.out.new_ hu8).far (p := ⟨w5.heap.size, 0, none⟩) (by show w6.heap.size ≠ w5.heap.size; omega) (.int .i64 q0)).far (p := ⟨w5.heap.size, 1, none⟩) (by show w6.heap.size ≠ w5.heap.size; omega) (.int .i64 q1)
          have T9' := hide T9
          have s9' := hide s9
          have b5' := hide b5
          have b6' := hide b6
          clear T9 s8 s9 b5 b6 c50 c51 k50 k51
          refine (F4.out _ s9'.out T9'.out.tri.rot.rot).mono ?_
          rintro e w10 ⟨rfl, hu10⟩
          have b5 := b5'.out.new_ hu10
          have b6 := b6'.out.new_ hu10
          have c50 := b5.cell 0
          have c51 := b5.cell 1
          have c60 := b6.cell 0
          have c61 := b6.cell 1
          have k60 := b6.frozen 0
          have k61 := b6.frozen 1
          have zb10 := b5.lt
          have zb11 := b6.lt
          simp only [List.getElem?_toArray, List.getElem?_cons_zero, List.getElem?_cons_succ, List.setIfInBounds_toArray, List.set_cons_zero, List.set_cons_succ] at c50 c51 c60 c61
          clear b5 b6
          have T10 := (T9'.out.new hu10).set2 (g := w6.heap.size) (by omega) (.int .i64 q0) (.int .i64 q1)
          have c1 := count_tri _ _ _ _ _ _ _ _ _ _ _ T10.tri
          have c2 := count_tri _ _ _ _ _ _ _ _ _ _ _ T10.tri.rot.rot
          rw [show ((len - 1 : Nat) : Int) = (len : Int) - 1 from by omega] at c2
          have C1 := hide c1
          have C2 := hide c2
          clear T10 c1 c2
          go_wp2_with fail
          refine C1.out.mono ?_
          rintro e w11 ⟨rfl, rfl⟩
          go_wp2_with fail
          refine C2.out.mono ?_
          rintro e w12 ⟨rfl, rfl⟩
          go_wp2_with fail
          go_ret
          refine ⟨?_, ?_⟩
          · rfl
          · have z1 : w.heap.size ≤ w5.heap.size := n5.size
            have z2 : w.heap.size ≤ w6.heap.size := by omega
            exact ((((((n7.trans_new hu8).setCell (p := ⟨w5.heap.size, 0, none⟩) (.inr z1) _).setCell (p := ⟨w5.heap.size, 1, none⟩) (.inr z1) _).trans_new hu10).setCell (p := ⟨w6.heap.size, 0, none⟩) (.inr z2) _).setCell (p := ⟨w6.heap.size, 1, none⟩) (.inr z2) _)
end Go.Proofs.YtgoiighbgmhaoaaDoor

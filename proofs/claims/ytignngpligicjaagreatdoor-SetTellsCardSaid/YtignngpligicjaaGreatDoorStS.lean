/- The closed fact setted: two halves are one. No condition but those that stand in each theorem. -/
import Derived.Test.YtignngpligicjaaGreatDoorStA
import Derived.Test.YtignngpligicjaaGreatDoorSp5
import Derived.Test.YtignngpligicjaaGreatDoorStBo
import Derived.Test.YtignngpligicjaaGreatDoorIh3
import Derived.Test.YtignngpligicjaaGreatDoorOw1
namespace Go.Proofs.YtignngpligicjaaGreatDoor
open Go.RowKit

theorem norm_some (A : Option Addr) (n c : Nat) (ps : List Pf) (E : Nat → Addr) (w : World) (htz : TzOk w) (h2 : Sen w gBound (E 2)) (h3 : Sen w gShape (E 3)) (hx : Rws w A 2 (ps.map Pf.cells)) (hn : ps.length = n) (hl : n ≤ 100000) :
    Calls Tryz.prog 30 #[.slice A n c] w fun e w1 => ∃ A1 k1 c1 er, e = .returned (.tuple #[.slice A1 k1 c1, er]) ∧ New w w1 :=
  (norm_any A n c ps E w htz h2 h3 hx hn hl).mono fun _ _ ⟨v, er, P, he, _, hu, ho, _⟩ => by
    obtain ⟨A1, c1, rfl, _⟩ := ho.rws
    exact ⟨A1, _, c1, er, he, hu⟩
/-- Two halves of one. -/
def halves2 : List Pf := [⟨128, 25⟩, ⟨0, 25⟩]
theorem halves_ok : ∀ p ∈ halves2, p.ok := by
  intro p hp
  simp [halves2] at hp
  rcases hp with rfl | rfl <;> (unfold Pf.ok; decide +kernel)
theorem whole_npl : NPl (fun x => inB2 [(0, 256)] x) [⟨0, 24⟩] := by
  have hg : Gres [(0, 256)] [(0, 8)] := ⟨[(0, 8)], [], rfl, ⟨rfl, ⟨by decide, by decide, by decide, by decide⟩, rfl⟩, rfl⟩
  have ha : Apart [(0, 256)] := ⟨by omega, by omega, by simp, trivial⟩
  have h := npl_of (f := fun x => inB2 [(0, 256)] x) ((gres_canon ha hg).iff fun x _ => (inB2_iff _ x).symm)
  exact h
theorem halves_one {qs : List Pf} (h : NPl (inP halves2) qs) : qs = [⟨0, 24⟩] := by
  refine h.one whole_npl fun x _ => ?_
  show inK (halves2.map Pf.b) x = inB2 [(0, 256)] x
  rw [Bool.eq_iff_iff, inK_iff, inB2_iff]
  unfold InB InS halves2
  constructor
  · rintro ⟨q, hq, h1, h2⟩
    refine ⟨(0, 256), by simp, Nat.zero_le _, ?_⟩
    simp [Pf.b] at hq
    rcases hq with rfl | rfl
    · have h2 : x < 128 + 128 := h2
      show x < 256
      omega
    · have h2 : x < 0 + 128 := h2
      show x < 256
      omega
  · rintro ⟨s, hs, h1, h2⟩
    simp at hs
    subst hs
    have h2 : x < 256 := h2
    by_cases hx : x < 128
    · exact ⟨(0, 7), by simp [Pf.b], Nat.zero_le _, by show x < 0 + 128; omega⟩
    · exact ⟨(128, 7), by simp [Pf.b], by show 128 ≤ x; omega, by show x < 128 + 128; omega⟩

set_option maxHeartbeats 1000000 in
theorem setted_any (E : Nat → Addr) (w : World) (htz : TzOk w) (h2 : Sen w gBound (E 2)) (h3 : Sen w gShape (E 3)) :
    Calls Tryz.prog 28 #[] w fun e w1 => e = .returned (.bool true) ∧ New w w1 := by
  have g1 := guard_pfx
  have g3 := eql_pfx
  have u := (Upd.refl (fun _ => False) w).alloc (.cells #[.int .i64 128, .int .i64 25, .int .i64 0, .int .i64 25] TPf)
  have hr : Rws (w.alloc (.cells #[.int .i64 128, .int .i64 25, .int .i64 0, .int .i64 25] TPf)) (some ⟨w.heap.size, 0, none⟩) 2 (halves2.map Pf.cells) := by
    intro _
    have hb := Blk.new w TPf #[.int .i64 128, .int .i64 25, .int .i64 0, .int .i64 25]
    refine ⟨w.heap.size, 0, rfl, hb.lt, fun i r hi j v hj => ?_⟩
    rw [hb.cell]
    match i, hi with
    | 0, hi =>
      obtain rfl : (#[.int .i64 128, .int .i64 25] : Array Value) = r := by simpa [halves2, Pf.cells] using hi
      match j, hj with
      | 0, hj => simpa using hj
      | 1, hj => simpa using hj
      | j + 2, hj => simp at hj
    | 1, hi =>
      obtain rfl : (#[.int .i64 0, .int .i64 25] : Array Value) = r := by simpa [halves2, Pf.cells] using hi
      match j, hj with
      | 0, hj => simpa using hj
      | 1, hj => simpa using hj
      | j + 2, hj => simp at hj
    | i + 2, hi => simp [halves2] at hi
  have Hc := hide (norm_good (some ⟨w.heap.size, 0, none⟩) 2 2 halves2 E _ (htz.new u) (h2.new u) (h3.new u) hr rfl (by omega) (pfsC_all halves_ok))
  have N := hide u
  clear htz h2 h3 u hr
  go_enter Tryz.func28, Tryz.ntmps28
  go_wp2_with fail
  refine Hc.out.mono ?_
  rintro e w1 ⟨A, c, qs, rfl, hu, hr, _, hn⟩
  obtain rfl := halves_one hn
  obtain ⟨b, o, hA, hb, hc⟩ := hr (by simp)
  subst hA
  have c0 := hc 0 #[.int .i64 0, .int .i64 24] rfl 0 _ rfl
  have c1 := hc 0 #[.int .i64 0, .int .i64 24] rfl 1 _ rfl
  have N := hide (N.out.trans_new hu)
  clear hu hr hc hn
  simp only [List.length_cons, List.length_nil, Nat.zero_mul, Nat.add_zero, Nat.zero_add] at c0 c1 ⊢
  go_wp2_with fail
  go_ret
  exact ⟨rfl, N.out⟩
end Go.Proofs.YtignngpligicjaaGreatDoor

namespace Go.Proofs.YtignngpligicjaaGreatDoor
open Go.RowKit

theorem sum_le : ∀ (R : List (Nat × Nat)), (∀ s ∈ R, Spn s) → sumS R ≤ R.length * 4294967296
  | [], _ => by simp [sumS]
  | s :: l, h => by
    rw [sumS_cons, List.length_cons]
    have h1 := sum_le l fun t ht => h t (List.mem_cons_of_mem _ ht)
    have h2 := (h s (List.mem_cons_self ..)).2
    omega
theorem sum_take {R : List (Nat × Nat)} {j : Nat} {s : Nat × Nat} (h : R[j]? = some s) : sumS (R.take (j + 1)) = sumS (R.take j) + (s.2 - s.1) := by
  rw [List.take_add_one, h]
  unfold sumS
  simp
theorem cnt_facts {S f t : Nat} (h : f < t) (ht : t ≤ 4294967296) (hS : S ≤ 1000000000000000) : ∃ D : Nat, D = t - f ∧ IntKind.i64.wrap ((t : Int) - (f : Int)) = (D : Int) ∧ wrap64 ((t : Int) - (f : Int)) = (D : Int) ∧ IntKind.i64.wrap ((S : Int) + (D : Int)) = ((S + D : Nat) : Int) ∧ wrap64 ((S : Int) + (D : Int)) = ((S + D : Nat) : Int) := by
  refine ⟨t - f, rfl, ?_, ?_, ?_, ?_⟩
  · rw [IntWalk.i64_in _ (by omega)]; omega
  · rw [IntWalk.wrap64_in _ ⟨by omega, by omega⟩]; omega
  · rw [IntWalk.i64_in _ (by omega)]; omega
  · rw [IntWalk.wrap64_in _ ⟨by omega, by omega⟩]; omega

set_option maxRecDepth 8000 in
set_option maxHeartbeats 1000000 in
theorem count_any (A : Option Addr) (n c : Nat) (ps : List Pf) (E : Nat → Addr) (w : World) (h2 : Sen w gBound (E 2)) (h3 : Sen w gShape (E 3)) (hx : Rws w A 2 (ps.map Pf.cells)) (hn : ps.length = n) (hl : n ≤ 100000) :
    Calls Tryz.prog 34 #[.slice A n c] w fun e w1 => ∃ (er : Value) (k : Nat), e = .returned (.tuple #[.int .i64 (k : Int), er]) ∧ ErrV w1 E er (pfsC ps).1 (pfsC ps).2 ∧ New w w1 ∧ k ≤ 1000000000000000 ∧ ((pfsC ps).1 ≠ 0 → k = 0) ∧ ((pfsC ps).1 = 0 → Cnt ps k) := by
  have Hs := hide (spans_any A n c ps E w h2 h3 hx hn hl)
  have Hn := hide hn
  clear h2 h3 hx hn
  go_enter Tryz.func34, Tryz.ntmps34
  go_wp2_with fail
  refine Hs.out.mono ?_
  rintro e w1 ⟨v, er, rfl, her, hu, hbad, hgood⟩
  have U := hide hu
  have Her := hide her
  have hR : ∃ R, OwnS w1 w.heap.size v R ∧ R.length ≤ n ∧ (∀ s ∈ R, Spn s) ∧ ((pfsC ps).1 ≠ 0 → sumS R = 0) ∧ ((pfsC ps).1 = 0 → Cnt ps (sumS R)) := by
    by_cases hC : (pfsC ps).1 = 0
    · obtain ⟨l', hp, hs, ho⟩ := hgood hC
      obtain ⟨ha, _⟩ := spans_ok (pfsC_ok hC) hp hs
      exact ⟨_, ho, by have h1 := merge_len l'; have h2 := hp.length_eq; rw [List.length_map] at h2; have := Hn.out; omega, apart_spn _ ha, fun h => absurd hC h, fun _ => ⟨l', hp, hs, rfl⟩⟩
    · obtain rfl := hbad hC
      exact ⟨[], World.ownsRow_nil _ _ _ _, by simp, by simp, fun _ => rfl, fun h => absurd h hC⟩
  obtain ⟨R, ho, hlR, hsp, hb, hg⟩ := hR
  obtain ⟨B, k, rfl, hq⟩ := ho.get
  have Q := hide hq
  have Hsp := hide hsp
  have HB := hide hb
  have HG := hide hg
  clear her hu hbad hgood ho hsp hb hg hq Hs
  go_wp2_with fail
  go_loopw [6, 16] (fun nv iv wz => ∃ j : Nat, j ≤ R.length ∧ iv = .int .i64 j ∧ nv = .int .i64 ((sumS (R.take j) : Nat) : Int) ∧ New w1 wz) (fun _ iv _ => R.length - (intOf iv).toNat)
  case atStart => exact ⟨0, by omega, rfl, by simp [sumS], Upd.refl _ _⟩
  case round =>
    obtain ⟨j, hj, rfl, rfl, hu⟩ := hrel
    have HU := hide hu
    obtain ⟨wo, rfl⟩ : ∃ wo : World, wo = wr := ⟨_, rfl⟩
    by_cases hlt : j < R.length
    · obtain ⟨b, o, s, hA, hbw, hsj, e0, e1⟩ := sps_at (k := j) (Q.out.new_ hu) hlt
      subst hA
      obtain ⟨hs1, hs2⟩ := Hsp.out s (List.mem_of_getElem? hsj)
      have Hsj := hide (sum_take hsj)
      have i3 : (j : Int) < (R.length : Int) := by omega
      have hS9 : sumS (R.take j) ≤ 1000000000000000 := by
        have h1 := sum_le (R.take j) fun t ht => Hsp.out t (List.mem_of_mem_take ht)
        rw [List.length_take] at h1
        omega
      generalize sumS (R.take j) = S at *
      obtain ⟨D, hD, d1, d2, d3, d4⟩ := cnt_facts hs1 hs2 hS9
      have HD := hide hD
      have UA := hide ((Upd.refl (fun _ => False) wo).alloc (.cells #[.int .i64 (s.1 : Int), .int .i64 (s.2 : Int)] TSp))
      have BX := hide (Blk.new wo TSp #[.int .i64 (s.1 : Int), .int .i64 (s.2 : Int)])
      clear hsj hu hD
      go_upto_region 6 with (fail)
      clear e0 e1 hbw
      generalize wo.alloc (.cells #[.int .i64 (s.1 : Int), .int .i64 (s.2 : Int)] TSp) = W at *
      generalize wo.heap.size = X2 at *
      have x0 := BX.out.cell 0
      have x1 := BX.out.cell 1
      have xz := BX.out.lt
      simp only [List.getElem?_toArray, List.getElem?_cons_zero, List.getElem?_cons_succ] at x0 x1
      have N9 := hide (HU.out.trans_new UA.out)
      go_wp2_with fail
      exact ⟨⟨j + 1, by omega, by go_num, by rw [Hsj.out, ← HD.out, Int.natCast_add], N9.out⟩, by simp [intOf]; omega⟩
    · have hjm : j = R.length := by omega
      subst hjm
      have i3 : ¬ (R.length : Int) < (R.length : Int) := by omega
      rw [List.take_length]
      have hS9 : sumS R ≤ 1000000000000000 := by
        have h1 := sum_le R Hsp.out
        omega
      clear hu
      go_wp2_with fail
      go_ret2
      exact ⟨_, _, rfl, Her.out.new HU.out, U.out.trans_new HU.out, hS9, HB.out, HG.out⟩
theorem count_good (A : Option Addr) (n c : Nat) (ps : List Pf) (E : Nat → Addr) (w : World) (h2 : Sen w gBound (E 2)) (h3 : Sen w gShape (E 3)) (hx : Rws w A 2 (ps.map Pf.cells)) (hn : ps.length = n) (hl : n ≤ 100000) (hC : (pfsC ps).1 = 0) :
    Calls Tryz.prog 34 #[.slice A n c] w fun e w1 => ∃ k : Nat, e = .returned (.tuple #[.int .i64 (k : Int), .nilIface]) ∧ New w w1 ∧ Cnt ps k :=
  (count_any A n c ps E w h2 h3 hx hn hl).mono fun _ _ ⟨er, k, he, her, hu, _, _, hg⟩ => by
    obtain rfl := her.nil_of hC
    exact ⟨k, he, hu, hg hC⟩
end Go.Proofs.YtignngpligicjaaGreatDoor

namespace Go.Proofs.YtignngpligicjaaGreatDoor
open Go.RowKit

theorem rl_at {w : World} {A : Option Addr} {ps : List Pf} {b o : Nat} (h : Rws w A 2 (ps.map Pf.cells)) (hA : A = some ⟨b, o, none⟩) {k : Nat} {p : Pf} (hp : ps[k]? = some p) : w.cell? ⟨b, o + k * 2, none⟩ = some (.int .i64 p.a) ∧ w.cell? ⟨b, o + k * 2 + 1, none⟩ = some (.int .i64 p.n) ∧ b < w.heap.size := by
  have hk := (List.getElem?_eq_some_iff.1 hp).1
  obtain ⟨b1, o1, p1, hA1, hb, hp1, h0, h1⟩ := rws_two h hk
  rw [hA] at hA1
  injection hA1 with hA1
  injection hA1 with e1 e2
  subst e1
  subst e2
  rw [hp] at hp1
  injection hp1 with hp1
  subst hp1
  exact ⟨h0, h1, hb⟩
theorem flat_pf_append (ps qs : List Pf) : flat ((ps ++ qs).map Pf.cells) = flat (ps.map Pf.cells) ++ flat (qs.map Pf.cells) := by rw [List.map_append, flat_append]
theorem OwnP.join {w : World} {base : Nat} {v : Value} {ps qs : List Pf} (h : w.ownsRow base TPf 2 v (ps.length + qs.length) (flat (ps.map Pf.cells) ++ flat (qs.map Pf.cells))) : OwnP w base v (ps ++ qs) := by
  unfold OwnP
  rw [flat_pf_append, List.length_append]
  exact h
set_option maxHeartbeats 1000000 in
theorem ownPrefixes_own (A : Option Addr) (n c : Nat) (ps : List Pf) (w : World) (hx : Rws w A 2 (ps.map Pf.cells)) (hn : ps.length = n) (hl : n ≤ 1000000) :
    Calls Tryz.prog 29 #[.slice A n c] w fun e w1 => ∃ v, e = .returned v ∧ OwnP w1 w.heap.size v ps ∧ New w w1 := by
  have Hf := hide (Rws.flat (by omega) hx (pf_size ps))
  have Hn := hide hn
  obtain ⟨i0, hi0, hz0, hz1, hz2⟩ := info_parts info_TPf
  clear hx hn
  go_enter Tryz.func29, Tryz.ntmps29
  go_wp2_with (at_builtin; refine append_src rfl (.tmp 4) (.tmp 5) 46 rfl w.heap.size 23 i0 _ 2 16 Tryz.underlying46 hi0 hz0 hz1 hz2 rfl (by omega) (.slice none 0 0) 0 [] rfl (World.ownsRow_nil _ _ _ _) A n c (flat (ps.map Pf.cells)) rfl (by rw [flat_length _ (pf_size ps), List.length_map, Hn.out]) (fun h => Hf.out (by rw [List.length_map, Hn.out]; exact h)) (pf_one ps) (by unfold maxLen; omega) (by omega) (Nat.le_refl _) ?_)
  intro v1 w1 ho1 hg1
  have u1 : New w w1 := grown_new hg1
  have ho2 : OwnP w1 w.heap.size v1 ps := by unfold OwnP; rw [Hn.out]; simpa using ho1
  clear ho1 hg1
  go_wp2_with fail
  go_ret
  exact ⟨_, rfl, ho2, u1⟩
theorem has_and {a b l : List Pf} (ha : ∀ p ∈ a, p.ok) (hb : ∀ p ∈ b, p.ok) (h : NPl (fun z => inP a z && inP b z) l) (x : Int) : hasL l x = (hasL a x && hasL b x) := by
  rw [h.hasL, hasL_eq ha, hasL_eq hb]
  cases decide (0 ≤ x ∧ x < 4294967296) <;> rfl
theorem has_not {a b l : List Pf} (ha : ∀ p ∈ a, p.ok) (hb : ∀ p ∈ b, p.ok) (h : NPl (fun z => inP a z && !inP b z) l) (x : Int) : hasL l x = (hasL a x && !hasL b x) := by
  rw [h.hasL, hasL_eq ha, hasL_eq hb]
  cases decide (0 ≤ x ∧ x < 4294967296) <;> cases inP a x.toNat <;> cases inP b x.toNat <;> rfl
theorem sizes_take {ps : List Pf} {j : Nat} {p : Pf} (h : ps[j]? = some p) : sizes (ps.take (j + 1)) = sizes (ps.take j) + 2 ^ (32 - p.n.toNat) := by
  rw [List.take_add_one, h]
  unfold sizes
  simp
theorem p32_le (k : Nat) : 2 ^ (32 - k) ≤ 4294967296 := Nat.le_trans (Nat.pow_le_pow_right (show 0 < 2 by omega) (show 32 - k ≤ 32 by omega)) (by omega)
theorem sizes_le : ∀ (ps : List Pf), sizes ps ≤ ps.length * 4294967296
  | [] => by simp [sizes]
  | p :: l => by
    have h1 := sizes_le l
    have h2 := p32_le p.n.toNat
    have e : sizes (p :: l) = 2 ^ (32 - p.n.toNat) + sizes l := by simp [sizes]
    rw [e, List.length_cons]
    omega
theorem add_facts {S D : Nat} (hS : S ≤ 1000000000000000) (hD : D ≤ 4294967296) : IntKind.i64.wrap ((S : Int) + (D : Int)) = ((S + D : Nat) : Int) ∧ wrap64 ((S : Int) + (D : Int)) = ((S + D : Nat) : Int) := by
  constructor
  · rw [IntWalk.i64_in _ (by omega)]; omega
  · rw [IntWalk.wrap64_in _ ⟨by omega, by omega⟩]; omega
end Go.Proofs.YtignngpligicjaaGreatDoor

/- Package set: Count. No condition but those that stand in each theorem. -/
import Derived.Test.YtignngpligicjaaDoorStA
import Derived.Test.YtignngpligicjaaDoorSp5
namespace Go.Proofs.YtignngpligicjaaDoor
open Go.RowKit

theorem sum_le : ∀ (R : List (Nat × Nat)), (∀ s ∈ R, Spn s) → sumS R ≤ R.length * 4294967296
  | [], _ => by simp [sumS]
  | s :: l, h => by
    rw [sumS_cons, List.length_cons]
    have h1 := sum_le l fun t ht => h t (List.mem_cons_of_mem _ ht)
    have h2 := (h s (List.mem_cons_self ..)).2
    omega
theorem sum_take {R : List (Nat × Nat)} {j : Nat} {s : Nat × Nat} (h : R[j]? = some s) : sumS (R.take (j + 1)) = sumS (R.take j) + (s.2 - s.1) := by
  rw [List.take_add_one, h]
  unfold sumS
  simp
theorem cnt_facts {S f t : Nat} (h : f < t) (ht : t ≤ 4294967296) (hS : S ≤ 1000000000000000) : ∃ D : Nat, D = t - f ∧ IntKind.i64.wrap ((t : Int) - (f : Int)) = (D : Int) ∧ wrap64 ((t : Int) - (f : Int)) = (D : Int) ∧ IntKind.i64.wrap ((S : Int) + (D : Int)) = ((S + D : Nat) : Int) ∧ wrap64 ((S : Int) + (D : Int)) = ((S + D : Nat) : Int) := by
  refine ⟨t - f, rfl, ?_, ?_, ?_, ?_⟩
  · rw [IntWalk.i64_in _ (by omega)]; omega
  · rw [IntWalk.wrap64_in _ ⟨by omega, by omega⟩]; omega
  · rw [IntWalk.i64_in _ (by omega)]; omega
  · rw [IntWalk.wrap64_in _ ⟨by omega, by omega⟩]; omega

set_option maxRecDepth 8000 in
set_option maxHeartbeats 1000000 in
theorem count_any (A : Option Addr) (n c : Nat) (ps : List Pf) (E : Nat → Addr) (w : World) (h2 : Sen w gBound (E 2)) (h3 : Sen w gShape (E 3)) (hx : Rws w A 2 (ps.map Pf.cells)) (hn : ps.length = n) (hl : n ≤ 100000) :
    Calls Tryd.prog 17 #[.slice A n c] w fun e w1 => ∃ (er : Value) (k : Nat), e = .returned (.tuple #[.int .i64 (k : Int), er]) ∧ ErrV w1 E er (pfsC ps).1 (pfsC ps).2 ∧ New w w1 ∧ k ≤ 1000000000000000 ∧ ((pfsC ps).1 ≠ 0 → k = 0) ∧ ((pfsC ps).1 = 0 → Cnt ps k) := by
  have Hs := hide (spans_any A n c ps E w h2 h3 hx hn hl)
  have Hn := hide hn
  clear h2 h3 hx hn
  go_enter Tryd.func17, Tryd.ntmps17
  go_wp2_with fail
  refine Hs.out.mono ?_
  rintro e w1 ⟨v, er, rfl, her, hu, hbad, hgood⟩
  have U := hide hu
  have Her := hide her
  have hR : ∃ R, OwnS w1 w.heap.size v R ∧ R.length ≤ n ∧ (∀ s ∈ R, Spn s) ∧ ((pfsC ps).1 ≠ 0 → sumS R = 0) ∧ ((pfsC ps).1 = 0 → Cnt ps (sumS R)) := by
    by_cases hC : (pfsC ps).1 = 0
    · obtain ⟨l', hp, hs, ho⟩ := hgood hC
      obtain ⟨ha, _⟩ := spans_ok (pfsC_ok hC) hp hs
      exact ⟨_, ho, by have h1 := merge_len l'; have h2 := hp.length_eq; rw [List.length_map] at h2; have := Hn.out; omega, apart_spn _ ha, fun h => absurd hC h, fun _ => ⟨l', hp, hs, rfl⟩⟩
    · obtain rfl := hbad hC
      exact ⟨[], World.ownsRow_nil _ _ _ _, by simp, by simp, fun _ => rfl, fun h => absurd h hC⟩
  obtain ⟨R, ho, hlR, hsp, hb, hg⟩ := hR
  obtain ⟨B, k, rfl, hq⟩ := ho.get
  have Q := hide hq
  have Hsp := hide hsp
  have HB := hide hb
  have HG := hide hg
  clear her hu hbad hgood ho hsp hb hg hq Hs
  go_wp2_with fail
  go_loopw [6, 16] (fun nv iv wz => ∃ j : Nat, j ≤ R.length ∧ iv = .int .i64 j ∧ nv = .int .i64 ((sumS (R.take j) : Nat) : Int) ∧ New w1 wz) (fun _ iv _ => R.length - (intOf iv).toNat)
  case atStart => exact ⟨0, by omega, rfl, by simp [sumS], Upd.refl _ _⟩
  case round =>
    obtain ⟨j, hj, rfl, rfl, hu⟩ := hrel
    have HU := hide hu
    obtain ⟨wo, rfl⟩ : ∃ wo : World, wo = wr := ⟨_, rfl⟩
    by_cases hlt : j < R.length
    · obtain ⟨b, o, s, hA, hbw, hsj, e0, e1⟩ := sps_at (k := j) (Q.out.new_ hu) hlt
      subst hA
      obtain ⟨hs1, hs2⟩ := Hsp.out s (List.mem_of_getElem? hsj)
      have Hsj := hide (sum_take hsj)
      have i3 : (j : Int) < (R.length : Int) := by omega
      have hS9 : sumS (R.take j) ≤ 1000000000000000 := by
        have h1 := sum_le (R.take j) fun t ht => Hsp.out t (List.mem_of_mem_take ht)
        rw [List.length_take] at h1
        omega
      generalize sumS (R.take j) = S at *
      obtain ⟨D, hD, d1, d2, d3, d4⟩ := cnt_facts hs1 hs2 hS9
      have HD := hide hD
      have UA := hide ((Upd.refl (fun _ => False) wo).alloc (.cells #[.int .i64 (s.1 : Int), .int .i64 (s.2 : Int)] TSp))
      have BX := hide (Blk.new wo TSp #[.int .i64 (s.1 : Int), .int .i64 (s.2 : Int)])
      clear hsj hu hD
      go_upto_region 6 with (fail)
      clear e0 e1 hbw
      generalize wo.alloc (.cells #[.int .i64 (s.1 : Int), .int .i64 (s.2 : Int)] TSp) = W at *
      generalize wo.heap.size = X2 at *
      have x0 := BX.out.cell 0
      have x1 := BX.out.cell 1
      have xz := BX.out.lt
      simp only [List.getElem?_toArray, List.getElem?_cons_zero, List.getElem?_cons_succ] at x0 x1
      have N9 := hide (HU.out.trans_new UA.out)
      go_wp2_with fail
      exact ⟨⟨j + 1, by omega, by go_num, by rw [Hsj.out, ← HD.out, Int.natCast_add], N9.out⟩, by simp [intOf]; omega⟩
    · have hjm : j = R.length := by omega
      subst hjm
      have i3 : ¬ (R.length : Int) < (R.length : Int) := by omega
      rw [List.take_length]
      have hS9 : sumS R ≤ 1000000000000000 := by
        have h1 := sum_le R Hsp.out
        omega
      clear hu
      go_wp2_with fail
      go_ret2
      exact ⟨_, _, rfl, Her.out.new HU.out, U.out.trans_new HU.out, hS9, HB.out, HG.out⟩
theorem count_good (A : Option Addr) (n c : Nat) (ps : List Pf) (E : Nat → Addr) (w : World) (h2 : Sen w gBound (E 2)) (h3 : Sen w gShape (E 3)) (hx : Rws w A 2 (ps.map Pf.cells)) (hn : ps.length = n) (hl : n ≤ 100000) (hC : (pfsC ps).1 = 0) :
    Calls Tryd.prog 17 #[.slice A n c] w fun e w1 => ∃ k : Nat, e = .returned (.tuple #[.int .i64 (k : Int), .nilIface]) ∧ New w w1 ∧ Cnt ps k :=
  (count_any A n c ps E w h2 h3 hx hn hl).mono fun _ _ ⟨er, k, he, her, hu, _, _, hg⟩ => by
    obtain rfl := her.nil_of hC
    exact ⟨k, he, hu, hg hC⟩
end Go.Proofs.YtignngpligicjaaDoor

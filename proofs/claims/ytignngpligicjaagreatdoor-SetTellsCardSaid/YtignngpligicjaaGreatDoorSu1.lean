/- The reference's sets: a fault of prefixes; those in a prefix. No condition but those that stand in each theorem. -/
import Derived.Test.YtignngpligicjaaGreatDoorStA
import Derived.Test.YtignngpligicjaaGreatDoorRf0
import Derived.Test.YtignngpligicjaaGreatDoorRq0
import Derived.Deep.RegionWith
import Derived.Test.YtignngpligicjaaGreatDoorHa
import Derived.Test.YtignngpligicjaaGreatDoorCd1
import Derived.Test.YtignngpligicjaaGreatDoorStS
namespace Go.Proofs.YtignngpligicjaaGreatDoor
open Go.RowKit

theorem pfsC_none {ps : List Pf} (h : ∀ j, j < ps.length → pfF ps j = 0) : pfsC ps = (0, -1) := by
  have key : ∀ m k, (∀ i, k ≤ i → i < k + m → pfF ps i = 0) → firstC (pfF ps) m k = (0, -1) := by
    intro m
    induction m with
    | zero => intro k _; rfl
    | succ m ih =>
      intro k h
      unfold firstC
      rw [if_neg (by simp [h k (by omega) (by omega)])]
      exact ih (k + 1) fun i h1 h2 => h i (by omega) (by omega)
  exact key _ 0 fun i _ hi => h i (by omega)

set_option maxRecDepth 8000 in
set_option maxHeartbeats 1000000 in
theorem prefixesFault_any (A : Option Addr) (n c : Nat) (ps : List Pf) (w : World) (hx : Rws w A 2 (ps.map Pf.cells)) (hn : ps.length = n) (hl : n ≤ 1000000) :
    Calls Tryz.prog 73 #[.slice A n c] w fun e w1 => e = .returned (faultV (pfsC ps)) ∧ New w w1 := by
  have u := (Upd.refl (fun _ => False) w).alloc (.cells #[.int .i64 0, .int .i64 0] TRF)
  have b0 := Blk.new w TRF #[.int .i64 0, .int .i64 0]
  have N := hide u
  have HR := hide b0
  have Hx := hide hx
  have Hn := hide hn
  clear u b0 hx hn
  go_enter Tryz.func73, Tryz.ntmps73
  go_upto_region 1 with (fail)
  generalize w.alloc (.cells #[.int .i64 0, .int .i64 0] TRF) = W at *
  go_wp2_with fail
  go_loopw [3] (fun i wr => ∃ k : Nat, k ≤ n ∧ i = .int .i64 k ∧ New W wr ∧ ∀ j, j < k → pfF ps j = 0) (fun i _ => n - (intOf i).toNat)
  case atStart => exact ⟨0, by omega, rfl, Upd.refl _ _, fun j h => absurd h (by omega)⟩
  case round =>
    obtain ⟨k, hk, rfl, hnr, hz⟩ := hrel
    have Hz := hide hz
    have Nr := hide hnr
    have N2 := hide (N.out.trans_new hnr)
    have HR2 := hide (HR.out.new_ hnr)
    clear hz hnr
    by_cases hlt : k < n
    · obtain ⟨b, o, p, hA, hb, hp, p0, p1⟩ := rws_two (Hx.out.new_ N2.out) (k := k) (by rw [Hn.out]; exact hlt)
      subst hA
      have HF := hide (pfF_at hp)
      have i2 : (k : Int) < (n : Int) := by omega
      have Hp := hide (prefixError_any p.a p.n wr)
      clear hp
      go_wp2_with fail
      refine Hp.out.mono ?_
      rintro e w7 ⟨rfl, hu⟩
      have HR7 := hide (HR2.out.new_ hu)
      have N7 := hide (N2.out.trans_new hu)
      have Nr7 := hide (Nr.out.trans_new hu)
      clear hu Hp p0 p1 hb
      have bq := HR7.out
      have r0 := bq.cell 0
      have r1 := bq.cell 1
      have s0 := bq.frozen 0
      have s1 := bq.frozen 1
      have zR := bq.lt
      simp only [List.getElem?_toArray, List.getElem?_cons_zero, List.getElem?_cons_succ] at r0 r1
      clear bq
      by_cases hc : chk p.a p.n = 0
      · have Hc := hide (HF.out.trans hc)
        rw [hc]
        clear hc
        go_wp2_with fail
        refine ⟨⟨k + 1, by omega, by go_num, Nr7.out, fun j hj => ?_⟩, by simp [intOf]; omega⟩
        by_cases hjk : j < k
        · exact Hz.out j hjk
        · obtain rfl : j = k := by omega
          exact Hc.out
      · have k3 : 0 < chk p.a p.n := by omega
        clear hc
        go_wp2_with fail
        refine bodyPost_ret (fault_out Tryz.results73 rfl (fault_set HR7.out)) rfl ⟨?_, new_set2 N7.out (Nat.le_refl _)⟩
        have h1 := firstC_at (pfF ps) n 0 k (by omega) (by omega) (by rw [HF.out]; omega) (fun j _ h => Hz.out j h)
        rw [HF.out] at h1
        unfold pfsC
        rw [Hn.out, h1]
        rfl
    · have hkn : k = n := by omega
      subst hkn
      have i2 : ¬ (k : Int) < (k : Int) := by omega
      have He := hide (pfsC_none (ps := ps) fun j hj => Hz.out j (by rw [Hn.out] at hj; exact hj))
      have Hb := hide (fineF_any wr)
      unfold faultV at Hb
      go_wp2_with fail
      refine Hb.out.mono ?_
      rintro e w7 ⟨rfl, hu⟩
      have HR7 := hide (HR2.out.new_ hu)
      have N7 := hide (N2.out.trans_new hu)
      clear hu
      have bq := HR7.out
      have r0 := bq.cell 0
      have r1 := bq.cell 1
      have s0 := bq.frozen 0
      have s1 := bq.frozen 1
      have zR := bq.lt
      simp only [List.getElem?_toArray, List.getElem?_cons_zero, List.getElem?_cons_succ] at r0 r1
      clear bq
      go_wp2_with fail
      refine bodyPost_ret (fault_out Tryz.results73 rfl (fault_set HR7.out)) rfl ⟨?_, new_set2 N7.out (Nat.le_refl _)⟩
      rw [He.out]
      rfl

/-- Those of right prefixes that are in one; whether one of them has all of it. -/
def insV (ps : List Pf) (p : Pf) : List Pf × Bool := if ps.any (fun q => inB p.a p.n q.a q.n) then ([], true) else (ps.filter (fun q => inB q.a q.n p.a p.n), false)
/-- How far the list is gone through. -/
def InR (ps : List Pf) (p : Pf) (k : Nat) (l : List Pf) : Prop := (∀ q ∈ ps.take k, inB p.a p.n q.a q.n = false) ∧ l = (ps.take k).filter (fun q => inB q.a q.n p.a p.n)
theorem inR_start (ps : List Pf) (p : Pf) : InR ps p 0 [] := ⟨fun q h => absurd h (by simp), rfl⟩
theorem inR_no_ {ps : List Pf} {p q : Pf} {k : Nat} {l : List Pf} (h : InR ps p k l) (hq : ps[k]? = some q) (h1 : inB p.a p.n q.a q.n = false) (h2 : inB q.a q.n p.a p.n = false) : InR ps p (k + 1) l := by
  have e : ps.take (k + 1) = ps.take k ++ [q] := by rw [List.take_add_one, hq]; rfl
  refine ⟨fun x hx => ?_, ?_⟩
  · rw [e, List.mem_append] at hx
    rcases hx with hx | hx
    · exact h.1 x hx
    · simp at hx; subst hx; exact h1
  · rw [e, List.filter_append, ← h.2]
    simp [h2]
theorem inR_yes_ {ps : List Pf} {p q : Pf} {k : Nat} {l : List Pf} (h : InR ps p k l) (hq : ps[k]? = some q) (h1 : inB p.a p.n q.a q.n = false) (h2 : inB q.a q.n p.a p.n = true) : InR ps p (k + 1) (l ++ [q]) := by
  have e : ps.take (k + 1) = ps.take k ++ [q] := by rw [List.take_add_one, hq]; rfl
  refine ⟨fun x hx => ?_, ?_⟩
  · rw [e, List.mem_append] at hx
    rcases hx with hx | hx
    · exact h.1 x hx
    · simp at hx; subst hx; exact h1
  · rw [e, List.filter_append, ← h.2]
    simp [h2]
theorem insV_all {ps : List Pf} {p q : Pf} {k : Nat} (hq : ps[k]? = some q) (h : inB p.a p.n q.a q.n = true) : insV ps p = ([], true) := if_pos (List.any_eq_true.2 ⟨q, List.mem_of_getElem? hq, h⟩)
theorem insV_end {ps : List Pf} {p : Pf} {l : List Pf} (h : InR ps p ps.length l) : insV ps p = (l, false) := by
  obtain ⟨h1, h2⟩ := h
  rw [List.take_length] at h1 h2
  have : ¬ ps.any (fun q => inB p.a p.n q.a q.n) = true := fun hx => by
    obtain ⟨q, hq, h3⟩ := List.any_eq_true.1 hx
    rw [h1 q hq] at h3
    cases h3
  unfold insV
  rw [if_neg this, h2]
theorem inR_len {ps : List Pf} {p : Pf} {k : Nat} {l : List Pf} (h : InR ps p k l) : l.length ≤ k := by
  rw [h.2]
  have h1 := List.length_filter_le (fun q : Pf => inB q.a q.n p.a p.n) (ps.take k)
  rw [List.length_take] at h1
  omega
end Go.Proofs.YtignngpligicjaaGreatDoor

namespace Go.Proofs.YtignngpligicjaaGreatDoor
open Go.RowKit

theorem flat_pf_append2 (ps qs : List Pf) : flat ((ps ++ qs).map Pf.cells) = flat (ps.map Pf.cells) ++ flat (qs.map Pf.cells) := by rw [List.map_append, flat_append]

set_option maxRecDepth 8000 in
set_option maxHeartbeats 2000000 in
theorem inside_any (A : Option Addr) (n c : Nat) (ps : List Pf) (p : Pf) (w : World) (hx : Rws w A 2 (ps.map Pf.cells)) (hn : ps.length = n) (hl : n ≤ 1000000) :
    Calls Tryz.prog 113 #[.slice A n c, .agg #[.int .i64 p.a, .int .i64 p.n]] w fun e w1 => ∃ v, e = .returned (.tuple #[v, .bool (insV ps p).2]) ∧ OwnP w1 w.heap.size v (insV ps p).1 ∧ New w w1 := by
  obtain ⟨i0, hi0, hz0, hz1, hz2⟩ := info_parts info_TPf
  have Hi0 := hide hi0
  have Hz := hide (And.intro hz0 (And.intro hz1 hz2))
  have u := (Upd.refl (fun _ => False) w).alloc (.cells #[.int .i64 p.a, .int .i64 p.n] TPf)
  have b0 := Blk.new w TPf #[.int .i64 p.a, .int .i64 p.n]
  have hsz : w.heap.size ≤ (w.alloc (.cells #[.int .i64 p.a, .int .i64 p.n] TPf)).heap.size := u.size
  have N := hide u
  have HB := hide b0
  have Hx := hide hx
  have Hn := hide hn
  clear u b0 hx hn hi0 hz0 hz1 hz2
  go_enter Tryz.func113, Tryz.ntmps113
  go_upto_region 1 with (fail)
  generalize w.alloc (.cells #[.int .i64 p.a, .int .i64 p.n] TPf) = W at *
  generalize hX : w.heap.size = X at *
  have HX := hide hX
  clear hX
  go_wp2_with fail
  go_loopw [6, 7] (fun ov iv wz => ∃ (k : Nat) (l : List Pf), k ≤ n ∧ iv = .int .i64 k ∧ New W wz ∧ OwnP wz W.heap.size ov l ∧ InR ps p k l) (fun _ iv _ => n - (intOf iv).toNat)
  case atStart => exact ⟨0, [], by omega, rfl, Upd.refl _ _, World.ownsRow_nil _ _ _ _, inR_start _ _⟩
  case round =>
    obtain ⟨k, l, hk, rfl, hu, ho, hr⟩ := hrel
    have HU := hide hu
    have HO := hide ho
    have HR := hide hr
    have hll := inR_len hr
    clear hu ho hr
    obtain ⟨wo, rfl⟩ : ∃ wo : World, wo = wr := ⟨_, rfl⟩
    obtain ⟨lo, hlo⟩ : ∃ lo : Value, lo = u6 := ⟨_, rfl⟩
    rw [← hlo] at HO ⊢
    clear hlo
    by_cases hlt : k < n
    · obtain ⟨b, o, q, hA, hb, hq, q0, q1⟩ := rws_two (Hx.out.new_ (N.out.trans_new HU.out)) (k := k) (by rw [Hn.out]; exact hlt)
      subst hA
      have Hq := hide hq
      have i2 : (k : Int) < (n : Int) := by omega
      have HB2 := hide (HB.out.new_ HU.out)
      have bq := HB2.out
      have x0 := bq.cell 0
      have x1 := bq.cell 1
      have xz := bq.lt
      simp only [List.getElem?_toArray, List.getElem?_cons_zero, List.getElem?_cons_succ] at x0 x1
      clear bq hq
      have h1 := fun w' => isIn_any p.a p.n q.a q.n w'
      have h2 := fun w' => isIn_any q.a q.n p.a p.n w'
      cases hc1 : inB p.a p.n q.a q.n with
      | true =>
        rw [hc1] at h1
        have H1 := hide h1
        have He := hide (insV_all Hq.out hc1)
        clear h1 h2 hc1
        go_upto_region 5 with (fail)
        refine wp_region_new wo (Upd.refl _ _) (by kernel_rfl) (by kernel_rfl) ?_
        repeat (go_big_quiet_step ((go_at_call 21; exact new_call (H1.out _))))
        refine wpQuiet_nil ?_
        rintro _ ⟨nq, rfl⟩
        obtain ⟨wq, hu⟩ := nq
        dsimp only
        have U9 := hide ((N.out.trans_new HU.out).trans_new hu)
        clear hu q0 q1 x0 x1
        go_wp2_with fail
        go_ret2
        exact ⟨.slice none 0 0, by rw [He.out]; rfl, by rw [He.out]; exact World.ownsRow_nil _ _ _ _, U9.out⟩
      | false =>
        rw [hc1] at h1
        have H1 := hide h1
        go_upto_region 5 with (fail)
        refine wp_region_new wo (Upd.refl _ _) (by kernel_rfl) (by kernel_rfl) ?_
        repeat (go_big_quiet_step ((go_at_call 21; exact new_call (H1.out _))))
        refine wpQuiet_nil ?_
        rintro _ ⟨nq, rfl⟩
        obtain ⟨wp, hu⟩ := nq
        dsimp only
        clear h1 H1 q0 q1 x0 x1 hb xz
        have HU := hide (HU.out.trans_new hu)
        have HB2 := hide (HB2.out.new_ hu)
        have HO := hide (HO.out.new_ hu)
        clear hu
        have bq := HB2.out
        have x0 := bq.cell 0
        have x1 := bq.cell 1
        have xz := bq.lt
        simp only [List.getElem?_toArray, List.getElem?_cons_zero, List.getElem?_cons_succ] at x0 x1
        clear bq
        obtain ⟨b2, o2, q2, hA, hb, hq2, q0, q1⟩ := rws_two (Hx.out.new_ (N.out.trans_new HU.out)) (k := k) (by rw [Hn.out]; exact hlt)
        injection hA with hA
        injection hA with hA1 hA2
        subst hA1
        subst hA2
        obtain rfl : q2 = q := Option.some.inj (hq2.symm.trans Hq.out)
        cases hc2 : inB q2.a q2.n p.a p.n with
        | false =>
          rw [hc2] at h2
          have H2 := hide h2
          have HR := hide (inR_no_ HR.out Hq.out hc1 hc2)
          clear h2 hc1 hc2 hq2
          go_upto_region 8 with (fail)
          refine wp_region_new wp (Upd.refl _ _) (by kernel_rfl) (by kernel_rfl) ?_
          repeat (go_big_quiet_step ((go_at_call 21; exact new_call (H2.out _))))
          refine wpQuiet_nil ?_
          rintro _ ⟨nq, rfl⟩
          obtain ⟨wq, hu⟩ := nq
          dsimp only
          have HU := hide (HU.out.trans_new hu)
          have HO := hide (HO.out.new_ hu)
          clear hu q0 q1 x0 x1
          go_wp2_with fail
          exact ⟨⟨k + 1, l, by omega, by go_num, HU.out, HO.out, HR.out⟩, by simp [intOf]; omega⟩
        | true =>
          rw [hc2] at h2
          have H2 := hide h2
          have HR := hide (inR_yes_ HR.out Hq.out hc1 hc2)
          clear h2 hc1 hc2 hq2
          go_upto_region 8 with (fail)
          refine wp_region_new wp (Upd.refl _ _) (by kernel_rfl) (by kernel_rfl) ?_
          repeat (go_big_quiet_step ((go_at_call 21; exact new_call (H2.out _))))
          refine wpQuiet_nil ?_
          rintro _ ⟨nq, rfl⟩
          obtain ⟨wq, hu⟩ := nq
          dsimp only
          have HU := hide (HU.out.trans_new hu)
          have HO := hide (HO.out.new_ hu)
          clear hu q0 q1 x0 x1 hb xz
          obtain ⟨b3, o3, q3, hA, hb, hq3, q0, q1⟩ := rws_two (Hx.out.new_ (N.out.trans_new HU.out)) (k := k) (by rw [Hn.out]; exact hlt)
          injection hA with hA
          injection hA with hA1 hA2
          subst hA1
          subst hA2
          obtain rfl : q3 = q2 := Option.some.inj (hq3.symm.trans Hq.out)
          clear hq3
          have hws := HU.out.size
          go_wp2_with (at_builtin; refine append_src rfl (.tmp 30) (.tmp 35) 46 rfl W.heap.size TPf i0 _ 2 16 Tryz.underlying46 Hi0.out Hz.out.1 Hz.out.2.1 Hz.out.2.2 rfl (by omega) lo _ _ rfl (HO.out.alloc _) (some ⟨wq.heap.size, 0, none⟩) 1 1 [.int .i64 q3.a, .int .i64 q3.n] rfl rfl (fun _ => ⟨_, _, rfl, rowc rfl⟩) (by simp [Value.oneCell']) (by unfold maxLen; omega) (by omega) (by simp; omega) ?_)
          intro v' w' ho hg
          have hu9 : Upd (fun z => lo.ownBlock = some z) wq w' := ((Upd.refl _ wq).alloc _).trans' (grown_upd hg fun g h => h)
          have HU := hide (HU.out.trans hu9 fun z hz hx => by have := (row_ge HO.out hx).1; omega)
          have HO9 := hide (show OwnP w' W.heap.size v' (l ++ [q3]) by
            unfold OwnP
            rw [flat_pf_append2, List.length_append]
            exact ho)
          clear ho hg hu9
          go_wp2_with fail
          exact ⟨⟨k + 1, l ++ [q3], by omega, by go_num, HU.out, HO9.out, HR.out⟩, by simp [intOf]; omega⟩
    · have hkn : k = n := by omega
      subst hkn
      have i2 : ¬ (k : Int) < (k : Int) := by omega
      have hr := HR.out
      rw [← Hn.out] at hr
      have He := hide (insV_end hr)
      clear hr
      go_wp2_with fail
      go_ret2
      exact ⟨lo, by rw [He.out]; rfl, by rw [He.out]; exact HO.out.lower (by rw [HX.out]; exact hsz), N.out.trans_new HU.out⟩
end Go.Proofs.YtignngpligicjaaGreatDoor

namespace Go.Proofs.YtignngpligicjaaGreatDoor
open Go.RowKit

theorem inB_blk {p q : Pf} (hp : p.ok) (hq : q.ok) : inB p.a p.n q.a q.n = blkIn p.b q.b := by
  rw [hq.rp.inB hp.rp]
  unfold blkIn Pf.b
  rw [Bool.eq_iff_iff, Bool.and_eq_true, decide_eq_true_iff, decide_eq_true_iff, decide_eq_true_iff]
theorem insV_b {ps : List Pf} {p : Pf} (h : ∀ q ∈ ps, q.ok) (hp : p.ok) : (insV ps p).1.map Pf.b = (insd (ps.map Pf.b) p.b).1 ∧ (insV ps p).2 = (insd (ps.map Pf.b) p.b).2 := by
  have e : ps.any (fun q => inB p.a p.n q.a q.n) = (ps.map Pf.b).any (blkIn p.b ·) := by
    rw [List.any_map]
    refine Bool.eq_iff_iff.2 ?_
    rw [List.any_eq_true, List.any_eq_true]
    exact ⟨fun ⟨q, hq, h1⟩ => ⟨q, hq, by rw [inB_blk hp (h q hq)] at h1; exact h1⟩, fun ⟨q, hq, h1⟩ => ⟨q, hq, by rw [inB_blk hp (h q hq)]; exact h1⟩⟩
  have f : (ps.filter (fun q => inB q.a q.n p.a p.n)).map Pf.b = (ps.map Pf.b).filter (blkIn · p.b) := by
    rw [List.filter_map]
    congr 1
    exact List.filter_congr fun q hq => inB_blk (h q hq) hp
  unfold insV insd
  rw [e]
  by_cases hc : (ps.map Pf.b).any (blkIn p.b ·) = true
  · rw [if_pos hc, if_pos hc]
    exact ⟨rfl, rfl⟩
  · rw [if_neg hc, if_neg hc]
    exact ⟨f, rfl⟩
/-- What of a list is kept for a prefix. -/
def keepV (ps : List Pf) (p : Pf) : List Pf := if (insV ps p).2 then [p] else (insV ps p).1
theorem keepV_b {ps : List Pf} {p : Pf} (h : ∀ q ∈ ps, q.ok) (hp : p.ok) : (keepV ps p).map Pf.b = keep (ps.map Pf.b) p.b := by
  obtain ⟨h1, h2⟩ := insV_b h hp
  unfold keepV keep
  rw [h2]
  by_cases hc : (insd (ps.map Pf.b) p.b).2 = true
  · rw [if_pos hc, if_pos hc]; rfl
  · rw [if_neg hc, if_neg hc, h1]
theorem insV_sub {ps : List Pf} {p q : Pf} (h : q ∈ (insV ps p).1) : q ∈ ps := by
  unfold insV at h
  split at h
  · exact absurd h (by simp)
  · exact (List.mem_filter.1 h).1
theorem insV_len (ps : List Pf) (p : Pf) : (insV ps p).1.length ≤ ps.length := by
  unfold insV
  split
  · simp
  · exact List.length_filter_le _ _
theorem keepV_ok {ps : List Pf} {p : Pf} (h : ∀ q ∈ ps, q.ok) (hp : p.ok) : ∀ q ∈ keepV ps p, q.ok := by
  intro q hq
  unfold keepV at hq
  split at hq
  · simp at hq; subst hq; exact hp
  · exact h q (insV_sub hq)
theorem keepV_len {ps : List Pf} {p : Pf} {m : Nat} (h : ps.length ≤ m) (h1 : 1 ≤ m) : (keepV ps p).length ≤ m := by
  unfold keepV
  split
  · simpa using h1
  · exact Nat.le_trans (insV_len ps p) h
/-- Whether a list has all or nothing of a prefix. -/
def fullV (ps : List Pf) (p : Pf) : Bool := (insV ps p).2 || (insV ps p).1.isEmpty
theorem fullV_b {ps : List Pf} {p : Pf} (h : ∀ q ∈ ps, q.ok) (hp : p.ok) : fullV ps p = full (ps.map Pf.b) p.b := by
  obtain ⟨h1, h2⟩ := insV_b h hp
  unfold fullV full
  rw [h2, ← h1]
  cases (insV ps p).1 <;> rfl
theorem fullV_yes {ps : List Pf} {p : Pf} (h : fullV ps p = true) : (insV ps p).2 = true ∨ ((insV ps p).2 = false ∧ (insV ps p).1 = []) := by
  unfold fullV at h
  cases h1 : (insV ps p).2 with
  | true => exact .inl rfl
  | false =>
    rw [h1] at h
    exact .inr ⟨rfl, List.isEmpty_iff.1 h⟩
theorem fullV_no {ps : List Pf} {p : Pf} (h : fullV ps p = false) : (insV ps p).2 = false ∧ (insV ps p).1 ≠ [] := by
  unfold fullV at h
  rw [Bool.or_eq_false_iff] at h
  exact ⟨h.1, fun e => by rw [e] at h; simp at h⟩
theorem bld_full {w : Bool → Bool → Bool} {k A : Nat} {a b : List (Nat × Nat)} (ha : full a (A, k) = true) (hb : full b (A, k) = true) : bld w k A a b = if w (insd a (A, k)).2 (insd b (A, k)).2 then ([(A, k)], true) else ([], false) := by
  cases k with
  | zero => rfl
  | succ k => unfold bld; rw [ha, hb]; rfl
theorem bld_part_ {w : Bool → Bool → Bool} {k A : Nat} {a b : List (Nat × Nat)} (h : (full a (A, k + 1) && full b (A, k + 1)) = false) :
    bld w (k + 1) A a b = if (bld w k A (keep a (A, k + 1)) (keep b (A, k + 1))).2 && (bld w k (A + 2 ^ k) (keep a (A, k + 1)) (keep b (A, k + 1))).2 then ([(A, k + 1)], true) else ((bld w k A (keep a (A, k + 1)) (keep b (A, k + 1))).1 ++ (bld w k (A + 2 ^ k) (keep a (A, k + 1)) (keep b (A, k + 1))).1, false) := by
  conv => lhs; unfold bld
  rw [h]
  rfl
theorem bld_len (w : Bool → Bool → Bool) : ∀ (k A : Nat) (a b : List (Nat × Nat)), (bld w k A a b).1.length ≤ 2 ^ k
  | 0, A, a, b => by
    unfold bld
    split <;> simp
  | k + 1, A, a, b => by
    unfold bld
    have h1 := bld_len w k A (keep a (A, k + 1)) (keep b (A, k + 1))
    have h2 := bld_len w k (A + 2 ^ k) (keep a (A, k + 1)) (keep b (A, k + 1))
    have h3 := p2_pos (k + 1)
    split
    · split
      · exact h3
      · exact Nat.zero_le _
    · simp only
      split
      · exact h3
      · rw [List.length_append, p2_succ]; omega
/-- A prefix's halves. -/
theorem halves_of {p : Pf} (hp : p.ok) {j : Nat} (hj : p.b.2 = j + 1) : p.n < 32 ∧ (p.n + 1).toNat = p.n.toNat + 1 ∧ 2 ^ (32 - (p.n + 1).toNat) = 2 ^ j ∧ Pf.ok ⟨p.a, p.n + 1⟩ ∧ Pf.b ⟨p.a, p.n + 1⟩ = (p.b.1, j) ∧ Pf.ok ⟨p.a + ((2 ^ j : Nat) : Int), p.n + 1⟩ ∧ Pf.b ⟨p.a + ((2 ^ j : Nat) : Int), p.n + 1⟩ = (p.b.1 + 2 ^ j, j) := by
  obtain ⟨h1, h2, _⟩ := chk_zero hp
  have hb : 32 - p.n.toNat = j + 1 := hj
  have hn : p.n < 32 := by omega
  have e : 31 - p.n.toNat = j := by omega
  obtain ⟨c1, c2⟩ := ih_chk hp hn
  rw [e] at c2
  have e2 : 32 - (p.n + 1).toNat = j := by omega
  refine ⟨hn, by omega, by rw [e2], c1, ?_, c2, ?_⟩
  · unfold Pf.b
    simp only [e2]
  · unfold Pf.b
    simp only [e2]
    have e3 : (p.a + ((2 ^ j : Nat) : Int)).toNat = p.a.toNat + 2 ^ j := by
      generalize 2 ^ j = z
      omega
    rw [e3]
end Go.Proofs.YtignngpligicjaaGreatDoor

namespace Go.Proofs.YtignngpligicjaaGreatDoor
open Go.RowKit

theorem wanted1_any (x y : Bool) (w : World) : Calls Tryz.prog 114 #[.bool x, .bool y, .int .i64 1] w fun e w1 => e = .returned (.bool (x && y)) ∧ w = w1 := by
  cases x <;> cases y <;>
  · go_enter Tryz.func114, Tryz.ntmps114
    go_wp2_with fail
    go_ret
    exact ⟨rfl, rfl⟩
theorem wanted2_any (x y : Bool) (w : World) : Calls Tryz.prog 114 #[.bool x, .bool y, .int .i64 2] w fun e w1 => e = .returned (.bool (x || y)) ∧ w = w1 := by
  cases x <;> cases y <;>
  · go_enter Tryz.func114, Tryz.ntmps114
    go_wp2_with fail
    go_ret
    exact ⟨rfl, rfl⟩
theorem wanted3_any (x y : Bool) (w : World) : Calls Tryz.prog 114 #[.bool x, .bool y, .int .i64 3] w fun e w1 => e = .returned (.bool (x && !y)) ∧ w = w1 := by
  cases x <;> cases y <;>
  · go_enter Tryz.func114, Tryz.ntmps114
    go_wp2_with fail
    go_ret
    exact ⟨rfl, rfl⟩

/-- What build gives within a prefix of this size. -/
def BuildOk (wh : Int) (W : Bool → Bool → Bool) (k : Nat) : Prop := ∀ (p : Pf) (A1 A2 : Option Addr) (n1 c1 n2 c2 : Nat) (a b : List Pf) (w : World), p.ok → p.b.2 = k → (∀ q ∈ a, q.ok) → (∀ q ∈ b, q.ok) →
  Rws w A1 2 (a.map Pf.cells) → a.length = n1 → Rws w A2 2 (b.map Pf.cells) → b.length = n2 → n1 ≤ 1000 → n2 ≤ 1000 →
  Calls Tryz.prog 74 #[.agg #[.int .i64 p.a, .int .i64 p.n], .slice A1 n1 c1, .slice A2 n2 c2, .int .i64 wh] w fun e w1 =>
    ∃ v, e = .returned (.tuple #[v, .bool (bld W k p.b.1 (a.map Pf.b) (b.map Pf.b)).2]) ∧ OwnP w1 w.heap.size v ((bld W k p.b.1 (a.map Pf.b) (b.map Pf.b)).1.map pfOf) ∧ New w w1
theorem ownP_one (w : World) (base : Nat) (p : Pf) (hb : base ≤ w.heap.size) : OwnP (w.alloc (.cells #[.int .i64 p.a, .int .i64 p.n] TPf)) base (.slice (some ⟨w.heap.size, 0, none⟩) 1 1) [p] :=
  ⟨rfl, .inr ⟨w.heap.size, 1, #[.int .i64 p.a, .int .i64 p.n], rfl, hb, Blk.new w TPf #[.int .i64 p.a, .int .i64 p.n], Nat.le_refl _, by unfold maxLen; omega, rfl, rfl⟩⟩
theorem rws_one (w : World) (p : Pf) : Rws (w.alloc (.cells #[.int .i64 p.a, .int .i64 p.n] TPf)) (some ⟨w.heap.size, 0, none⟩) 2 ([p].map Pf.cells) := by
  obtain ⟨A, cap, h1, _, h2, _⟩ := (ownP_one w 0 p (by omega)).rws
  injection h1 with h1 _ _
  rw [h1]
  exact h2
theorem full_key (ps : List Pf) (p : Pf) {o : Bool} {X : List Pf} (ho : o = (insV ps p).2) (hX : X = (insV ps p).1) :
    (o = true ∧ fullV ps p = true) ∨ (o = false ∧ ((X.length : Int) == 0) = true ∧ fullV ps p = true) ∨ (o = false ∧ ((X.length : Int) == 0) = false ∧ fullV ps p = false) := by
  subst ho
  subst hX
  unfold fullV
  cases (insV ps p).2 with
  | true => exact .inl ⟨rfl, rfl⟩
  | false =>
    cases (insV ps p).1 with
    | nil => exact .inr (.inl ⟨rfl, rfl, rfl⟩)
    | cons q l =>
      refine .inr (.inr ⟨rfl, ?_, rfl⟩)
      rw [beq_eq_false_iff_ne, List.length_cons]
      omega
theorem add1_facts {n : Int} (h : 0 ≤ n) (h1 : n < 32) : IntKind.i64.wrap (n + 1) = n + 1 ∧ wrap64 (n + 1) = n + 1 := by
  constructor
  · rw [IntWalk.i64_in _ (by omega)]
  · rw [IntWalk.wrap64_in _ ⟨by omega, by omega⟩]
theorem addZ_facts {a Z : Int} (h : 0 ≤ a) (h1 : a < 4294967296) (hz : 0 ≤ Z) (hz1 : Z ≤ 4294967296) : IntKind.i64.wrap (a + Z) = a + Z ∧ wrap64 (a + Z) = a + Z := by
  constructor
  · rw [IntWalk.i64_in _ (by omega)]
  · rw [IntWalk.wrap64_in _ ⟨by omega, by omega⟩]

set_option maxRecDepth 20000 in
set_option maxHeartbeats 4000000 in
theorem build_step (wh : Int) (W : Bool → Bool → Bool) (hw : ∀ x y w, Calls Tryz.prog 114 #[.bool x, .bool y, .int .i64 wh] w fun e w1 => e = .returned (.bool (W x y)) ∧ w = w1) (k : Nat) (ih : ∀ j, k = j + 1 → BuildOk wh W j) : BuildOk wh W k := by
  intro p A1 A2 n1 c1 n2 c2 a b w hp hk oka okb ra hn1 rb hn2 hl1 hl2
  have u := (Upd.refl (fun _ => False) w).alloc (.cells #[.int .i64 p.a, .int .i64 p.n] TPf)
  have hsz : w.heap.size ≤ (w.alloc (.cells #[.int .i64 p.a, .int .i64 p.n] TPf)).heap.size := u.size
  have N := hide u
  have HB := hide (Blk.new w TPf #[.int .i64 p.a, .int .i64 p.n])
  have Ra := hide (ra.new_ u)
  have Rb := hide (rb.new_ u)
  have Hn1 := hide hn1
  have Hn2 := hide hn2
  have Hp := hide hp
  have Hk := hide hk
  have Ha := hide oka
  have Hb := hide okb
  have Hw := hide hw
  have Ih := hide ih
  clear u hp hk oka okb ra hn1 rb hn2 hw ih
  go_enter Tryz.func74, Tryz.ntmps74
  go_upto_region 1 with (fail)
  generalize w.alloc (.cells #[.int .i64 p.a, .int .i64 p.n] TPf) = W1 at *
  generalize hX : w.heap.size = X at *
  have HX := hide hX
  clear hX
  have bq := HB.out
  have x0 := bq.cell 0
  have x1 := bq.cell 1
  have xz := bq.lt
  simp only [List.getElem?_toArray, List.getElem?_cons_zero, List.getElem?_cons_succ] at x0 x1
  clear bq
  go_wp2_with fail
  refine (inside_any A1 n1 c1 a p W1 Ra.out Hn1.out (by omega)).mono ?_
  rintro e w1 ⟨v1, rfl, ho1, hu⟩
  obtain ⟨Ax, cx, rfl, _, rx, _⟩ := ho1.rws
  have Rx := hide rx
  have U := hide hu
  have HB := hide (HB.out.new_ hu)
  have Rb := hide (Rb.out.new_ hu)
  clear ho1 rx hu x0 x1 xz
  have bq := HB.out
  have x0 := bq.cell 0
  have x1 := bq.cell 1
  have xz := bq.lt
  simp only [List.getElem?_toArray, List.getElem?_cons_zero, List.getElem?_cons_succ] at x0 x1
  clear bq
  obtain ⟨o1, ho1⟩ : ∃ o, o = (insV a p).2 := ⟨_, rfl⟩
  obtain ⟨X1, hX1⟩ : ∃ l, l = (insV a p).1 := ⟨_, rfl⟩
  have hxl := insV_len a p
  rw [← hX1, Hn1.out] at hxl
  rw [← ho1, ← hX1]
  rw [← hX1] at Rx
  have Ho1 := hide ho1
  have HX1 := hide hX1
  clear ho1 hX1
  go_wp2_with fail
  refine (inside_any A2 n2 c2 b p w1 Rb.out Hn2.out (by omega)).mono ?_
  rintro e w2 ⟨v2, rfl, ho2, hu⟩
  obtain ⟨Ay, cy, rfl, _, ry, _⟩ := ho2.rws
  have Ry := hide ry
  have U := hide (U.out.trans_new hu)
  have HB := hide (HB.out.new_ hu)
  have Rx := hide (Rx.out.new_ hu)
  clear ho2 ry hu x0 x1 xz
  obtain ⟨o2, ho2⟩ : ∃ o, o = (insV b p).2 := ⟨_, rfl⟩
  obtain ⟨X2, hX2⟩ : ∃ l, l = (insV b p).1 := ⟨_, rfl⟩
  have hyl := insV_len b p
  rw [← hX2, Hn2.out] at hyl
  rw [← ho2, ← hX2]
  rw [← hX2] at Ry
  have Ho2 := hide ho2
  have HX2 := hide hX2
  clear ho2 hX2
  go_upto_region 3 with (fail)
  go_cut [46] (fun v46_ wc => v46_ = .bool (fullV a p && fullV b p) ∧ w2 = wc)
  case first =>
    rcases full_key a p Ho1.out HX1.out with ⟨rfl, f1⟩ | ⟨rfl, j1, f1⟩ | ⟨rfl, j1, f1⟩ <;> rcases full_key b p Ho2.out HX2.out with ⟨rfl, f2⟩ | ⟨rfl, j2, f2⟩ | ⟨rfl, j2, f2⟩
    all_goals
      go_wp2_with fail
      go_meet
      exact ⟨by rw [f1, f2]; rfl, rfl⟩
  case rest =>
    obtain ⟨rfl, rfl⟩ := hcut
    cases hff : fullV a p && fullV b p with
    | true =>
      rw [Bool.and_eq_true] at hff
      have he : bld W k p.b.1 (a.map Pf.b) (b.map Pf.b) = if W o1 o2 then ([(p.b.1, k)], true) else ([], false) := by
        have e1 := hff.1
        have e2 := hff.2
        rw [fullV_b Ha.out Hp.out] at e1
        rw [fullV_b Hb.out Hp.out] at e2
        have ep : p.b = (p.b.1, k) := by rw [← Hk.out]
        rw [ep] at e1 e2
        rw [bld_full e1 e2, Ho1.out, Ho2.out, (insV_b Ha.out Hp.out).2, (insV_b Hb.out Hp.out).2, ← ep]
      have He := hide he
      have hpf : pfOf (p.b.1, k) = p := by rw [← Hk.out]; exact pfOf_b Hp.out
      have Hpf := hide hpf
      clear he hff hpf
      go_wp2_with fail
      refine (Hw.out o1 o2 _).mono ?_
      rintro e w3 ⟨rfl, rfl⟩
      have bq := HB.out
      have x0 := bq.cell 0
      have x1 := bq.cell 1
      have xz := bq.lt
      simp only [List.getElem?_toArray, List.getElem?_cons_zero, List.getElem?_cons_succ] at x0 x1
      clear bq
      cases hW : W o1 o2 with
      | true =>
        rw [hW] at He
        clear hW
        go_wp2_with fail
        go_ret2
        refine ⟨.slice (some ⟨w2.heap.size, 0, none⟩) 1 1, by rw [He.out]; rfl, ?_, (N.out.trans_new U.out).trans_new ((Upd.refl _ w2).alloc _)⟩
        rw [He.out]
        show OwnP _ _ _ [pfOf (p.b.1, k)]
        rw [Hpf.out]
        exact ownP_one w2 _ p (N.out.trans_new U.out).size
      | false =>
        rw [hW] at He
        clear hW
        go_wp2_with fail
        go_ret2
        exact ⟨.slice none 0 0, by rw [He.out]; rfl, by rw [He.out]; exact World.ownsRow_nil _ _ _ _, N.out.trans_new U.out⟩
    | false =>
      obtain ⟨j, hj⟩ : ∃ j, k = j + 1 := by
        cases k with
        | zero =>
          exfalso
          have ep : p.b = (p.b.1, 0) := by rw [← Hk.out]
          rw [fullV_b Ha.out Hp.out, fullV_b Hb.out Hp.out, ep, full_zero (vals_ok Ha.out), full_zero (vals_ok Hb.out)] at hff
          cases hff
        | succ j => exact ⟨j, rfl⟩
      subst hj
      have he : bld W (j + 1) p.b.1 (a.map Pf.b) (b.map Pf.b) = if (bld W j p.b.1 ((keepV a p).map Pf.b) ((keepV b p).map Pf.b)).2 && (bld W j (p.b.1 + 2 ^ j) ((keepV a p).map Pf.b) ((keepV b p).map Pf.b)).2 then ([(p.b.1, j + 1)], true) else ((bld W j p.b.1 ((keepV a p).map Pf.b) ((keepV b p).map Pf.b)).1 ++ (bld W j (p.b.1 + 2 ^ j) ((keepV a p).map Pf.b) ((keepV b p).map Pf.b)).1, false) := by
        have ep : p.b = (p.b.1, j + 1) := by rw [← Hk.out]
        rw [fullV_b Ha.out Hp.out, fullV_b Hb.out Hp.out, ep] at hff
        rw [keepV_b Ha.out Hp.out, keepV_b Hb.out Hp.out, ep]
        exact bld_part_ hff
      have He := hide he
      have hpf : pfOf (p.b.1, j + 1) = p := by rw [← Hk.out]; exact pfOf_b Hp.out
      have Hpf := hide hpf
      clear he hff hpf
      have bq := HB.out
      have x0 := bq.cell 0
      have x1 := bq.cell 1
      have xz := bq.lt
      simp only [List.getElem?_toArray, List.getElem?_cons_zero, List.getElem?_cons_succ] at x0 x1
      clear bq
      go_upto_if 54 with (fail)
      go_cut [10] (fun v10_ wc => ∃ A c, v10_ = .slice A (keepV a p).length c ∧ Rws wc A 2 ((keepV a p).map Pf.cells) ∧ New w2 wc)
      case first =>
        have Hs := Ho1.out
        cases o1 with
        | true =>
          have e : keepV a p = [p] := by unfold keepV; rw [← Hs]; rfl
          clear Hs
          go_wp2_with fail
          go_meet
          exact ⟨_, 1, by rw [e]; rfl, by rw [e]; exact rws_one w2 p, (Upd.refl _ w2).alloc _⟩
        | false =>
          have e : keepV a p = X1 := by unfold keepV; rw [← Hs, HX1.out]; rfl
          clear Hs
          go_wp2_with fail
          go_meet
          exact ⟨Ax, cx, by rw [e], by rw [e]; exact Rx.out, Upd.refl _ _⟩
      case rest =>
        obtain ⟨Aa, ca, rfl, ra, hu⟩ := hcut
        have RA := hide ra
        have U := hide (U.out.trans_new hu)
        have HB := hide (HB.out.new_ hu)
        have Ry := hide (Ry.out.new_ hu)
        clear ra hu x0 x1 xz
        generalize wc = w3 at *
        have bq := HB.out
        have x0 := bq.cell 0
        have x1 := bq.cell 1
        have xz := bq.lt
        simp only [List.getElem?_toArray, List.getElem?_cons_zero, List.getElem?_cons_succ] at x0 x1
        clear bq
        go_upto_if 57 with (fail)
        go_cut [12] (fun v12_ wc => ∃ A c, v12_ = .slice A (keepV b p).length c ∧ Rws wc A 2 ((keepV b p).map Pf.cells) ∧ New w3 wc)
        case first =>
          have Hs := Ho2.out
          cases o2 with
          | true =>
            have e : keepV b p = [p] := by unfold keepV; rw [← Hs]; rfl
            clear Hs
            go_wp2_with fail
            go_meet
            exact ⟨_, 1, by rw [e]; rfl, by rw [e]; exact rws_one w3 p, (Upd.refl _ w3).alloc _⟩
          | false =>
            have e : keepV b p = X2 := by unfold keepV; rw [← Hs, HX2.out]; rfl
            clear Hs
            go_wp2_with fail
            go_meet
            exact ⟨Ay, cy, by rw [e], by rw [e]; exact Ry.out, Upd.refl _ _⟩
        case rest =>
          obtain ⟨Ab, cb, rfl, rb, hu⟩ := hcut
          have RB := hide rb
          have U := hide (U.out.trans_new hu)
          have HB := hide (HB.out.new_ hu)
          have RA := hide (RA.out.new_ hu)
          clear rb hu x0 x1 xz
          generalize wc = w4 at *
          have Oka := hide (keepV_ok Ha.out Hp.out)
          have Okb := hide (keepV_ok Hb.out Hp.out)
          have hla : (keepV a p).length ≤ 1000 := keepV_len (by rw [Hn1.out]; exact hl1) (by omega)
          have hlb : (keepV b p).length ≤ 1000 := keepV_len (by rw [Hn2.out]; exact hl2) (by omega)
          clear Ha Hb Ho1 Ho2 HX1 HX2 Rx Ry Ra Rb Hn1 Hn2 hxl hyl Hw
          generalize keepV a p = KA at *
          generalize keepV b p = KB at *
          obtain ⟨hn32, htn, hzz, okl, hbl, okr, hbr⟩ := halves_of Hp.out Hk.out
          obtain ⟨cz1, cz2, _⟩ := chk_zero Hp.out
          obtain ⟨s1, s2⟩ := add1_facts cz2.1 hn32
          have hZ32 : 2 ^ j ≤ 4294967296 := by
            rw [← hzz]
            exact Nat.le_trans (Nat.pow_le_pow_right (show 0 < 2 by omega) (show 32 - (p.n + 1).toNat ≤ 32 by omega)) (by omega)
          have hso := fun w' => sizeOf_any (p.n + 1) (by omega) w'
          rw [hzz] at hso
          have hl9 := bld_len W j p.b.1 (KA.map Pf.b) (KB.map Pf.b)
          have hr9 := bld_len W j (p.b.1 + 2 ^ j) (KA.map Pf.b) (KB.map Pf.b)
          have hih := Ih.out j rfl
          clear hzz
          generalize 2 ^ j = Z at *
          obtain ⟨t1, t2⟩ := addZ_facts cz1.1 cz1.2 (show 0 ≤ (Z : Int) by omega) (by omega)
          have Hso := hide hso
          have Okl := hide okl
          have Hbl := hide hbl
          have Okr := hide okr
          have Hbr := hide hbr
          have Hih := hide hih
          have Hl9 := hide (Nat.le_trans hl9 hZ32)
          have Hr9 := hide (Nat.le_trans hr9 hZ32)
          clear hso okl hbl okr hbr hih hl9 hr9 htn cz1 cz2 hn32 Ih
          have bq := HB.out
          have x0 := bq.cell 0
          have x1 := bq.cell 1
          have xz := bq.lt
          simp only [List.getElem?_toArray, List.getElem?_cons_zero, List.getElem?_cons_succ] at x0 x1
          clear bq
          go_upto_region 13 with (fail)
          have BL := hide (Blk.new w4 TPf #[.int .i64 p.a, .int .i64 (p.n + 1)])
          have hu := (Upd.refl (fun _ => False) w4).alloc (.cells #[.int .i64 p.a, .int .i64 (p.n + 1)] TPf)
          have U := hide (U.out.trans_new hu)
          have HB := hide (HB.out.new_ hu)
          have RA := hide (RA.out.new_ hu)
          have RB := hide (RB.out.new_ hu)
          clear hu x0 x1 xz
          generalize w4.alloc (.cells #[.int .i64 p.a, .int .i64 (p.n + 1)] TPf) = w5 at *
          generalize w4.heap.size = XL at *
          have bq := HB.out
          have x0 := bq.cell 0
          have x1 := bq.cell 1
          have xz := bq.lt
          simp only [List.getElem?_toArray, List.getElem?_cons_zero, List.getElem?_cons_succ] at x0 x1
          clear bq
          go_cut [16] (fun v16_ wc => ∃ X', v16_ = .pointer (some ⟨X', 0, none⟩) ∧ Blk wc X' TPf #[.int .i64 (p.a + (Z : Int)), .int .i64 (p.n + 1)] ∧ New w5 wc)
          case first =>
            go_region_held3 (fun w' => w'.cell? ⟨X, 0, none⟩ = some (.int .i64 p.a) ∧ w'.cell? ⟨X, 1, none⟩ = some (.int .i64 p.n))
              (first | go_keep)
              ((go_at_call 26; refine (Hso.out _).mono ?_; rintro e w6 ⟨rfl, rfl⟩))
            all_goals
              go_wp2_with fail
              go_meet
              exact ⟨w5.heap.size, rfl, (Blk.new w5 TPf #[.int .i64 (p.a + (Z : Int)), .int .i64 (p.n + 1)]).drew, ((Upd.refl _ w5).alloc _).drew⟩
          case rest =>
            obtain ⟨XR, rfl, hbr9, hu⟩ := hcut
            have BR := hide hbr9
            have U := hide (U.out.trans_new hu)
            have HB := hide (HB.out.new_ hu)
            have BL := hide (BL.out.new_ hu)
            have RA := hide (RA.out.new_ hu)
            have RB := hide (RB.out.new_ hu)
            clear hu hbr9 x0 x1 xz s1 s2 t1 t2 Hso
            generalize wc = w6 at *
            have hws := (N.out.trans_new U.out).size
            obtain ⟨⟨L1, l2⟩, hL⟩ : ∃ L, L = bld W j p.b.1 (KA.map Pf.b) (KB.map Pf.b) := ⟨_, rfl⟩
            obtain ⟨⟨R1, r2⟩, hR⟩ : ∃ L, L = bld W j (p.b.1 + Z) (KA.map Pf.b) (KB.map Pf.b) := ⟨_, rfl⟩
            have he := He.out
            rw [← hL, ← hR] at he
            have HE := hide he
            have hl9 := Hl9.out
            rw [← hL] at hl9
            have hr9 := Hr9.out
            rw [← hR] at hr9
            have h1 := fun w' (nw : New w6 w') => Hih.out ⟨p.a, p.n + 1⟩ Aa Ab KA.length ca KB.length cb KA KB w' Okl.out (by rw [Hbl.out]) Oka.out Okb.out (RA.out.new_ nw) rfl (RB.out.new_ nw) rfl hla hlb
            rw [Hbl.out] at h1
            have h2 := fun w' (nw : New w6 w') => Hih.out ⟨p.a + (Z : Int), p.n + 1⟩ Aa Ab KA.length ca KB.length cb KA KB w' Okr.out (by rw [Hbr.out]) Oka.out Okb.out (RA.out.new_ nw) rfl (RB.out.new_ nw) rfl hla hlb
            rw [Hbr.out] at h2
            dsimp only at h1 h2 hl9 hr9
            rw [← hL] at h1
            rw [← hR] at h2
            dsimp only at h1 h2
            have J1 := hide h1
            have J2 := hide h2
            clear he He h1 h2 hL hR Hl9 Hr9 Hih Okl Okr Hbl Hbr Oka Okb RA RB
            have bq := BL.out
            have x0 := bq.cell 0
            have x1 := bq.cell 1
            have xz := bq.lt
            simp only [List.getElem?_toArray, List.getElem?_cons_zero, List.getElem?_cons_succ] at x0 x1
            clear bq
            go_wp2_with fail
            refine (J1.out _ (Upd.refl _ _)).mono ?_
            rintro e w7 ⟨vl, rfl, hol, hu⟩
            have HOL := hide hol
            have V := hide hu
            have BR := hide (BR.out.new_ hu)
            clear hol hu x0 x1 xz
            have bq := BR.out
            have x0 := bq.cell 0
            have x1 := bq.cell 1
            have xz := bq.lt
            simp only [List.getElem?_toArray, List.getElem?_cons_zero, List.getElem?_cons_succ] at x0 x1
            clear bq
            go_wp2_with fail
            refine (J2.out _ V.out).mono ?_
            rintro e w8 ⟨vr, rfl, hor, hu⟩
            have HOR := hide hor
            have HOL := hide (HOL.out.new_ hu)
            have V := hide (V.out.trans_new hu)
            have HB := hide (HB.out.new_ V.out)
            have U := hide ((N.out.trans_new U.out).trans_new V.out)
            clear hor hu x0 x1 xz J1 J2
            go_upto_region 16 with (fail)
            go_cut [96] (fun v96_ wc => v96_ = .bool (l2 && r2) ∧ w8 = wc)
            case first =>
              cases l2 <;> cases r2
              all_goals
                go_wp2_with fail
                go_meet
                exact ⟨rfl, rfl⟩
            case rest =>
              obtain ⟨rfl, rfl⟩ := hcut
              cases hlr : l2 && r2 with
              | true =>
                have HE := HE.out
                rw [hlr, if_pos rfl] at HE
                have He := hide HE
                clear HE hlr
                have bq := HB.out
                have x0 := bq.cell 0
                have x1 := bq.cell 1
                have xz := bq.lt
                simp only [List.getElem?_toArray, List.getElem?_cons_zero, List.getElem?_cons_succ] at x0 x1
                clear bq
                go_wp2_with fail
                go_ret2
                refine ⟨.slice (some ⟨w8.heap.size, 0, none⟩) 1 1, by rw [He.out]; rfl, ?_, U.out.trans_new ((Upd.refl _ w8).alloc _)⟩
                rw [He.out]
                show OwnP _ _ _ [pfOf (p.b.1, j + 1)]
                rw [Hpf.out]
                exact ownP_one w8 _ p U.out.size
              | false =>
                have HE := HE.out
                rw [hlr, if_neg (by simp)] at HE
                have He := hide HE
                clear HE hlr
                obtain ⟨i0, hi0, hz0, hz1, hz2⟩ := info_parts info_TPf
                obtain ⟨Av, cv, rfl, _, rv, _⟩ := HOR.out.rws
                have F1 := hide (Rws.flat (by omega) rv (pf_size _))
                have hvs := V.out.size
                have hll : (L1.map pfOf).length ≤ 4294967296 := by rw [List.length_map]; exact hl9
                have hlr : (R1.map pfOf).length ≤ 4294967296 := by rw [List.length_map]; exact hr9
                clear rv
                go_wp2_with (at_builtin; refine append_src rfl (.tmp 99) (.tmp 100) 46 rfl w6.heap.size TPf i0 _ 2 16 Tryz.underlying46 hi0 hz0 hz1 hz2 rfl (by omega) vl (L1.map pfOf).length (flat ((L1.map pfOf).map Pf.cells)) rfl HOL.out Av (R1.map pfOf).length cv (flat ((R1.map pfOf).map Pf.cells)) rfl (by rw [flat_length _ (pf_size _), List.length_map]) (fun h => F1.out (by rw [List.length_map]; exact h)) (pf_one _) (by unfold maxLen; omega) (by omega) hvs ?_)
                intro v' w' ho hg
                have hu9 : Upd (fun z => vl.ownBlock = some z) w8 w' := grown_upd hg fun g h => h
                have U9 := hide (U.out.trans hu9 fun z hz hx => by have := (row_ge HOL.out hx).1; omega)
                have HO := hide (show OwnP w' w6.heap.size v' ((L1 ++ R1).map pfOf) by
                  unfold OwnP
                  rw [List.map_append, List.length_append, flat_pf_append2, List.length_map, List.length_map, List.map_map, List.map_map]
                  exact ho)
                clear ho hg hu9
                go_wp2_with fail
                go_ret2
                exact ⟨v', by rw [He.out]; rfl, by rw [He.out]; exact HO.out.lower hws, U9.out⟩
theorem build_ok (wh : Int) (W : Bool → Bool → Bool) (hw : ∀ x y w, Calls Tryz.prog 114 #[.bool x, .bool y, .int .i64 wh] w fun e w1 => e = .returned (.bool (W x y)) ∧ w = w1) : ∀ k, BuildOk wh W k
  | 0 => build_step wh W hw 0 fun j h => by omega
  | k + 1 => build_step wh W hw (k + 1) fun j h => by
    obtain rfl : j = k := by omega
    exact build_ok wh W hw j
end Go.Proofs.YtignngpligicjaaGreatDoor

namespace Go.Proofs.YtignngpligicjaaGreatDoor
open Go.RowKit

theorem hasL_take {ps : List Pf} {k : Nat} {p : Pf} {x : Int} (h : ps[k]? = some p) : hasL (ps.take (k + 1)) x = (hasL (ps.take k) x || hasB p.a p.n x) := by
  rw [List.take_add_one, h]
  unfold hasL
  rw [List.any_append]
  simp
theorem hasL_at {ps : List Pf} {k : Nat} {p : Pf} {x : Int} (h : ps[k]? = some p) (h1 : hasB p.a p.n x = true) : hasL ps x = true := List.any_eq_true.2 ⟨p, List.mem_of_getElem? h, h1⟩

set_option maxRecDepth 8000 in
set_option maxHeartbeats 1000000 in
theorem inSet_any (A : Option Addr) (n c : Nat) (ps : List Pf) (x : Int) (w : World) (hx : Rws w A 2 (ps.map Pf.cells)) (hn : ps.length = n) (hl : n ≤ 1000000) :
    Calls Tryz.prog 35 #[.slice A n c, .int .i64 x] w fun e w1 => e = .returned (.bool (hasL ps x)) ∧ New w w1 := by
  have Hx := hide hx
  have Hn := hide hn
  clear hx hn
  go_enter Tryz.func35, Tryz.ntmps35
  go_wp2_with fail
  go_loopw [5] (fun i wr => ∃ k : Nat, k ≤ n ∧ i = .int .i64 k ∧ New w wr ∧ hasL (ps.take k) x = false) (fun i _ => n - (intOf i).toNat)
  case atStart => exact ⟨0, by omega, rfl, Upd.refl _ _, rfl⟩
  case round =>
    obtain ⟨k, hk, rfl, hu, hz⟩ := hrel
    have HU := hide hu
    have Hz := hide hz
    clear hu hz
    obtain ⟨wo, rfl⟩ : ∃ wo : World, wo = wr := ⟨_, rfl⟩
    by_cases hlt : k < n
    · obtain ⟨b, o, p, hA, hb, hp, p0, p1⟩ := rws_two (Hx.out.new_ HU.out) (k := k) (by rw [Hn.out]; exact hlt)
      subst hA
      have i2 : (k : Int) < (n : Int) := by omega
      have h1 := hasAddr_any p.a p.n x wo
      have Ht := hide (hasL_take (x := x) hp)
      cases hc : hasB p.a p.n x with
      | true =>
        rw [hc] at h1
        have H1 := hide h1
        have He := hide (hasL_at hp hc)
        clear h1 hc hp
        go_wp2_with fail
        refine H1.out.mono ?_
        rintro e w7 ⟨rfl, hu⟩
        have HU := hide (HU.out.trans_new hu)
        clear hu p0 p1
        go_wp2_with fail
        go_ret
        exact ⟨ret_bool He.out.symm, HU.out⟩
      | false =>
        rw [hc] at h1
        have H1 := hide h1
        have He := hide (show hasL (ps.take (k + 1)) x = false by rw [Ht.out, Hz.out, hc]; rfl)
        clear h1 hc hp
        go_wp2_with fail
        refine H1.out.mono ?_
        rintro e w7 ⟨rfl, hu⟩
        have HU := hide (HU.out.trans_new hu)
        clear hu p0 p1
        go_wp2_with fail
        exact ⟨⟨k + 1, by omega, by go_num, HU.out, He.out⟩, by simp [intOf]; omega⟩
    · have hkn : k = n := by omega
      subst hkn
      have i2 : ¬ (k : Int) < (k : Int) := by omega
      have hz := Hz.out
      rw [List.take_of_length_le (by rw [Hn.out]; exact Nat.le_refl _)] at hz
      have He := hide hz
      clear hz
      go_wp2_with fail
      go_ret
      exact ⟨ret_bool He.out.symm, HU.out⟩

/-- What a call hands back of a slot and its own block of a fault. -/
theorem fault_out2 {fn : Func} {p t : Tmp} {tmps : Array Value} {w : World} {R : Nat} {x y : Value} (h : fn.results = #[.tmp t, .cell p TRF]) (hp : tmps.getD p undef = .pointer (some ⟨R, 0, none⟩)) (hb : Blk w R TRF #[x, y]) :
    (results fn tmps).run Tryz.prog w = .ok (.tuple #[tmps.getD t undef, .agg #[x, y]]) w := by
  have hp' : tmps[p]?.getD undef = .pointer (some ⟨R, 0, none⟩) := by simpa using hp
  simp [results, h, hp', asAddr, run_loadVar_row w R TRF TRF #[x, y] (0, 0) _ hb Tryz.underlying51 rfl (by rw [TRF_info]; rfl)]
/-- What the reference says of two lists of prefixes: those of the set that f tells, or a fault. -/
def SetPost (C : Nat × Int) (f : Nat → Bool) (w : World) (e : Ending) (w1 : World) : Prop := ∃ A c qs, e = .returned (.tuple #[.slice A (List.length (α := Pf) qs) c, faultV C]) ∧ New w w1 ∧ Rws w1 A 2 (qs.map Pf.cells) ∧ (∀ b o, A = some ⟨b, o, none⟩ → w.heap.size ≤ b) ∧ qs.length ≤ 4294967296 ∧ (C.1 ≠ 0 → qs = []) ∧ (C.1 = 0 → NPl f qs)
theorem pfsC_zero {ps : List Pf} (h : (pfsC ps).1 = 0) : pfsC ps = (0, -1) := pfsC_none fun j hj => by
  have hp : ps[j]? = some ps[j] := List.getElem?_eq_getElem hj
  rw [pfF_at hp]
  exact pfsC_ok h _ (List.getElem_mem _)
end Go.Proofs.YtignngpligicjaaGreatDoor

namespace Go.Proofs.YtignngpligicjaaGreatDoor
open Go.RowKit

theorem whole_ok : Pf.ok ⟨0, 0⟩ := by unfold Pf.ok; decide +kernel
theorem whole_b : Pf.b ⟨0, 0⟩ = (0, 32) := rfl

set_option maxRecDepth 8000 in
set_option maxHeartbeats 2000000 in
theorem setOf_any (wh : Int) (W : Bool → Bool → Bool) (hw : ∀ x y w, Calls Tryz.prog 114 #[.bool x, .bool y, .int .i64 wh] w fun e w1 => e = .returned (.bool (W x y)) ∧ w = w1)
    (A1 A2 : Option Addr) (n1 c1 n2 c2 : Nat) (a b : List Pf) (w : World) (ra : Rws w A1 2 (a.map Pf.cells)) (hn1 : a.length = n1) (rb : Rws w A2 2 (b.map Pf.cells)) (hn2 : b.length = n2) (hl1 : n1 ≤ 1000) (hl2 : n2 ≤ 1000) :
    Calls Tryz.prog 31 #[.slice A1 n1 c1, .slice A2 n2 c2, .int .i64 wh] w (SetPost (twoC a b) (fun x => W (inP a x) (inP b x)) w) := by
  have u := (Upd.refl (fun _ => False) w).alloc (.cells #[.int .i64 0, .int .i64 0] TRF)
  have N := hide u
  have HR := hide (Blk.new w TRF #[.int .i64 0, .int .i64 0])
  have Ra := hide ra
  have Rb := hide rb
  have Hn1 := hide hn1
  have Hn2 := hide hn2
  have Hbo := hide (build_ok wh W hw 32)
  clear u ra rb hn1 hn2 hw
  go_enter Tryz.func31, Tryz.ntmps31
  go_upto_region 1 with (fail)
  generalize w.alloc (.cells #[.int .i64 0, .int .i64 0] TRF) = W0 at *
  have h1 := prefixesFault_any A1 n1 c1 a W0 (Ra.out.new_ N.out) Hn1.out (by omega)
  unfold faultV at h1
  have H1 := hide h1
  clear h1
  go_wp2_with fail
  refine H1.out.mono ?_
  rintro e w1 ⟨rfl, hu⟩
  have N := hide (N.out.trans_new hu)
  have HR := hide (HR.out.new_ hu)
  clear hu H1
  have hRF := HR.out.lt
  go_upto_region 2 with (fail)
  have hu := (Upd.refl (fun _ => False) w1).alloc (.cells #[.int .i64 ((pfsC a).1 : Nat), .int .i64 (pfsC a).2] TRF)
  have HF := hide (Blk.new w1 TRF #[.int .i64 ((pfsC a).1 : Nat), .int .i64 (pfsC a).2])
  have N := hide (N.out.trans_new hu)
  have HR := hide (HR.out.new_ hu)
  clear hu
  generalize w1.alloc (.cells #[.int .i64 ((pfsC a).1 : Nat), .int .i64 (pfsC a).2] TRF) = w2 at *
  generalize w1.heap.size = F at *
  have hne : w.heap.size ≠ F := by omega
  have bq := HF.out
  have x0 := bq.cell 0
  have x1 := bq.cell 1
  have xz := bq.lt
  simp only [List.getElem?_toArray, List.getElem?_cons_zero, List.getElem?_cons_succ] at x0 x1
  clear bq
  go_upto_if 15 with (fail)
  go_cut [8] (fun v8_ wc => v8_ = .pointer (some ⟨F, 0, none⟩) ∧ Blk wc F TRF #[.int .i64 ((twoC a b).1 : Nat), .int .i64 (twoC a b).2] ∧ Blk wc w.heap.size TRF #[.int .i64 0, .int .i64 0] ∧ New w wc)
  case first =>
    by_cases hca : (pfsC a).1 = 0
    · have e9 : twoC a b = pfsC b := if_pos hca
      have E9 := hide e9
      have h2 := prefixesFault_any A2 n2 c2 b w2 (Rb.out.new_ N.out) Hn2.out (by omega)
      unfold faultV at h2
      have H2 := hide h2
      clear h2 e9
      have i0 : (((pfsC a).1 : Nat) : Int) = 0 := by omega
      go_wp2_with fail
      refine H2.out.mono ?_
      rintro e w3 ⟨rfl, hu⟩
      have N := hide (N.out.trans_new hu)
      have HR := hide (HR.out.new_ hu)
      have HF := hide (HF.out.new_ hu)
      clear hu H2 x0 x1 xz
      have bq := HF.out
      have x0 := bq.cell 0
      have x1 := bq.cell 1
      have f0 := bq.frozen 0
      have f1 := bq.frozen 1
      have xz := bq.lt
      simp only [List.getElem?_toArray, List.getElem?_cons_zero, List.getElem?_cons_succ] at x0 x1
      clear bq
      go_wp2_with fail
      go_meet
      exact ⟨rfl, by rw [E9.out]; exact fault_set HF.out, Blk.far (Blk.far HR.out (p := ⟨F, 0, none⟩) hne _) (p := ⟨F, 1, none⟩) hne _, new_set2 N.out (by omega)⟩
    · have e9 : twoC a b = pfsC a := if_neg hca
      have E9 := hide e9
      clear e9
      have i0 : ((((pfsC a).1 : Nat) : Int) == 0) = false := by
        rw [beq_eq_false_iff_ne]
        intro h
        exact hca (by omega)
      go_wp2_with fail
      go_meet
      exact ⟨rfl, by rw [E9.out]; exact HF.out, HR.out, N.out⟩
  case rest =>
    obtain ⟨rfl, hf, hr, hn⟩ := hcut
    have HF := hide hf
    have HR := hide hr
    have N := hide hn
    clear hf hr hn x0 x1 xz
    generalize wc = w4 at *
    have bq := HF.out
    have x0 := bq.cell 0
    have x1 := bq.cell 1
    have xz := bq.lt
    simp only [List.getElem?_toArray, List.getElem?_cons_zero, List.getElem?_cons_succ] at x0 x1
    clear bq
    by_cases hC : (twoC a b).1 = 0
    · have i0 : ¬ (0 : Int) < (((twoC a b).1 : Nat) : Int) := by omega
      have HC := hide hC
      have hca : (pfsC a).1 = 0 := by
        by_cases h : (pfsC a).1 = 0
        · exact h
        · rw [show twoC a b = pfsC a from if_neg h] at hC
          exact hC
      have hcb : (pfsC b).1 = 0 := by rw [show twoC a b = pfsC b from if_pos hca] at hC; exact hC
      have e9 : twoC a b = (0, -1) := by rw [show twoC a b = pfsC b from if_pos hca]; exact pfsC_zero hcb
      have E9 := hide e9
      have oka := pfsC_ok hca
      have okb := pfsC_ok hcb
      have h1 := Hbo.out ⟨0, 0⟩ A1 A2 n1 c1 n2 c2 a b w4 whole_ok rfl oka okb (Ra.out.new_ N.out) Hn1.out (Rb.out.new_ N.out) Hn2.out hl1 hl2
      rw [whole_b] at h1
      dsimp only at h1
      have hcn := bld_canon W (a.map Pf.b) (b.map Pf.b) (vals_ok oka) (vals_ok okb)
      have hlen := bld_len W 32 0 (a.map Pf.b) (b.map Pf.b)
      generalize bld W 32 0 (a.map Pf.b) (b.map Pf.b) = L at *
      have H1 := hide h1
      have Hcn := hide hcn
      have Hlen := hide hlen
      clear h1 hcn hlen oka okb hca hcb e9 hC
      have hRw := HR.out.lt
      go_wp2_with fail
      refine H1.out.mono ?_
      rintro e w5 ⟨v, rfl, ho, hu⟩
      have HO := hide ho
      have N := hide (N.out.trans_new hu)
      have HR := hide (HR.out.new_ hu)
      clear ho hu H1 x0 x1 xz
      have h2 := fineF_any w5
      unfold faultV at h2
      have H2 := hide h2
      clear h2
      go_wp2_with fail
      refine H2.out.mono ?_
      rintro e w6 ⟨rfl, hu⟩
      have HO := hide (HO.out.new_ hu)
      have N := hide (N.out.trans_new hu)
      have HR := hide (HR.out.new_ hu)
      clear hu H2
      have bq := HR.out
      have r0 := bq.cell 0
      have r1 := bq.cell 1
      have s0 := bq.frozen 0
      have s1 := bq.frozen 1
      have rz := bq.lt
      simp only [List.getElem?_toArray, List.getElem?_cons_zero, List.getElem?_cons_succ] at r0 r1
      clear bq
      go_wp2_with fail
      have hu7 : Upd (fun z => z = w.heap.size) w6 ((w6.setCell ⟨w.heap.size, 0, none⟩ (.int .i64 0)).setCell ⟨w.heap.size, 1, none⟩ (.int .i64 (-1))) := ((Upd.refl (fun z => z = w.heap.size) w6).setCell (p := ⟨w.heap.size, 0, none⟩) (.inl rfl) _).setCell (p := ⟨w.heap.size, 1, none⟩) (.inl rfl) _
      have HO7 := HO.out.upd hu7 fun g hg hx => by have h9 := (row_ge HO.out hg).1; have hx : g = w.heap.size := hx; omega
      obtain ⟨A, c, rfl, _, hr, hfr⟩ := HO7.rws
      refine bodyPost_ret (fault_out2 Tryz.results31 rfl (fault_set HR.out)) rfl ?_
      exact ⟨A, c, L.1.map pfOf, by rw [E9.out]; rfl, new_set2 N.out (Nat.le_refl _), hr, fun b o h => by have := hfr b o h; omega, by rw [List.length_map]; exact Hlen.out, fun h => absurd HC.out h, fun _ => npl_of Hcn.out⟩
    · have i0 : (0 : Int) < (((twoC a b).1 : Nat) : Int) := by omega
      have HC := hide hC
      go_upto_region 5 with (fail)
      have bq := HR.out
      have r0 := bq.cell 0
      have r1 := bq.cell 1
      have s0 := bq.frozen 0
      have s1 := bq.frozen 1
      have rz := bq.lt
      simp only [List.getElem?_toArray, List.getElem?_cons_zero, List.getElem?_cons_succ] at r0 r1
      clear bq
      go_region
      all_goals
        go_wp2_with fail
        refine bodyPost_ret (fault_out2 Tryz.results31 rfl (fault_set HR.out).drew) rfl ?_
        exact ⟨none, 0, [], rfl, (new_set2 N.out (Nat.le_refl _)).drew, fun h => absurd h (by simp), fun b o h => (by cases h), by simp, fun _ => rfl, fun h => absurd h HC.out⟩
end Go.Proofs.YtignngpligicjaaGreatDoor

namespace Go.Proofs.YtignngpligicjaaGreatDoor
open Go.RowKit

/-- What a function of package set gives: prefixes, an error or none. -/
def SetR (E : Nat → Addr) (C : Nat × Int) (f : Nat → Bool) (m : Nat) (w : World) (e : Ending) (w1 : World) : Prop := ∃ A c qs er, e = .returned (.tuple #[.slice A (List.length (α := Pf) qs) c, er]) ∧ ErrV w1 E er C.1 C.2 ∧ New w w1 ∧ Rws w1 A 2 (qs.map Pf.cells) ∧ (∀ b o, A = some ⟨b, o, none⟩ → w.heap.size ≤ b) ∧ qs.length ≤ m ∧ (C.1 ≠ 0 → qs = []) ∧ (C.1 = 0 → NPl f qs)
theorem NormPost.setR {E : Nat → Addr} {C : Nat × Int} {f : Nat → Bool} {m : Nat} {w w1 : World} {e : Ending} (h : NormPost E C f m w e w1) : SetR E C f m w e w1 := by
  obtain ⟨v, er, P, rfl, her, hu, ho, hl, hb, hg⟩ := h
  obtain ⟨A, cap, rfl, _, hr, hfr⟩ := ho.rws
  exact ⟨A, cap, P.map pfOf, er, rfl, her, hu, hr, hfr, by rw [List.length_map]; exact hl, fun h => by rw [hb h]; rfl, fun h => npl_of (hg h)⟩
theorem ErrV.store {w w1 : World} {E : Nat → Addr} {v : Value} {k : Nat} {i : Int} {X : Nat} {cs : Array Value} (h : ErrV w E v k i) (hb : Blk w X TRF cs) (hu : Upd (fun z => z = X) w w1) : ErrV w1 E v k i := by
  rcases h with h | h | ⟨h1, h9, p, hv, hp⟩
  · exact .inl h
  · exact .inr (.inl h)
  · exact .inr (.inr ⟨h1, h9, p, hv, hp.upd hu fun e => Blk.ne_ hp hb (by decide) e⟩)
theorem sets_same {C : Nat × Int} {f g : Nat → Bool} {l m : List Pf} (h : C.1 ≠ 0 → l = []) (h0 : C.1 = 0 → NPl f l) (k : C.1 ≠ 0 → m = []) (k0 : C.1 = 0 → NPl g m) (hfg : ∀ x, x < 4294967296 → f x = g x) : sameL l m = true := by
  rw [sameL_iff]
  by_cases hC : C.1 = 0
  · exact (h0 hC).one (k0 hC) hfg
  · rw [h hC, k hC]
theorem twoC_nil (a : List Pf) : twoC a [] = pfsC a := by
  unfold twoC
  by_cases h : (pfsC a).1 = 0
  · rw [if_pos h, pfsC_zero h]; rfl
  · rw [if_neg h]
theorem faulted_same1 (v : Value) (C : Nat × Int) (w : World) (E : Nat → Addr) (h : Errs w E) (hv : ErrV w E v C.1 C.2) : Calls Tryz.prog 32 #[v, .agg #[.int .i64 (C.1 : Nat), .int .i64 C.2]] w fun e w1 => e = .returned (.bool true) ∧ New w w1 := by
  have := faulted1_any v C.1 C.2 C.1 C.2 w E h hv
  rw [decide_eq_true ⟨rfl, .inr rfl⟩] at this
  exact this
theorem setOf_one (A1 : Option Addr) (n1 c1 : Nat) (a : List Pf) (w : World) (ra : Rws w A1 2 (a.map Pf.cells)) (hn1 : a.length = n1) (hl1 : n1 ≤ 1000) :
    Calls Tryz.prog 31 #[.slice A1 n1 c1, .slice none 0 0, .int .i64 2] w (SetPost (pfsC a) (inP a) w) := by
  have h := setOf_any 2 (fun x y => x || y) wanted2_any A1 none n1 c1 0 0 a [] w ra hn1 (fun h => absurd h (by simp)) rfl hl1 (by omega)
  rw [twoC_nil] at h
  have e : (fun x => (fun x y => x || y) (inP a x) (inP [] x)) = inP a := by
    funext x
    show (inP a x || false) = inP a x
    exact Bool.or_false _
  rw [e] at h
  exact h
theorem cnt_npl {a qs : List Pf} {k : Nat} (hok : ∀ p ∈ a, p.ok) (h : Cnt a k) (hq : NPl (inP a) qs) : k = sizes qs := by
  have hs : (qs.map Pf.sp).Pairwise (fun p q => p.1 ≤ q.1) := by
    have h1 := hq.2.1
    rw [List.pairwise_map] at h1 ⊢
    exact h1.imp fun h => Nat.le_of_lt h
  have hc : Cnt qs (sumS (mergeL (qs.map Pf.sp))) := ⟨_, List.Perm.refl _, hs, rfl⟩
  rw [h.same hok hq.1 hc fun x hx => (hq.inP hx).symm]
  exact hc.sizes hq.1 hq.off
/-- Addresses counted are the sizes of a normal list. -/
theorem cnt_sizes {a qs : List Pf} {k : Nat} (h : (pfsC a).1 ≠ 0 → k = 0) (h0 : (pfsC a).1 = 0 → Cnt a k) (g : (pfsC a).1 ≠ 0 → qs = []) (g0 : (pfsC a).1 = 0 → NPl (inP a) qs) : k = sizes qs := by
  by_cases hC : (pfsC a).1 = 0
  · exact cnt_npl (pfsC_ok hC) (h0 hC) (g0 hC)
  · rw [h hC, g hC]; rfl
end Go.Proofs.YtignngpligicjaaGreatDoor

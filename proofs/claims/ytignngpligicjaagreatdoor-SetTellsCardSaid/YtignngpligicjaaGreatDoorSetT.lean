/- The law SetTells: its walk. No condition but those that stand in each theorem. -/
import Derived.Test.YtignngpligicjaaGreatDoorSu1
namespace Go.Proofs.YtignngpligicjaaGreatDoor
open Go.RowKit

set_option maxRecDepth 20000 in
set_option maxHeartbeats 8000000 in
theorem setTells_any (A0 A1 : Option Addr) (n0 c0 n1 c1 : Nat) (a b : List Pf) (x : Int) (E : Nat → Addr) (w : World) (htz : TzOk w) (her : Errs w E) (ra : Rws w A0 2 (a.map Pf.cells)) (hn0 : a.length = n0) (rb : Rws w A1 2 (b.map Pf.cells)) (hn1 : b.length = n1) :
    Calls Tryz.prog 4 #[.slice A0 n0 c0, .slice A1 n1 c1, .int .i64 x] w fun e w1 => e = .returned (.bool true) ∧ New w w1 := by
  have Hst := hide (setted_any E w htz her.s2 her.s3)
  have HT := hide htz
  have Er := hide her
  have Ra := hide ra
  have Rb := hide rb
  have Hn0 := hide hn0
  have Hn1 := hide hn1
  have N := hide (Upd.refl (fun _ => False) w)
  clear htz her ra rb hn0 hn1
  go_enter Tryz.func4, Tryz.ntmps4
  go_wp2_with fail
  refine Hst.out.mono ?_
  rintro e w0 ⟨rfl, hu⟩
  have Ra := hide (Ra.out.new_ hu)
  have Rb := hide (Rb.out.new_ hu)
  have HT := hide (HT.out.new hu)
  have Er := hide (Er.out.new hu)
  have N := hide (N.out.trans_new hu)
  clear hu
  by_cases hl0 : n0 ≤ 20
  rotate_left
  · have i0 : (20 : Int) < (n0 : Int) := by omega
    go_wp2_with fail
    go_ret
    exact ⟨rfl, N.out⟩
  have i0 : ¬ (20 : Int) < (n0 : Int) := by omega
  by_cases hl1 : n1 ≤ 20
  rotate_left
  · have i1 : (20 : Int) < (n1 : Int) := by omega
    go_wp2_with fail
    go_ret
    exact ⟨rfl, N.out⟩
  have i1 : ¬ (20 : Int) < (n1 : Int) := by omega
  go_wp2_with fail
  refine (ownPrefixes_own A0 n0 c0 a _ Ra.out Hn0.out (by omega)).mono ?_
  rintro e w1 ⟨vo, rfl, ho, hu⟩
  obtain ⟨Ap, cp, rfl, _, ro, _⟩ := ho.rws
  have Rp := hide ro
  clear ho ro
  have Ra := hide (Ra.out.new_ hu)
  have Rb := hide (Rb.out.new_ hu)
  have HT := hide (HT.out.new hu)
  have Er := hide (Er.out.new hu)
  have N := hide (N.out.trans_new hu)
  clear hu
  rw [Hn0.out]
  go_wp2_with fail
  refine (ownPrefixes_own A1 n1 c1 b _ Rb.out Hn1.out (by omega)).mono ?_
  rintro e w2 ⟨vo, rfl, ho, hu⟩
  obtain ⟨Aq, cq, rfl, _, ro, _⟩ := ho.rws
  have Rq := hide ro
  clear ho ro
  have Ra := hide (Ra.out.new_ hu)
  have Rb := hide (Rb.out.new_ hu)
  have Rp := hide (Rp.out.new_ hu)
  have HT := hide (HT.out.new hu)
  have Er := hide (Er.out.new hu)
  have N := hide (N.out.trans_new hu)
  clear hu
  rw [Hn1.out]
  go_wp2_with fail
  refine ((norm_any Ap n0 cp a E _ HT.out Er.out.s2 Er.out.s3 Rp.out Hn0.out (by omega)).mono fun _ _ h => h.setR).mono ?_
  rintro e w3 ⟨Al, cl, l, erl, rfl, her, hu, hr, hfr, hl, hb, hg⟩
  clear hfr
  have Ra := hide (Ra.out.new_ hu)
  have Rb := hide (Rb.out.new_ hu)
  have Rp := hide (Rp.out.new_ hu)
  have Rq := hide (Rq.out.new_ hu)
  have HT := hide (HT.out.new hu)
  have Er := hide (Er.out.new hu)
  have N := hide (N.out.trans_new hu)
  clear hu
  have Rl := hide hr
  have Ll := hide hl
  have Bl := hide hb
  have Pl := hide hg
  have El := hide her
  clear hr hl hb hg her
  go_wp2_with fail
  refine (setOf_one A0 n0 c0 a _ Ra.out Hn0.out (by omega)).mono ?_
  rintro e w4 ⟨Am, cm, m, rfl, hu, hr, hfr, hl, hb, hg⟩
  clear hfr
  have Ra := hide (Ra.out.new_ hu)
  have Rb := hide (Rb.out.new_ hu)
  have Rp := hide (Rp.out.new_ hu)
  have Rq := hide (Rq.out.new_ hu)
  have Rl := hide (Rl.out.new_ hu)
  have El := hide (El.out.new hu)
  have HT := hide (HT.out.new hu)
  have Er := hide (Er.out.new hu)
  have N := hide (N.out.trans_new hu)
  clear hu
  have Rm := hide hr
  have Lm := hide hl
  have Bm := hide hb
  have Pm := hide hg
  clear hr hl hb hg
  unfold faultV
  obtain ⟨C, hC⟩ : ∃ C, C = pfsC a := ⟨_, rfl⟩
  rw [← hC]
  rw [← hC] at Bl Bm Pl Pm El
  have HC := hide hC
  clear hC
  go_upto_region 8 with (fail)
  have HF := hide (Blk.new w4 TRF #[.int .i64 (C.1 : Nat), .int .i64 C.2])
  have M := hide ((Upd.refl (fun _ => False) w4).alloc (.cells #[.int .i64 (C.1 : Nat), .int .i64 C.2] TRF))
  have Rl := hide (Rl.out.new_ M.out)
  have Rm := hide (Rm.out.new_ M.out)
  have El := hide (El.out.new M.out)
  generalize w4.alloc (.cells #[.int .i64 (C.1 : Nat), .int .i64 C.2] TRF) = w5 at *
  generalize hXF : w4.heap.size = XF at *
  have HX := hide (Nat.le_of_eq hXF)
  clear hXF
  as_aux_lemma =>
    have bq := HF.out
    have f0 := bq.cell 0
    have f1 := bq.cell 1
    have fr0 := bq.frozen 0
    have fr1 := bq.frozen 1
    have fz := bq.lt
    simp only [List.getElem?_toArray, List.getElem?_cons_zero, List.getElem?_cons_succ] at f0 f1
    clear bq
    go_wp2_with fail
    refine (faulted_same1 erl C _ E (Er.out.new M.out) El.out).mono ?_
    rintro e w6 ⟨rfl, hu⟩
    have Rl := hide (Rl.out.new_ hu)
    have Rm := hide (Rm.out.new_ hu)
    have El := hide (El.out.new hu)
    have HF := hide (HF.out.new_ hu)
    have M := hide (M.out.trans_new hu)
    clear hu
    clear f0 f1 fr0 fr1 fz
    have hs := samePrefixes_any Al Am l.length m.length cl cm l m _ Rl.out Rm.out rfl rfl (by have := Ll.out; omega) Lm.out
    rw [sets_same Bl.out Pl.out Bm.out Pm.out fun _ _ => rfl] at hs
    have Hs := hide hs
    clear hs
    go_wp2_with fail
    refine (Hs.out).mono ?_
    rintro e w7 ⟨rfl, hu⟩
    have Rl := hide (Rl.out.new_ hu)
    have Rm := hide (Rm.out.new_ hu)
    have El := hide (El.out.new hu)
    have HF := hide (HF.out.new_ hu)
    have M := hide (M.out.trans_new hu)
    clear hu
    clear Hs
    go_wp2_with fail
    as_aux_lemma =>
      refine (count_any Ap n0 cp a E _ (Er.out.new M.out).s2 (Er.out.new M.out).s3 (Rp.out.new_ M.out) Hn0.out (by omega)).mono ?_
      rintro e w8 ⟨er2, n, rfl, her, hu, hnl, hnb, hng⟩
      have Rl := hide (Rl.out.new_ hu)
      have Rm := hide (Rm.out.new_ hu)
      have HF := hide (HF.out.new_ hu)
      have M := hide (M.out.trans_new hu)
      clear hu
      rw [← HC.out] at her hnb hng
      have Ec := hide her
      have hns : n = sizes m := cnt_sizes (a := a) (by rw [← HC.out]; exact hnb) (by rw [← HC.out]; exact hng) (by rw [← HC.out]; exact Bm.out) (by rw [← HC.out]; exact Pm.out)
      have Hns := hide hns
      clear her hnb hng hns
      have hml : m.length ≤ 100000 := by
        by_cases h : C.1 = 0
        · have e9 := (sameL_iff l m).1 (sets_same Bl.out Pl.out Bm.out Pm.out fun _ _ => rfl)
          rw [← e9]
          have := Ll.out
          omega
        · rw [Bm.out h]; simp
      have hmok : ∀ p ∈ m, p.ok := fun p hp => by
        by_cases h : C.1 = 0
        · exact (Pm.out h).1 p hp
        · rw [Bm.out h] at hp; simp at hp
      have Hmok := hide hmok
      clear hmok
      go_wp2_with fail
      go_loopw [15, 16] (fun mv iv wz => ∃ j : Nat, j ≤ m.length ∧ iv = .int .i64 j ∧ mv = .int .i64 ((sizes (m.take j) : Nat) : Int) ∧ New w8 wz) (fun _ iv _ => m.length - (intOf iv).toNat)
      case atStart => exact ⟨0, by omega, rfl, by simp [sizes], Upd.refl _ _⟩
      case round =>
        obtain ⟨j, hj, rfl, rfl, hu⟩ := hrel
        have HU := hide hu
        clear hu
        obtain ⟨wo, rfl⟩ : ∃ wo : World, wo = wr := ⟨_, rfl⟩
        by_cases hlt : j < m.length
        · have i3 : (j : Int) < (m.length : Int) := by omega
          obtain ⟨p, hp⟩ : ∃ p, m[j]? = some p := ⟨_, List.getElem?_eq_getElem hlt⟩
          obtain ⟨bl, ol, _, hAl, _, _, _, _⟩ := rws_two Rm.out hlt
          obtain ⟨p0, p1, pz⟩ := rl_at (Rm.out.new_ HU.out) hAl hp
          subst hAl
          obtain ⟨_, hn9, _⟩ := chk_zero (Hmok.out p (List.mem_of_getElem? hp))
          have h9 := sizeOf_any p.n hn9 wo
          have hst := sizes_take hp
          have hS9 : sizes (m.take j) ≤ 1000000000000000 := by
            have h1 := sizes_le (m.take j)
            rw [List.length_take] at h1
            omega
          have hD9 := p32_le p.n.toNat
          generalize sizes (m.take j) = S at *
          generalize 2 ^ (32 - p.n.toNat) = D at *
          obtain ⟨a1, a2⟩ := add_facts hS9 hD9
          have Hst := hide hst
          have H9 := hide h9
          clear hst h9 hp hn9
          go_wp2_with fail
          refine H9.out.mono ?_
          rintro e wj ⟨rfl, rfl⟩
          clear p0 p1 pz H9
          go_wp2_with fail
          exact ⟨⟨j + 1, by omega, by go_num, by rw [Hst.out, Int.natCast_add], HU.out⟩, by simp [intOf]; omega⟩
        · obtain rfl : j = m.length := by omega
          have i3 : ¬ (m.length : Int) < (m.length : Int) := by omega
          rw [List.take_length, ← Hns.out]
          have hu := HU.out
          clear HU
          have Rl := hide (Rl.out.new_ hu)
          have Rm := hide (Rm.out.new_ hu)
          have Ec := hide (Ec.out.new hu)
          have HF := hide (HF.out.new_ hu)
          have M := hide (M.out.trans_new hu)
          clear hu
          as_aux_lemma =>
            go_wp2_with fail
            refine (inSet_any A0 n0 c0 a x _ (Ra.out.new_ M.out) Hn0.out (by omega)).mono ?_
            rintro e w9 ⟨rfl, hu⟩
            have Rl := hide (Rl.out.new_ hu)
            have Rm := hide (Rm.out.new_ hu)
            have Ec := hide (Ec.out.new hu)
            have HF := hide (HF.out.new_ hu)
            have M := hide (M.out.trans_new hu)
            clear hu
            go_upto_region 17 with (fail)
            have bq := HF.out
            have f0 := bq.cell 0
            have f1 := bq.cell 1
            have fr0 := bq.frozen 0
            have fr1 := bq.frozen 1
            have fz := bq.lt
            simp only [List.getElem?_toArray, List.getElem?_cons_zero, List.getElem?_cons_succ] at f0 f1
            clear bq
            have j1 : ((n : Int) != (n : Int)) = false := by simp
            have j2 : (hasL a x != hasL a x) = false := by cases hasL a x <;> rfl
            have hh := fun w' (nw : New w9 w') => setHas_any Ap n0 cp a x E w' (Er.out.new (M.out.trans_new nw)).s2 (Er.out.new (M.out.trans_new nw)).s3 (Rp.out.new_ (M.out.trans_new nw)) Hn0.out (by omega)
            generalize hasL a x = hx at *
            have Hh := hide hh
            clear hh
            go_wp2_with fail
            refine (faulted_same1 er2 C _ E (Er.out.new M.out) Ec.out).mono ?_
            rintro e wf ⟨rfl, hu⟩
            have HU := hide hu
            clear hu f0 f1 fr0 fr1 fz
            go_wp2_with fail
            refine (Hh.out _ HU.out).mono ?_
            rintro e wg ⟨rfl, hu⟩
            have hu := HU.out.trans_new hu
            clear HU Hh
            have Rl := hide (Rl.out.new_ hu)
            have Rm := hide (Rm.out.new_ hu)
            have HF := hide (HF.out.new_ hu)
            have M := hide (M.out.trans_new hu)
            clear hu
            generalize wg = w10 at *
            go_wp2_with fail
            clear j1 j2
            clear Rl Rm Ll Lm Bl Bm Pl Pm
            as_aux_lemma =>
              refine ((setOr_any Ap Aq n0 cp n1 cq a b E _ (HT.out.new M.out) (Er.out.new M.out).s2 (Er.out.new M.out).s3 (Rp.out.new_ M.out) Hn0.out (Rq.out.new_ M.out) Hn1.out (by omega) (by omega)).mono fun _ _ h => h.setR).mono ?_
              rintro e w11 ⟨AlOr, clOr, lOr, erlOr, rfl, her, hu, hr, hfr, hl, hb, hg⟩
              have FlOr := hide (show ∀ b o, AlOr = some ⟨b, o, none⟩ → ¬ b = XF from fun b o h e => by have := hfr b o h; have := HF.out.lt; omega)
              clear hfr
              have HF := hide (HF.out.new_ hu)
              have M := hide (M.out.trans_new hu)
              clear hu
              have RlOr := hide hr
              have LlOr := hide hl
              have BlOr := hide hb
              have PlOr := hide hg
              have ElOr := hide her
              clear hr hl hb hg her
              go_wp2_with fail
              have bq := HF.out
              have f0 := bq.cell 0
              have f1 := bq.cell 1
              have fr0 := bq.frozen 0
              have fr1 := bq.frozen 1
              have fz := bq.lt
              simp only [List.getElem?_toArray, List.getElem?_cons_zero, List.getElem?_cons_succ] at f0 f1
              clear bq
              refine (setOf_any 2 (fun x y => x || y) wanted2_any A0 A1 n0 c0 n1 c1 a b _ (Ra.out.new_ M.out) Hn0.out (Rb.out.new_ M.out) Hn1.out (by omega) (by omega)).mono ?_
              rintro e w12 ⟨AmOr, cmOr, mOr, rfl, hu, hr, hfr, hl, hb, hg⟩
              have FmOr := hide (show ∀ b o, AmOr = some ⟨b, o, none⟩ → ¬ b = XF from fun b o h e => by have := hfr b o h; have := HF.out.lt; omega)
              clear hfr
              have RlOr := hide (RlOr.out.new_ hu)
              have ElOr := hide (ElOr.out.new hu)
              have HF := hide (HF.out.new_ hu)
              have M := hide (M.out.trans_new hu)
              clear hu
              have RmOr := hide hr
              have LmOr := hide hl
              have BmOr := hide hb
              have PmOr := hide hg
              clear hr hl hb hg
              unfold faultV
              clear f0 f1 fr0 fr1 fz
              obtain ⟨D, hD⟩ : ∃ D, D = twoC a b := ⟨_, rfl⟩
              rw [← hD]
              rw [← hD] at BlOr BmOr PlOr PmOr ElOr
              clear hD
              have bq := HF.out
              have f0 := bq.cell 0
              have f1 := bq.cell 1
              have fr0 := bq.frozen 0
              have fr1 := bq.frozen 1
              have fz := bq.lt
              simp only [List.getElem?_toArray, List.getElem?_cons_zero, List.getElem?_cons_succ] at f0 f1
              clear bq
              go_upto_region 21 with (fail)
              have hs : Upd (fun z => z = XF) w12 ((w12.setCell ⟨XF, 0, none⟩ (.int .i64 (D.1 : Nat))).setCell ⟨XF, 1, none⟩ (.int .i64 D.2)) := ((Upd.refl (fun z => z = XF) w12).setCell (p := ⟨XF, 0, none⟩) (.inl rfl) _).setCell (p := ⟨XF, 1, none⟩) (.inl rfl) _
              have RlOr := hide (RlOr.out.upd hs FlOr.out)
              have RmOr := hide (RmOr.out.upd hs FmOr.out)
              have ElOr := hide (ElOr.out.store HF.out hs)
              have M := hide (new_set2 (u := .int .i64 (D.1 : Nat)) (v := .int .i64 D.2) M.out HX.out)
              have HF := hide (fault_set (u := .int .i64 (D.1 : Nat)) (v := .int .i64 D.2) HF.out)
              clear hs f0 f1 fr0 fr1 fz
              generalize (w12.setCell ⟨XF, 0, none⟩ (.int .i64 (D.1 : Nat))).setCell ⟨XF, 1, none⟩ (.int .i64 D.2) = wsOr at *
              have bq := HF.out
              have f0 := bq.cell 0
              have f1 := bq.cell 1
              have fr0 := bq.frozen 0
              have fr1 := bq.frozen 1
              have fz := bq.lt
              simp only [List.getElem?_toArray, List.getElem?_cons_zero, List.getElem?_cons_succ] at f0 f1
              clear bq
              go_wp2_with fail
              refine (faulted_same1 erlOr D _ E (Er.out.new M.out) ElOr.out).mono ?_
              rintro e w13 ⟨rfl, hu⟩
              have RlOr := hide (RlOr.out.new_ hu)
              have RmOr := hide (RmOr.out.new_ hu)
              have ElOr := hide (ElOr.out.new hu)
              have HF := hide (HF.out.new_ hu)
              have M := hide (M.out.trans_new hu)
              clear hu
              clear f0 f1 fr0 fr1 fz
              have hs := samePrefixes_any AlOr AmOr lOr.length mOr.length clOr cmOr lOr mOr _ RlOr.out RmOr.out rfl rfl (by have := LlOr.out; omega) LmOr.out
              rw [sets_same BlOr.out PlOr.out BmOr.out PmOr.out fun _ _ => rfl] at hs
              have Hs := hide hs
              clear hs
              go_wp2_with fail
              refine (Hs.out).mono ?_
              rintro e w14 ⟨rfl, hu⟩
              have RlOr := hide (RlOr.out.new_ hu)
              have RmOr := hide (RmOr.out.new_ hu)
              have ElOr := hide (ElOr.out.new hu)
              have HF := hide (HF.out.new_ hu)
              have M := hide (M.out.trans_new hu)
              clear hu
              clear Hs
              go_wp2_with fail
              clear RlOr RmOr ElOr LlOr LmOr BlOr BmOr PlOr PmOr FlOr FmOr
              as_aux_lemma =>
                refine ((setAnd_any Ap Aq n0 cp n1 cq a b E _ (HT.out.new M.out) (Er.out.new M.out).s2 (Er.out.new M.out).s3 (Rp.out.new_ M.out) Hn0.out (Rq.out.new_ M.out) Hn1.out (by omega) (by omega)).mono fun _ _ h => h.setR).mono ?_
                rintro e w15 ⟨AlAnd, clAnd, lAnd, erlAnd, rfl, her, hu, hr, hfr, hl, hb, hg⟩
                have FlAnd := hide (show ∀ b o, AlAnd = some ⟨b, o, none⟩ → ¬ b = XF from fun b o h e => by have := hfr b o h; have := HF.out.lt; omega)
                clear hfr
                have HF := hide (HF.out.new_ hu)
                have M := hide (M.out.trans_new hu)
                clear hu
                have RlAnd := hide hr
                have LlAnd := hide hl
                have BlAnd := hide hb
                have PlAnd := hide hg
                have ElAnd := hide her
                clear hr hl hb hg her
                go_wp2_with fail
                have bq := HF.out
                have f0 := bq.cell 0
                have f1 := bq.cell 1
                have fr0 := bq.frozen 0
                have fr1 := bq.frozen 1
                have fz := bq.lt
                simp only [List.getElem?_toArray, List.getElem?_cons_zero, List.getElem?_cons_succ] at f0 f1
                clear bq
                refine (setOf_any 1 (fun x y => x && y) wanted1_any A0 A1 n0 c0 n1 c1 a b _ (Ra.out.new_ M.out) Hn0.out (Rb.out.new_ M.out) Hn1.out (by omega) (by omega)).mono ?_
                rintro e w16 ⟨AmAnd, cmAnd, mAnd, rfl, hu, hr, hfr, hl, hb, hg⟩
                have FmAnd := hide (show ∀ b o, AmAnd = some ⟨b, o, none⟩ → ¬ b = XF from fun b o h e => by have := hfr b o h; have := HF.out.lt; omega)
                clear hfr
                have RlAnd := hide (RlAnd.out.new_ hu)
                have ElAnd := hide (ElAnd.out.new hu)
                have HF := hide (HF.out.new_ hu)
                have M := hide (M.out.trans_new hu)
                clear hu
                have RmAnd := hide hr
                have LmAnd := hide hl
                have BmAnd := hide hb
                have PmAnd := hide hg
                clear hr hl hb hg
                unfold faultV
                clear f0 f1 fr0 fr1 fz
                obtain ⟨D, hD⟩ : ∃ D, D = twoC a b := ⟨_, rfl⟩
                rw [← hD]
                rw [← hD] at BlAnd BmAnd PlAnd PmAnd ElAnd
                clear hD
                have bq := HF.out
                have f0 := bq.cell 0
                have f1 := bq.cell 1
                have fr0 := bq.frozen 0
                have fr1 := bq.frozen 1
                have fz := bq.lt
                simp only [List.getElem?_toArray, List.getElem?_cons_zero, List.getElem?_cons_succ] at f0 f1
                clear bq
                go_upto_region 25 with (fail)
                have hs : Upd (fun z => z = XF) w16 ((w16.setCell ⟨XF, 0, none⟩ (.int .i64 (D.1 : Nat))).setCell ⟨XF, 1, none⟩ (.int .i64 D.2)) := ((Upd.refl (fun z => z = XF) w16).setCell (p := ⟨XF, 0, none⟩) (.inl rfl) _).setCell (p := ⟨XF, 1, none⟩) (.inl rfl) _
                have RlAnd := hide (RlAnd.out.upd hs FlAnd.out)
                have RmAnd := hide (RmAnd.out.upd hs FmAnd.out)
                have ElAnd := hide (ElAnd.out.store HF.out hs)
                have M := hide (new_set2 (u := .int .i64 (D.1 : Nat)) (v := .int .i64 D.2) M.out HX.out)
                have HF := hide (fault_set (u := .int .i64 (D.1 : Nat)) (v := .int .i64 D.2) HF.out)
                clear hs f0 f1 fr0 fr1 fz
                generalize (w16.setCell ⟨XF, 0, none⟩ (.int .i64 (D.1 : Nat))).setCell ⟨XF, 1, none⟩ (.int .i64 D.2) = wsAnd at *
                have bq := HF.out
                have f0 := bq.cell 0
                have f1 := bq.cell 1
                have fr0 := bq.frozen 0
                have fr1 := bq.frozen 1
                have fz := bq.lt
                simp only [List.getElem?_toArray, List.getElem?_cons_zero, List.getElem?_cons_succ] at f0 f1
                clear bq
                go_wp2_with fail
                refine (faulted_same1 erlAnd D _ E (Er.out.new M.out) ElAnd.out).mono ?_
                rintro e w17 ⟨rfl, hu⟩
                have RlAnd := hide (RlAnd.out.new_ hu)
                have RmAnd := hide (RmAnd.out.new_ hu)
                have ElAnd := hide (ElAnd.out.new hu)
                have HF := hide (HF.out.new_ hu)
                have M := hide (M.out.trans_new hu)
                clear hu
                clear f0 f1 fr0 fr1 fz
                have hs := samePrefixes_any AlAnd AmAnd lAnd.length mAnd.length clAnd cmAnd lAnd mAnd _ RlAnd.out RmAnd.out rfl rfl (by have := LlAnd.out; omega) LmAnd.out
                rw [sets_same BlAnd.out PlAnd.out BmAnd.out PmAnd.out fun _ _ => rfl] at hs
                have Hs := hide hs
                clear hs
                go_wp2_with fail
                refine (Hs.out).mono ?_
                rintro e w18 ⟨rfl, hu⟩
                have RlAnd := hide (RlAnd.out.new_ hu)
                have RmAnd := hide (RmAnd.out.new_ hu)
                have ElAnd := hide (ElAnd.out.new hu)
                have HF := hide (HF.out.new_ hu)
                have M := hide (M.out.trans_new hu)
                clear hu
                clear Hs
                go_wp2_with fail
                clear RlAnd RmAnd ElAnd LlAnd LmAnd BlAnd BmAnd PlAnd PmAnd FlAnd FmAnd
                as_aux_lemma =>
                  refine ((setNot_any Ap Aq n0 cp n1 cq a b E _ (HT.out.new M.out) (Er.out.new M.out).s2 (Er.out.new M.out).s3 (Rp.out.new_ M.out) Hn0.out (Rq.out.new_ M.out) Hn1.out (by omega) (by omega)).mono fun _ _ h => h.setR).mono ?_
                  rintro e w19 ⟨AlNot, clNot, lNot, erlNot, rfl, her, hu, hr, hfr, hl, hb, hg⟩
                  have FlNot := hide (show ∀ b o, AlNot = some ⟨b, o, none⟩ → ¬ b = XF from fun b o h e => by have := hfr b o h; have := HF.out.lt; omega)
                  clear hfr
                  have HF := hide (HF.out.new_ hu)
                  have M := hide (M.out.trans_new hu)
                  clear hu
                  have RlNot := hide hr
                  have LlNot := hide hl
                  have BlNot := hide hb
                  have PlNot := hide hg
                  have ElNot := hide her
                  clear hr hl hb hg her
                  go_wp2_with fail
                  have bq := HF.out
                  have f0 := bq.cell 0
                  have f1 := bq.cell 1
                  have fr0 := bq.frozen 0
                  have fr1 := bq.frozen 1
                  have fz := bq.lt
                  simp only [List.getElem?_toArray, List.getElem?_cons_zero, List.getElem?_cons_succ] at f0 f1
                  clear bq
                  refine (setOf_any 3 (fun x y => x && !y) wanted3_any A0 A1 n0 c0 n1 c1 a b _ (Ra.out.new_ M.out) Hn0.out (Rb.out.new_ M.out) Hn1.out (by omega) (by omega)).mono ?_
                  rintro e w20 ⟨AmNot, cmNot, mNot, rfl, hu, hr, hfr, hl, hb, hg⟩
                  have FmNot := hide (show ∀ b o, AmNot = some ⟨b, o, none⟩ → ¬ b = XF from fun b o h e => by have := hfr b o h; have := HF.out.lt; omega)
                  clear hfr
                  have RlNot := hide (RlNot.out.new_ hu)
                  have ElNot := hide (ElNot.out.new hu)
                  have HF := hide (HF.out.new_ hu)
                  have M := hide (M.out.trans_new hu)
                  clear hu
                  have RmNot := hide hr
                  have LmNot := hide hl
                  have BmNot := hide hb
                  have PmNot := hide hg
                  clear hr hl hb hg
                  unfold faultV
                  clear f0 f1 fr0 fr1 fz
                  obtain ⟨D, hD⟩ : ∃ D, D = twoC a b := ⟨_, rfl⟩
                  rw [← hD]
                  rw [← hD] at BlNot BmNot PlNot PmNot ElNot
                  clear hD
                  have bq := HF.out
                  have f0 := bq.cell 0
                  have f1 := bq.cell 1
                  have fr0 := bq.frozen 0
                  have fr1 := bq.frozen 1
                  have fz := bq.lt
                  simp only [List.getElem?_toArray, List.getElem?_cons_zero, List.getElem?_cons_succ] at f0 f1
                  clear bq
                  go_upto_region 29 with (fail)
                  have hs : Upd (fun z => z = XF) w20 ((w20.setCell ⟨XF, 0, none⟩ (.int .i64 (D.1 : Nat))).setCell ⟨XF, 1, none⟩ (.int .i64 D.2)) := ((Upd.refl (fun z => z = XF) w20).setCell (p := ⟨XF, 0, none⟩) (.inl rfl) _).setCell (p := ⟨XF, 1, none⟩) (.inl rfl) _
                  have RlNot := hide (RlNot.out.upd hs FlNot.out)
                  have RmNot := hide (RmNot.out.upd hs FmNot.out)
                  have ElNot := hide (ElNot.out.store HF.out hs)
                  have M := hide (new_set2 (u := .int .i64 (D.1 : Nat)) (v := .int .i64 D.2) M.out HX.out)
                  have HF := hide (fault_set (u := .int .i64 (D.1 : Nat)) (v := .int .i64 D.2) HF.out)
                  clear hs f0 f1 fr0 fr1 fz
                  generalize (w20.setCell ⟨XF, 0, none⟩ (.int .i64 (D.1 : Nat))).setCell ⟨XF, 1, none⟩ (.int .i64 D.2) = wsNot at *
                  have bq := HF.out
                  have f0 := bq.cell 0
                  have f1 := bq.cell 1
                  have fr0 := bq.frozen 0
                  have fr1 := bq.frozen 1
                  have fz := bq.lt
                  simp only [List.getElem?_toArray, List.getElem?_cons_zero, List.getElem?_cons_succ] at f0 f1
                  clear bq
                  go_wp2_with fail
                  refine (faulted_same1 erlNot D _ E (Er.out.new M.out) ElNot.out).mono ?_
                  rintro e w21 ⟨rfl, hu⟩
                  have RlNot := hide (RlNot.out.new_ hu)
                  have RmNot := hide (RmNot.out.new_ hu)
                  have ElNot := hide (ElNot.out.new hu)
                  have HF := hide (HF.out.new_ hu)
                  have M := hide (M.out.trans_new hu)
                  clear hu
                  clear f0 f1 fr0 fr1 fz
                  have hs := samePrefixes_any AlNot AmNot lNot.length mNot.length clNot cmNot lNot mNot _ RlNot.out RmNot.out rfl rfl (by have := LlNot.out; omega) LmNot.out
                  rw [sets_same BlNot.out PlNot.out BmNot.out PmNot.out fun _ _ => rfl] at hs
                  have Hs := hide hs
                  clear hs
                  go_wp2_with fail
                  refine (Hs.out).mono ?_
                  rintro e w22 ⟨rfl, hu⟩
                  have RlNot := hide (RlNot.out.new_ hu)
                  have RmNot := hide (RmNot.out.new_ hu)
                  have ElNot := hide (ElNot.out.new hu)
                  have HF := hide (HF.out.new_ hu)
                  have M := hide (M.out.trans_new hu)
                  clear hu
                  clear Hs
                  have hs := samePrefixes_any Ap A0 n0 n0 cp c0 a a _ (Rp.out.new_ M.out) (Ra.out.new_ M.out) Hn0.out Hn0.out (by omega) (by omega)
                  rw [(sameL_iff a a).2 rfl] at hs
                  have Hs := hide hs
                  clear hs
                  go_wp2_with fail
                  refine Hs.out.mono ?_
                  rintro e wz ⟨rfl, hu⟩
                  have N := hide ((N.out.trans_new M.out).trans_new hu)
                  clear hu
                  go_wp2_with fail
                  go_ret
                  exact ⟨rfl, N.out⟩
end Go.Proofs.YtignngpligicjaaGreatDoor

/- The law AttrTells: its walk. No condition but those that stand in each theorem. -/
import Derived.Test.YtignngpligicjaaGreatDoorRa1
import Derived.Test.YtignngpligicjaaGreatDoorRq3
import Derived.Test.YtignngpligicjaaGreatDoorRuC
import Derived.Test.YtignngpligicjaaGreatDoorInI
import Derived.Test.YtignngpligicjaaGreatDoorCd1
namespace Go.Proofs.YtignngpligicjaaGreatDoor
open Go.RowKit

theorem good_len {x : AtC} (h : x.good ∨ x = zeroC) : x.path.length ≤ 1000 ∧ x.tags.length ≤ 1000 := by
  rcases h with h | rfl
  · have := h.pl; have := h.tl; omega
  · exact ⟨by show 0 ≤ 1000; omega, by show 0 ≤ 1000; omega⟩
theorem readC_con (x : AtC) : (readC x).2.good ∨ (readC x).2 = zeroC := by
  unfold readC
  split
  · rename_i h; exact .inl (conC_good h)
  · exact .inr rfl
theorem readT_con (l : List UInt8) : (readT l).2.good ∨ (readT l).2 = zeroC := by
  unfold readT
  split
  · unfold readW
    split
    · exact readC_con _
    · exact .inr rfl
  · exact .inr rfl
theorem readT_le (l : List UInt8) : (readT l).1 ≤ 9 := by
  unfold readT
  split
  · unfold readW
    split
    · exact readC_le _
    · exact (by omega : 1 ≤ 9)
  · exact (by omega : 1 ≤ 9)
theorem leadX_con (x : AtC) (s n : Int) : (leadX x s n).good ∨ leadX x s n = zeroC := by
  by_cases h : leadK x s n = 0
  · exact .inl (leadX_good h)
  · exact .inr (leadX_err h)
theorem tagX_con (x : AtC) (t : Int) : (tagX x t).good ∨ tagX x t = zeroC := by
  by_cases h : tagK x t = 0
  · exact .inl (tagX_good h)
  · exact .inr (tagX_err h)
theorem leadK_le9 (x : AtC) (s n : Int) : leadK x s n ≤ 9 := by
  have := conC_le x
  unfold leadK
  split
  · omega
  · split
    · omega
    · split <;> omega
theorem tagK_le9 (x : AtC) (t : Int) : tagK x t ≤ 9 := by
  have := conC_le x
  unfold tagK
  split
  · omega
  · split
    · omega
    · split <;> omega
theorem con_len {a : AttrR} {x : AtC} (h : a.con = x) (hx : x.path.length ≤ 1000 ∧ x.tags.length ≤ 1000) : a.path.length ≤ 1000 ∧ a.tags.length ≤ 1000 := by
  subst h; exact hx
/-- A store into one block leaves what is told as it is, if its rows lie elsewhere. -/
theorem ok_store {w : World} {a : AttrR} {M : Nat} {y0 y1 y2 y3 y4 : Value} (h : AttrOk w a) (hp : ∀ b q, a.P = some ⟨b, q, none⟩ → b ≠ M) (ht : ∀ b q, a.T = some ⟨b, q, none⟩ → b ≠ M) :
    AttrOk (((((w.setCell ⟨M, 0, none⟩ y0).setCell ⟨M, 1, none⟩ y1).setCell ⟨M, 2, none⟩ y2).setCell ⟨M, 3, none⟩ y3).setCell ⟨M, 4, none⟩ y4) a :=
  ⟨h.path.upd (set5_one w M _ _ _ _ _) hp, h.tags.upd (set5_one w M _ _ _ _ _) ht, h.pl, h.tl⟩
/-- Rows that read lie below the heap's end, or there are none. -/
def Low (N : Nat) (a : AttrR) : Prop := (∀ b q, a.P = some ⟨b, q, none⟩ → b < N ∨ a.path = []) ∧ (∀ b q, a.T = some ⟨b, q, none⟩ → b < N ∨ a.tags = [])
theorem ok_store2 {w : World} {a : AttrR} {M : Nat} {y0 y1 y2 y3 y4 : Value} (h : AttrOk w a) (hp : ∀ b q, a.P = some ⟨b, q, none⟩ → b ≠ M ∨ a.path = []) (ht : ∀ b q, a.T = some ⟨b, q, none⟩ → b ≠ M ∨ a.tags = []) :
    AttrOk (((((w.setCell ⟨M, 0, none⟩ y0).setCell ⟨M, 1, none⟩ y1).setCell ⟨M, 2, none⟩ y2).setCell ⟨M, 3, none⟩ y3).setCell ⟨M, 4, none⟩ y4) a := by
  refine ⟨fun h0 => ?_, fun h0 => ?_, h.pl, h.tl⟩
  · exact h.path.upd (set5_one w M y0 y1 y2 y3 y4) (fun b q e => by
      rcases hp b q e with h1 | h1
      · exact h1
      · rw [h1] at h0; exact absurd h0 (by simp)) h0
  · exact h.tags.upd (set5_one w M y0 y1 y2 y3 y4) (fun b q e => by
      rcases ht b q e with h1 | h1
      · exact h1
      · rw [h1] at h0; exact absurd h0 (by simp)) h0
theorem ok_low {w : World} {a : AttrR} (h : AttrOk w a) : Low w.heap.size a := by
  refine ⟨fun b q e => ?_, fun b q e => ?_⟩
  · by_cases h0 : 0 < a.path.length
    · obtain ⟨b', o', e', hb, _⟩ := h.path h0
      rw [e] at e'
      injection e' with e'
      injection e' with e1 _ _
      subst e1
      exact .inl hb
    · exact .inr (List.length_eq_zero_iff.1 (by omega))
  · by_cases h0 : 0 < a.tags.length
    · obtain ⟨b', o', e', hb, _⟩ := h.tags h0
      rw [e] at e'
      injection e' with e'
      injection e' with e1 _ _
      subst e1
      exact .inl hb
    · exact .inr (List.length_eq_zero_iff.1 (by omega))
theorem set5_New {w w2 : World} {R : Nat} {y0 y1 y2 y3 y4 : Value} (h : New w w2) (hR : w.heap.size ≤ R) : New w (((((w2.setCell ⟨R, 0, none⟩ y0).setCell ⟨R, 1, none⟩ y1).setCell ⟨R, 2, none⟩ y2).setCell ⟨R, 3, none⟩ y3).setCell ⟨R, 4, none⟩ y4) := set5_new h hR
theorem errs_low {E : Nat → Addr} {k : Nat} (h : k ≤ 9) (w : World) : ErrV w E (errc E k) k (-1) := ErrV.errc h

set_option maxRecDepth 30000 in
set_option maxHeartbeats 2000000 in
theorem attrTells_any (a b : AttrR) (s : ByteArray) (i n : Int) (E : Nat → Addr) (w : World) (ht : TxtOk w) (he : Errs w E) (ha : AttrOk w a) (hb : AttrOk w b) :
    Calls Tryz.prog 5 #[.agg a.cells, .agg b.cells, .string s, .int .i64 i, .int .i64 n] w fun e w1 => e = .returned (.bool true) ∧ New w w1 := by
  have u := ((Upd.refl (fun _ => False) w).alloc (.cells a.cells TA)).alloc (.cells b.cells TA)
  have b0 := (Blk.new w TA a.cells).alloc (.cells b.cells TA)
  have b1 := Blk.at_ (w.alloc (.cells a.cells TA)) TA b.cells (w.heap.size + 1) (by simp)
  have HT := hide (ht.new u)
  have HE := hide (he.new u)
  have HA := hide (ha.new_ u)
  have HB := hide (hb.new_ u)
  have HXa := hide b0
  have HXb := hide b1
  have N := hide u
  have M := hide (Upd.refl (fun _ => False) ((w.alloc (.cells a.cells TA)).alloc (.cells b.cells TA)))
  clear ht he ha hb u b0 b1
  have hac : a.cells = #[.slice a.P a.path.length a.pc, .int .i64 a.pref, .int .i64 a.med, .int .i64 a.origin, .slice a.T a.tags.length a.tc] := rfl
  have hbc : b.cells = #[.slice b.P b.path.length b.pc, .int .i64 b.pref, .int .i64 b.med, .int .i64 b.origin, .slice b.T b.tags.length b.tc] := rfl
  rw [hac, hbc] at HXa HXb HT HE HA HB N M ⊢
  clear hac hbc
  go_enter Tryz.func5, Tryz.ntmps5
  go_upto_region 1 with (fail)
  generalize (w.alloc (.cells #[.slice a.P a.path.length a.pc, .int .i64 a.pref, .int .i64 a.med, .int .i64 a.origin, .slice a.T a.tags.length a.tc] TA)).alloc (.cells #[.slice b.P b.path.length b.pc, .int .i64 b.pref, .int .i64 b.med, .int .i64 b.origin, .slice b.T b.tags.length b.tc] TA) = W at *
  have Htd := hide (told_any E W HT.out HE.out.s1 HE.out.s2 HE.out.s7 HE.out.s8)
  go_wp2_with fail
  refine Htd.out.mono ?_
  rintro e w1 ⟨rfl, hu⟩
  have M := hide (M.out.trans_new hu)
  clear hu Htd
  have bq := HXa.out.new_ M.out
  have p0 := bq.cell 0
  have p1 := bq.cell 1
  have p2 := bq.cell 2
  have p3 := bq.cell 3
  have p4 := bq.cell 4
  have pz := bq.lt
  simp only [List.getElem?_toArray, List.getElem?_cons_zero, List.getElem?_cons_succ] at p0 p1 p2 p3 p4
  clear bq
  have bq := HXb.out.new_ M.out
  have q0 := bq.cell 0
  have q1 := bq.cell 1
  have q2 := bq.cell 2
  have q3 := bq.cell 3
  have q4 := bq.cell 4
  have qz := bq.lt
  simp only [List.getElem?_toArray, List.getElem?_cons_zero, List.getElem?_cons_succ] at q0 q1 q2 q3 q4
  clear bq
  go_upto_region 2 with (fail)
  have hla : ∃ x : Int, (x = 0 ∨ x = 1) ∧ (x = 0 → a.path.length ≤ 20 ∧ a.tags.length ≤ 15) ∧ ∀ w', Calls Tryz.prog 41 #[.agg a.cells] w' fun e w2 => e = .returned (.int .i64 x) ∧ New w' w2 := by
    by_cases h : 20 < a.path.length ∨ 15 < a.tags.length
    · exact ⟨1, .inr rfl, fun h => absurd h (by omega), fun w' => longAttr_yes a w' h⟩
    · exact ⟨0, .inl rfl, fun _ => by omega, fun w' => longAttr_no a w' (by omega) (by omega)⟩
  have hlb : ∃ x : Int, (x = 0 ∨ x = 1) ∧ (x = 0 → b.path.length ≤ 20 ∧ b.tags.length ≤ 15) ∧ ∀ w', Calls Tryz.prog 41 #[.agg b.cells] w' fun e w2 => e = .returned (.int .i64 x) ∧ New w' w2 := by
    by_cases h : 20 < b.path.length ∨ 15 < b.tags.length
    · exact ⟨1, .inr rfl, fun h => absurd h (by omega), fun w' => longAttr_yes b w' h⟩
    · exact ⟨0, .inl rfl, fun _ => by omega, fun w' => longAttr_no b w' (by omega) (by omega)⟩
  obtain ⟨la, ha01, ha0, hla⟩ := hla
  obtain ⟨lb, hb01, hb0, hlb⟩ := hlb
  unfold AttrR.cells at hla hlb
  have Hla := hide hla
  have Hlb := hide hlb
  have Ha0 := hide ha0
  have Hb0 := hide hb0
  have iw : IntKind.i64.wrap (la + lb) = la + lb := IntWalk.i64_in _ (by omega)
  clear hla hlb ha0 hb0
  go_cut [36] (fun v36_ wc => v36_ = .bool (decide (0 < la + lb ∨ 150 < s.size)) ∧ New w1 wc)
  case first =>
    by_cases h1 : 0 < la + lb
    · have i1 : decide (0 < la + lb) = true := decide_eq_true h1
      have H1 := hide h1
      clear ha01 hb01
      refine wp_region_new w1 (Upd.refl _ _) (by kernel_rfl) (by kernel_rfl) ?_
      repeat (go_big_quiet_step (first | (go_at_call_of 41 (Value.agg #[.slice a.P a.path.length a.pc, .int .i64 a.pref, .int .i64 a.med, .int .i64 a.origin, .slice a.T a.tags.length a.tc]); exact new_call (Hla.out _)) | (go_at_call_of 41 (Value.agg #[.slice b.P b.path.length b.pc, .int .i64 b.pref, .int .i64 b.med, .int .i64 b.origin, .slice b.T b.tags.length b.tc]); exact new_call (Hlb.out _))))
      refine wpQuiet_nil ?_
      rintro _ ⟨nq, rfl⟩
      go_wp2_with fail
      all_goals
        go_meet
        case rel => exact ⟨by rw [decide_eq_true (.inl H1.out)], nq.h⟩
    · have i1 : decide (0 < la + lb) = false := decide_eq_false h1
      by_cases h2 : 150 < s.size
      · have i2 : decide ((150 : Int) < (s.size : Int)) = true := decide_eq_true (by omega)
        have H2 := hide h2
        clear ha01 hb01 h1
        refine wp_region_new w1 (Upd.refl _ _) (by kernel_rfl) (by kernel_rfl) ?_
        repeat (go_big_quiet_step (first | (go_at_call_of 41 (Value.agg #[.slice a.P a.path.length a.pc, .int .i64 a.pref, .int .i64 a.med, .int .i64 a.origin, .slice a.T a.tags.length a.tc]); exact new_call (Hla.out _)) | (go_at_call_of 41 (Value.agg #[.slice b.P b.path.length b.pc, .int .i64 b.pref, .int .i64 b.med, .int .i64 b.origin, .slice b.T b.tags.length b.tc]); exact new_call (Hlb.out _))))
        refine wpQuiet_nil ?_
        rintro _ ⟨nq, rfl⟩
        go_wp2_with fail
        all_goals
          go_meet
          case rel => exact ⟨by rw [decide_eq_true (.inr H2.out)], nq.h⟩
      · have i2 : decide ((150 : Int) < (s.size : Int)) = false := decide_eq_false (by omega)
        have H2 := hide (show ¬ (0 < la + lb ∨ 150 < s.size) from fun h => h.elim h1 h2)
        clear ha01 hb01 h1 h2
        refine wp_region_new w1 (Upd.refl _ _) (by kernel_rfl) (by kernel_rfl) ?_
        repeat (go_big_quiet_step (first | (go_at_call_of 41 (Value.agg #[.slice a.P a.path.length a.pc, .int .i64 a.pref, .int .i64 a.med, .int .i64 a.origin, .slice a.T a.tags.length a.tc]); exact new_call (Hla.out _)) | (go_at_call_of 41 (Value.agg #[.slice b.P b.path.length b.pc, .int .i64 b.pref, .int .i64 b.med, .int .i64 b.origin, .slice b.T b.tags.length b.tc]); exact new_call (Hlb.out _))))
        refine wpQuiet_nil ?_
        rintro _ ⟨nq, rfl⟩
        go_wp2_with fail
        all_goals
          go_meet
          case rel => exact ⟨by rw [decide_eq_false H2.out], nq.h⟩
  obtain ⟨rfl, hu⟩ := hcut
  have M := hide (M.out.trans_new hu)
  clear hu Hla Hlb iw
  clear p0 p1 p2 p3 p4 pz
  clear q0 q1 q2 q3 q4 qz
  by_cases hbig : 0 < la + lb ∨ 150 < s.size
  · rw [decide_eq_true hbig]
    go_wp2_with fail
    go_ret
    exact ⟨rfl, N.out.trans_new M.out⟩
  rw [decide_eq_false hbig]
  obtain ⟨la1, la2⟩ := Ha0.out (by omega)
  obtain ⟨lb1, lb2⟩ := Hb0.out (by omega)
  have hss : s.size ≤ 150 := by omega
  clear hbig ha01 hb01 Ha0 Hb0
  have bq := HXa.out.new_ M.out
  have p0 := bq.cell 0
  have p1 := bq.cell 1
  have p2 := bq.cell 2
  have p3 := bq.cell 3
  have p4 := bq.cell 4
  have pz := bq.lt
  simp only [List.getElem?_toArray, List.getElem?_cons_zero, List.getElem?_cons_succ] at p0 p1 p2 p3 p4
  clear bq
  go_wp2_with fail
  refine (ownAttr_any a wc (HA.out.new_ M.out) (by omega) (by omega)).mono ?_
  rintro e w3 ⟨o, rfl, hco, hok, _, hu⟩
  rw [show o.cells = #[.slice o.P o.path.length o.pc, .int .i64 o.pref, .int .i64 o.med, .int .i64 o.origin, .slice o.T o.tags.length o.tc] from rfl]
  have M := hide (M.out.trans_new hu)
  clear hu
  clear p0 p1 p2 p3 p4 pz
  go_upto_region 5 with (fail)
  have u := (Upd.refl (fun _ => False) w3).alloc (.cells #[.slice o.P o.path.length o.pc, .int .i64 o.pref, .int .i64 o.med, .int .i64 o.origin, .slice o.T o.tags.length o.tc] TA)
  have HO := hide (hok.new_ u)
  have HXo := hide (Blk.new w3 TA #[.slice o.P o.path.length o.pc, .int .i64 o.pref, .int .i64 o.med, .int .i64 o.origin, .slice o.T o.tags.length o.tc])
  have m := M.out.trans_new u
  have HT := hide (HT.out.new m)
  have HE := hide (HE.out.new m)
  have HA := hide (HA.out.new_ m)
  have HB := hide (HB.out.new_ m)
  have HXa := hide (HXa.out.new_ m)
  have HXb := hide (HXb.out.new_ m)
  have N := hide (N.out.trans_new m)
  have HC := hide hco
  have lo1 : o.path.length ≤ 20 := by have := congrArg AtC.path hco; have : o.path = a.path := this; rw [this]; exact la1
  have lo2 : o.tags.length ≤ 15 := by have := congrArg AtC.tags hco; have : o.tags = a.tags := this; rw [this]; exact la2
  clear u hok m M hco
  generalize w3.alloc (.cells #[.slice o.P o.path.length o.pc, .int .i64 o.pref, .int .i64 o.med, .int .i64 o.origin, .slice o.T o.tags.length o.tc] TA) = W3 at *
  generalize w3.heap.size = Xo at *
  generalize w.heap.size = Xa at *
  have M := hide (Upd.refl (fun _ => False) W3)
  go_cut [52] (fun v52_ wc => v52_ = .bool false ∧ New W3 wc)
  case first =>
    have hC : attrC o = attrC a := by rw [attrC_con, attrC_con, HC.out]
    have hTt : attrT o = attrT a := by
      have e : ∀ z : AttrR, attrT z = if (conC z.con).1 = 0 then attrW z.con.path z.con.pref z.con.med z.con.origin z.con.tags else [] := fun _ => rfl
      rw [e, e, HC.out]
    have c1 := fun w' (nw : New W3 w') => attrCheck_any o E w' (HE.out.new nw).s2 (HE.out.new nw).s7 (HE.out.new nw).s8 (HO.out.new_ nw) (by omega) (by omega)
    have c2 := fun w' (nw : New W3 w') => attrFault_any a w' (HA.out.new_ nw) (by omega) (by omega)
    have c3 := fun w' (nw : New W3 w') (v : Value) (hv : ErrV w' E v (attrC a).1 (attrC a).2) => (faulted1_any v (attrC a).1 (attrC a).2 (attrC a).1 (attrC a).2 w' E (HE.out.new nw) hv).mono (R' := fun e w2 => e = .returned (.bool true) ∧ New w' w2) fun e w2 hh => ⟨by rw [hh.1, decide_eq_true ⟨rfl, .inr rfl⟩], hh.2⟩
    have c4 := fun w' (nw : New W3 w') => attrText_any o E w' (HT.out.new nw) (HE.out.new nw).s2 (HE.out.new nw).s7 (HE.out.new nw).s8 (HO.out.new_ nw) (by omega) (by omega)
    have c5 := fun w' (nw : New W3 w') => attrTextRef_any a w' (HA.out.new_ nw) (by omega) (by omega)
    rw [hC] at c1
    rw [hTt] at c4
    clear hC hTt
    generalize attrT a = T at *
    generalize attrC a = C at *
    obtain ⟨C1, C2⟩ := C
    unfold faultV at c2
    unfold AttrR.cells at c1 c2 c4 c5
    dsimp only at c1 c2 c3
    have D1 := hide c1
    have D2 := hide c2
    have D3 := hide c3
    have D4 := hide c4
    have D5 := hide c5
    clear c1 c2 c3 c4 c5
    have bq := HXa.out
    have p0 := bq.cell 0
    have p1 := bq.cell 1
    have p2 := bq.cell 2
    have p3 := bq.cell 3
    have p4 := bq.cell 4
    have pz := bq.lt
    simp only [List.getElem?_toArray, List.getElem?_cons_zero, List.getElem?_cons_succ] at p0 p1 p2 p3 p4
    clear bq
    have bq := HXo.out
    have o0 := bq.cell 0
    have o1 := bq.cell 1
    have o2 := bq.cell 2
    have o3 := bq.cell 3
    have o4 := bq.cell 4
    have oz := bq.lt
    simp only [List.getElem?_toArray, List.getElem?_cons_zero, List.getElem?_cons_succ] at o0 o1 o2 o3 o4
    clear bq
    have Kp := hide (show ∀ w', New W3 w' → w'.cell? ⟨Xa, 0, none⟩ = some (.slice a.P a.path.length a.pc) ∧ w'.cell? ⟨Xa, 1, none⟩ = some (.int .i64 a.pref) ∧ w'.cell? ⟨Xa, 2, none⟩ = some (.int .i64 a.med) ∧ w'.cell? ⟨Xa, 3, none⟩ = some (.int .i64 a.origin) ∧ w'.cell? ⟨Xa, 4, none⟩ = some (.slice a.T a.tags.length a.tc) ∧ w'.cell? ⟨Xo, 0, none⟩ = some (.slice o.P o.path.length o.pc) ∧ w'.cell? ⟨Xo, 1, none⟩ = some (.int .i64 o.pref) ∧ w'.cell? ⟨Xo, 2, none⟩ = some (.int .i64 o.med) ∧ w'.cell? ⟨Xo, 3, none⟩ = some (.int .i64 o.origin) ∧ w'.cell? ⟨Xo, 4, none⟩ = some (.slice o.T o.tags.length o.tc) from fun w' hu => ⟨(hu.cell pz (fun x => x)).trans p0, (hu.cell pz (fun x => x)).trans p1, (hu.cell pz (fun x => x)).trans p2, (hu.cell pz (fun x => x)).trans p3, (hu.cell pz (fun x => x)).trans p4, (hu.cell oz (fun x => x)).trans o0, (hu.cell oz (fun x => x)).trans o1, (hu.cell oz (fun x => x)).trans o2, (hu.cell oz (fun x => x)).trans o3, (hu.cell oz (fun x => x)).trans o4⟩)
    go_region_held3 (fun w' => w'.cell? ⟨Xa, 0, none⟩ = some (.slice a.P a.path.length a.pc) ∧ w'.cell? ⟨Xa, 1, none⟩ = some (.int .i64 a.pref) ∧ w'.cell? ⟨Xa, 2, none⟩ = some (.int .i64 a.med) ∧ w'.cell? ⟨Xa, 3, none⟩ = some (.int .i64 a.origin) ∧ w'.cell? ⟨Xa, 4, none⟩ = some (.slice a.T a.tags.length a.tc) ∧ w'.cell? ⟨Xo, 0, none⟩ = some (.slice o.P o.path.length o.pc) ∧ w'.cell? ⟨Xo, 1, none⟩ = some (.int .i64 o.pref) ∧ w'.cell? ⟨Xo, 2, none⟩ = some (.int .i64 o.med) ∧ w'.cell? ⟨Xo, 3, none⟩ = some (.int .i64 o.origin) ∧ w'.cell? ⟨Xo, 4, none⟩ = some (.slice o.T o.tags.length o.tc))
      (first | go_keep | exact Kp.out _ U8.out | exact Kp.out _ U7.out | exact Kp.out _ U6.out | exact Kp.out _ U5.out | exact Kp.out _ U4.out)
      (first
        | (go_at_call 46; refine (D5.out _ U7.out).mono ?_; rintro e w8 ⟨rfl, hu8⟩; have U8 := hide (U7.out.trans_new hu8); clear hu8)
        | (go_at_call 45; refine (D4.out _ U6.out).mono ?_; rintro e w7 ⟨rfl, hu7⟩; have U7 := hide (U6.out.trans_new hu7); clear hu7)
        | (go_at_call 32; refine (D3.out _ U5.out _ V5.out).mono ?_; rintro e w6 ⟨rfl, hu6⟩; have U6 := hide (U5.out.trans_new hu6); clear hu6)
        | (go_at_call 44; refine (D2.out _ U4.out).mono ?_; rintro e w5 ⟨rfl, hu5⟩; have U5 := hide (U4.out.trans_new hu5); have V5 := hide (V4.out.new hu5); clear hu5)
        | (go_at_call 43; refine (D1.out _ (Upd.refl (fun _ => False) W3).drew).mono ?_; rintro e w4 ⟨v4, rfl, hv4, hu4⟩; have U4 := hide ((Upd.refl (fun _ => False) W3).drew.trans_new hu4); have V4 := hide hv4; clear hu4 hv4))
    go_wp2_with fail
    all_goals
      go_meet
      case rel => exact ⟨rfl, U8.out⟩
  obtain ⟨rfl, hu⟩ := hcut
  have M := hide hu
  clear hu
  have hR1 := readT_le s.data.toList
  have hR2 := good_len (readT_con s.data.toList)
  have hrd := fun w' (nw : New W3 w') => attrRead_any s E w' (HT.out.new nw) (HE.out.new nw).s1 (HE.out.new nw).s2 (HE.out.new nw).s7 (HE.out.new nw).s8 (by omega)
  have hrr := fun w' => attrReadRef_any s w' (by omega)
  unfold ReadPost at hrd
  have Hcd := hide (fun w' (nw : New W3 w') (v : Value) (c : Nat) (hv : ErrV w' E v c (-1)) => (coded1_any v c (-1) c w' E (HE.out.new nw) hv).mono (R' := fun e w1 => e = .returned (.bool true) ∧ New w' w1) fun e w1 hh => ⟨by rw [hh.1]; simp, hh.2⟩)
  generalize readT s.data.toList = R at *
  obtain ⟨rc, rx⟩ := R
  dsimp only at hR1 hR2 hrd hrr
  have Hrd := hide hrd
  have Hrr := hide hrr
  have Hl := hide hR2
  have Hev := hide (fun w' => errs_low (E := E) hR1 w')
  clear hrd hrr hR1 hR2
  generalize errc E rc = ev at *
  go_wp2_with fail
  refine (Hrd.out _ M.out).mono ?_
  rintro e w4 ⟨x1, rfl, hc1, hok1, _, hu⟩
  rw [show x1.cells = #[.slice x1.P x1.path.length x1.pc, .int .i64 x1.pref, .int .i64 x1.med, .int .i64 x1.origin, .slice x1.T x1.tags.length x1.tc] from rfl]
  have M := hide (M.out.trans_new hu)
  have Hc1 := hide hc1
  clear hu hc1 Hrd
  go_upto_region 8 with (fail)
  have HY := hide (Blk.new w4 TA #[.slice x1.P x1.path.length x1.pc, .int .i64 x1.pref, .int .i64 x1.med, .int .i64 x1.origin, .slice x1.T x1.tags.length x1.tc])
  have u := (Upd.refl (fun _ => False) w4).alloc (.cells #[.slice x1.P x1.path.length x1.pc, .int .i64 x1.pref, .int .i64 x1.med, .int .i64 x1.origin, .slice x1.T x1.tags.length x1.tc] TA)
  have HYl := hide M.out.size
  have Ok1 := hide (hok1.new_ u)
  have M := hide (M.out.trans_new u)
  clear u hok1
  generalize w4.alloc (.cells #[.slice x1.P x1.path.length x1.pc, .int .i64 x1.pref, .int .i64 x1.med, .int .i64 x1.origin, .slice x1.T x1.tags.length x1.tc] TA) = W4 at *
  generalize w4.heap.size = Y at *
  go_wp2_with fail
  refine (Hrr.out _).mono ?_
  rintro e w5 ⟨x2, rfl, hc2, hok2, _, hu⟩
  rw [show x2.cells = #[.slice x2.P x2.path.length x2.pc, .int .i64 x2.pref, .int .i64 x2.med, .int .i64 x2.origin, .slice x2.T x2.tags.length x2.tc] from rfl]
  have M := hide (M.out.trans_new hu)
  have HY := hide (HY.out.new_ hu)
  have Ok1 := hide (Ok1.out.new_ hu)
  have Hc2 := hide hc2
  clear hu hc2 Hrr
  go_upto_region 9 with (fail)
  have HZ := hide (Blk.new w5 TA #[.slice x2.P x2.path.length x2.pc, .int .i64 x2.pref, .int .i64 x2.med, .int .i64 x2.origin, .slice x2.T x2.tags.length x2.tc])
  have u := (Upd.refl (fun _ => False) w5).alloc (.cells #[.slice x2.P x2.path.length x2.pc, .int .i64 x2.pref, .int .i64 x2.med, .int .i64 x2.origin, .slice x2.T x2.tags.length x2.tc] TA)
  have HZl := hide M.out.size
  have HYZ := hide HY.out.lt
  have Ok2 := hide (hok2.new_ u)
  have Ok1 := hide (Ok1.out.new_ u)
  have HY := hide (HY.out.new_ u)
  have M := hide (M.out.trans_new u)
  clear u hok2
  generalize w5.alloc (.cells #[.slice x2.P x2.path.length x2.pc, .int .i64 x2.pref, .int .i64 x2.med, .int .i64 x2.origin, .slice x2.T x2.tags.length x2.tc] TA) = W5 at *
  generalize w5.heap.size = Z at *
  have hsm := sameAttr_any x1 x2 W5 Ok1.out Ok2.out (con_len Hc1.out Hl.out).1 (con_len Hc1.out Hl.out).2 (con_len Hc2.out Hl.out).1 (con_len Hc2.out Hl.out).2
  rw [decide_eq_true (Hc1.out.trans Hc2.out.symm)] at hsm
  unfold AttrR.cells at hsm
  have Hsm := hide hsm
  clear hsm Ok1 Ok2 Hc1 Hc2
  have bq := HY.out
  have y0 := bq.cell 0
  have y1 := bq.cell 1
  have y2 := bq.cell 2
  have y3 := bq.cell 3
  have y4 := bq.cell 4
  have yz := bq.lt
  simp only [List.getElem?_toArray, List.getElem?_cons_zero, List.getElem?_cons_succ] at y0 y1 y2 y3 y4
  clear bq
  have bq := HZ.out
  have z0 := bq.cell 0
  have z1 := bq.cell 1
  have z2 := bq.cell 2
  have z3 := bq.cell 3
  have z4 := bq.cell 4
  have zz := bq.lt
  simp only [List.getElem?_toArray, List.getElem?_cons_zero, List.getElem?_cons_succ] at z0 z1 z2 z3 z4
  clear bq
  go_wp2_with fail
  refine Hsm.out.mono ?_
  rintro e w6 ⟨rfl, hu⟩
  have HY := hide (HY.out.new_ hu)
  have HZ := hide (HZ.out.new_ hu)
  have M := hide (M.out.trans_new hu)
  clear hu Hsm
  clear y0 y1 y2 y3 y4 yz
  clear z0 z1 z2 z3 z4 zz
  have Hc9 := hide (Hcd.out w6 M.out ev rc (Hev.out _))
  go_wp2_with fail
  refine Hc9.out.mono ?_
  rintro e w7 ⟨rfl, hu⟩
  have HY := hide (HY.out.new_ hu)
  have HZ := hide (HZ.out.new_ hu)
  have M := hide (M.out.trans_new hu)
  clear hu Hc9 Hev
  have hk9 := leadK_le9 a.con i n
  have hx9 := good_len (leadX_con a.con i n)
  have hf := fun w' (nw : New W3 w') => lead_any o i n E w' (HE.out.new nw).s2 (HE.out.new nw).s7 (HE.out.new nw).s8 (HO.out.new_ nw) (by omega) (by omega)
  have hg := fun w' (nw : New W3 w') => leadOf_any a i n w' (HA.out.new_ nw) (by omega) (by omega)
  rw [HC.out] at hf
  generalize leadK a.con i n = kL at *
  generalize leadX a.con i n = xL at *
  unfold AttrR.cells at hf hg
  have Hf := hide hf
  have Hg := hide hg
  have Hl := hide hx9
  have Hev := hide (fun w' => errs_low (E := E) hk9 w')
  clear hf hg hk9 hx9
  generalize errc E kL = evL at *
  have bq := HXo.out.new_ M.out
  have o0 := bq.cell 0
  have o1 := bq.cell 1
  have o2 := bq.cell 2
  have o3 := bq.cell 3
  have o4 := bq.cell 4
  have oz := bq.lt
  simp only [List.getElem?_toArray, List.getElem?_cons_zero, List.getElem?_cons_succ] at o0 o1 o2 o3 o4
  clear bq
  have bq := HY.out
  have y0 := bq.cell 0
  have y1 := bq.cell 1
  have y2 := bq.cell 2
  have y3 := bq.cell 3
  have y4 := bq.cell 4
  have f0 := bq.frozen 0
  have f1 := bq.frozen 1
  have f2 := bq.frozen 2
  have f3 := bq.frozen 3
  have f4 := bq.frozen 4
  have yz := bq.lt
  simp only [List.getElem?_toArray, List.getElem?_cons_zero, List.getElem?_cons_succ] at y0 y1 y2 y3 y4
  clear bq
  go_wp2_with fail
  refine (Hf.out _ M.out).mono ?_
  rintro e wL1 ⟨x3, rfl, hc1, hok1, hfr1, hu⟩
  have hyl := HY.out.lt
  have hzl := HZ.out.lt
  have G1 := hide (show (∀ b q, x3.P = some ⟨b, q, none⟩ → Z < b) ∧ (∀ b q, x3.T = some ⟨b, q, none⟩ → Z < b) from ⟨fun b q h => Nat.lt_of_lt_of_le hzl (hfr1.1 b q h), fun b q h => Nat.lt_of_lt_of_le hzl (hfr1.2 b q h)⟩)
  have HY := hide (HY.out.new_ hu)
  have HZ := hide (HZ.out.new_ hu)
  have M := hide (M.out.trans_new hu)
  have Ok1 := hide hok1
  have Hc1 := hide hc1
  clear hu hc1 hok1 hfr1 hyl hzl Hf
  clear o0 o1 o2 o3 o4 oz
  clear y0 y1 y2 y3 y4 yz f0 f1 f2 f3 f4
  have bq := HY.out
  have y0 := bq.cell 0
  have y1 := bq.cell 1
  have y2 := bq.cell 2
  have y3 := bq.cell 3
  have y4 := bq.cell 4
  have f0 := bq.frozen 0
  have f1 := bq.frozen 1
  have f2 := bq.frozen 2
  have f3 := bq.frozen 3
  have f4 := bq.frozen 4
  have yz := bq.lt
  simp only [List.getElem?_toArray, List.getElem?_cons_zero, List.getElem?_cons_succ] at y0 y1 y2 y3 y4
  clear bq
  go_upto_region 13 with (fail)
  have HZ := hide (HZ.out.upd (set5_one wL1 Y (.slice x3.P x3.path.length x3.pc) (.int .i64 x3.pref) (.int .i64 x3.med) (.int .i64 x3.origin) (.slice x3.T x3.tags.length x3.tc)) (by have := HYZ.out; omega))
  have Ok1 := hide (ok_store (M := Y) (y0 := (.slice x3.P x3.path.length x3.pc)) (y1 := (.int .i64 x3.pref)) (y2 := (.int .i64 x3.med)) (y3 := (.int .i64 x3.origin)) (y4 := (.slice x3.T x3.tags.length x3.tc)) Ok1.out (fun b q h => by have := G1.out.1 b q h; have := HYZ.out; omega) (fun b q h => by have := G1.out.2 b q h; have := HYZ.out; omega))
  have M := hide (set5_New (y0 := (.slice x3.P x3.path.length x3.pc)) (y1 := (.int .i64 x3.pref)) (y2 := (.int .i64 x3.med)) (y3 := (.int .i64 x3.origin)) (y4 := (.slice x3.T x3.tags.length x3.tc)) M.out HYl.out)
  have HY := hide (set5 (y0 := (.slice x3.P x3.path.length x3.pc)) (y1 := (.int .i64 x3.pref)) (y2 := (.int .i64 x3.med)) (y3 := (.int .i64 x3.origin)) (y4 := (.slice x3.T x3.tags.length x3.tc)) HY.out)
  clear y0 y1 y2 y3 y4 yz f0 f1 f2 f3 f4
  generalize (((((wL1.setCell ⟨Y, 0, none⟩ (.slice x3.P x3.path.length x3.pc)).setCell ⟨Y, 1, none⟩ (.int .i64 x3.pref)).setCell ⟨Y, 2, none⟩ (.int .i64 x3.med)).setCell ⟨Y, 3, none⟩ (.int .i64 x3.origin)).setCell ⟨Y, 4, none⟩ (.slice x3.T x3.tags.length x3.tc)) = WL1 at *
  have bq := HXa.out.new_ M.out
  have p0 := bq.cell 0
  have p1 := bq.cell 1
  have p2 := bq.cell 2
  have p3 := bq.cell 3
  have p4 := bq.cell 4
  have pz := bq.lt
  simp only [List.getElem?_toArray, List.getElem?_cons_zero, List.getElem?_cons_succ] at p0 p1 p2 p3 p4
  clear bq
  have bq := HZ.out
  have z0 := bq.cell 0
  have z1 := bq.cell 1
  have z2 := bq.cell 2
  have z3 := bq.cell 3
  have z4 := bq.cell 4
  have f0 := bq.frozen 0
  have f1 := bq.frozen 1
  have f2 := bq.frozen 2
  have f3 := bq.frozen 3
  have f4 := bq.frozen 4
  have zz := bq.lt
  simp only [List.getElem?_toArray, List.getElem?_cons_zero, List.getElem?_cons_succ] at z0 z1 z2 z3 z4
  clear bq
  go_wp2_with fail
  refine (Hg.out _ M.out).mono ?_
  rintro e wL2 ⟨x4, rfl, hc2, hfr2, hu⟩
  have hzl := HZ.out.lt
  have hlow := ok_low HA.out
  have G2 := hide (show (∀ b q, x4.P = some ⟨b, q, none⟩ → b ≠ Z ∨ x4.path = []) ∧ (∀ b q, x4.T = some ⟨b, q, none⟩ → b ≠ Z ∨ x4.tags = []) from by
    have := HZl.out
    refine ⟨fun b q h => ?_, fun b q h => ?_⟩
    · rcases hfr2.path with ⟨e1, e2⟩ | ⟨_, e2⟩
      · rw [e1] at h
        rcases hlow.1 b q h with h3 | h3
        · exact .inl (by omega)
        · exact .inr (e2.trans h3)
      · have := e2 b q h
        exact .inl (by omega)
    · rcases hfr2.tags with ⟨e1, e2⟩ | ⟨_, e2⟩
      · rw [e1] at h
        rcases hlow.2 b q h with h3 | h3
        · exact .inl (by omega)
        · exact .inr (e2.trans h3)
      · have := e2 b q h
        exact .inl (by omega))
  have Ok1 := hide (Ok1.out.new_ hu)
  have HY := hide (HY.out.new_ hu)
  have HZ := hide (HZ.out.new_ hu)
  have M := hide (M.out.trans_new hu)
  have Ok2 := hide (hfr2.ok (HA.out.new_ M.out))
  have Hc2 := hide hc2
  clear hu hc2 hfr2 hzl hlow Hg
  clear p0 p1 p2 p3 p4 pz
  clear z0 z1 z2 z3 z4 zz f0 f1 f2 f3 f4
  have bq := HZ.out
  have z0 := bq.cell 0
  have z1 := bq.cell 1
  have z2 := bq.cell 2
  have z3 := bq.cell 3
  have z4 := bq.cell 4
  have f0 := bq.frozen 0
  have f1 := bq.frozen 1
  have f2 := bq.frozen 2
  have f3 := bq.frozen 3
  have f4 := bq.frozen 4
  have zz := bq.lt
  simp only [List.getElem?_toArray, List.getElem?_cons_zero, List.getElem?_cons_succ] at z0 z1 z2 z3 z4
  clear bq
  go_upto_region 14 with (fail)
  have HY := hide (HY.out.upd (set5_one wL2 Z (.slice x4.P x4.path.length x4.pc) (.int .i64 x4.pref) (.int .i64 x4.med) (.int .i64 x4.origin) (.slice x4.T x4.tags.length x4.tc)) (by have := HYZ.out; omega))
  have Ok1 := hide (ok_store (M := Z) (y0 := (.slice x4.P x4.path.length x4.pc)) (y1 := (.int .i64 x4.pref)) (y2 := (.int .i64 x4.med)) (y3 := (.int .i64 x4.origin)) (y4 := (.slice x4.T x4.tags.length x4.tc)) Ok1.out (fun b q h => by have := G1.out.1 b q h; omega) (fun b q h => by have := G1.out.2 b q h; omega))
  have Ok2 := hide (ok_store2 (M := Z) (y0 := (.slice x4.P x4.path.length x4.pc)) (y1 := (.int .i64 x4.pref)) (y2 := (.int .i64 x4.med)) (y3 := (.int .i64 x4.origin)) (y4 := (.slice x4.T x4.tags.length x4.tc)) Ok2.out G2.out.1 G2.out.2)
  have M := hide (set5_New (y0 := (.slice x4.P x4.path.length x4.pc)) (y1 := (.int .i64 x4.pref)) (y2 := (.int .i64 x4.med)) (y3 := (.int .i64 x4.origin)) (y4 := (.slice x4.T x4.tags.length x4.tc)) M.out HZl.out)
  have HZ := hide (set5 (y0 := (.slice x4.P x4.path.length x4.pc)) (y1 := (.int .i64 x4.pref)) (y2 := (.int .i64 x4.med)) (y3 := (.int .i64 x4.origin)) (y4 := (.slice x4.T x4.tags.length x4.tc)) HZ.out)
  clear z0 z1 z2 z3 z4 zz f0 f1 f2 f3 f4
  generalize (((((wL2.setCell ⟨Z, 0, none⟩ (.slice x4.P x4.path.length x4.pc)).setCell ⟨Z, 1, none⟩ (.int .i64 x4.pref)).setCell ⟨Z, 2, none⟩ (.int .i64 x4.med)).setCell ⟨Z, 3, none⟩ (.int .i64 x4.origin)).setCell ⟨Z, 4, none⟩ (.slice x4.T x4.tags.length x4.tc)) = WL2 at *
  have hsm := sameAttr_any x3 x4 WL2 Ok1.out Ok2.out (con_len Hc1.out Hl.out).1 (con_len Hc1.out Hl.out).2 (con_len Hc2.out Hl.out).1 (con_len Hc2.out Hl.out).2
  rw [decide_eq_true (Hc1.out.trans Hc2.out.symm)] at hsm
  unfold AttrR.cells at hsm
  have Hsm := hide hsm
  clear hsm Ok1 Ok2 Hc1 Hc2 G1 G2
  have bq := HY.out
  have y0 := bq.cell 0
  have y1 := bq.cell 1
  have y2 := bq.cell 2
  have y3 := bq.cell 3
  have y4 := bq.cell 4
  have yz := bq.lt
  simp only [List.getElem?_toArray, List.getElem?_cons_zero, List.getElem?_cons_succ] at y0 y1 y2 y3 y4
  clear bq
  have bq := HZ.out
  have z0 := bq.cell 0
  have z1 := bq.cell 1
  have z2 := bq.cell 2
  have z3 := bq.cell 3
  have z4 := bq.cell 4
  have zz := bq.lt
  simp only [List.getElem?_toArray, List.getElem?_cons_zero, List.getElem?_cons_succ] at z0 z1 z2 z3 z4
  clear bq
  go_wp2_with fail
  refine Hsm.out.mono ?_
  rintro e wL3 ⟨rfl, hu⟩
  have HY := hide (HY.out.new_ hu)
  have HZ := hide (HZ.out.new_ hu)
  have M := hide (M.out.trans_new hu)
  clear hu Hsm
  clear y0 y1 y2 y3 y4 yz
  clear z0 z1 z2 z3 z4 zz
  have Hc9 := hide (Hcd.out wL3 M.out evL kL (Hev.out _))
  go_wp2_with fail
  refine Hc9.out.mono ?_
  rintro e wL4 ⟨rfl, hu⟩
  have HY := hide (HY.out.new_ hu)
  have HZ := hide (HZ.out.new_ hu)
  have M := hide (M.out.trans_new hu)
  clear hu Hc9 Hev Hl
  have hk9 := tagK_le9 a.con n
  have hx9 := good_len (tagX_con a.con n)
  have hf := fun w' (nw : New W3 w') => tag_any o n E w' (HE.out.new nw).s2 (HE.out.new nw).s7 (HE.out.new nw).s8 (HO.out.new_ nw) (by omega) (by omega)
  have hg := fun w' (nw : New W3 w') => tagOf_any a n w' (HA.out.new_ nw) (by omega) (by omega)
  rw [HC.out] at hf
  generalize tagK a.con n = kT at *
  generalize tagX a.con n = xT at *
  unfold AttrR.cells at hf hg
  have Hf := hide hf
  have Hg := hide hg
  have Hl := hide hx9
  have Hev := hide (fun w' => errs_low (E := E) hk9 w')
  clear hf hg hk9 hx9
  generalize errc E kT = evT at *
  have bq := HXo.out.new_ M.out
  have o0 := bq.cell 0
  have o1 := bq.cell 1
  have o2 := bq.cell 2
  have o3 := bq.cell 3
  have o4 := bq.cell 4
  have oz := bq.lt
  simp only [List.getElem?_toArray, List.getElem?_cons_zero, List.getElem?_cons_succ] at o0 o1 o2 o3 o4
  clear bq
  have bq := HY.out
  have y0 := bq.cell 0
  have y1 := bq.cell 1
  have y2 := bq.cell 2
  have y3 := bq.cell 3
  have y4 := bq.cell 4
  have f0 := bq.frozen 0
  have f1 := bq.frozen 1
  have f2 := bq.frozen 2
  have f3 := bq.frozen 3
  have f4 := bq.frozen 4
  have yz := bq.lt
  simp only [List.getElem?_toArray, List.getElem?_cons_zero, List.getElem?_cons_succ] at y0 y1 y2 y3 y4
  clear bq
  go_wp2_with fail
  refine (Hf.out _ M.out).mono ?_
  rintro e wT1 ⟨x5, rfl, hc1, hok1, hfr1, hu⟩
  have hyl := HY.out.lt
  have hzl := HZ.out.lt
  have G1 := hide (show (∀ b q, x5.P = some ⟨b, q, none⟩ → Z < b) ∧ (∀ b q, x5.T = some ⟨b, q, none⟩ → Z < b) from ⟨fun b q h => Nat.lt_of_lt_of_le hzl (hfr1.1 b q h), fun b q h => Nat.lt_of_lt_of_le hzl (hfr1.2 b q h)⟩)
  have HY := hide (HY.out.new_ hu)
  have HZ := hide (HZ.out.new_ hu)
  have M := hide (M.out.trans_new hu)
  have Ok1 := hide hok1
  have Hc1 := hide hc1
  clear hu hc1 hok1 hfr1 hyl hzl Hf
  clear o0 o1 o2 o3 o4 oz
  clear y0 y1 y2 y3 y4 yz f0 f1 f2 f3 f4
  have bq := HY.out
  have y0 := bq.cell 0
  have y1 := bq.cell 1
  have y2 := bq.cell 2
  have y3 := bq.cell 3
  have y4 := bq.cell 4
  have f0 := bq.frozen 0
  have f1 := bq.frozen 1
  have f2 := bq.frozen 2
  have f3 := bq.frozen 3
  have f4 := bq.frozen 4
  have yz := bq.lt
  simp only [List.getElem?_toArray, List.getElem?_cons_zero, List.getElem?_cons_succ] at y0 y1 y2 y3 y4
  clear bq
  go_upto_region 18 with (fail)
  have HZ := hide (HZ.out.upd (set5_one wT1 Y (.slice x5.P x5.path.length x5.pc) (.int .i64 x5.pref) (.int .i64 x5.med) (.int .i64 x5.origin) (.slice x5.T x5.tags.length x5.tc)) (by have := HYZ.out; omega))
  have Ok1 := hide (ok_store (M := Y) (y0 := (.slice x5.P x5.path.length x5.pc)) (y1 := (.int .i64 x5.pref)) (y2 := (.int .i64 x5.med)) (y3 := (.int .i64 x5.origin)) (y4 := (.slice x5.T x5.tags.length x5.tc)) Ok1.out (fun b q h => by have := G1.out.1 b q h; have := HYZ.out; omega) (fun b q h => by have := G1.out.2 b q h; have := HYZ.out; omega))
  have M := hide (set5_New (y0 := (.slice x5.P x5.path.length x5.pc)) (y1 := (.int .i64 x5.pref)) (y2 := (.int .i64 x5.med)) (y3 := (.int .i64 x5.origin)) (y4 := (.slice x5.T x5.tags.length x5.tc)) M.out HYl.out)
  have HY := hide (set5 (y0 := (.slice x5.P x5.path.length x5.pc)) (y1 := (.int .i64 x5.pref)) (y2 := (.int .i64 x5.med)) (y3 := (.int .i64 x5.origin)) (y4 := (.slice x5.T x5.tags.length x5.tc)) HY.out)
  clear y0 y1 y2 y3 y4 yz f0 f1 f2 f3 f4
  generalize (((((wT1.setCell ⟨Y, 0, none⟩ (.slice x5.P x5.path.length x5.pc)).setCell ⟨Y, 1, none⟩ (.int .i64 x5.pref)).setCell ⟨Y, 2, none⟩ (.int .i64 x5.med)).setCell ⟨Y, 3, none⟩ (.int .i64 x5.origin)).setCell ⟨Y, 4, none⟩ (.slice x5.T x5.tags.length x5.tc)) = WT1 at *
  have bq := HXa.out.new_ M.out
  have p0 := bq.cell 0
  have p1 := bq.cell 1
  have p2 := bq.cell 2
  have p3 := bq.cell 3
  have p4 := bq.cell 4
  have pz := bq.lt
  simp only [List.getElem?_toArray, List.getElem?_cons_zero, List.getElem?_cons_succ] at p0 p1 p2 p3 p4
  clear bq
  have bq := HZ.out
  have z0 := bq.cell 0
  have z1 := bq.cell 1
  have z2 := bq.cell 2
  have z3 := bq.cell 3
  have z4 := bq.cell 4
  have f0 := bq.frozen 0
  have f1 := bq.frozen 1
  have f2 := bq.frozen 2
  have f3 := bq.frozen 3
  have f4 := bq.frozen 4
  have zz := bq.lt
  simp only [List.getElem?_toArray, List.getElem?_cons_zero, List.getElem?_cons_succ] at z0 z1 z2 z3 z4
  clear bq
  go_wp2_with fail
  refine (Hg.out _ M.out).mono ?_
  rintro e wT2 ⟨x6, rfl, hc2, hfr2, hu⟩
  have hzl := HZ.out.lt
  have hlow := ok_low HA.out
  have G2 := hide (show (∀ b q, x6.P = some ⟨b, q, none⟩ → b ≠ Z ∨ x6.path = []) ∧ (∀ b q, x6.T = some ⟨b, q, none⟩ → b ≠ Z ∨ x6.tags = []) from by
    have := HZl.out
    refine ⟨fun b q h => ?_, fun b q h => ?_⟩
    · rcases hfr2.path with ⟨e1, e2⟩ | ⟨_, e2⟩
      · rw [e1] at h
        rcases hlow.1 b q h with h3 | h3
        · exact .inl (by omega)
        · exact .inr (e2.trans h3)
      · have := e2 b q h
        exact .inl (by omega)
    · rcases hfr2.tags with ⟨e1, e2⟩ | ⟨_, e2⟩
      · rw [e1] at h
        rcases hlow.2 b q h with h3 | h3
        · exact .inl (by omega)
        · exact .inr (e2.trans h3)
      · have := e2 b q h
        exact .inl (by omega))
  have Ok1 := hide (Ok1.out.new_ hu)
  have HY := hide (HY.out.new_ hu)
  have HZ := hide (HZ.out.new_ hu)
  have M := hide (M.out.trans_new hu)
  have Ok2 := hide (hfr2.ok (HA.out.new_ M.out))
  have Hc2 := hide hc2
  clear hu hc2 hfr2 hzl hlow Hg
  clear p0 p1 p2 p3 p4 pz
  clear z0 z1 z2 z3 z4 zz f0 f1 f2 f3 f4
  have bq := HZ.out
  have z0 := bq.cell 0
  have z1 := bq.cell 1
  have z2 := bq.cell 2
  have z3 := bq.cell 3
  have z4 := bq.cell 4
  have f0 := bq.frozen 0
  have f1 := bq.frozen 1
  have f2 := bq.frozen 2
  have f3 := bq.frozen 3
  have f4 := bq.frozen 4
  have zz := bq.lt
  simp only [List.getElem?_toArray, List.getElem?_cons_zero, List.getElem?_cons_succ] at z0 z1 z2 z3 z4
  clear bq
  go_upto_region 19 with (fail)
  have HY := hide (HY.out.upd (set5_one wT2 Z (.slice x6.P x6.path.length x6.pc) (.int .i64 x6.pref) (.int .i64 x6.med) (.int .i64 x6.origin) (.slice x6.T x6.tags.length x6.tc)) (by have := HYZ.out; omega))
  have Ok1 := hide (ok_store (M := Z) (y0 := (.slice x6.P x6.path.length x6.pc)) (y1 := (.int .i64 x6.pref)) (y2 := (.int .i64 x6.med)) (y3 := (.int .i64 x6.origin)) (y4 := (.slice x6.T x6.tags.length x6.tc)) Ok1.out (fun b q h => by have := G1.out.1 b q h; omega) (fun b q h => by have := G1.out.2 b q h; omega))
  have Ok2 := hide (ok_store2 (M := Z) (y0 := (.slice x6.P x6.path.length x6.pc)) (y1 := (.int .i64 x6.pref)) (y2 := (.int .i64 x6.med)) (y3 := (.int .i64 x6.origin)) (y4 := (.slice x6.T x6.tags.length x6.tc)) Ok2.out G2.out.1 G2.out.2)
  have M := hide (set5_New (y0 := (.slice x6.P x6.path.length x6.pc)) (y1 := (.int .i64 x6.pref)) (y2 := (.int .i64 x6.med)) (y3 := (.int .i64 x6.origin)) (y4 := (.slice x6.T x6.tags.length x6.tc)) M.out HZl.out)
  have HZ := hide (set5 (y0 := (.slice x6.P x6.path.length x6.pc)) (y1 := (.int .i64 x6.pref)) (y2 := (.int .i64 x6.med)) (y3 := (.int .i64 x6.origin)) (y4 := (.slice x6.T x6.tags.length x6.tc)) HZ.out)
  clear z0 z1 z2 z3 z4 zz f0 f1 f2 f3 f4
  generalize (((((wT2.setCell ⟨Z, 0, none⟩ (.slice x6.P x6.path.length x6.pc)).setCell ⟨Z, 1, none⟩ (.int .i64 x6.pref)).setCell ⟨Z, 2, none⟩ (.int .i64 x6.med)).setCell ⟨Z, 3, none⟩ (.int .i64 x6.origin)).setCell ⟨Z, 4, none⟩ (.slice x6.T x6.tags.length x6.tc)) = WT2 at *
  have hsm := sameAttr_any x5 x6 WT2 Ok1.out Ok2.out (con_len Hc1.out Hl.out).1 (con_len Hc1.out Hl.out).2 (con_len Hc2.out Hl.out).1 (con_len Hc2.out Hl.out).2
  rw [decide_eq_true (Hc1.out.trans Hc2.out.symm)] at hsm
  unfold AttrR.cells at hsm
  have Hsm := hide hsm
  clear hsm Ok1 Ok2 Hc1 Hc2 G1 G2
  have bq := HY.out
  have y0 := bq.cell 0
  have y1 := bq.cell 1
  have y2 := bq.cell 2
  have y3 := bq.cell 3
  have y4 := bq.cell 4
  have yz := bq.lt
  simp only [List.getElem?_toArray, List.getElem?_cons_zero, List.getElem?_cons_succ] at y0 y1 y2 y3 y4
  clear bq
  have bq := HZ.out
  have z0 := bq.cell 0
  have z1 := bq.cell 1
  have z2 := bq.cell 2
  have z3 := bq.cell 3
  have z4 := bq.cell 4
  have zz := bq.lt
  simp only [List.getElem?_toArray, List.getElem?_cons_zero, List.getElem?_cons_succ] at z0 z1 z2 z3 z4
  clear bq
  go_wp2_with fail
  refine Hsm.out.mono ?_
  rintro e wT3 ⟨rfl, hu⟩
  have HY := hide (HY.out.new_ hu)
  have HZ := hide (HZ.out.new_ hu)
  have M := hide (M.out.trans_new hu)
  clear hu Hsm
  clear y0 y1 y2 y3 y4 yz
  clear z0 z1 z2 z3 z4 zz
  have Hc9 := hide (Hcd.out wT3 M.out evT kT (Hev.out _))
  go_wp2_with fail
  refine Hc9.out.mono ?_
  rintro e wT4 ⟨rfl, hu⟩
  have HY := hide (HY.out.new_ hu)
  have HZ := hide (HZ.out.new_ hu)
  have M := hide (M.out.trans_new hu)
  clear hu Hc9 Hev Hl
  clear HY HZ HYl HZl HYZ Hcd
  go_upto_region 22 with (fail)
  have hs1 := sameAttr_any a b _ (HA.out.new_ M.out) (HB.out.new_ M.out) (by omega) (by omega) (by omega) (by omega)
  have hs2 := fun w' (nw : New W3 w') => sameAttr_any o a w' (HO.out.new_ nw) (HA.out.new_ nw) (by omega) (by omega) (by omega) (by omega)
  rw [decide_eq_true HC.out] at hs2
  have hin := fun w' (nw : New W3 w') => inInts_any i a.P a.path.length a.pc a.path w' (HA.out.path.new_ nw) rfl (by omega)
  have hth := fun w' (nw : New W3 w') => through_any o i w' (HO.out.new_ nw) (by omega)
  have hpp : o.path = a.path := congrArg AtC.path HC.out
  rw [hpp] at hth
  have hsx := fun w' (nw : New W3 w') (b' : AttrR) (hb : AttrOk w' b') (hc : b'.con = b.con) => attrSame_any o b' w' (HO.out.new_ nw) hb (by omega) (by omega) (con_len hc ⟨show b.con.path.length ≤ 1000 by show b.path.length ≤ 1000; omega, show b.con.tags.length ≤ 1000 by show b.tags.length ≤ 1000; omega⟩).1 (con_len hc ⟨show b.con.path.length ≤ 1000 by show b.path.length ≤ 1000; omega, show b.con.tags.length ≤ 1000 by show b.tags.length ≤ 1000; omega⟩).2
  have hsx : ∀ w' (nw : New W3 w') (b' : AttrR) (hb : AttrOk w' b') (hc : b'.con = b.con), Calls Tryz.prog 56 #[.agg o.cells, .agg b'.cells] w' fun e w1 => e = .returned (.bool (decide (a.con = b.con))) ∧ New w' w1 := fun w' nw b' hb hc => by
    have := hsx w' nw b' hb hc
    rw [HC.out, hc] at this
    exact this
  have how := fun w' (nw : New W3 w') => ownAttr_any b w' (HB.out.new_ nw) (by omega) (by omega)
  have hon := fun w' => attrOwn_any w'
  have hof := fun w' => sameAttr_any ownR ownR w' (ownR_ok _) (ownR_ok _) (by show 0 ≤ 1000; omega) (by show 0 ≤ 1000; omega) (by show 0 ≤ 1000; omega) (by show 0 ≤ 1000; omega)
  rw [decide_eq_true (rfl : ownR.con = ownR.con)] at hof
  obtain ⟨S, hS⟩ : ∃ S, S = decide (a.con = b.con) := ⟨_, rfl⟩
  rw [← hS] at hs1
  simp only [← hS] at hsx
  obtain ⟨P, hP⟩ : ∃ P, P = a.path.any fun x => decide (i = x) := ⟨_, rfl⟩
  simp only [← hP] at hin hth
  have Hs1 := hide hs1
  have Hs2 := hide hs2
  have Hin := hide hin
  have Hth := hide hth
  have Hsx := hide hsx
  have How := hide how
  have Hon := hide hon
  have Hof := hide hof
  unfold AttrR.cells at Hs1 Hs2 Hth Hsx How Hon Hof
  have hownr : ownR.P = none ∧ ownR.path.length = 0 ∧ ownR.pc = 0 ∧ ownR.pref = 100 ∧ ownR.med = 0 ∧ ownR.origin = 0 ∧ ownR.T = none ∧ ownR.tags.length = 0 ∧ ownR.tc = 0 := ⟨rfl, rfl, rfl, rfl, rfl, rfl, rfl, rfl, rfl⟩
  obtain ⟨r1, r2, r3, r4, r5, r6, r7, r8, r9⟩ := hownr
  rw [r1, r2, r3, r4, r5, r6, r7, r8, r9] at Hon Hof
  clear r1 r2 r3 r4 r5 r6 r7 r8 r9 hs1 hs2 hin hth hsx how hon hof hpp hS hP
  have bq := HXa.out.new_ M.out
  have p0 := bq.cell 0
  have p1 := bq.cell 1
  have p2 := bq.cell 2
  have p3 := bq.cell 3
  have p4 := bq.cell 4
  have pz := bq.lt
  simp only [List.getElem?_toArray, List.getElem?_cons_zero, List.getElem?_cons_succ] at p0 p1 p2 p3 p4
  clear bq
  have bq := HXb.out.new_ M.out
  have q0 := bq.cell 0
  have q1 := bq.cell 1
  have q2 := bq.cell 2
  have q3 := bq.cell 3
  have q4 := bq.cell 4
  have qz := bq.lt
  simp only [List.getElem?_toArray, List.getElem?_cons_zero, List.getElem?_cons_succ] at q0 q1 q2 q3 q4
  clear bq
  go_wp2_with fail
  refine Hs1.out.mono ?_
  rintro e w30 ⟨rfl, hu⟩
  have M := hide (M.out.trans_new hu)
  clear hu Hs1
  clear p0 p1 p2 p3 p4 pz
  clear q0 q1 q2 q3 q4 qz
  have bq := HXa.out.new_ M.out
  have p0 := bq.cell 0
  have p1 := bq.cell 1
  have p2 := bq.cell 2
  have p3 := bq.cell 3
  have p4 := bq.cell 4
  have pz := bq.lt
  simp only [List.getElem?_toArray, List.getElem?_cons_zero, List.getElem?_cons_succ] at p0 p1 p2 p3 p4
  clear bq
  have bq := HXo.out.new_ M.out
  have o0 := bq.cell 0
  have o1 := bq.cell 1
  have o2 := bq.cell 2
  have o3 := bq.cell 3
  have o4 := bq.cell 4
  have oz := bq.lt
  simp only [List.getElem?_toArray, List.getElem?_cons_zero, List.getElem?_cons_succ] at o0 o1 o2 o3 o4
  clear bq
  go_wp2_with fail
  refine (Hs2.out _ M.out).mono ?_
  rintro e w31 ⟨rfl, hu⟩
  have M := hide (M.out.trans_new hu)
  clear hu Hs2
  clear p0 p1 p2 p3 p4 pz
  clear o0 o1 o2 o3 o4 oz
  have bq := HXa.out.new_ M.out
  have p0 := bq.cell 0
  have p1 := bq.cell 1
  have p2 := bq.cell 2
  have p3 := bq.cell 3
  have p4 := bq.cell 4
  have pz := bq.lt
  simp only [List.getElem?_toArray, List.getElem?_cons_zero, List.getElem?_cons_succ] at p0 p1 p2 p3 p4
  clear bq
  go_wp2_with fail
  refine (Hin.out _ M.out).mono ?_
  rintro e w32 ⟨rfl, rfl⟩
  clear Hin
  clear p0 p1 p2 p3 p4 pz
  go_wp2_with fail
  refine (Hon.out _).mono ?_
  rintro e w33 ⟨rfl, hu⟩
  have M := hide (M.out.trans_new hu)
  clear hu Hon
  go_wp2_with fail
  refine (Hof.out _).mono ?_
  rintro e w34 ⟨rfl, hu⟩
  have M := hide (M.out.trans_new hu)
  clear hu Hof
  go_upto_region 26 with (fail)
  have bq := HXb.out.new_ M.out
  have q0 := bq.cell 0
  have q1 := bq.cell 1
  have q2 := bq.cell 2
  have q3 := bq.cell 3
  have q4 := bq.cell 4
  have qz := bq.lt
  simp only [List.getElem?_toArray, List.getElem?_cons_zero, List.getElem?_cons_succ] at q0 q1 q2 q3 q4
  clear bq
  have bq := HXo.out.new_ M.out
  have o0 := bq.cell 0
  have o1 := bq.cell 1
  have o2 := bq.cell 2
  have o3 := bq.cell 3
  have o4 := bq.cell 4
  have oz := bq.lt
  simp only [List.getElem?_toArray, List.getElem?_cons_zero, List.getElem?_cons_succ] at o0 o1 o2 o3 o4
  clear bq
  have Kq := hide (show ∀ w', New w34 w' → w'.cell? ⟨Xa + 1, 0, none⟩ = some (.slice b.P b.path.length b.pc) ∧ w'.cell? ⟨Xa + 1, 1, none⟩ = some (.int .i64 b.pref) ∧ w'.cell? ⟨Xa + 1, 2, none⟩ = some (.int .i64 b.med) ∧ w'.cell? ⟨Xa + 1, 3, none⟩ = some (.int .i64 b.origin) ∧ w'.cell? ⟨Xa + 1, 4, none⟩ = some (.slice b.T b.tags.length b.tc) ∧ w'.cell? ⟨Xo, 0, none⟩ = some (.slice o.P o.path.length o.pc) ∧ w'.cell? ⟨Xo, 1, none⟩ = some (.int .i64 o.pref) ∧ w'.cell? ⟨Xo, 2, none⟩ = some (.int .i64 o.med) ∧ w'.cell? ⟨Xo, 3, none⟩ = some (.int .i64 o.origin) ∧ w'.cell? ⟨Xo, 4, none⟩ = some (.slice o.T o.tags.length o.tc) from fun w' hu => ⟨(hu.cell qz (fun x => x)).trans q0, (hu.cell qz (fun x => x)).trans q1, (hu.cell qz (fun x => x)).trans q2, (hu.cell qz (fun x => x)).trans q3, (hu.cell qz (fun x => x)).trans q4, (hu.cell oz (fun x => x)).trans o0, (hu.cell oz (fun x => x)).trans o1, (hu.cell oz (fun x => x)).trans o2, (hu.cell oz (fun x => x)).trans o3, (hu.cell oz (fun x => x)).trans o4⟩)
  have jS : (S == S) = true := by cases S <;> rfl
  have jP : (P == P) = true := by cases P <;> rfl
  go_region_held3 (fun w' => w'.cell? ⟨Xa + 1, 0, none⟩ = some (.slice b.P b.path.length b.pc) ∧ w'.cell? ⟨Xa + 1, 1, none⟩ = some (.int .i64 b.pref) ∧ w'.cell? ⟨Xa + 1, 2, none⟩ = some (.int .i64 b.med) ∧ w'.cell? ⟨Xa + 1, 3, none⟩ = some (.int .i64 b.origin) ∧ w'.cell? ⟨Xa + 1, 4, none⟩ = some (.slice b.T b.tags.length b.tc) ∧ w'.cell? ⟨Xo, 0, none⟩ = some (.slice o.P o.path.length o.pc) ∧ w'.cell? ⟨Xo, 1, none⟩ = some (.int .i64 o.pref) ∧ w'.cell? ⟨Xo, 2, none⟩ = some (.int .i64 o.med) ∧ w'.cell? ⟨Xo, 3, none⟩ = some (.int .i64 o.origin) ∧ w'.cell? ⟨Xo, 4, none⟩ = some (.slice o.T o.tags.length o.tc))
    (first | go_keep | exact Kq.out _ U8.out | exact Kq.out _ U7.out | exact Kq.out _ U6.out)
    (first
      | (go_at_call 57; refine (Hth.out _ (M.out.trans_new U7.out)).mono ?_; rintro e w38 ⟨rfl, hu8⟩; have U8 := hide (U7.out.trans_new hu8); clear hu8)
      | (go_at_call 56; refine (Hsx.out _ (M.out.trans_new U6.out) b6 Ok6.out Hc6.out).mono ?_; rintro e w37 ⟨rfl, hu7⟩; have U7 := hide (U6.out.trans_new hu7); clear hu7)
      | (go_at_call 42; refine (How.out _ (M.out.trans_new (Upd.refl (fun _ => False) w34).drew)).mono ?_; rintro e w36 ⟨b6, rfl, hc6, hok6, _, hu6⟩; have U6 := hide ((Upd.refl (fun _ => False) w34).drew.trans_new hu6); have Ok6 := hide hok6; have Hc6 := hide hc6; clear hu6 hok6 hc6))
  go_wp2_with fail
  all_goals
    go_ret
    exact ⟨by first | rfl | simp, N.out.trans_new (M.out.trans_new U8.out)⟩
end Go.Proofs.YtignngpligicjaaGreatDoor

/- Package wire: the first line as it is read. No condition but those that stand in each theorem. -/
import Derived.Test.YtjgecmkfgeajiaaGreatDoorWr1
import Derived.Test.YtjgecmkfgeajiaaGreatDoorOw3
namespace Go.Proofs.YtjgecmkfgeajiaaGreatDoor
open Go.RowKit

theorem headP_one {l x : List UInt8} (h : cutR 32 l = [x]) : headP l = if x = kKeep ∨ x = kNews then some (x, 0) else none := by
  have hx : x = l := by
    have := cutR_join 32 l
    rw [h] at this
    exact this
  subst hx
  unfold headP
  by_cases hk : x = kKeep ∨ x = kNews
  · rw [if_pos hk, if_pos hk]
  · rw [if_neg hk, if_neg hk, h]
theorem headP_two {l x y : List UInt8} (h : cutR 32 l = [x, y]) : headP l = if (x = kOpen ∨ x = kNote) ∧ 0 ≤ numR y then some (x, numR y) else none := by
  have hk : ¬ (l = kKeep ∨ l = kNews) := by
    rintro (e | e)
    · subst e
      rw [cutR_self 32 kKeep (by decide)] at h
      cases h
    · subst e
      rw [cutR_self 32 kNews (by decide)] at h
      cases h
  unfold headP
  rw [if_neg hk, h]
theorem headP_no {l : List UInt8} (h1 : (cutR 32 l).length ≠ 1) (h2 : (cutR 32 l).length ≠ 2) : headP l = none := by
  have hk : ¬ (l = kKeep ∨ l = kNews) := by
    rintro (e | e)
    · subst e
      rw [cutR_self 32 kKeep (by decide)] at h1
      exact h1 rfl
    · subst e
      rw [cutR_self 32 kNews (by decide)] at h1
      exact h1 rfl
  unfold headP
  rw [if_neg hk]
  split
  · rename_i h
    rw [h] at h2
    exact absurd rfl h2
  · rfl
theorem msg_out2 {fn : Func} {p t : Tmp} {tmps : Array Value} {w : World} {R : Nat} {x0 x1 x2 x3 : Value} (h : fn.results = #[.cell p TM, .tmp t]) (hp : tmps.getD p undef = .pointer (some ⟨R, 0, none⟩)) (hb : Blk w R TM #[x0, x1, x2, x3]) :
    (results fn tmps).run Tryz.prog w = .ok (.tuple #[.agg #[x0, x1, x2, x3], tmps.getD t undef]) w := by
  have hp' : tmps[p]?.getD undef = .pointer (some ⟨R, 0, none⟩) := by simpa using hp
  simp [results, h, hp', asAddr, run_loadVar_row w R TM TM #[x0, x1, x2, x3] (0, 0) _ hb Tryz.underlying25 rfl (by rw [TM_info]; rfl)]
theorem set4_new {w W : World} {R : Nat} {y0 y1 y2 y3 : Value} (hn : New w W) (hR : w.heap.size ≤ R) :
    New w ((((W.setCell ⟨R, 0, none⟩ y0).setCell ⟨R, 1, none⟩ y1).setCell ⟨R, 2, none⟩ y2).setCell ⟨R, 3, none⟩ y3) :=
  (((hn.setCell (p := ⟨R, 0, none⟩) (.inr hR) y0).setCell (p := ⟨R, 1, none⟩) (.inr hR) y1).setCell (p := ⟨R, 2, none⟩) (.inr hR) y2).setCell (p := ⟨R, 3, none⟩) (.inr hR) y3

theorem numV_two (p : List UInt8) : (0 ≤ numR p → numV p 999999999 = some (numR p)) ∧ (numR p < 0 → numV p 999999999 = none) := by
  have h1 := numV_numR p 999999999 (by omega)
  have h2 := numR_lt p
  refine ⟨fun h => ?_, fun h => ?_⟩
  · rw [h1, if_pos ⟨h, h2.1⟩]
  · rw [h1, if_neg (by omega)]
theorem toL_eq (x y : List UInt8) : ((⟨x.toArray⟩ : ByteArray).toList == y) = decide (x = y) := by
  have e : (⟨x.toArray⟩ : ByteArray).toList = x := by simp
  rw [e]
  by_cases h : x = y
  · rw [decide_eq_true h, h]; simp
  · rw [decide_eq_false h, beq_eq_false_iff_ne]; exact h
theorem head_end {x y : List UInt8} {R : Option (List UInt8 × Int)} {v : Int} (ho : x = kOpen ∨ x = kNote) (he : R = if (x = kOpen ∨ x = kNote) ∧ 0 ≤ numR y then some (x, numR y) else none) (hr : (0 ≤ numR y → numV y 999999999 = some (numR y)) ∧ (numR y < 0 → numV y 999999999 = none)) (hv : ∀ u, numV y 999999999 = some u → v = u) :
    R.isSome = (numV y 999999999).isSome ∧ ∀ z, R = some z → z = (x, v) := by
  by_cases h : 0 ≤ numR y
  · rw [if_pos ⟨ho, h⟩] at he
    rw [hr.1 h] at hv ⊢
    subst he
    exact ⟨rfl, fun z hz => by rw [hv _ rfl]; exact (Option.some.inj hz).symm⟩
  · rw [if_neg (fun g => h g.2)] at he
    rw [hr.2 (by omega)]
    subst he
    exact ⟨rfl, fun z hz => by cases hz⟩

set_option maxRecDepth 20000 in
set_option maxHeartbeats 2000000 in
theorem head_any (s : ByteArray) (w : World) (h : TxtOk w) (hs : s.size ≤ 10000) :
    Calls Tryz.prog 25 #[.string s] w fun e w1 => ∃ (k : List UInt8) (n : Int), e = .returned (.tuple #[.agg #[.string ⟨k.toArray⟩, .int .i64 n, .slice none 0 0, .slice none 0 0], .bool (headP s.data.toList).isSome]) ∧ (∀ x, headP s.data.toList = some x → x = (k, n)) ∧ New w w1 := by
  have u := (Upd.refl (fun _ => False) w).alloc (.cells #[.string ⟨#[]⟩, .int .i64 0, .slice none 0 0, .slice none 0 0] TM)
  have N := hide u
  have HR := hide (Blk.new w TM #[.string ⟨#[]⟩, .int .i64 0, .slice none 0 0, .slice none 0 0])
  have HT := hide (h.new u)
  have hll : s.data.toList.length = s.size := by simp
  have hsp := split_ss s 32 _ HT.out (by omega)
  have hpi := cutR_piece 32 s.data.toList
  have hp0 := headP_no (l := s.data.toList)
  have hp1 := fun x => headP_one (l := s.data.toList) (x := x)
  have hp2 := fun x y => headP_two (l := s.data.toList) (x := x) (y := y)
  generalize cutR 32 s.data.toList = ps at *
  obtain ⟨R, hR⟩ : ∃ R, R = headP s.data.toList := ⟨_, rfl⟩
  simp only [← hR] at hp0 hp1 hp2 ⊢
  have Hsp := hide hsp
  have Hpi := hide hpi
  have Hp0 := hide hp0
  have Hp1 := hide hp1
  have Hp2 := hide hp2
  clear h u hsp hpi hp0 hp1 hp2 hR
  go_enter Tryz.func25, Tryz.ntmps25
  go_upto_region 1 with (fail)
  have M := hide (Upd.refl (fun _ => False) (w.alloc (.cells #[.string ⟨#[]⟩, .int .i64 0, .slice none 0 0, .slice none 0 0] TM)))
  have HG := hide (Nat.le_refl w.heap.size)
  generalize w.alloc (.cells #[.string ⟨#[]⟩, .int .i64 0, .slice none 0 0, .slice none 0 0] TM) = W at *
  obtain ⟨X, hX⟩ : ∃ X, X = w.heap.size := ⟨_, rfl⟩
  rw [← hX] at HR HG ⊢
  have HX := hide hX
  clear hX
  go_wp2_with fail
  refine Hsp.out.mono ?_
  rintro e w1 ⟨g, rfl, hss, hg, hu⟩
  have HS := hide hss
  have HR := hide (HR.out.new_ hu)
  have M := hide (M.out.trans_new hu)
  have N := hide (N.out.trans_new hu)
  clear hss hg hu Hsp
  by_cases h1 : ps.length = 1
  · obtain ⟨x, rfl⟩ := List.length_eq_one_iff.1 h1
    obtain ⟨bb, oo, hA, hb, hcc⟩ := HS.out (by simp)
    injection hA with hA
    injection hA with hA1 hA2 _
    subst hA1; subst hA2
    have q0 : w1.cell? ⟨g, 0, none⟩ = some (.string ⟨x.toArray⟩) := hcc 0 x rfl
    have he := Hp1.out x rfl
    clear h1 hcc HS Hp0 Hp1 Hp2 Hpi
    by_cases hk : x = kKeep
    · rw [if_pos (.inl hk)] at he
      obtain rfl : x = [107, 101, 101, 112] := hk
      have He := hide he
      clear he
      have bq := HR.out
      have r0 := bq.cell 0
      have r1 := bq.cell 1
      have r2 := bq.cell 2
      have r3 := bq.cell 3
      have s0 := bq.frozen 0
      have s1 := bq.frozen 1
      have s2 := bq.frozen 2
      have s3 := bq.frozen 3
      have rz := bq.lt
      simp only [List.getElem?_toArray, List.getElem?_cons_zero, List.getElem?_cons_succ] at r0 r1 r2 r3
      clear bq
      go_wp2_with fail
      refine bodyPost_ret (msg_out2 Tryz.results25 rfl (set4 HR.out)) rfl ?_
      refine ⟨kKeep, 0, by rw [He.out]; rfl, fun y hy => by rw [He.out] at hy; exact (Option.some.inj hy).symm, set4_new N.out (by rw [HX.out]; exact Nat.le_refl _)⟩
    · have kk : ¬ x = [107, 101, 101, 112] := hk
      have kkb : (x == [107, 101, 101, 112]) = false := beq_eq_false_iff_ne.2 kk
      by_cases hn : x = kNews
      · rw [if_pos (.inr hn)] at he
        obtain rfl : x = [110, 101, 119, 115] := hn
        have He := hide he
        clear he
        have bq := HR.out
        have r0 := bq.cell 0
        have r1 := bq.cell 1
        have r2 := bq.cell 2
        have r3 := bq.cell 3
        have s0 := bq.frozen 0
        have s1 := bq.frozen 1
        have s2 := bq.frozen 2
        have s3 := bq.frozen 3
        have rz := bq.lt
        simp only [List.getElem?_toArray, List.getElem?_cons_zero, List.getElem?_cons_succ] at r0 r1 r2 r3
        clear bq
        go_wp2_with fail
        refine bodyPost_ret (msg_out2 Tryz.results25 rfl (set4 HR.out)) rfl ?_
        refine ⟨kNews, 0, by rw [He.out]; rfl, fun y hy => by rw [He.out] at hy; exact (Option.some.inj hy).symm, set4_new N.out (by rw [HX.out]; exact Nat.le_refl _)⟩
      · have kn : ¬ x = [110, 101, 119, 115] := hn
        have knb : (x == [110, 101, 119, 115]) = false := beq_eq_false_iff_ne.2 kn
        rw [if_neg (fun h => h.elim hk hn)] at he
        have He := hide he
        clear he hk hn
        have bq := HR.out
        have r0 := bq.cell 0
        have r1 := bq.cell 1
        have r2 := bq.cell 2
        have r3 := bq.cell 3
        have s0 := bq.frozen 0
        have s1 := bq.frozen 1
        have s2 := bq.frozen 2
        have s3 := bq.frozen 3
        have rz := bq.lt
        simp only [List.getElem?_toArray, List.getElem?_cons_zero, List.getElem?_cons_succ] at r0 r1 r2 r3
        clear bq
        go_wp2_with fail
        refine bodyPost_ret (msg_out2 Tryz.results25 rfl (set4 HR.out)) rfl ?_
        refine ⟨[], 0, by rw [He.out]; rfl, (fun y hy => by rw [He.out] at hy; cases hy), set4_new N.out (by rw [HX.out]; exact Nat.le_refl _)⟩
  · have i1 : ((ps.length : Int) == 1) = false := by
      rw [beq_eq_false_iff_ne]; omega
    by_cases h2 : ps.length = 2
    rotate_left
    · have i2 : ((ps.length : Int) == 2) = false := by
        rw [beq_eq_false_iff_ne]; omega
      have He := hide (Hp0.out h1 h2)
      clear h1 h2 HS Hp0 Hp1 Hp2 Hpi
      have bq := HR.out
      have r0 := bq.cell 0
      have r1 := bq.cell 1
      have r2 := bq.cell 2
      have r3 := bq.cell 3
      have s0 := bq.frozen 0
      have s1 := bq.frozen 1
      have s2 := bq.frozen 2
      have s3 := bq.frozen 3
      have rz := bq.lt
      simp only [List.getElem?_toArray, List.getElem?_cons_zero, List.getElem?_cons_succ] at r0 r1 r2 r3
      clear bq
      go_wp2_with fail
      refine bodyPost_ret (msg_out2 Tryz.results25 rfl (set4 HR.out)) rfl ?_
      refine ⟨[], 0, by rw [He.out]; rfl, (fun y hy => by rw [He.out] at hy; cases hy), set4_new N.out (by rw [HX.out]; exact Nat.le_refl _)⟩
    · obtain ⟨x, y, rfl⟩ : ∃ x y, ps = [x, y] := by
        match ps, h2 with
        | [x, y], _ => exact ⟨x, y, rfl⟩
      obtain ⟨bb, oo, hA, hb, hcc⟩ := HS.out (by simp)
      injection hA with hA
      injection hA with hA1 hA2 _
      subst hA1; subst hA2
      have q0 : w1.cell? ⟨g, 0, none⟩ = some (.string ⟨x.toArray⟩) := hcc 0 x rfl
      have q1 : w1.cell? ⟨g, 1, none⟩ = some (.string ⟨y.toArray⟩) := hcc 1 y rfl
      have he := Hp2.out x y rfl
      have hyl := Hpi.out y (by simp)
      have Hnm := hide (number_any ⟨y.toArray⟩ 999999999 w1 (HT.out.new M.out) (by show y.toArray.size ≤ _; simp; omega) (by omega))
      have hvr := numV_two y
      have Q0 := hide (And.intro q0 hb)
      clear h1 h2 hcc HS Hp0 Hp1 Hp2 Hpi i1 hyl
      have i1 : (((2 : Nat) : Int) == 1) = false := rfl
      by_cases hon : x = kOpen ∨ x = kNote
      · have Hvr := hide hvr
        have Hon := hide hon
        clear hvr
        have key : ∀ w2, New w1 w2 → w2.cell? ⟨g, 0, none⟩ = some (.string ⟨x.toArray⟩) := fun w2 hu => (hu.cell Q0.out.2 (fun x => x)).trans Q0.out.1
        have Key := hide key
        clear key
        by_cases ho : x = kOpen
        · obtain rfl : x = [111, 112, 101, 110] := ho
          clear hon
          have He := hide he
          clear he
          go_wp2_with fail
          refine Hnm.out.mono ?_
          rintro e w2 ⟨v, rfl, hv, hu⟩
          have q0 := Key.out w2 hu
          have HR := hide (HR.out.new_ hu)
          have N := hide (N.out.trans_new hu)
          have Hv := hide hv
          clear hu hv q1
          have bq := HR.out
          have r0 := bq.cell 0
          have r1 := bq.cell 1
          have r2 := bq.cell 2
          have r3 := bq.cell 3
          have s0 := bq.frozen 0
          have s1 := bq.frozen 1
          have s2 := bq.frozen 2
          have s3 := bq.frozen 3
          have rz := bq.lt
          simp only [List.getElem?_toArray, List.getElem?_cons_zero, List.getElem?_cons_succ] at r0 r1 r2 r3
          clear bq
          go_wp2_with fail
          all_goals
            refine bodyPost_ret (msg_out2 Tryz.results25 rfl (set4 HR.out)) rfl ?_
            obtain ⟨g1, g2⟩ := head_end Hon.out He.out Hvr.out Hv.out
            exact ⟨_, v, by rw [g1]; rfl, g2, set4_new N.out (by rw [HX.out]; exact Nat.le_refl _)⟩
        · have kk : ¬ x = [111, 112, 101, 110] := ho
          have kkb : (x == [111, 112, 101, 110]) = false := beq_eq_false_iff_ne.2 kk
          obtain rfl : x = [110, 111, 116, 101] := hon.resolve_left ho
          clear hon
          have He := hide he
          clear he
          go_wp2_with fail
          refine Hnm.out.mono ?_
          rintro e w2 ⟨v, rfl, hv, hu⟩
          have q0 := Key.out w2 hu
          have HR := hide (HR.out.new_ hu)
          have N := hide (N.out.trans_new hu)
          have Hv := hide hv
          clear hu hv q1
          have bq := HR.out
          have r0 := bq.cell 0
          have r1 := bq.cell 1
          have r2 := bq.cell 2
          have r3 := bq.cell 3
          have s0 := bq.frozen 0
          have s1 := bq.frozen 1
          have s2 := bq.frozen 2
          have s3 := bq.frozen 3
          have rz := bq.lt
          simp only [List.getElem?_toArray, List.getElem?_cons_zero, List.getElem?_cons_succ] at r0 r1 r2 r3
          clear bq
          go_wp2_with fail
          all_goals
            refine bodyPost_ret (msg_out2 Tryz.results25 rfl (set4 HR.out)) rfl ?_
            obtain ⟨g1, g2⟩ := head_end Hon.out He.out Hvr.out Hv.out
            exact ⟨_, v, by rw [g1]; rfl, g2, set4_new N.out (by rw [HX.out]; exact Nat.le_refl _)⟩
      · rw [if_neg (fun h => hon h.1)] at he
        have kk : ¬ x = [111, 112, 101, 110] := fun h => hon (.inl h)
        have kkb : (x == [111, 112, 101, 110]) = false := beq_eq_false_iff_ne.2 kk
        have kn : ¬ x = [110, 111, 116, 101] := fun h => hon (.inr h)
        have knb : (x == [110, 111, 116, 101]) = false := beq_eq_false_iff_ne.2 kn
        have He := hide he
        clear he hon hvr Hnm
        have bq := HR.out
        have r0 := bq.cell 0
        have r1 := bq.cell 1
        have r2 := bq.cell 2
        have r3 := bq.cell 3
        have s0 := bq.frozen 0
        have s1 := bq.frozen 1
        have s2 := bq.frozen 2
        have s3 := bq.frozen 3
        have rz := bq.lt
        simp only [List.getElem?_toArray, List.getElem?_cons_zero, List.getElem?_cons_succ] at r0 r1 r2 r3
        clear bq
        go_wp2_with fail
        refine bodyPost_ret (msg_out2 Tryz.results25 rfl (set4 HR.out)) rfl ?_
        refine ⟨[], 0, by rw [He.out]; rfl, (fun y hy => by rw [He.out] at hy; cases hy), set4_new N.out (by rw [HX.out]; exact Nat.le_refl _)⟩
end Go.Proofs.YtjgecmkfgeajiaaGreatDoor

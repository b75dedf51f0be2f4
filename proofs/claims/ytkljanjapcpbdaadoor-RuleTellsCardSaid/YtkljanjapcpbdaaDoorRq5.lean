/- The reference: ApplyOf. No condition but those that stand in each theorem. -/
import Derived.Test.YtkljanjapcpbdaaDoorRq4
namespace Go.Proofs.YtkljanjapcpbdaaDoor
open Go.RowKit

theorem attr_out4 {fn : Func} {p t q : Tmp} {tmps : Array Value} {w : World} {R Fo : Nat} {x0 x1 x2 x3 x4 u v : Value} (h : fn.results = #[.cell p TA, .tmp t, .cell q TRF]) (hp : tmps.getD p undef = .pointer (some ⟨R, 0, none⟩)) (hq : tmps.getD q undef = .pointer (some ⟨Fo, 0, none⟩))
    (hb : Blk w R TA #[x0, x1, x2, x3, x4]) (hf : Blk w Fo TRF #[u, v]) :
    (results fn tmps).run Tryd.prog w = .ok (.tuple #[.agg #[x0, x1, x2, x3, x4], tmps.getD t undef, .agg #[u, v]]) w := by
  have hp' : tmps[p]?.getD undef = .pointer (some ⟨R, 0, none⟩) := by simpa using hp
  have hq' : tmps[q]?.getD undef = .pointer (some ⟨Fo, 0, none⟩) := by simpa using hq
  simp [results, h, hp', hq', asAddr, run_loadVar_row w R TA TA #[x0, x1, x2, x3, x4] (0, 0) _ hb Tryd.underlying80 rfl (by rw [TA_info]; rfl), run_loadVar_row w Fo TRF TRF #[u, v] (0, 0) _ hf Tryd.underlying65 rfl (by rw [TRF_info]; rfl)]
section
variable {w W : World} {R Fo : Nat} {x0 x1 x2 x3 x4 y0 y1 y2 y3 y4 z0 z1 u v : Value}
theorem end4 (hR : Blk W R TA #[x0, x1, x2, x3, x4]) (hF : Blk W Fo TRF #[z0, z1]) (hne : R ≠ Fo) :
    Blk (((((((W.setCell ⟨R, 0, none⟩ y0).setCell ⟨R, 1, none⟩ y1).setCell ⟨R, 2, none⟩ y2).setCell ⟨R, 3, none⟩ y3).setCell ⟨R, 4, none⟩ y4).setCell ⟨Fo, 0, none⟩ u).setCell ⟨Fo, 1, none⟩ v) R TA #[y0, y1, y2, y3, y4] ∧
    Blk (((((((W.setCell ⟨R, 0, none⟩ y0).setCell ⟨R, 1, none⟩ y1).setCell ⟨R, 2, none⟩ y2).setCell ⟨R, 3, none⟩ y3).setCell ⟨R, 4, none⟩ y4).setCell ⟨Fo, 0, none⟩ u).setCell ⟨Fo, 1, none⟩ v) Fo TRF #[u, v] :=
  ⟨Blk.far (Blk.far (set5 hR) (p := ⟨Fo, 0, none⟩) hne u) (p := ⟨Fo, 1, none⟩) hne v, fault_set (hF.upd (set5_one W R y0 y1 y2 y3 y4) fun e => hne e.symm)⟩
theorem upd4 : Upd (fun b => b = R ∨ b = Fo) W (((((((W.setCell ⟨R, 0, none⟩ y0).setCell ⟨R, 1, none⟩ y1).setCell ⟨R, 2, none⟩ y2).setCell ⟨R, 3, none⟩ y3).setCell ⟨R, 4, none⟩ y4).setCell ⟨Fo, 0, none⟩ u).setCell ⟨Fo, 1, none⟩ v) :=
  ((((((((Upd.refl (fun b => b = R ∨ b = Fo) W).setCell (p := ⟨R, 0, none⟩) (.inl (.inl rfl)) y0).setCell (p := ⟨R, 1, none⟩) (.inl (.inl rfl)) y1).setCell (p := ⟨R, 2, none⟩) (.inl (.inl rfl)) y2).setCell (p := ⟨R, 3, none⟩) (.inl (.inl rfl)) y3).setCell (p := ⟨R, 4, none⟩) (.inl (.inl rfl)) y4).setCell (p := ⟨Fo, 0, none⟩) (.inl (.inr rfl)) u).setCell (p := ⟨Fo, 1, none⟩) (.inl (.inr rfl)) v)
theorem new4 (hn : New w W) (hR : w.heap.size ≤ R) (hF : w.heap.size ≤ Fo) : New w (((((((W.setCell ⟨R, 0, none⟩ y0).setCell ⟨R, 1, none⟩ y1).setCell ⟨R, 2, none⟩ y2).setCell ⟨R, 3, none⟩ y3).setCell ⟨R, 4, none⟩ y4).setCell ⟨Fo, 0, none⟩ u).setCell ⟨Fo, 1, none⟩ v) :=
  hn.trans upd4 fun q hq hx => by rcases hx with h | h <;> omega
end
theorem set2_one (W : World) (X : Nat) (u v : Value) : Upd (fun b => b = X) W ((W.setCell ⟨X, 0, none⟩ u).setCell ⟨X, 1, none⟩ v) :=
  ((Upd.refl (fun b => b = X) W).setCell (p := ⟨X, 0, none⟩) (.inl rfl) u).setCell (p := ⟨X, 1, none⟩) (.inl rfl) v
theorem ap4_end {w W : World} {k : Nat} {i : Int} {G : Nat × Int} {B : Bool} {X : AtC} (hn : New w W) (hG : G = (k, i)) (hB : B = false) (hX : X = zeroC) :
    ∃ a' : AttrR, Ending.returned (.tuple #[.agg #[.slice none 0 0, .int .i64 0, .int .i64 0, .int .i64 0, .slice none 0 0], .bool false, .agg #[.int .i64 (k : Int), .int .i64 i]]) = .returned (.tuple #[.agg a'.cells, .bool B, faultV G]) ∧ a'.con = X ∧ AttrOk W a' ∧ New w W := by
  subst hG; subst hB; subst hX
  exact ⟨zeroR, rfl, rfl, zeroR_ok _, hn⟩
theorem find_at {α : Type} (p : α → Bool) {l : List α} {k : Nat} {r : α} (hk : l[k]? = some r) (hr : p r = true) (hz : ∀ (j : Nat) z, j < k → l[j]? = some z → p z = false) : l.find? p = some r := by
  have h := idxB_at p l k r hk hr hz
  rcases idxB_find p l with ⟨h1, _⟩ | ⟨_, r2, h2, h3⟩
  · omega
  · rw [h] at h2
    have h4 : l[k]? = some r2 := by simpa using h2
    rw [h3]; exact h4.symm.trans hk
theorem find_no {α : Type} (p : α → Bool) {l : List α} (hz : ∀ (j : Nat) z, l[j]? = some z → p z = false) : l.find? p = none := by
  have h := idxB_no p l hz
  rcases idxB_find p l with ⟨_, h2⟩ | ⟨h1, _⟩
  · exact h2
  · omega

set_option maxRecDepth 20000 in
set_option maxHeartbeats 32000000 in
theorem applyOf_any (A : Option Addr) (n c : Nat) (l : List RuR) (s x m : Int) (a : AttrR) (w : World)
    (hx : Rules w A l) (hn : l.length = n) (hl0 : n ≤ 1000) (ha : AttrOk w a) (hl : a.path.length ≤ 1000) (hl2 : a.tags.length ≤ 999) :
    Calls Tryd.prog 57 #[.slice A n c, .int .i64 s, .agg #[.int .i64 x, .int .i64 m], .agg a.cells] w fun e w1 => ∃ a' : AttrR, e = .returned (.tuple #[.agg a'.cells, .bool (apB l s x m a.con), faultV (apF l s x m a.con)]) ∧
      a'.con = apX l s x m a.con ∧ AttrOk w1 a' ∧ New w w1 := by
  have u := ((((Upd.refl (fun _ => False) w).alloc (.cells #[.int .i64 x, .int .i64 m] TPx)).alloc (.cells a.cells TA)).alloc (.cells #[.slice none 0 0, .int .i64 0, .int .i64 0, .int .i64 0, .slice none 0 0] TA)).alloc (.cells #[.int .i64 0, .int .i64 0] TRF)
  have b0 := (((Blk.new w TPx #[.int .i64 x, .int .i64 m]).alloc (.cells a.cells TA)).alloc (.cells #[.slice none 0 0, .int .i64 0, .int .i64 0, .int .i64 0, .slice none 0 0] TA)).alloc (.cells #[.int .i64 0, .int .i64 0] TRF)
  have b1 := ((Blk.at_ (w.alloc (.cells #[.int .i64 x, .int .i64 m] TPx)) TA a.cells (w.heap.size + 1) (by simp)).alloc (.cells #[.slice none 0 0, .int .i64 0, .int .i64 0, .int .i64 0, .slice none 0 0] TA)).alloc (.cells #[.int .i64 0, .int .i64 0] TRF)
  have b2 := (Blk.at_ ((w.alloc (.cells #[.int .i64 x, .int .i64 m] TPx)).alloc (.cells a.cells TA)) TA #[.slice none 0 0, .int .i64 0, .int .i64 0, .int .i64 0, .slice none 0 0] (w.heap.size + 1 + 1) (by simp)).alloc (.cells #[.int .i64 0, .int .i64 0] TRF)
  have b3 := Blk.at_ (((w.alloc (.cells #[.int .i64 x, .int .i64 m] TPx)).alloc (.cells a.cells TA)).alloc (.cells #[.slice none 0 0, .int .i64 0, .int .i64 0, .int .i64 0, .slice none 0 0] TA)) TRF #[.int .i64 0, .int .i64 0] (w.heap.size + 1 + 1 + 1) (by simp)
  have Hrf := hide (fun w' (nw : New w w') => rulesFault_any A n c l w' (hx.new_ nw) hn hl0)
  have Ha := hide ha
  have Hx := hide hx
  have Hn := hide hn
  have N := hide u
  have HK := hide b0
  have HM := hide b1
  have HR := hide b2
  have HF := hide b3
  clear ha u b0 b1 b2 b3 hx hn
  obtain ⟨y, hy⟩ : ∃ y, y = a.con := ⟨_, rfl⟩
  rw [← hy]
  have HY := hide hy
  clear hy
  have hfc := field_code
  have hRF : w.heap.size + 1 + 1 ≠ w.heap.size + 1 + 1 + 1 := by omega
  have hRF2 : w.heap.size + 1 + 1 + 1 ≠ w.heap.size + 1 + 1 := by omega
  have d1 : w.heap.size + 1 ≠ w.heap.size + 1 + 1 := by omega
  have d2 : w.heap.size + 1 ≠ w.heap.size + 1 + 1 + 1 := by omega
  have d3 : w.heap.size + 1 + 1 ≠ w.heap.size + 1 := by omega
  have d4 : w.heap.size + 1 + 1 + 1 ≠ w.heap.size + 1 := by omega
  unfold AttrR.cells at *
  unfold faultV at Hrf
  have Hfi := hide fineF_any
  unfold faultV at Hfi
  have Hbf := hide bareF_any
  unfold faultV at Hbf
  go_enter Tryd.func57, Tryd.ntmps57
  go_upto_region 1 with (fail)
  generalize ((((w.alloc (.cells #[.int .i64 x, .int .i64 m] TPx)).alloc (.cells #[.slice a.P a.path.length a.pc, .int .i64 a.pref, .int .i64 a.med, .int .i64 a.origin, .slice a.T a.tags.length a.tc] TA)).alloc (.cells #[.slice none 0 0, .int .i64 0, .int .i64 0, .int .i64 0, .slice none 0 0] TA)).alloc (.cells #[.int .i64 0, .int .i64 0] TRF)) = W at *
  go_wp2_with fail
  refine (Hrf.out _ N.out).mono ?_
  rintro e w1 ⟨rfl, hu⟩
  have N := hide (N.out.trans_new hu)
  have HK := hide (HK.out.new_ hu)
  have HM := hide (HM.out.new_ hu)
  have HR := hide (HR.out.new_ hu)
  have HF := hide (HF.out.new_ hu)
  clear hu Hrf
  have zF1 := HF.out.lt
  obtain ⟨C, hC⟩ : ∃ C, C = (rulesC l).1 := ⟨_, rfl⟩
  obtain ⟨J, hJ⟩ : ∃ J, J = (rulesC l).2 := ⟨_, rfl⟩
  rw [← hC, ← hJ]
  have HC := hide hC
  have HJ := hide hJ
  clear hC hJ
  have hX := Blk.new w1 TRF #[.int .i64 (C : Int), .int .i64 J]
  have nX := (Upd.refl (fun _ => False) w1).alloc (.cells #[.int .i64 (C : Int), .int .i64 J] TRF)
  have HX := hide hX
  go_upto_region 2 with (fail)
  have N := hide (N.out.trans_new nX)
  have HK := hide (HK.out.new_ nX)
  have HM := hide (HM.out.new_ nX)
  have HR := hide (HR.out.new_ nX)
  have HF := hide (HF.out.new_ nX)
  clear hX nX
  generalize w1.alloc (.cells #[.int .i64 (C : Int), .int .i64 J] TRF) = W1 at *
  generalize w1.heap.size = X at *
  have dX : X ≠ w.heap.size ∧ X ≠ w.heap.size + 1 ∧ X ≠ w.heap.size + 1 + 1 ∧ X ≠ w.heap.size + 1 + 1 + 1 := by omega
  have DX := hide dX
  have HFlt := hide (show w.heap.size + 1 + 1 + 1 < X from zF1)
  have x1 : ¬ X = w.heap.size + 1 + 1 := by omega
  have x2 : ¬ X = w.heap.size + 1 + 1 + 1 := by omega
  have x3 : ¬ w.heap.size + 1 + 1 = X := by omega
  have x4 : ¬ w.heap.size + 1 + 1 + 1 = X := by omega
  clear dX
  have bq := HX.out
  have q0 := bq.cell 0
  have q1 := bq.cell 1
  have v0 := bq.frozen 0
  have v1 := bq.frozen 1
  have zX := bq.lt
  simp only [List.getElem?_toArray, List.getElem?_cons_zero, List.getElem?_cons_succ] at q0 q1
  clear bq
  by_cases hk : C = 0
  · have Hr0 := hide (show (rulesC l).1 = 0 from HC.out.symm.trans hk)
    subst hk
    clear HC HJ
    have bq := HK.out
    have k0 := bq.cell 0
    have k1 := bq.cell 1
    have zK := bq.lt
    simp only [List.getElem?_toArray, List.getElem?_cons_zero, List.getElem?_cons_succ] at k0 k1
    clear bq
    have Hp := hide (prefixError_any x m W1)
    go_wp2_with fail
    refine Hp.out.mono ?_
    rintro e w2 ⟨rfl, hu1⟩
    go_wp2_with fail
    refine (Hbf.out (chk x m) w2).mono ?_
    rintro e w3 ⟨rfl, hu2⟩
    have hu := hu1.trans_new hu2
    clear hu1 hu2 Hp q0 q1 v0 v1 zX k0 k1 zK
    have hXw := HX.out.new_ hu
    have bq := hXw
    have q0 := bq.cell 0
    have q1 := bq.cell 1
    have v0 := bq.frozen 0
    have v1 := bq.frozen 1
    have zX := bq.lt
    simp only [List.getElem?_toArray, List.getElem?_cons_zero, List.getElem?_cons_succ] at q0 q1
    clear bq
    clear hXw
    have uX := set2_one w3 X (.int .i64 ((chk x m : Nat) : Int)) (.int .i64 (-1))
    have HX := hide (fault_set (u := .int .i64 ((chk x m : Nat) : Int)) (v := .int .i64 (-1)) (HX.out.new_ hu))
    have N := hide ((N.out.trans_new hu).trans uX (fun q hq hx => absurd hx (by show ¬ q = X; have := HFlt.out; omega)))
    have HK := hide ((HK.out.new_ hu).upd uX (fun e => DX.out.1 e.symm))
    have HM := hide ((HM.out.new_ hu).upd uX (fun e => DX.out.2.1 e.symm))
    have HR := hide ((HR.out.new_ hu).upd uX (fun e => DX.out.2.2.1 e.symm))
    have HF := hide ((HF.out.new_ hu).upd uX (fun e => DX.out.2.2.2 e.symm))
    go_upto_region 4 with (fail)
    clear q0 q1 v0 v1 zX uX hu
    generalize (w3.setCell ⟨X, 0, none⟩ (.int .i64 ((chk x m : Nat) : Int))).setCell ⟨X, 1, none⟩ (.int .i64 (-1)) = W3 at *
    have bq := HX.out
    have q0 := bq.cell 0
    have q1 := bq.cell 1
    have v0 := bq.frozen 0
    have v1 := bq.frozen 1
    have zX := bq.lt
    simp only [List.getElem?_toArray, List.getElem?_cons_zero, List.getElem?_cons_succ] at q0 q1
    clear bq
    by_cases hk : chk x m = 0
    · have Hr1 := hide hk
      rw [hk] at q0
      have Hat := hide (attrFault_any a W3 (Ha.out.new_ N.out) hl (by omega))
      rw [attrC_con, ← HY.out] at Hat
      unfold faultV AttrR.cells at Hat
      clear hk
      have bq := HM.out
      have m0 := bq.cell 0
      have m1 := bq.cell 1
      have m2 := bq.cell 2
      have m3 := bq.cell 3
      have m4 := bq.cell 4
      have zM := bq.lt
      simp only [List.getElem?_toArray, List.getElem?_cons_zero, List.getElem?_cons_succ] at m0 m1 m2 m3 m4
      clear bq
      go_wp2_with fail
      refine Hat.out.mono ?_
      rintro e w4 ⟨rfl, hu1⟩
      go_wp2_with fail
      refine (Hbf.out (conC y).1 w4).mono ?_
      rintro e w5 ⟨rfl, hu2⟩
      have hu := hu1.trans_new hu2
      clear hu1 hu2 Hat q0 q1 v0 v1 zX m0 m1 m2 m3 m4 zM
      have hXw := HX.out.new_ hu
      have bq := hXw
      have q0 := bq.cell 0
      have q1 := bq.cell 1
      have v0 := bq.frozen 0
      have v1 := bq.frozen 1
      have zX := bq.lt
      simp only [List.getElem?_toArray, List.getElem?_cons_zero, List.getElem?_cons_succ] at q0 q1
      clear bq
      clear hXw
      have uX := set2_one w5 X (.int .i64 (((conC y).1 : Nat) : Int)) (.int .i64 (-1))
      have HX := hide (fault_set (u := .int .i64 (((conC y).1 : Nat) : Int)) (v := .int .i64 (-1)) (HX.out.new_ hu))
      have N := hide ((N.out.trans_new hu).trans uX (fun q hq hx => absurd hx (by show ¬ q = X; have := HFlt.out; omega)))
      have HK := hide ((HK.out.new_ hu).upd uX (fun e => DX.out.1 e.symm))
      have HM := hide ((HM.out.new_ hu).upd uX (fun e => DX.out.2.1 e.symm))
      have HR := hide ((HR.out.new_ hu).upd uX (fun e => DX.out.2.2.1 e.symm))
      have HF := hide ((HF.out.new_ hu).upd uX (fun e => DX.out.2.2.2 e.symm))
      go_upto_region 6 with (fail)
      clear q0 q1 v0 v1 zX uX hu
      generalize (w5.setCell ⟨X, 0, none⟩ (.int .i64 (((conC y).1 : Nat) : Int))).setCell ⟨X, 1, none⟩ (.int .i64 (-1)) = W5 at *
      have bq := HX.out
      have q0 := bq.cell 0
      have q1 := bq.cell 1
      have v0 := bq.frozen 0
      have v1 := bq.frozen 1
      have zX := bq.lt
      simp only [List.getElem?_toArray, List.getElem?_cons_zero, List.getElem?_cons_succ] at q0 q1
      clear bq
      by_cases hk : (conC y).1 = 0
      · have Hr2 := hide (show (preC l x m y).1 = 0 by rw [preC_con Hr0.out Hr1.out]; exact hk)
        rw [hk] at q0
        clear hk
        by_cases h0 : l = []
        · have Hap := hide (show apF l s x m y = (0, -1) ∧ apB l s x m y = true ∧ apX l s x m y = y by subst h0; exact ap_nil Hr2.out)
          have hnz : n = 0 := by rw [← Hn.out, h0]; rfl
          have hnb : ((n : Int) == 0) = true := by rw [hnz]; rfl
          clear h0 hnz
          have bq := HM.out
          have m0 := bq.cell 0
          have m1 := bq.cell 1
          have m2 := bq.cell 2
          have m3 := bq.cell 3
          have m4 := bq.cell 4
          have zM := bq.lt
          simp only [List.getElem?_toArray, List.getElem?_cons_zero, List.getElem?_cons_succ] at m0 m1 m2 m3 m4
          clear bq
          go_upto_region 9 with (fail)
          have Wd := hide (show New W5 W5.drew from (Upd.refl _ W5).drew)
          go_region_with (first
            | (go_at_call 80; refine (Hfi.out _).mono ?_; rintro e w9 ⟨rfl, hu9⟩; have U9 := hide (Wd.out.trans_new hu9); have bR := HR.out.new_ U9.out; have bF := HF.out.new_ U9.out; have bM := HM.out.new_ U9.out; have r0 := bR.cell 0; have r1 := bR.cell 1; have r2 := bR.cell 2; have r3 := bR.cell 3; have r4 := bR.cell 4; have s0 := bR.frozen 0; have s1 := bR.frozen 1; have s2 := bR.frozen 2; have s3 := bR.frozen 3; have s4 := bR.frozen 4; have zR := bR.lt; simp only [List.getElem?_toArray, List.getElem?_cons_zero, List.getElem?_cons_succ] at r0 r1 r2 r3 r4; have h0 := bF.cell 0; have h1 := bF.cell 1; have j0 := bF.frozen 0; have j1 := bF.frozen 1; have zF := bF.lt; simp only [List.getElem?_toArray, List.getElem?_cons_zero, List.getElem?_cons_succ] at h0 h1; have n0 := bM.cell 0; have n1 := bM.cell 1; have n2 := bM.cell 2; have n3 := bM.cell 3; have n4 := bM.cell 4; have zN := bM.lt; simp only [List.getElem?_toArray, List.getElem?_cons_zero, List.getElem?_cons_succ] at n0 n1 n2 n3 n4; clear bR bF bM hu9)
            | fail)
          all_goals
            go_wp2_with fail
            refine bodyPost_ret (attr_out4 Tryd.results57 rfl rfl (end4 (HR.out.new_ U9.out) (HF.out.new_ U9.out) hRF).1 (end4 (HR.out.new_ U9.out) (HF.out.new_ U9.out) hRF).2) rfl ?_
            have nF := new4 (y0 := .slice a.P a.path.length a.pc) (y1 := .int .i64 a.pref) (y2 := .int .i64 a.med) (y3 := .int .i64 a.origin) (y4 := .slice a.T a.tags.length a.tc) (u := .int .i64 0) (v := .int .i64 (-1)) (R := w.heap.size + 1 + 1) (Fo := w.heap.size + 1 + 1 + 1) (N.out.trans_new U9.out) (by omega) (by omega)
            exact ⟨a, by rw [Hap.out.1, Hap.out.2.1]; rfl, by rw [Hap.out.2.2, HY.out], Ha.out.new_ nF, nF⟩
        · have hnz : ¬ n = 0 := fun h => h0 (List.eq_nil_of_length_eq_zero (Hn.out.trans h))
          have hni : ¬ (n : Int) = 0 := by omega
          have hnb : ((n : Int) == 0) = false := by simp [hnz]
          have H0 := hide h0
          clear h0 hnz
          go_wp2_with fail
          clear q0 q1 v0 v1 zX HX
          go_loopw [12] (fun i wr => ∃ k : Nat, k ≤ n ∧ i = .int .i64 k ∧ New W5 wr ∧ ∀ (j : Nat) z, j < k → l[j]? = some z → fitX x m y z = false) (fun i _ => n - (intOf i).toNat)
          case atStart => exact ⟨0, by omega, rfl, Upd.refl _ _, fun j z h => absurd h (by omega)⟩
          case round =>
            obtain ⟨k, hk, rfl, hnr, hz⟩ := hrel
            have Hz := hide hz
            have Nr := hide hnr
            clear hz
            have N := hide (N.out.trans_new hnr)
            have HK := hide (HK.out.new_ hnr)
            have HM := hide (HM.out.new_ hnr)
            have HR := hide (HR.out.new_ hnr)
            have HF := hide (HF.out.new_ hnr)
            clear hnr
            by_cases hlt : k < n
            · obtain ⟨b, q, r, rfl, zb, hrk, c0, c1, c2, c3, c4, c5, c6, c7, c8, c9, c10⟩ := (Hx.out.new_ N.out).at_ (k := k) (by rw [Hn.out]; exact hlt)
              have Hrk := hide hrk
              have i2 : (k : Int) < (n : Int) := by omega
              clear hrk
              have bX := Blk.new wr TRu #[.int .i64 r.a, .int .i64 r.n, .int .i64 r.lo, .int .i64 r.hi, .int .i64 r.tag, .int .i64 r.as_, .bool r.deny, .int .i64 r.pref, .int .i64 r.med, .int .i64 r.add, .int .i64 r.lead]
              have hu := (Upd.refl (fun _ => False) wr).alloc (.cells #[.int .i64 r.a, .int .i64 r.n, .int .i64 r.lo, .int .i64 r.hi, .int .i64 r.tag, .int .i64 r.as_, .bool r.deny, .int .i64 r.pref, .int .i64 r.med, .int .i64 r.add, .int .i64 r.lead] TRu)
              have HB := hide bX
              go_upto_region 14 with (fail)
              have N := hide (N.out.trans_new hu)
              have HK := hide (HK.out.new_ hu)
              have HM := hide (HM.out.new_ hu)
              have HR := hide (HR.out.new_ hu)
              have HF := hide (HF.out.new_ hu)
              have Nr := hide (Nr.out.trans_new hu)
              clear bX hu c0 c1 c2 c3 c4 c5 c6 c7 c8 c9 c10 zb
              generalize wr.alloc (.cells #[.int .i64 r.a, .int .i64 r.n, .int .i64 r.lo, .int .i64 r.hi, .int .i64 r.tag, .int .i64 r.as_, .bool r.deny, .int .i64 r.pref, .int .i64 r.med, .int .i64 r.add, .int .i64 r.lead] TRu) = W6 at *
              generalize wr.heap.size = X6 at *
              have hft := doesFit_any r x m a W6 (Ha.out.new_ N.out) hl (by omega)
              rw [show fitB r x m a.path a.tags = fitX x m y r by rw [HY.out]; rfl] at hft
              unfold AttrR.cells RuR.cells at hft
              have Hft := hide hft
              clear hft
              have bq := HB.out
              have b0 := bq.cell 0
              have b1 := bq.cell 1
              have b2 := bq.cell 2
              have b3 := bq.cell 3
              have b4 := bq.cell 4
              have b5 := bq.cell 5
              have b6 := bq.cell 6
              have b7 := bq.cell 7
              have b8 := bq.cell 8
              have b9 := bq.cell 9
              have b10 := bq.cell 10
              have zB := bq.lt
              simp only [List.getElem?_toArray, List.getElem?_cons_zero, List.getElem?_cons_succ] at b0 b1 b2 b3 b4 b5 b6 b7 b8 b9 b10
              clear bq
              have bq := HK.out
              have k0 := bq.cell 0
              have k1 := bq.cell 1
              have zK := bq.lt
              simp only [List.getElem?_toArray, List.getElem?_cons_zero, List.getElem?_cons_succ] at k0 k1
              clear bq
              have bq := HM.out
              have m0 := bq.cell 0
              have m1 := bq.cell 1
              have m2 := bq.cell 2
              have m3 := bq.cell 3
              have m4 := bq.cell 4
              have zM := bq.lt
              simp only [List.getElem?_toArray, List.getElem?_cons_zero, List.getElem?_cons_succ] at m0 m1 m2 m3 m4
              clear bq
              go_wp2_with fail
              refine Hft.out.mono ?_
              rintro e w7 ⟨rfl, hu⟩
              clear Hft b0 b1 b2 b3 b4 b5 b6 b7 b8 b9 b10 zB k0 k1 zK m0 m1 m2 m3 m4 zM
              have N := hide (N.out.trans_new hu)
              have HK := hide (HK.out.new_ hu)
              have HM := hide (HM.out.new_ hu)
              have HR := hide (HR.out.new_ hu)
              have HF := hide (HF.out.new_ hu)
              have HB := hide (HB.out.new_ hu)
              have Nr := hide (Nr.out.trans_new hu)
              clear hu
              cases hf : fitX x m y r with
              | false =>
                have Hf := hide hf
                clear hf
                go_wp2_with fail
                refine ⟨⟨k + 1, by omega, by go_num, Nr.out, fun j z hj hy => ?_⟩, by simp [intOf]; omega⟩
                by_cases hjk : j < k
                · exact Hz.out j z hjk hy
                · obtain rfl : j = k := by omega
                  rw [Hrk.out] at hy; injection hy with hy; subst hy; exact Hf.out
              | true =>
                have Hfd := hide (find_at (fitX x m y) Hrk.out hf Hz.out)
                clear hf
                have bq := HB.out
                have b6 := bq.cell 6
                have b7 := bq.cell 7
                have b8 := bq.cell 8
                have b9 := bq.cell 9
                have b10 := bq.cell 10
                have zB := bq.lt
                simp only [List.getElem?_toArray, List.getElem?_cons_zero, List.getElem?_cons_succ] at b6 b7 b8 b9 b10
                clear bq
                cases hd : r.deny with
                | true =>
                  have Hap := hide (ap_deny (s := s) Hr2.out H0.out Hfd.out hd)
                  rw [hd] at b6
                  clear hd
                  go_wp2_with fail
                  refine (Hfi.out _).mono ?_
                  rintro e w9 ⟨rfl, hu⟩
                  have N := hide (N.out.trans_new hu)
                  have HK := hide (HK.out.new_ hu)
                  have HM := hide (HM.out.new_ hu)
                  have HR := hide (HR.out.new_ hu)
                  have HF := hide (HF.out.new_ hu)
                  clear hu
                  have bq := HR.out
                  have r0 := bq.cell 0
                  have r1 := bq.cell 1
                  have r2 := bq.cell 2
                  have r3 := bq.cell 3
                  have r4 := bq.cell 4
                  have s0 := bq.frozen 0
                  have s1 := bq.frozen 1
                  have s2 := bq.frozen 2
                  have s3 := bq.frozen 3
                  have s4 := bq.frozen 4
                  have zR := bq.lt
                  simp only [List.getElem?_toArray, List.getElem?_cons_zero, List.getElem?_cons_succ] at r0 r1 r2 r3 r4
                  clear bq
                  have bq := HF.out
                  have h0 := bq.cell 0
                  have h1 := bq.cell 1
                  have j0 := bq.frozen 0
                  have j1 := bq.frozen 1
                  have zF := bq.lt
                  simp only [List.getElem?_toArray, List.getElem?_cons_zero, List.getElem?_cons_succ] at h0 h1
                  clear bq
                  go_wp2_with fail
                  refine bodyPost_ret (attr_out4 Tryd.results57 rfl rfl (end4 HR.out HF.out hRF).1 (end4 HR.out HF.out hRF).2) rfl ?_
                  exact ap4_end (k := 0) (new4 N.out (by omega) (by omega)) Hap.out.1 Hap.out.2.1 Hap.out.2.2
                | false =>
                  have Hap := hide (ap_some (s := s) Hr2.out H0.out Hfd.out hd)
                  rw [hd] at b6
                  clear hd
                  by_cases hp : 0 ≤ r.pref
                  · have hp0 : (0 : Int) ≤ r.pref := hp
                    by_cases hm : 0 ≤ r.med
                    · have hm0 : (0 : Int) ≤ r.med := hm
                      have Hmk := hide (show AttrR.con ⟨a.P, a.pc, a.path, r.pref, r.med, a.origin, a.T, a.tc, a.tags⟩ = mk1 r y by rw [HY.out]; unfold mk1; rw [if_pos hp, if_pos hm]; rfl)
                      have bq := HM.out
                      have m0 := bq.cell 0
                      have m1 := bq.cell 1
                      have m2 := bq.cell 2
                      have m3 := bq.cell 3
                      have m4 := bq.cell 4
                      have e0 := bq.frozen 0
                      have e1 := bq.frozen 1
                      have e2 := bq.frozen 2
                      have e3 := bq.frozen 3
                      have e4 := bq.frozen 4
                      have zM := bq.lt
                      simp only [List.getElem?_toArray, List.getElem?_cons_zero, List.getElem?_cons_succ] at m0 m1 m2 m3 m4
                      clear bq
                      go_upto_region 22 with (fail)
                      have HMo := HM
                      have uM := ((Upd.refl (fun b => b = w.heap.size + 1) w7).setCell (p := ⟨w.heap.size + 1, 1, none⟩) (.inl rfl) (.int .i64 r.pref)).setCell (p := ⟨w.heap.size + 1, 2, none⟩) (.inl rfl) (.int .i64 r.med)
                      have HM := hide (show Blk ((w7.setCell ⟨w.heap.size + 1, 1, none⟩ (.int .i64 r.pref)).setCell ⟨w.heap.size + 1, 2, none⟩ (.int .i64 r.med)) (w.heap.size + 1) TA #[.slice a.P a.path.length a.pc, .int .i64 r.pref, .int .i64 r.med, .int .i64 a.origin, .slice a.T a.tags.length a.tc] by have := ((HM.out.set_ 1 (.int .i64 r.pref)).set_ 2 (.int .i64 r.med)); simpa using this)
                      have HB := hide (HB.out.upd uM (by have h1 := Blk.ne_ HB.out HMo.out (by decide); exact h1))
                      have HR := hide (HR.out.upd uM (fun e => d3 e))
                      have HF := hide (HF.out.upd uM (fun e => d4 e))
                      have N := hide (((N.out).setCell (p := ⟨w.heap.size + 1, 1, none⟩) (.inr (Nat.le_succ _)) (.int .i64 r.pref)).setCell (p := ⟨w.heap.size + 1, 2, none⟩) (.inr (Nat.le_succ _)) (.int .i64 r.med))
                      clear uM b6 b7 b8 b9 b10 zB m0 m1 m2 m3 m4 e0 e1 e2 e3 e4 zM
                      generalize (w7.setCell ⟨w.heap.size + 1, 1, none⟩ (.int .i64 r.pref)).setCell ⟨w.heap.size + 1, 2, none⟩ (.int .i64 r.med) = W8 at *
                      have HM8 := HM
                      have HR8 := HR
                      have HF8 := HF
                      have OkA := hide (show AttrOk W8 ⟨a.P, a.pc, a.path, r.pref, r.med, a.origin, a.T, a.tc, a.tags⟩ from ⟨(Ha.out.new_ N.out).path, (Ha.out.new_ N.out).tags, Ha.out.pl, Ha.out.tl⟩)
                      have bq := HB.out
                      have b7 := bq.cell 7
                      have b8 := bq.cell 8
                      have b9 := bq.cell 9
                      have b10 := bq.cell 10
                      have zB := bq.lt
                      simp only [List.getElem?_toArray, List.getElem?_cons_zero, List.getElem?_cons_succ] at b7 b8 b9 b10
                      clear bq
                      have bq := HM.out
                      have m0 := bq.cell 0
                      have m1 := bq.cell 1
                      have m2 := bq.cell 2
                      have m3 := bq.cell 3
                      have m4 := bq.cell 4
                      have e0 := bq.frozen 0
                      have e1 := bq.frozen 1
                      have e2 := bq.frozen 2
                      have e3 := bq.frozen 3
                      have e4 := bq.frozen 4
                      have zM := bq.lt
                      simp only [List.getElem?_toArray, List.getElem?_cons_zero, List.getElem?_cons_succ] at m0 m1 m2 m3 m4
                      clear bq
                      by_cases h9 : 0 < r.add
                      · have h90 : (0 : Int) < r.add := h9
                        have Htg := hide (tagOf_any ⟨a.P, a.pc, a.path, r.pref, r.med, a.origin, a.T, a.tc, a.tags⟩ r.add W8 OkA.out (by show a.path.length ≤ 1000; omega) (by show a.tags.length ≤ 1000; omega))
                        rw [Hmk.out] at Htg
                        unfold AttrR.cells at Htg
                        dsimp only at Htg
                        have Htl := hide (tagX_len (x := mk1 r y) (t := r.add) (by rw [← Hmk.out]; exact hl) (by rw [← Hmk.out]; exact hl2))
                        clear e0 e1 e2 e3 e4
                        go_wp2_with fail
                        refine Htg.out.mono ?_
                        rintro e w9 ⟨⟨P3, pc3, p3, f3, g3, o3, T3, tc3, t3⟩, rfl, hcon3, hfr3, hu⟩
                        dsimp only at hfr3 ⊢
                        have Hc3 := hide hcon3
                        clear hcon3 Htg m0 m1 m2 m3 m4 zM b7 b8 b9 b10 zB
                        have N := hide (N.out.trans_new hu)
                        have HM := hide (HM.out.new_ hu)
                        have HR := hide (HR.out.new_ hu)
                        have HF := hide (HF.out.new_ hu)
                        have HB := hide (HB.out.new_ hu)
                        have HSZ := hide (Nat.le_trans hu.size (set5_one w9 (w.heap.size + 1) (.slice P3 p3.length pc3) (.int .i64 f3) (.int .i64 g3) (.int .i64 o3) (.slice T3 t3.length tc3)).size)
                        have uM := set5_one w9 (w.heap.size + 1) (.slice P3 p3.length pc3) (.int .i64 f3) (.int .i64 g3) (.int .i64 o3) (.slice T3 t3.length tc3)
                        have Fr3 := hide (hfr3.store uM (fun k e => by subst e; exact HM8.out.lt))
                        have HMo := HM
                        have bq := HM.out
                        have m0 := bq.cell 0
                        have m1 := bq.cell 1
                        have m2 := bq.cell 2
                        have m3 := bq.cell 3
                        have m4 := bq.cell 4
                        have e0 := bq.frozen 0
                        have e1 := bq.frozen 1
                        have e2 := bq.frozen 2
                        have e3 := bq.frozen 3
                        have e4 := bq.frozen 4
                        have zM := bq.lt
                        simp only [List.getElem?_toArray, List.getElem?_cons_zero, List.getElem?_cons_succ] at m0 m1 m2 m3 m4
                        clear bq
                        clear hfr3 hu
                        go_upto_region 25 with (fail)
                        clear m0 m1 m2 m3 m4 e0 e1 e2 e3 e4 zM
                        have HB := hide (HB.out.upd uM (by have h1 := Blk.ne_ HB.out HMo.out (by decide); exact h1))
                        have HM := hide (set5 (y0 := .slice P3 p3.length pc3) (y1 := .int .i64 f3) (y2 := .int .i64 g3) (y3 := .int .i64 o3) (y4 := .slice T3 t3.length tc3) HM.out)
                        have HR := hide (HR.out.upd uM (fun e => d3 e))
                        have HF := hide (HF.out.upd uM (fun e => d4 e))
                        have N := hide (set5_new (y0 := .slice P3 p3.length pc3) (y1 := .int .i64 f3) (y2 := .int .i64 g3) (y3 := .int .i64 o3) (y4 := .slice T3 t3.length tc3) N.out (Nat.le_succ w.heap.size))
                        clear uM
                        generalize ((((w9.setCell ⟨w.heap.size + 1, 0, none⟩ (.slice P3 p3.length pc3)).setCell ⟨w.heap.size + 1, 1, none⟩ (.int .i64 f3)).setCell ⟨w.heap.size + 1, 2, none⟩ (.int .i64 g3)).setCell ⟨w.heap.size + 1, 3, none⟩ (.int .i64 o3)).setCell ⟨w.heap.size + 1, 4, none⟩ (.slice T3 t3.length tc3) = W10 at *
                        by_cases hk : tagK (mk1 r y) r.add = 0
                        · have HKX := hide (mk_add (s := s) h9 hk)
                          rw [hk]
                          clear hk
                          rw [← Hc3.out] at HKX
                          have Hp3 := hide (show p3.length ≤ 1000 from by have h := congrArg AtC.path Hc3.out; rw [show p3 = _ from h]; exact Htl.out.1)
                          have Ht3 := hide (show t3.length ≤ 1000 from by have h := congrArg AtC.tags Hc3.out; rw [show t3 = _ from h]; exact Htl.out.2)
                          have OkA := hide (show AttrOk W10 ⟨P3, pc3, p3, f3, g3, o3, T3, tc3, t3⟩ from Fr3.out.ok ⟨(Ha.out.new_ N.out).path, (Ha.out.new_ N.out).tags, Ha.out.pl, Ha.out.tl⟩)
                          have sW8 := Nat.le_of_lt HM8.out.lt
                          have bq := HB.out
                          have b7 := bq.cell 7
                          have b8 := bq.cell 8
                          have b9 := bq.cell 9
                          have b10 := bq.cell 10
                          have zB := bq.lt
                          simp only [List.getElem?_toArray, List.getElem?_cons_zero, List.getElem?_cons_succ] at b7 b8 b9 b10
                          clear bq
                          have bq := HM.out
                          have m0 := bq.cell 0
                          have m1 := bq.cell 1
                          have m2 := bq.cell 2
                          have m3 := bq.cell 3
                          have m4 := bq.cell 4
                          have e0 := bq.frozen 0
                          have e1 := bq.frozen 1
                          have e2 := bq.frozen 2
                          have e3 := bq.frozen 3
                          have e4 := bq.frozen 4
                          have zM := bq.lt
                          simp only [List.getElem?_toArray, List.getElem?_cons_zero, List.getElem?_cons_succ] at m0 m1 m2 m3 m4
                          clear bq
                          have Hld := hide (leadOf_any ⟨P3, pc3, p3, f3, g3, o3, T3, tc3, t3⟩ s r.lead W10 OkA.out (by exact Hp3.out) (by exact Ht3.out))
                          rw [← HKX.out.1] at Hld
                          unfold AttrR.cells at Hld
                          dsimp only at Hld
                          clear e0 e1 e2 e3 e4
                          go_wp2_with fail
                          refine Hld.out.mono ?_
                          rintro e w11 ⟨⟨P5, pc5, p5, f5, g5, o5, T5, tc5, t5⟩, rfl, hcon5, hfr5, hu⟩
                          dsimp only at hfr5 ⊢
                          have Hc5 := hide (hcon5.trans HKX.out.2.symm)
                          have zW := HM.out.lt
                          have hfr6 := From.trans Fr3.out hfr5 HSZ.out hu
                          clear hcon5 Hld m0 m1 m2 m3 m4 zM b7 b8 b9 b10 zB
                          have N := hide (N.out.trans_new hu)
                          have HM := hide (HM.out.new_ hu)
                          have HR := hide (HR.out.new_ hu)
                          have HF := hide (HF.out.new_ hu)
                          have uM := set5_one w11 (w.heap.size + 1) (.slice P5 p5.length pc5) (.int .i64 f5) (.int .i64 g5) (.int .i64 o5) (.slice T5 t5.length tc5)
                          have Fr5 := hide (hfr6.store uM (fun k e => by subst e; exact HM8.out.lt))
                          have bq := HM.out
                          have m0 := bq.cell 0
                          have m1 := bq.cell 1
                          have m2 := bq.cell 2
                          have m3 := bq.cell 3
                          have m4 := bq.cell 4
                          have e0 := bq.frozen 0
                          have e1 := bq.frozen 1
                          have e2 := bq.frozen 2
                          have e3 := bq.frozen 3
                          have e4 := bq.frozen 4
                          have zM := bq.lt
                          simp only [List.getElem?_toArray, List.getElem?_cons_zero, List.getElem?_cons_succ] at m0 m1 m2 m3 m4
                          clear bq
                          clear hfr5 hfr6 hu
                          go_upto_region 27 with (fail)
                          clear m0 m1 m2 m3 m4 e0 e1 e2 e3 e4 zM
                          have HM := hide (set5 (y0 := .slice P5 p5.length pc5) (y1 := .int .i64 f5) (y2 := .int .i64 g5) (y3 := .int .i64 o5) (y4 := .slice T5 t5.length tc5) HM.out)
                          have HR := hide (HR.out.upd uM (fun e => d3 e))
                          have HF := hide (HF.out.upd uM (fun e => d4 e))
                          have N := hide (set5_new (y0 := .slice P5 p5.length pc5) (y1 := .int .i64 f5) (y2 := .int .i64 g5) (y3 := .int .i64 o5) (y4 := .slice T5 t5.length tc5) N.out (Nat.le_succ w.heap.size))
                          clear uM
                          generalize ((((w11.setCell ⟨w.heap.size + 1, 0, none⟩ (.slice P5 p5.length pc5)).setCell ⟨w.heap.size + 1, 1, none⟩ (.int .i64 f5)).setCell ⟨w.heap.size + 1, 2, none⟩ (.int .i64 g5)).setCell ⟨w.heap.size + 1, 3, none⟩ (.int .i64 o5)).setCell ⟨w.heap.size + 1, 4, none⟩ (.slice T5 t5.length tc5) = W12 at *
                          by_cases hk2 : mkK r s y = 0
                          · have Hk2 := hide hk2
                            rw [hk2]
                            clear hk2
                            have bq := HM.out
                            have m0 := bq.cell 0
                            have m1 := bq.cell 1
                            have m2 := bq.cell 2
                            have m3 := bq.cell 3
                            have m4 := bq.cell 4
                            have zM := bq.lt
                            simp only [List.getElem?_toArray, List.getElem?_cons_zero, List.getElem?_cons_succ] at m0 m1 m2 m3 m4
                            clear bq
                            go_upto_region 29 with (fail)
                            have Wd := hide (show New W12 W12.drew from (Upd.refl _ W12).drew)
                            go_region_with (first
                              | (go_at_call 80; refine (Hfi.out _).mono ?_; rintro e w9 ⟨rfl, hu9⟩; have U9 := hide (Wd.out.trans_new hu9); have bR := HR.out.new_ U9.out; have bF := HF.out.new_ U9.out; have bM := HM.out.new_ U9.out; have r0 := bR.cell 0; have r1 := bR.cell 1; have r2 := bR.cell 2; have r3 := bR.cell 3; have r4 := bR.cell 4; have s0 := bR.frozen 0; have s1 := bR.frozen 1; have s2 := bR.frozen 2; have s3 := bR.frozen 3; have s4 := bR.frozen 4; have zR := bR.lt; simp only [List.getElem?_toArray, List.getElem?_cons_zero, List.getElem?_cons_succ] at r0 r1 r2 r3 r4; have h0 := bF.cell 0; have h1 := bF.cell 1; have j0 := bF.frozen 0; have j1 := bF.frozen 1; have zF := bF.lt; simp only [List.getElem?_toArray, List.getElem?_cons_zero, List.getElem?_cons_succ] at h0 h1; have n0 := bM.cell 0; have n1 := bM.cell 1; have n2 := bM.cell 2; have n3 := bM.cell 3; have n4 := bM.cell 4; have zN := bM.lt; simp only [List.getElem?_toArray, List.getElem?_cons_zero, List.getElem?_cons_succ] at n0 n1 n2 n3 n4; clear bR bF bM hu9)
                              | fail)
                            all_goals
                              go_wp2_with fail
                              refine bodyPost_ret (attr_out4 Tryd.results57 rfl rfl (end4 (HR.out.new_ U9.out) (HF.out.new_ U9.out) hRF).1 (end4 (HR.out.new_ U9.out) (HF.out.new_ U9.out) hRF).2) rfl ?_
                              have nF := new4 (y0 := .slice P5 p5.length pc5) (y1 := .int .i64 f5) (y2 := .int .i64 g5) (y3 := .int .i64 o5) (y4 := .slice T5 t5.length tc5) (u := .int .i64 0) (v := .int .i64 (-1)) (R := w.heap.size + 1 + 1) (Fo := w.heap.size + 1 + 1 + 1) (N.out.trans_new U9.out) (by omega) (by omega)
                              have fr7 := ((Fr5.out.store (S := fun b => b = w.heap.size + 1 + 1 ∨ b = w.heap.size + 1 + 1 + 1) (((Upd.refl _ W12).trans (Upd.of_new U9.out) (fun _ _ h => h)).trans (upd4 (y0 := .slice P5 p5.length pc5) (y1 := .int .i64 f5) (y2 := .int .i64 g5) (y3 := .int .i64 o5) (y4 := .slice T5 t5.length tc5) (u := .int .i64 0) (v := .int .i64 (-1)) (R := w.heap.size + 1 + 1) (Fo := w.heap.size + 1 + 1 + 1)) (fun _ _ h => h)) (fun k e => by have h1 := HR8.out.lt; have h2 := HF8.out.lt; rcases e with e | e <;> omega))).ok ⟨(Ha.out.new_ nF).path, (Ha.out.new_ nF).tags, Ha.out.pl, Ha.out.tl⟩
                              refine ⟨⟨P5, pc5, p5, f5, g5, o5, T5, tc5, t5⟩, ?_, by rw [Hap.out.2.2]; exact Hc5.out, fr7, nF⟩
                              rw [Hap.out.1, Hap.out.2.1, decide_eq_true Hk2.out, Hk2.out]; rfl
                          · have hk3 : (0 : Int) < ((mkK r s y : Nat) : Int) := by omega
                            have Hk2 := hide hk2
                            clear hk2
                            have Hmx := hide (show mkX r s y = zeroC from by rw [HKX.out.2]; exact leadX_err (by rw [← HKX.out.1]; exact Hk2.out))
                            go_wp2_with fail
                            refine (Hbf.out (mkK r s y) _).mono ?_
                            rintro e w13 ⟨rfl, hu⟩
                            have N := hide (N.out.trans_new hu)
                            have HM := hide (HM.out.new_ hu)
                            have HR := hide (HR.out.new_ hu)
                            have HF := hide (HF.out.new_ hu)
                            clear hu
                            have bq := HR.out
                            have r0 := bq.cell 0
                            have r1 := bq.cell 1
                            have r2 := bq.cell 2
                            have r3 := bq.cell 3
                            have r4 := bq.cell 4
                            have s0 := bq.frozen 0
                            have s1 := bq.frozen 1
                            have s2 := bq.frozen 2
                            have s3 := bq.frozen 3
                            have s4 := bq.frozen 4
                            have zR := bq.lt
                            simp only [List.getElem?_toArray, List.getElem?_cons_zero, List.getElem?_cons_succ] at r0 r1 r2 r3 r4
                            clear bq
                            have bq := HF.out
                            have h0 := bq.cell 0
                            have h1 := bq.cell 1
                            have j0 := bq.frozen 0
                            have j1 := bq.frozen 1
                            have zF := bq.lt
                            simp only [List.getElem?_toArray, List.getElem?_cons_zero, List.getElem?_cons_succ] at h0 h1
                            clear bq
                            go_wp2_with fail
                            refine bodyPost_ret (attr_out4 Tryd.results57 rfl rfl (end4 HR.out HF.out hRF).1 (end4 HR.out HF.out hRF).2) rfl ?_
                            exact ap4_end (k := (mkK r s y)) (new4 N.out (by omega) (by omega)) Hap.out.1 (by rw [Hap.out.2.1]; exact decide_eq_false Hk2.out) (by rw [Hap.out.2.2]; exact Hmx.out)
                        · have HKX := hide (mk_bad (s := s) h9 hk)
                          have hk3 : (0 : Int) < ((tagK (mk1 r y) r.add : Nat) : Int) := by omega
                          have hk4 : (((tagK (mk1 r y) r.add : Nat) : Int) == 0) = false := by simp [hk]
                          have Hk := hide hk
                          clear hk
                          go_wp2_with fail
                          refine (Hbf.out (tagK (mk1 r y) r.add) _).mono ?_
                          rintro e w13 ⟨rfl, hu⟩
                          have N := hide (N.out.trans_new hu)
                          have HM := hide (HM.out.new_ hu)
                          have HR := hide (HR.out.new_ hu)
                          have HF := hide (HF.out.new_ hu)
                          clear hu
                          have bq := HR.out
                          have r0 := bq.cell 0
                          have r1 := bq.cell 1
                          have r2 := bq.cell 2
                          have r3 := bq.cell 3
                          have r4 := bq.cell 4
                          have s0 := bq.frozen 0
                          have s1 := bq.frozen 1
                          have s2 := bq.frozen 2
                          have s3 := bq.frozen 3
                          have s4 := bq.frozen 4
                          have zR := bq.lt
                          simp only [List.getElem?_toArray, List.getElem?_cons_zero, List.getElem?_cons_succ] at r0 r1 r2 r3 r4
                          clear bq
                          have bq := HF.out
                          have h0 := bq.cell 0
                          have h1 := bq.cell 1
                          have j0 := bq.frozen 0
                          have j1 := bq.frozen 1
                          have zF := bq.lt
                          simp only [List.getElem?_toArray, List.getElem?_cons_zero, List.getElem?_cons_succ] at h0 h1
                          clear bq
                          go_wp2_with fail
                          refine bodyPost_ret (attr_out4 Tryd.results57 rfl rfl (end4 HR.out HF.out hRF).1 (end4 HR.out HF.out hRF).2) rfl ?_
                          exact ap4_end (k := (tagK (mk1 r y) r.add)) (new4 N.out (by omega) (by omega)) (by rw [Hap.out.1, HKX.out.1]) (by rw [Hap.out.2.1, HKX.out.1]; exact decide_eq_false Hk.out) (by rw [Hap.out.2.2]; exact HKX.out.2)
                      · have h90 : ¬ (0 : Int) < r.add := h9
                        have HKX := hide (mk_noadd (s := s) (c := y) h9)
                        rw [← Hmk.out] at HKX
                        have Hld := hide (leadOf_any ⟨a.P, a.pc, a.path, r.pref, r.med, a.origin, a.T, a.tc, a.tags⟩ s r.lead W8 OkA.out (by show a.path.length ≤ 1000; omega) (by show a.tags.length ≤ 1000; omega))
                        rw [← HKX.out.1] at Hld
                        unfold AttrR.cells at Hld
                        dsimp only at Hld
                        clear e0 e1 e2 e3 e4
                        go_wp2_with fail
                        refine Hld.out.mono ?_
                        rintro e w11 ⟨⟨P5, pc5, p5, f5, g5, o5, T5, tc5, t5⟩, rfl, hcon5, hfr5, hu⟩
                        dsimp only at hfr5 ⊢
                        have Hc5 := hide (hcon5.trans HKX.out.2.symm)
                        have zW := HM.out.lt
                        have hfr6 := hfr5
                        clear hcon5 Hld m0 m1 m2 m3 m4 zM b7 b8 b9 b10 zB
                        have N := hide (N.out.trans_new hu)
                        have HM := hide (HM.out.new_ hu)
                        have HR := hide (HR.out.new_ hu)
                        have HF := hide (HF.out.new_ hu)
                        have uM := set5_one w11 (w.heap.size + 1) (.slice P5 p5.length pc5) (.int .i64 f5) (.int .i64 g5) (.int .i64 o5) (.slice T5 t5.length tc5)
                        have Fr5 := hide (hfr6.store uM (fun k e => by subst e; exact HM8.out.lt))
                        have bq := HM.out
                        have m0 := bq.cell 0
                        have m1 := bq.cell 1
                        have m2 := bq.cell 2
                        have m3 := bq.cell 3
                        have m4 := bq.cell 4
                        have e0 := bq.frozen 0
                        have e1 := bq.frozen 1
                        have e2 := bq.frozen 2
                        have e3 := bq.frozen 3
                        have e4 := bq.frozen 4
                        have zM := bq.lt
                        simp only [List.getElem?_toArray, List.getElem?_cons_zero, List.getElem?_cons_succ] at m0 m1 m2 m3 m4
                        clear bq
                        clear hfr5 hfr6 hu
                        go_upto_region 27 with (fail)
                        clear m0 m1 m2 m3 m4 e0 e1 e2 e3 e4 zM
                        have HM := hide (set5 (y0 := .slice P5 p5.length pc5) (y1 := .int .i64 f5) (y2 := .int .i64 g5) (y3 := .int .i64 o5) (y4 := .slice T5 t5.length tc5) HM.out)
                        have HR := hide (HR.out.upd uM (fun e => d3 e))
                        have HF := hide (HF.out.upd uM (fun e => d4 e))
                        have N := hide (set5_new (y0 := .slice P5 p5.length pc5) (y1 := .int .i64 f5) (y2 := .int .i64 g5) (y3 := .int .i64 o5) (y4 := .slice T5 t5.length tc5) N.out (Nat.le_succ w.heap.size))
                        clear uM
                        generalize ((((w11.setCell ⟨w.heap.size + 1, 0, none⟩ (.slice P5 p5.length pc5)).setCell ⟨w.heap.size + 1, 1, none⟩ (.int .i64 f5)).setCell ⟨w.heap.size + 1, 2, none⟩ (.int .i64 g5)).setCell ⟨w.heap.size + 1, 3, none⟩ (.int .i64 o5)).setCell ⟨w.heap.size + 1, 4, none⟩ (.slice T5 t5.length tc5) = W12 at *
                        by_cases hk2 : mkK r s y = 0
                        · have Hk2 := hide hk2
                          rw [hk2]
                          clear hk2
                          have bq := HM.out
                          have m0 := bq.cell 0
                          have m1 := bq.cell 1
                          have m2 := bq.cell 2
                          have m3 := bq.cell 3
                          have m4 := bq.cell 4
                          have zM := bq.lt
                          simp only [List.getElem?_toArray, List.getElem?_cons_zero, List.getElem?_cons_succ] at m0 m1 m2 m3 m4
                          clear bq
                          go_upto_region 29 with (fail)
                          have Wd := hide (show New W12 W12.drew from (Upd.refl _ W12).drew)
                          go_region_with (first
                            | (go_at_call 80; refine (Hfi.out _).mono ?_; rintro e w9 ⟨rfl, hu9⟩; have U9 := hide (Wd.out.trans_new hu9); have bR := HR.out.new_ U9.out; have bF := HF.out.new_ U9.out; have bM := HM.out.new_ U9.out; have r0 := bR.cell 0; have r1 := bR.cell 1; have r2 := bR.cell 2; have r3 := bR.cell 3; have r4 := bR.cell 4; have s0 := bR.frozen 0; have s1 := bR.frozen 1; have s2 := bR.frozen 2; have s3 := bR.frozen 3; have s4 := bR.frozen 4; have zR := bR.lt; simp only [List.getElem?_toArray, List.getElem?_cons_zero, List.getElem?_cons_succ] at r0 r1 r2 r3 r4; have h0 := bF.cell 0; have h1 := bF.cell 1; have j0 := bF.frozen 0; have j1 := bF.frozen 1; have zF := bF.lt; simp only [List.getElem?_toArray, List.getElem?_cons_zero, List.getElem?_cons_succ] at h0 h1; have n0 := bM.cell 0; have n1 := bM.cell 1; have n2 := bM.cell 2; have n3 := bM.cell 3; have n4 := bM.cell 4; have zN := bM.lt; simp only [List.getElem?_toArray, List.getElem?_cons_zero, List.getElem?_cons_succ] at n0 n1 n2 n3 n4; clear bR bF bM hu9)
                            | fail)
                          all_goals
                            go_wp2_with fail
                            refine bodyPost_ret (attr_out4 Tryd.results57 rfl rfl (end4 (HR.out.new_ U9.out) (HF.out.new_ U9.out) hRF).1 (end4 (HR.out.new_ U9.out) (HF.out.new_ U9.out) hRF).2) rfl ?_
                            have nF := new4 (y0 := .slice P5 p5.length pc5) (y1 := .int .i64 f5) (y2 := .int .i64 g5) (y3 := .int .i64 o5) (y4 := .slice T5 t5.length tc5) (u := .int .i64 0) (v := .int .i64 (-1)) (R := w.heap.size + 1 + 1) (Fo := w.heap.size + 1 + 1 + 1) (N.out.trans_new U9.out) (by omega) (by omega)
                            have fr7 := ((Fr5.out.store (S := fun b => b = w.heap.size + 1 + 1 ∨ b = w.heap.size + 1 + 1 + 1) (((Upd.refl _ W12).trans (Upd.of_new U9.out) (fun _ _ h => h)).trans (upd4 (y0 := .slice P5 p5.length pc5) (y1 := .int .i64 f5) (y2 := .int .i64 g5) (y3 := .int .i64 o5) (y4 := .slice T5 t5.length tc5) (u := .int .i64 0) (v := .int .i64 (-1)) (R := w.heap.size + 1 + 1) (Fo := w.heap.size + 1 + 1 + 1)) (fun _ _ h => h)) (fun k e => by have h1 := HR8.out.lt; have h2 := HF8.out.lt; rcases e with e | e <;> omega))).ok ⟨(Ha.out.new_ nF).path, (Ha.out.new_ nF).tags, Ha.out.pl, Ha.out.tl⟩
                            refine ⟨⟨P5, pc5, p5, f5, g5, o5, T5, tc5, t5⟩, ?_, by rw [Hap.out.2.2]; exact Hc5.out, fr7, nF⟩
                            rw [Hap.out.1, Hap.out.2.1, decide_eq_true Hk2.out, Hk2.out]; rfl
                        · have hk3 : (0 : Int) < ((mkK r s y : Nat) : Int) := by omega
                          have Hk2 := hide hk2
                          clear hk2
                          have Hmx := hide (show mkX r s y = zeroC from by rw [HKX.out.2]; exact leadX_err (by rw [← HKX.out.1]; exact Hk2.out))
                          go_wp2_with fail
                          refine (Hbf.out (mkK r s y) _).mono ?_
                          rintro e w13 ⟨rfl, hu⟩
                          have N := hide (N.out.trans_new hu)
                          have HM := hide (HM.out.new_ hu)
                          have HR := hide (HR.out.new_ hu)
                          have HF := hide (HF.out.new_ hu)
                          clear hu
                          have bq := HR.out
                          have r0 := bq.cell 0
                          have r1 := bq.cell 1
                          have r2 := bq.cell 2
                          have r3 := bq.cell 3
                          have r4 := bq.cell 4
                          have s0 := bq.frozen 0
                          have s1 := bq.frozen 1
                          have s2 := bq.frozen 2
                          have s3 := bq.frozen 3
                          have s4 := bq.frozen 4
                          have zR := bq.lt
                          simp only [List.getElem?_toArray, List.getElem?_cons_zero, List.getElem?_cons_succ] at r0 r1 r2 r3 r4
                          clear bq
                          have bq := HF.out
                          have h0 := bq.cell 0
                          have h1 := bq.cell 1
                          have j0 := bq.frozen 0
                          have j1 := bq.frozen 1
                          have zF := bq.lt
                          simp only [List.getElem?_toArray, List.getElem?_cons_zero, List.getElem?_cons_succ] at h0 h1
                          clear bq
                          go_wp2_with fail
                          refine bodyPost_ret (attr_out4 Tryd.results57 rfl rfl (end4 HR.out HF.out hRF).1 (end4 HR.out HF.out hRF).2) rfl ?_
                          exact ap4_end (k := (mkK r s y)) (new4 N.out (by omega) (by omega)) Hap.out.1 (by rw [Hap.out.2.1]; exact decide_eq_false Hk2.out) (by rw [Hap.out.2.2]; exact Hmx.out)
                    · have hm0 : ¬ (0 : Int) ≤ r.med := hm
                      have Hmk := hide (show AttrR.con ⟨a.P, a.pc, a.path, r.pref, a.med, a.origin, a.T, a.tc, a.tags⟩ = mk1 r y by rw [HY.out]; unfold mk1; rw [if_pos hp, if_neg hm]; rfl)
                      have bq := HM.out
                      have m0 := bq.cell 0
                      have m1 := bq.cell 1
                      have m2 := bq.cell 2
                      have m3 := bq.cell 3
                      have m4 := bq.cell 4
                      have e0 := bq.frozen 0
                      have e1 := bq.frozen 1
                      have e2 := bq.frozen 2
                      have e3 := bq.frozen 3
                      have e4 := bq.frozen 4
                      have zM := bq.lt
                      simp only [List.getElem?_toArray, List.getElem?_cons_zero, List.getElem?_cons_succ] at m0 m1 m2 m3 m4
                      clear bq
                      go_upto_region 22 with (fail)
                      have HMo := HM
                      have uM := (Upd.refl (fun b => b = w.heap.size + 1) w7).setCell (p := ⟨w.heap.size + 1, 1, none⟩) (.inl rfl) (.int .i64 r.pref)
                      have HM := hide (show Blk (w7.setCell ⟨w.heap.size + 1, 1, none⟩ (.int .i64 r.pref)) (w.heap.size + 1) TA #[.slice a.P a.path.length a.pc, .int .i64 r.pref, .int .i64 a.med, .int .i64 a.origin, .slice a.T a.tags.length a.tc] by have := (HM.out.set_ 1 (.int .i64 r.pref)); simpa using this)
                      have HB := hide (HB.out.upd uM (by have h1 := Blk.ne_ HB.out HMo.out (by decide); exact h1))
                      have HR := hide (HR.out.upd uM (fun e => d3 e))
                      have HF := hide (HF.out.upd uM (fun e => d4 e))
                      have N := hide ((N.out).setCell (p := ⟨w.heap.size + 1, 1, none⟩) (.inr (Nat.le_succ _)) (.int .i64 r.pref))
                      clear uM b6 b7 b8 b9 b10 zB m0 m1 m2 m3 m4 e0 e1 e2 e3 e4 zM
                      generalize w7.setCell ⟨w.heap.size + 1, 1, none⟩ (.int .i64 r.pref) = W8 at *
                      have HM8 := HM
                      have HR8 := HR
                      have HF8 := HF
                      have OkA := hide (show AttrOk W8 ⟨a.P, a.pc, a.path, r.pref, a.med, a.origin, a.T, a.tc, a.tags⟩ from ⟨(Ha.out.new_ N.out).path, (Ha.out.new_ N.out).tags, Ha.out.pl, Ha.out.tl⟩)
                      have bq := HB.out
                      have b7 := bq.cell 7
                      have b8 := bq.cell 8
                      have b9 := bq.cell 9
                      have b10 := bq.cell 10
                      have zB := bq.lt
                      simp only [List.getElem?_toArray, List.getElem?_cons_zero, List.getElem?_cons_succ] at b7 b8 b9 b10
                      clear bq
                      have bq := HM.out
                      have m0 := bq.cell 0
                      have m1 := bq.cell 1
                      have m2 := bq.cell 2
                      have m3 := bq.cell 3
                      have m4 := bq.cell 4
                      have e0 := bq.frozen 0
                      have e1 := bq.frozen 1
                      have e2 := bq.frozen 2
                      have e3 := bq.frozen 3
                      have e4 := bq.frozen 4
                      have zM := bq.lt
                      simp only [List.getElem?_toArray, List.getElem?_cons_zero, List.getElem?_cons_succ] at m0 m1 m2 m3 m4
                      clear bq
                      by_cases h9 : 0 < r.add
                      · have h90 : (0 : Int) < r.add := h9
                        have Htg := hide (tagOf_any ⟨a.P, a.pc, a.path, r.pref, a.med, a.origin, a.T, a.tc, a.tags⟩ r.add W8 OkA.out (by show a.path.length ≤ 1000; omega) (by show a.tags.length ≤ 1000; omega))
                        rw [Hmk.out] at Htg
                        unfold AttrR.cells at Htg
                        dsimp only at Htg
                        have Htl := hide (tagX_len (x := mk1 r y) (t := r.add) (by rw [← Hmk.out]; exact hl) (by rw [← Hmk.out]; exact hl2))
                        clear e0 e1 e2 e3 e4
                        go_wp2_with fail
                        refine Htg.out.mono ?_
                        rintro e w9 ⟨⟨P3, pc3, p3, f3, g3, o3, T3, tc3, t3⟩, rfl, hcon3, hfr3, hu⟩
                        dsimp only at hfr3 ⊢
                        have Hc3 := hide hcon3
                        clear hcon3 Htg m0 m1 m2 m3 m4 zM b7 b8 b9 b10 zB
                        have N := hide (N.out.trans_new hu)
                        have HM := hide (HM.out.new_ hu)
                        have HR := hide (HR.out.new_ hu)
                        have HF := hide (HF.out.new_ hu)
                        have HB := hide (HB.out.new_ hu)
                        have HSZ := hide (Nat.le_trans hu.size (set5_one w9 (w.heap.size + 1) (.slice P3 p3.length pc3) (.int .i64 f3) (.int .i64 g3) (.int .i64 o3) (.slice T3 t3.length tc3)).size)
                        have uM := set5_one w9 (w.heap.size + 1) (.slice P3 p3.length pc3) (.int .i64 f3) (.int .i64 g3) (.int .i64 o3) (.slice T3 t3.length tc3)
                        have Fr3 := hide (hfr3.store uM (fun k e => by subst e; exact HM8.out.lt))
                        have HMo := HM
                        have bq := HM.out
                        have m0 := bq.cell 0
                        have m1 := bq.cell 1
                        have m2 := bq.cell 2
                        have m3 := bq.cell 3
                        have m4 := bq.cell 4
                        have e0 := bq.frozen 0
                        have e1 := bq.frozen 1
                        have e2 := bq.frozen 2
                        have e3 := bq.frozen 3
                        have e4 := bq.frozen 4
                        have zM := bq.lt
                        simp only [List.getElem?_toArray, List.getElem?_cons_zero, List.getElem?_cons_succ] at m0 m1 m2 m3 m4
                        clear bq
                        clear hfr3 hu
                        go_upto_region 25 with (fail)
                        clear m0 m1 m2 m3 m4 e0 e1 e2 e3 e4 zM
                        have HB := hide (HB.out.upd uM (by have h1 := Blk.ne_ HB.out HMo.out (by decide); exact h1))
                        have HM := hide (set5 (y0 := .slice P3 p3.length pc3) (y1 := .int .i64 f3) (y2 := .int .i64 g3) (y3 := .int .i64 o3) (y4 := .slice T3 t3.length tc3) HM.out)
                        have HR := hide (HR.out.upd uM (fun e => d3 e))
                        have HF := hide (HF.out.upd uM (fun e => d4 e))
                        have N := hide (set5_new (y0 := .slice P3 p3.length pc3) (y1 := .int .i64 f3) (y2 := .int .i64 g3) (y3 := .int .i64 o3) (y4 := .slice T3 t3.length tc3) N.out (Nat.le_succ w.heap.size))
                        clear uM
                        generalize ((((w9.setCell ⟨w.heap.size + 1, 0, none⟩ (.slice P3 p3.length pc3)).setCell ⟨w.heap.size + 1, 1, none⟩ (.int .i64 f3)).setCell ⟨w.heap.size + 1, 2, none⟩ (.int .i64 g3)).setCell ⟨w.heap.size + 1, 3, none⟩ (.int .i64 o3)).setCell ⟨w.heap.size + 1, 4, none⟩ (.slice T3 t3.length tc3) = W10 at *
                        by_cases hk : tagK (mk1 r y) r.add = 0
                        · have HKX := hide (mk_add (s := s) h9 hk)
                          rw [hk]
                          clear hk
                          rw [← Hc3.out] at HKX
                          have Hp3 := hide (show p3.length ≤ 1000 from by have h := congrArg AtC.path Hc3.out; rw [show p3 = _ from h]; exact Htl.out.1)
                          have Ht3 := hide (show t3.length ≤ 1000 from by have h := congrArg AtC.tags Hc3.out; rw [show t3 = _ from h]; exact Htl.out.2)
                          have OkA := hide (show AttrOk W10 ⟨P3, pc3, p3, f3, g3, o3, T3, tc3, t3⟩ from Fr3.out.ok ⟨(Ha.out.new_ N.out).path, (Ha.out.new_ N.out).tags, Ha.out.pl, Ha.out.tl⟩)
                          have sW8 := Nat.le_of_lt HM8.out.lt
                          have bq := HB.out
                          have b7 := bq.cell 7
                          have b8 := bq.cell 8
                          have b9 := bq.cell 9
                          have b10 := bq.cell 10
                          have zB := bq.lt
                          simp only [List.getElem?_toArray, List.getElem?_cons_zero, List.getElem?_cons_succ] at b7 b8 b9 b10
                          clear bq
                          have bq := HM.out
                          have m0 := bq.cell 0
                          have m1 := bq.cell 1
                          have m2 := bq.cell 2
                          have m3 := bq.cell 3
                          have m4 := bq.cell 4
                          have e0 := bq.frozen 0
                          have e1 := bq.frozen 1
                          have e2 := bq.frozen 2
                          have e3 := bq.frozen 3
                          have e4 := bq.frozen 4
                          have zM := bq.lt
                          simp only [List.getElem?_toArray, List.getElem?_cons_zero, List.getElem?_cons_succ] at m0 m1 m2 m3 m4
                          clear bq
                          have Hld := hide (leadOf_any ⟨P3, pc3, p3, f3, g3, o3, T3, tc3, t3⟩ s r.lead W10 OkA.out (by exact Hp3.out) (by exact Ht3.out))
                          rw [← HKX.out.1] at Hld
                          unfold AttrR.cells at Hld
                          dsimp only at Hld
                          clear e0 e1 e2 e3 e4
                          go_wp2_with fail
                          refine Hld.out.mono ?_
                          rintro e w11 ⟨⟨P5, pc5, p5, f5, g5, o5, T5, tc5, t5⟩, rfl, hcon5, hfr5, hu⟩
                          dsimp only at hfr5 ⊢
                          have Hc5 := hide (hcon5.trans HKX.out.2.symm)
                          have zW := HM.out.lt
                          have hfr6 := From.trans Fr3.out hfr5 HSZ.out hu
                          clear hcon5 Hld m0 m1 m2 m3 m4 zM b7 b8 b9 b10 zB
                          have N := hide (N.out.trans_new hu)
                          have HM := hide (HM.out.new_ hu)
                          have HR := hide (HR.out.new_ hu)
                          have HF := hide (HF.out.new_ hu)
                          have uM := set5_one w11 (w.heap.size + 1) (.slice P5 p5.length pc5) (.int .i64 f5) (.int .i64 g5) (.int .i64 o5) (.slice T5 t5.length tc5)
                          have Fr5 := hide (hfr6.store uM (fun k e => by subst e; exact HM8.out.lt))
                          have bq := HM.out
                          have m0 := bq.cell 0
                          have m1 := bq.cell 1
                          have m2 := bq.cell 2
                          have m3 := bq.cell 3
                          have m4 := bq.cell 4
                          have e0 := bq.frozen 0
                          have e1 := bq.frozen 1
                          have e2 := bq.frozen 2
                          have e3 := bq.frozen 3
                          have e4 := bq.frozen 4
                          have zM := bq.lt
                          simp only [List.getElem?_toArray, List.getElem?_cons_zero, List.getElem?_cons_succ] at m0 m1 m2 m3 m4
                          clear bq
                          clear hfr5 hfr6 hu
                          go_upto_region 27 with (fail)
                          clear m0 m1 m2 m3 m4 e0 e1 e2 e3 e4 zM
                          have HM := hide (set5 (y0 := .slice P5 p5.length pc5) (y1 := .int .i64 f5) (y2 := .int .i64 g5) (y3 := .int .i64 o5) (y4 := .slice T5 t5.length tc5) HM.out)
                          have HR := hide (HR.out.upd uM (fun e => d3 e))
                          have HF := hide (HF.out.upd uM (fun e => d4 e))
                          have N := hide (set5_new (y0 := .slice P5 p5.length pc5) (y1 := .int .i64 f5) (y2 := .int .i64 g5) (y3 := .int .i64 o5) (y4 := .slice T5 t5.length tc5) N.out (Nat.le_succ w.heap.size))
                          clear uM
                          generalize ((((w11.setCell ⟨w.heap.size + 1, 0, none⟩ (.slice P5 p5.length pc5)).setCell ⟨w.heap.size + 1, 1, none⟩ (.int .i64 f5)).setCell ⟨w.heap.size + 1, 2, none⟩ (.int .i64 g5)).setCell ⟨w.heap.size + 1, 3, none⟩ (.int .i64 o5)).setCell ⟨w.heap.size + 1, 4, none⟩ (.slice T5 t5.length tc5) = W12 at *
                          by_cases hk2 : mkK r s y = 0
                          · have Hk2 := hide hk2
                            rw [hk2]
                            clear hk2
                            have bq := HM.out
                            have m0 := bq.cell 0
                            have m1 := bq.cell 1
                            have m2 := bq.cell 2
                            have m3 := bq.cell 3
                            have m4 := bq.cell 4
                            have zM := bq.lt
                            simp only [List.getElem?_toArray, List.getElem?_cons_zero, List.getElem?_cons_succ] at m0 m1 m2 m3 m4
                            clear bq
                            go_upto_region 29 with (fail)
                            have Wd := hide (show New W12 W12.drew from (Upd.refl _ W12).drew)
                            go_region_with (first
                              | (go_at_call 80; refine (Hfi.out _).mono ?_; rintro e w9 ⟨rfl, hu9⟩; have U9 := hide (Wd.out.trans_new hu9); have bR := HR.out.new_ U9.out; have bF := HF.out.new_ U9.out; have bM := HM.out.new_ U9.out; have r0 := bR.cell 0; have r1 := bR.cell 1; have r2 := bR.cell 2; have r3 := bR.cell 3; have r4 := bR.cell 4; have s0 := bR.frozen 0; have s1 := bR.frozen 1; have s2 := bR.frozen 2; have s3 := bR.frozen 3; have s4 := bR.frozen 4; have zR := bR.lt; simp only [List.getElem?_toArray, List.getElem?_cons_zero, List.getElem?_cons_succ] at r0 r1 r2 r3 r4; have h0 := bF.cell 0; have h1 := bF.cell 1; have j0 := bF.frozen 0; have j1 := bF.frozen 1; have zF := bF.lt; simp only [List.getElem?_toArray, List.getElem?_cons_zero, List.getElem?_cons_succ] at h0 h1; have n0 := bM.cell 0; have n1 := bM.cell 1; have n2 := bM.cell 2; have n3 := bM.cell 3; have n4 := bM.cell 4; have zN := bM.lt; simp only [List.getElem?_toArray, List.getElem?_cons_zero, List.getElem?_cons_succ] at n0 n1 n2 n3 n4; clear bR bF bM hu9)
                              | fail)
                            all_goals
                              go_wp2_with fail
                              refine bodyPost_ret (attr_out4 Tryd.results57 rfl rfl (end4 (HR.out.new_ U9.out) (HF.out.new_ U9.out) hRF).1 (end4 (HR.out.new_ U9.out) (HF.out.new_ U9.out) hRF).2) rfl ?_
                              have nF := new4 (y0 := .slice P5 p5.length pc5) (y1 := .int .i64 f5) (y2 := .int .i64 g5) (y3 := .int .i64 o5) (y4 := .slice T5 t5.length tc5) (u := .int .i64 0) (v := .int .i64 (-1)) (R := w.heap.size + 1 + 1) (Fo := w.heap.size + 1 + 1 + 1) (N.out.trans_new U9.out) (by omega) (by omega)
                              have fr7 := ((Fr5.out.store (S := fun b => b = w.heap.size + 1 + 1 ∨ b = w.heap.size + 1 + 1 + 1) (((Upd.refl _ W12).trans (Upd.of_new U9.out) (fun _ _ h => h)).trans (upd4 (y0 := .slice P5 p5.length pc5) (y1 := .int .i64 f5) (y2 := .int .i64 g5) (y3 := .int .i64 o5) (y4 := .slice T5 t5.length tc5) (u := .int .i64 0) (v := .int .i64 (-1)) (R := w.heap.size + 1 + 1) (Fo := w.heap.size + 1 + 1 + 1)) (fun _ _ h => h)) (fun k e => by have h1 := HR8.out.lt; have h2 := HF8.out.lt; rcases e with e | e <;> omega))).ok ⟨(Ha.out.new_ nF).path, (Ha.out.new_ nF).tags, Ha.out.pl, Ha.out.tl⟩
                              refine ⟨⟨P5, pc5, p5, f5, g5, o5, T5, tc5, t5⟩, ?_, by rw [Hap.out.2.2]; exact Hc5.out, fr7, nF⟩
                              rw [Hap.out.1, Hap.out.2.1, decide_eq_true Hk2.out, Hk2.out]; rfl
                          · have hk3 : (0 : Int) < ((mkK r s y : Nat) : Int) := by omega
                            have Hk2 := hide hk2
                            clear hk2
                            have Hmx := hide (show mkX r s y = zeroC from by rw [HKX.out.2]; exact leadX_err (by rw [← HKX.out.1]; exact Hk2.out))
                            go_wp2_with fail
                            refine (Hbf.out (mkK r s y) _).mono ?_
                            rintro e w13 ⟨rfl, hu⟩
                            have N := hide (N.out.trans_new hu)
                            have HM := hide (HM.out.new_ hu)
                            have HR := hide (HR.out.new_ hu)
                            have HF := hide (HF.out.new_ hu)
                            clear hu
                            have bq := HR.out
                            have r0 := bq.cell 0
                            have r1 := bq.cell 1
                            have r2 := bq.cell 2
                            have r3 := bq.cell 3
                            have r4 := bq.cell 4
                            have s0 := bq.frozen 0
                            have s1 := bq.frozen 1
                            have s2 := bq.frozen 2
                            have s3 := bq.frozen 3
                            have s4 := bq.frozen 4
                            have zR := bq.lt
                            simp only [List.getElem?_toArray, List.getElem?_cons_zero, List.getElem?_cons_succ] at r0 r1 r2 r3 r4
                            clear bq
                            have bq := HF.out
                            have h0 := bq.cell 0
                            have h1 := bq.cell 1
                            have j0 := bq.frozen 0
                            have j1 := bq.frozen 1
                            have zF := bq.lt
                            simp only [List.getElem?_toArray, List.getElem?_cons_zero, List.getElem?_cons_succ] at h0 h1
                            clear bq
                            go_wp2_with fail
                            refine bodyPost_ret (attr_out4 Tryd.results57 rfl rfl (end4 HR.out HF.out hRF).1 (end4 HR.out HF.out hRF).2) rfl ?_
                            exact ap4_end (k := (mkK r s y)) (new4 N.out (by omega) (by omega)) Hap.out.1 (by rw [Hap.out.2.1]; exact decide_eq_false Hk2.out) (by rw [Hap.out.2.2]; exact Hmx.out)
                        · have HKX := hide (mk_bad (s := s) h9 hk)
                          have hk3 : (0 : Int) < ((tagK (mk1 r y) r.add : Nat) : Int) := by omega
                          have hk4 : (((tagK (mk1 r y) r.add : Nat) : Int) == 0) = false := by simp [hk]
                          have Hk := hide hk
                          clear hk
                          go_wp2_with fail
                          refine (Hbf.out (tagK (mk1 r y) r.add) _).mono ?_
                          rintro e w13 ⟨rfl, hu⟩
                          have N := hide (N.out.trans_new hu)
                          have HM := hide (HM.out.new_ hu)
                          have HR := hide (HR.out.new_ hu)
                          have HF := hide (HF.out.new_ hu)
                          clear hu
                          have bq := HR.out
                          have r0 := bq.cell 0
                          have r1 := bq.cell 1
                          have r2 := bq.cell 2
                          have r3 := bq.cell 3
                          have r4 := bq.cell 4
                          have s0 := bq.frozen 0
                          have s1 := bq.frozen 1
                          have s2 := bq.frozen 2
                          have s3 := bq.frozen 3
                          have s4 := bq.frozen 4
                          have zR := bq.lt
                          simp only [List.getElem?_toArray, List.getElem?_cons_zero, List.getElem?_cons_succ] at r0 r1 r2 r3 r4
                          clear bq
                          have bq := HF.out
                          have h0 := bq.cell 0
                          have h1 := bq.cell 1
                          have j0 := bq.frozen 0
                          have j1 := bq.frozen 1
                          have zF := bq.lt
                          simp only [List.getElem?_toArray, List.getElem?_cons_zero, List.getElem?_cons_succ] at h0 h1
                          clear bq
                          go_wp2_with fail
                          refine bodyPost_ret (attr_out4 Tryd.results57 rfl rfl (end4 HR.out HF.out hRF).1 (end4 HR.out HF.out hRF).2) rfl ?_
                          exact ap4_end (k := (tagK (mk1 r y) r.add)) (new4 N.out (by omega) (by omega)) (by rw [Hap.out.1, HKX.out.1]) (by rw [Hap.out.2.1, HKX.out.1]; exact decide_eq_false Hk.out) (by rw [Hap.out.2.2]; exact HKX.out.2)
                      · have h90 : ¬ (0 : Int) < r.add := h9
                        have HKX := hide (mk_noadd (s := s) (c := y) h9)
                        rw [← Hmk.out] at HKX
                        have Hld := hide (leadOf_any ⟨a.P, a.pc, a.path, r.pref, a.med, a.origin, a.T, a.tc, a.tags⟩ s r.lead W8 OkA.out (by show a.path.length ≤ 1000; omega) (by show a.tags.length ≤ 1000; omega))
                        rw [← HKX.out.1] at Hld
                        unfold AttrR.cells at Hld
                        dsimp only at Hld
                        clear e0 e1 e2 e3 e4
                        go_wp2_with fail
                        refine Hld.out.mono ?_
                        rintro e w11 ⟨⟨P5, pc5, p5, f5, g5, o5, T5, tc5, t5⟩, rfl, hcon5, hfr5, hu⟩
                        dsimp only at hfr5 ⊢
                        have Hc5 := hide (hcon5.trans HKX.out.2.symm)
                        have zW := HM.out.lt
                        have hfr6 := hfr5
                        clear hcon5 Hld m0 m1 m2 m3 m4 zM b7 b8 b9 b10 zB
                        have N := hide (N.out.trans_new hu)
                        have HM := hide (HM.out.new_ hu)
                        have HR := hide (HR.out.new_ hu)
                        have HF := hide (HF.out.new_ hu)
                        have uM := set5_one w11 (w.heap.size + 1) (.slice P5 p5.length pc5) (.int .i64 f5) (.int .i64 g5) (.int .i64 o5) (.slice T5 t5.length tc5)
                        have Fr5 := hide (hfr6.store uM (fun k e => by subst e; exact HM8.out.lt))
                        have bq := HM.out
                        have m0 := bq.cell 0
                        have m1 := bq.cell 1
                        have m2 := bq.cell 2
                        have m3 := bq.cell 3
                        have m4 := bq.cell 4
                        have e0 := bq.frozen 0
                        have e1 := bq.frozen 1
                        have e2 := bq.frozen 2
                        have e3 := bq.frozen 3
                        have e4 := bq.frozen 4
                        have zM := bq.lt
                        simp only [List.getElem?_toArray, List.getElem?_cons_zero, List.getElem?_cons_succ] at m0 m1 m2 m3 m4
                        clear bq
                        clear hfr5 hfr6 hu
                        go_upto_region 27 with (fail)
                        clear m0 m1 m2 m3 m4 e0 e1 e2 e3 e4 zM
                        have HM := hide (set5 (y0 := .slice P5 p5.length pc5) (y1 := .int .i64 f5) (y2 := .int .i64 g5) (y3 := .int .i64 o5) (y4 := .slice T5 t5.length tc5) HM.out)
                        have HR := hide (HR.out.upd uM (fun e => d3 e))
                        have HF := hide (HF.out.upd uM (fun e => d4 e))
                        have N := hide (set5_new (y0 := .slice P5 p5.length pc5) (y1 := .int .i64 f5) (y2 := .int .i64 g5) (y3 := .int .i64 o5) (y4 := .slice T5 t5.length tc5) N.out (Nat.le_succ w.heap.size))
                        clear uM
                        generalize ((((w11.setCell ⟨w.heap.size + 1, 0, none⟩ (.slice P5 p5.length pc5)).setCell ⟨w.heap.size + 1, 1, none⟩ (.int .i64 f5)).setCell ⟨w.heap.size + 1, 2, none⟩ (.int .i64 g5)).setCell ⟨w.heap.size + 1, 3, none⟩ (.int .i64 o5)).setCell ⟨w.heap.size + 1, 4, none⟩ (.slice T5 t5.length tc5) = W12 at *
                        by_cases hk2 : mkK r s y = 0
                        · have Hk2 := hide hk2
                          rw [hk2]
                          clear hk2
                          have bq := HM.out
                          have m0 := bq.cell 0
                          have m1 := bq.cell 1
                          have m2 := bq.cell 2
                          have m3 := bq.cell 3
                          have m4 := bq.cell 4
                          have zM := bq.lt
                          simp only [List.getElem?_toArray, List.getElem?_cons_zero, List.getElem?_cons_succ] at m0 m1 m2 m3 m4
                          clear bq
                          go_upto_region 29 with (fail)
                          have Wd := hide (show New W12 W12.drew from (Upd.refl _ W12).drew)
                          go_region_with (first
                            | (go_at_call 80; refine (Hfi.out _).mono ?_; rintro e w9 ⟨rfl, hu9⟩; have U9 := hide (Wd.out.trans_new hu9); have bR := HR.out.new_ U9.out; have bF := HF.out.new_ U9.out; have bM := HM.out.new_ U9.out; have r0 := bR.cell 0; have r1 := bR.cell 1; have r2 := bR.cell 2; have r3 := bR.cell 3; have r4 := bR.cell 4; have s0 := bR.frozen 0; have s1 := bR.frozen 1; have s2 := bR.frozen 2; have s3 := bR.frozen 3; have s4 := bR.frozen 4; have zR := bR.lt; simp only [List.getElem?_toArray, List.getElem?_cons_zero, List.getElem?_cons_succ] at r0 r1 r2 r3 r4; have h0 := bF.cell 0; have h1 := bF.cell 1; have j0 := bF.frozen 0; have j1 := bF.frozen 1; have zF := bF.lt; simp only [List.getElem?_toArray, List.getElem?_cons_zero, List.getElem?_cons_succ] at h0 h1; have n0 := bM.cell 0; have n1 := bM.cell 1; have n2 := bM.cell 2; have n3 := bM.cell 3; have n4 := bM.cell 4; have zN := bM.lt; simp only [List.getElem?_toArray, List.getElem?_cons_zero, List.getElem?_cons_succ] at n0 n1 n2 n3 n4; clear bR bF bM hu9)
                            | fail)
                          all_goals
                            go_wp2_with fail
                            refine bodyPost_ret (attr_out4 Tryd.results57 rfl rfl (end4 (HR.out.new_ U9.out) (HF.out.new_ U9.out) hRF).1 (end4 (HR.out.new_ U9.out) (HF.out.new_ U9.out) hRF).2) rfl ?_
                            have nF := new4 (y0 := .slice P5 p5.length pc5) (y1 := .int .i64 f5) (y2 := .int .i64 g5) (y3 := .int .i64 o5) (y4 := .slice T5 t5.length tc5) (u := .int .i64 0) (v := .int .i64 (-1)) (R := w.heap.size + 1 + 1) (Fo := w.heap.size + 1 + 1 + 1) (N.out.trans_new U9.out) (by omega) (by omega)
                            have fr7 := ((Fr5.out.store (S := fun b => b = w.heap.size + 1 + 1 ∨ b = w.heap.size + 1 + 1 + 1) (((Upd.refl _ W12).trans (Upd.of_new U9.out) (fun _ _ h => h)).trans (upd4 (y0 := .slice P5 p5.length pc5) (y1 := .int .i64 f5) (y2 := .int .i64 g5) (y3 := .int .i64 o5) (y4 := .slice T5 t5.length tc5) (u := .int .i64 0) (v := .int .i64 (-1)) (R := w.heap.size + 1 + 1) (Fo := w.heap.size + 1 + 1 + 1)) (fun _ _ h => h)) (fun k e => by have h1 := HR8.out.lt; have h2 := HF8.out.lt; rcases e with e | e <;> omega))).ok ⟨(Ha.out.new_ nF).path, (Ha.out.new_ nF).tags, Ha.out.pl, Ha.out.tl⟩
                            refine ⟨⟨P5, pc5, p5, f5, g5, o5, T5, tc5, t5⟩, ?_, by rw [Hap.out.2.2]; exact Hc5.out, fr7, nF⟩
                            rw [Hap.out.1, Hap.out.2.1, decide_eq_true Hk2.out, Hk2.out]; rfl
                        · have hk3 : (0 : Int) < ((mkK r s y : Nat) : Int) := by omega
                          have Hk2 := hide hk2
                          clear hk2
                          have Hmx := hide (show mkX r s y = zeroC from by rw [HKX.out.2]; exact leadX_err (by rw [← HKX.out.1]; exact Hk2.out))
                          go_wp2_with fail
                          refine (Hbf.out (mkK r s y) _).mono ?_
                          rintro e w13 ⟨rfl, hu⟩
                          have N := hide (N.out.trans_new hu)
                          have HM := hide (HM.out.new_ hu)
                          have HR := hide (HR.out.new_ hu)
                          have HF := hide (HF.out.new_ hu)
                          clear hu
                          have bq := HR.out
                          have r0 := bq.cell 0
                          have r1 := bq.cell 1
                          have r2 := bq.cell 2
                          have r3 := bq.cell 3
                          have r4 := bq.cell 4
                          have s0 := bq.frozen 0
                          have s1 := bq.frozen 1
                          have s2 := bq.frozen 2
                          have s3 := bq.frozen 3
                          have s4 := bq.frozen 4
                          have zR := bq.lt
                          simp only [List.getElem?_toArray, List.getElem?_cons_zero, List.getElem?_cons_succ] at r0 r1 r2 r3 r4
                          clear bq
                          have bq := HF.out
                          have h0 := bq.cell 0
                          have h1 := bq.cell 1
                          have j0 := bq.frozen 0
                          have j1 := bq.frozen 1
                          have zF := bq.lt
                          simp only [List.getElem?_toArray, List.getElem?_cons_zero, List.getElem?_cons_succ] at h0 h1
                          clear bq
                          go_wp2_with fail
                          refine bodyPost_ret (attr_out4 Tryd.results57 rfl rfl (end4 HR.out HF.out hRF).1 (end4 HR.out HF.out hRF).2) rfl ?_
                          exact ap4_end (k := (mkK r s y)) (new4 N.out (by omega) (by omega)) Hap.out.1 (by rw [Hap.out.2.1]; exact decide_eq_false Hk2.out) (by rw [Hap.out.2.2]; exact Hmx.out)
                  · have hp0 : ¬ (0 : Int) ≤ r.pref := hp
                    by_cases hm : 0 ≤ r.med
                    · have hm0 : (0 : Int) ≤ r.med := hm
                      have Hmk := hide (show AttrR.con ⟨a.P, a.pc, a.path, a.pref, r.med, a.origin, a.T, a.tc, a.tags⟩ = mk1 r y by rw [HY.out]; unfold mk1; rw [if_neg hp, if_pos hm]; rfl)
                      have bq := HM.out
                      have m0 := bq.cell 0
                      have m1 := bq.cell 1
                      have m2 := bq.cell 2
                      have m3 := bq.cell 3
                      have m4 := bq.cell 4
                      have e0 := bq.frozen 0
                      have e1 := bq.frozen 1
                      have e2 := bq.frozen 2
                      have e3 := bq.frozen 3
                      have e4 := bq.frozen 4
                      have zM := bq.lt
                      simp only [List.getElem?_toArray, List.getElem?_cons_zero, List.getElem?_cons_succ] at m0 m1 m2 m3 m4
                      clear bq
                      go_upto_region 22 with (fail)
                      have HMo := HM
                      have uM := (Upd.refl (fun b => b = w.heap.size + 1) w7).setCell (p := ⟨w.heap.size + 1, 2, none⟩) (.inl rfl) (.int .i64 r.med)
                      have HM := hide (show Blk (w7.setCell ⟨w.heap.size + 1, 2, none⟩ (.int .i64 r.med)) (w.heap.size + 1) TA #[.slice a.P a.path.length a.pc, .int .i64 a.pref, .int .i64 r.med, .int .i64 a.origin, .slice a.T a.tags.length a.tc] by have := (HM.out.set_ 2 (.int .i64 r.med)); simpa using this)
                      have HB := hide (HB.out.upd uM (by have h1 := Blk.ne_ HB.out HMo.out (by decide); exact h1))
                      have HR := hide (HR.out.upd uM (fun e => d3 e))
                      have HF := hide (HF.out.upd uM (fun e => d4 e))
                      have N := hide ((N.out).setCell (p := ⟨w.heap.size + 1, 2, none⟩) (.inr (Nat.le_succ _)) (.int .i64 r.med))
                      clear uM b6 b7 b8 b9 b10 zB m0 m1 m2 m3 m4 e0 e1 e2 e3 e4 zM
                      generalize w7.setCell ⟨w.heap.size + 1, 2, none⟩ (.int .i64 r.med) = W8 at *
                      have HM8 := HM
                      have HR8 := HR
                      have HF8 := HF
                      have OkA := hide (show AttrOk W8 ⟨a.P, a.pc, a.path, a.pref, r.med, a.origin, a.T, a.tc, a.tags⟩ from ⟨(Ha.out.new_ N.out).path, (Ha.out.new_ N.out).tags, Ha.out.pl, Ha.out.tl⟩)
                      have bq := HB.out
                      have b7 := bq.cell 7
                      have b8 := bq.cell 8
                      have b9 := bq.cell 9
                      have b10 := bq.cell 10
                      have zB := bq.lt
                      simp only [List.getElem?_toArray, List.getElem?_cons_zero, List.getElem?_cons_succ] at b7 b8 b9 b10
                      clear bq
                      have bq := HM.out
                      have m0 := bq.cell 0
                      have m1 := bq.cell 1
                      have m2 := bq.cell 2
                      have m3 := bq.cell 3
                      have m4 := bq.cell 4
                      have e0 := bq.frozen 0
                      have e1 := bq.frozen 1
                      have e2 := bq.frozen 2
                      have e3 := bq.frozen 3
                      have e4 := bq.frozen 4
                      have zM := bq.lt
                      simp only [List.getElem?_toArray, List.getElem?_cons_zero, List.getElem?_cons_succ] at m0 m1 m2 m3 m4
                      clear bq
                      by_cases h9 : 0 < r.add
                      · have h90 : (0 : Int) < r.add := h9
                        have Htg := hide (tagOf_any ⟨a.P, a.pc, a.path, a.pref, r.med, a.origin, a.T, a.tc, a.tags⟩ r.add W8 OkA.out (by show a.path.length ≤ 1000; omega) (by show a.tags.length ≤ 1000; omega))
                        rw [Hmk.out] at Htg
                        unfold AttrR.cells at Htg
                        dsimp only at Htg
                        have Htl := hide (tagX_len (x := mk1 r y) (t := r.add) (by rw [← Hmk.out]; exact hl) (by rw [← Hmk.out]; exact hl2))
                        clear e0 e1 e2 e3 e4
                        go_wp2_with fail
                        refine Htg.out.mono ?_
                        rintro e w9 ⟨⟨P3, pc3, p3, f3, g3, o3, T3, tc3, t3⟩, rfl, hcon3, hfr3, hu⟩
                        dsimp only at hfr3 ⊢
                        have Hc3 := hide hcon3
                        clear hcon3 Htg m0 m1 m2 m3 m4 zM b7 b8 b9 b10 zB
                        have N := hide (N.out.trans_new hu)
                        have HM := hide (HM.out.new_ hu)
                        have HR := hide (HR.out.new_ hu)
                        have HF := hide (HF.out.new_ hu)
                        have HB := hide (HB.out.new_ hu)
                        have HSZ := hide (Nat.le_trans hu.size (set5_one w9 (w.heap.size + 1) (.slice P3 p3.length pc3) (.int .i64 f3) (.int .i64 g3) (.int .i64 o3) (.slice T3 t3.length tc3)).size)
                        have uM := set5_one w9 (w.heap.size + 1) (.slice P3 p3.length pc3) (.int .i64 f3) (.int .i64 g3) (.int .i64 o3) (.slice T3 t3.length tc3)
                        have Fr3 := hide (hfr3.store uM (fun k e => by subst e; exact HM8.out.lt))
                        have HMo := HM
                        have bq := HM.out
                        have m0 := bq.cell 0
                        have m1 := bq.cell 1
                        have m2 := bq.cell 2
                        have m3 := bq.cell 3
                        have m4 := bq.cell 4
                        have e0 := bq.frozen 0
                        have e1 := bq.frozen 1
                        have e2 := bq.frozen 2
                        have e3 := bq.frozen 3
                        have e4 := bq.frozen 4
                        have zM := bq.lt
                        simp only [List.getElem?_toArray, List.getElem?_cons_zero, List.getElem?_cons_succ] at m0 m1 m2 m3 m4
                        clear bq
                        clear hfr3 hu
                        go_upto_region 25 with (fail)
                        clear m0 m1 m2 m3 m4 e0 e1 e2 e3 e4 zM
                        have HB := hide (HB.out.upd uM (by have h1 := Blk.ne_ HB.out HMo.out (by decide); exact h1))
                        have HM := hide (set5 (y0 := .slice P3 p3.length pc3) (y1 := .int .i64 f3) (y2 := .int .i64 g3) (y3 := .int .i64 o3) (y4 := .slice T3 t3.length tc3) HM.out)
                        have HR := hide (HR.out.upd uM (fun e => d3 e))
                        have HF := hide (HF.out.upd uM (fun e => d4 e))
                        have N := hide (set5_new (y0 := .slice P3 p3.length pc3) (y1 := .int .i64 f3) (y2 := .int .i64 g3) (y3 := .int .i64 o3) (y4 := .slice T3 t3.length tc3) N.out (Nat.le_succ w.heap.size))
                        clear uM
                        generalize ((((w9.setCell ⟨w.heap.size + 1, 0, none⟩ (.slice P3 p3.length pc3)).setCell ⟨w.heap.size + 1, 1, none⟩ (.int .i64 f3)).setCell ⟨w.heap.size + 1, 2, none⟩ (.int .i64 g3)).setCell ⟨w.heap.size + 1, 3, none⟩ (.int .i64 o3)).setCell ⟨w.heap.size + 1, 4, none⟩ (.slice T3 t3.length tc3) = W10 at *
                        by_cases hk : tagK (mk1 r y) r.add = 0
                        · have HKX := hide (mk_add (s := s) h9 hk)
                          rw [hk]
                          clear hk
                          rw [← Hc3.out] at HKX
                          have Hp3 := hide (show p3.length ≤ 1000 from by have h := congrArg AtC.path Hc3.out; rw [show p3 = _ from h]; exact Htl.out.1)
                          have Ht3 := hide (show t3.length ≤ 1000 from by have h := congrArg AtC.tags Hc3.out; rw [show t3 = _ from h]; exact Htl.out.2)
                          have OkA := hide (show AttrOk W10 ⟨P3, pc3, p3, f3, g3, o3, T3, tc3, t3⟩ from Fr3.out.ok ⟨(Ha.out.new_ N.out).path, (Ha.out.new_ N.out).tags, Ha.out.pl, Ha.out.tl⟩)
                          have sW8 := Nat.le_of_lt HM8.out.lt
                          have bq := HB.out
                          have b7 := bq.cell 7
                          have b8 := bq.cell 8
                          have b9 := bq.cell 9
                          have b10 := bq.cell 10
                          have zB := bq.lt
                          simp only [List.getElem?_toArray, List.getElem?_cons_zero, List.getElem?_cons_succ] at b7 b8 b9 b10
                          clear bq
                          have bq := HM.out
                          have m0 := bq.cell 0
                          have m1 := bq.cell 1
                          have m2 := bq.cell 2
                          have m3 := bq.cell 3
                          have m4 := bq.cell 4
                          have e0 := bq.frozen 0
                          have e1 := bq.frozen 1
                          have e2 := bq.frozen 2
                          have e3 := bq.frozen 3
                          have e4 := bq.frozen 4
                          have zM := bq.lt
                          simp only [List.getElem?_toArray, List.getElem?_cons_zero, List.getElem?_cons_succ] at m0 m1 m2 m3 m4
                          clear bq
                          have Hld := hide (leadOf_any ⟨P3, pc3, p3, f3, g3, o3, T3, tc3, t3⟩ s r.lead W10 OkA.out (by exact Hp3.out) (by exact Ht3.out))
                          rw [← HKX.out.1] at Hld
                          unfold AttrR.cells at Hld
                          dsimp only at Hld
                          clear e0 e1 e2 e3 e4
                          go_wp2_with fail
                          refine Hld.out.mono ?_
                          rintro e w11 ⟨⟨P5, pc5, p5, f5, g5, o5, T5, tc5, t5⟩, rfl, hcon5, hfr5, hu⟩
                          dsimp only at hfr5 ⊢
                          have Hc5 := hide (hcon5.trans HKX.out.2.symm)
                          have zW := HM.out.lt
                          have hfr6 := From.trans Fr3.out hfr5 HSZ.out hu
                          clear hcon5 Hld m0 m1 m2 m3 m4 zM b7 b8 b9 b10 zB
                          have N := hide (N.out.trans_new hu)
                          have HM := hide (HM.out.new_ hu)
                          have HR := hide (HR.out.new_ hu)
                          have HF := hide (HF.out.new_ hu)
                          have uM := set5_one w11 (w.heap.size + 1) (.slice P5 p5.length pc5) (.int .i64 f5) (.int .i64 g5) (.int .i64 o5) (.slice T5 t5.length tc5)
                          have Fr5 := hide (hfr6.store uM (fun k e => by subst e; exact HM8.out.lt))
                          have bq := HM.out
                          have m0 := bq.cell 0
                          have m1 := bq.cell 1
                          have m2 := bq.cell 2
                          have m3 := bq.cell 3
                          have m4 := bq.cell 4
                          have e0 := bq.frozen 0
                          have e1 := bq.frozen 1
                          have e2 := bq.frozen 2
                          have e3 := bq.frozen 3
                          have e4 := bq.frozen 4
                          have zM := bq.lt
                          simp only [List.getElem?_toArray, List.getElem?_cons_zero, List.getElem?_cons_succ] at m0 m1 m2 m3 m4
                          clear bq
                          clear hfr5 hfr6 hu
                          go_upto_region 27 with (fail)
                          clear m0 m1 m2 m3 m4 e0 e1 e2 e3 e4 zM
                          have HM := hide (set5 (y0 := .slice P5 p5.length pc5) (y1 := .int .i64 f5) (y2 := .int .i64 g5) (y3 := .int .i64 o5) (y4 := .slice T5 t5.length tc5) HM.out)
                          have HR := hide (HR.out.upd uM (fun e => d3 e))
                          have HF := hide (HF.out.upd uM (fun e => d4 e))
                          have N := hide (set5_new (y0 := .slice P5 p5.length pc5) (y1 := .int .i64 f5) (y2 := .int .i64 g5) (y3 := .int .i64 o5) (y4 := .slice T5 t5.length tc5) N.out (Nat.le_succ w.heap.size))
                          clear uM
                          generalize ((((w11.setCell ⟨w.heap.size + 1, 0, none⟩ (.slice P5 p5.length pc5)).setCell ⟨w.heap.size + 1, 1, none⟩ (.int .i64 f5)).setCell ⟨w.heap.size + 1, 2, none⟩ (.int .i64 g5)).setCell ⟨w.heap.size + 1, 3, none⟩ (.int .i64 o5)).setCell ⟨w.heap.size + 1, 4, none⟩ (.slice T5 t5.length tc5) = W12 at *
                          by_cases hk2 : mkK r s y = 0
                          · have Hk2 := hide hk2
                            rw [hk2]
                            clear hk2
                            have bq := HM.out
                            have m0 := bq.cell 0
                            have m1 := bq.cell 1
                            have m2 := bq.cell 2
                            have m3 := bq.cell 3
                            have m4 := bq.cell 4
                            have zM := bq.lt
                            simp only [List.getElem?_toArray, List.getElem?_cons_zero, List.getElem?_cons_succ] at m0 m1 m2 m3 m4
                            clear bq
                            go_upto_region 29 with (fail)
                            have Wd := hide (show New W12 W12.drew from (Upd.refl _ W12).drew)
                            go_region_with (first
                              | (go_at_call 80; refine (Hfi.out _).mono ?_; rintro e w9 ⟨rfl, hu9⟩; have U9 := hide (Wd.out.trans_new hu9); have bR := HR.out.new_ U9.out; have bF := HF.out.new_ U9.out; have bM := HM.out.new_ U9.out; have r0 := bR.cell 0; have r1 := bR.cell 1; have r2 := bR.cell 2; have r3 := bR.cell 3; have r4 := bR.cell 4; have s0 := bR.frozen 0; have s1 := bR.frozen 1; have s2 := bR.frozen 2; have s3 := bR.frozen 3; have s4 := bR.frozen 4; have zR := bR.lt; simp only [List.getElem?_toArray, List.getElem?_cons_zero, List.getElem?_cons_succ] at r0 r1 r2 r3 r4; have h0 := bF.cell 0; have h1 := bF.cell 1; have j0 := bF.frozen 0; have j1 := bF.frozen 1; have zF := bF.lt; simp only [List.getElem?_toArray, List.getElem?_cons_zero, List.getElem?_cons_succ] at h0 h1; have n0 := bM.cell 0; have n1 := bM.cell 1; have n2 := bM.cell 2; have n3 := bM.cell 3; have n4 := bM.cell 4; have zN := bM.lt; simp only [List.getElem?_toArray, List.getElem?_cons_zero, List.getElem?_cons_succ] at n0 n1 n2 n3 n4; clear bR bF bM hu9)
                              | fail)
                            all_goals
                              go_wp2_with fail
                              refine bodyPost_ret (attr_out4 Tryd.results57 rfl rfl (end4 (HR.out.new_ U9.out) (HF.out.new_ U9.out) hRF).1 (end4 (HR.out.new_ U9.out) (HF.out.new_ U9.out) hRF).2) rfl ?_
                              have nF := new4 (y0 := .slice P5 p5.length pc5) (y1 := .int .i64 f5) (y2 := .int .i64 g5) (y3 := .int .i64 o5) (y4 := .slice T5 t5.length tc5) (u := .int .i64 0) (v := .int .i64 (-1)) (R := w.heap.size + 1 + 1) (Fo := w.heap.size + 1 + 1 + 1) (N.out.trans_new U9.out) (by omega) (by omega)
                              have fr7 := ((Fr5.out.store (S := fun b => b = w.heap.size + 1 + 1 ∨ b = w.heap.size + 1 + 1 + 1) (((Upd.refl _ W12).trans (Upd.of_new U9.out) (fun _ _ h => h)).trans (upd4 (y0 := .slice P5 p5.length pc5) (y1 := .int .i64 f5) (y2 := .int .i64 g5) (y3 := .int .i64 o5) (y4 := .slice T5 t5.length tc5) (u := .int .i64 0) (v := .int .i64 (-1)) (R := w.heap.size + 1 + 1) (Fo := w.heap.size + 1 + 1 + 1)) (fun _ _ h => h)) (fun k e => by have h1 := HR8.out.lt; have h2 := HF8.out.lt; rcases e with e | e <;> omega))).ok ⟨(Ha.out.new_ nF).path, (Ha.out.new_ nF).tags, Ha.out.pl, Ha.out.tl⟩
                              refine ⟨⟨P5, pc5, p5, f5, g5, o5, T5, tc5, t5⟩, ?_, by rw [Hap.out.2.2]; exact Hc5.out, fr7, nF⟩
                              rw [Hap.out.1, Hap.out.2.1, decide_eq_true Hk2.out, Hk2.out]; rfl
                          · have hk3 : (0 : Int) < ((mkK r s y : Nat) : Int) := by omega
                            have Hk2 := hide hk2
                            clear hk2
                            have Hmx := hide (show mkX r s y = zeroC from by rw [HKX.out.2]; exact leadX_err (by rw [← HKX.out.1]; exact Hk2.out))
                            go_wp2_with fail
                            refine (Hbf.out (mkK r s y) _).mono ?_
                            rintro e w13 ⟨rfl, hu⟩
                            have N := hide (N.out.trans_new hu)
                            have HM := hide (HM.out.new_ hu)
                            have HR := hide (HR.out.new_ hu)
                            have HF := hide (HF.out.new_ hu)
                            clear hu
                            have bq := HR.out
                            have r0 := bq.cell 0
                            have r1 := bq.cell 1
                            have r2 := bq.cell 2
                            have r3 := bq.cell 3
                            have r4 := bq.cell 4
                            have s0 := bq.frozen 0
                            have s1 := bq.frozen 1
                            have s2 := bq.frozen 2
                            have s3 := bq.frozen 3
                            have s4 := bq.frozen 4
                            have zR := bq.lt
                            simp only [List.getElem?_toArray, List.getElem?_cons_zero, List.getElem?_cons_succ] at r0 r1 r2 r3 r4
                            clear bq
                            have bq := HF.out
                            have h0 := bq.cell 0
                            have h1 := bq.cell 1
                            have j0 := bq.frozen 0
                            have j1 := bq.frozen 1
                            have zF := bq.lt
                            simp only [List.getElem?_toArray, List.getElem?_cons_zero, List.getElem?_cons_succ] at h0 h1
                            clear bq
                            go_wp2_with fail
                            refine bodyPost_ret (attr_out4 Tryd.results57 rfl rfl (end4 HR.out HF.out hRF).1 (end4 HR.out HF.out hRF).2) rfl ?_
                            exact ap4_end (k := (mkK r s y)) (new4 N.out (by omega) (by omega)) Hap.out.1 (by rw [Hap.out.2.1]; exact decide_eq_false Hk2.out) (by rw [Hap.out.2.2]; exact Hmx.out)
                        · have HKX := hide (mk_bad (s := s) h9 hk)
                          have hk3 : (0 : Int) < ((tagK (mk1 r y) r.add : Nat) : Int) := by omega
                          have hk4 : (((tagK (mk1 r y) r.add : Nat) : Int) == 0) = false := by simp [hk]
                          have Hk := hide hk
                          clear hk
                          go_wp2_with fail
                          refine (Hbf.out (tagK (mk1 r y) r.add) _).mono ?_
                          rintro e w13 ⟨rfl, hu⟩
                          have N := hide (N.out.trans_new hu)
                          have HM := hide (HM.out.new_ hu)
                          have HR := hide (HR.out.new_ hu)
                          have HF := hide (HF.out.new_ hu)
                          clear hu
                          have bq := HR.out
                          have r0 := bq.cell 0
                          have r1 := bq.cell 1
                          have r2 := bq.cell 2
                          have r3 := bq.cell 3
                          have r4 := bq.cell 4
                          have s0 := bq.frozen 0
                          have s1 := bq.frozen 1
                          have s2 := bq.frozen 2
                          have s3 := bq.frozen 3
                          have s4 := bq.frozen 4
                          have zR := bq.lt
                          simp only [List.getElem?_toArray, List.getElem?_cons_zero, List.getElem?_cons_succ] at r0 r1 r2 r3 r4
                          clear bq
                          have bq := HF.out
                          have h0 := bq.cell 0
                          have h1 := bq.cell 1
                          have j0 := bq.frozen 0
                          have j1 := bq.frozen 1
                          have zF := bq.lt
                          simp only [List.getElem?_toArray, List.getElem?_cons_zero, List.getElem?_cons_succ] at h0 h1
                          clear bq
                          go_wp2_with fail
                          refine bodyPost_ret (attr_out4 Tryd.results57 rfl rfl (end4 HR.out HF.out hRF).1 (end4 HR.out HF.out hRF).2) rfl ?_
                          exact ap4_end (k := (tagK (mk1 r y) r.add)) (new4 N.out (by omega) (by omega)) (by rw [Hap.out.1, HKX.out.1]) (by rw [Hap.out.2.1, HKX.out.1]; exact decide_eq_false Hk.out) (by rw [Hap.out.2.2]; exact HKX.out.2)
                      · have h90 : ¬ (0 : Int) < r.add := h9
                        have HKX := hide (mk_noadd (s := s) (c := y) h9)
                        rw [← Hmk.out] at HKX
                        have Hld := hide (leadOf_any ⟨a.P, a.pc, a.path, a.pref, r.med, a.origin, a.T, a.tc, a.tags⟩ s r.lead W8 OkA.out (by show a.path.length ≤ 1000; omega) (by show a.tags.length ≤ 1000; omega))
                        rw [← HKX.out.1] at Hld
                        unfold AttrR.cells at Hld
                        dsimp only at Hld
                        clear e0 e1 e2 e3 e4
                        go_wp2_with fail
                        refine Hld.out.mono ?_
                        rintro e w11 ⟨⟨P5, pc5, p5, f5, g5, o5, T5, tc5, t5⟩, rfl, hcon5, hfr5, hu⟩
                        dsimp only at hfr5 ⊢
                        have Hc5 := hide (hcon5.trans HKX.out.2.symm)
                        have zW := HM.out.lt
                        have hfr6 := hfr5
                        clear hcon5 Hld m0 m1 m2 m3 m4 zM b7 b8 b9 b10 zB
                        have N := hide (N.out.trans_new hu)
                        have HM := hide (HM.out.new_ hu)
                        have HR := hide (HR.out.new_ hu)
                        have HF := hide (HF.out.new_ hu)
                        have uM := set5_one w11 (w.heap.size + 1) (.slice P5 p5.length pc5) (.int .i64 f5) (.int .i64 g5) (.int .i64 o5) (.slice T5 t5.length tc5)
                        have Fr5 := hide (hfr6.store uM (fun k e => by subst e; exact HM8.out.lt))
                        have bq := HM.out
                        have m0 := bq.cell 0
                        have m1 := bq.cell 1
                        have m2 := bq.cell 2
                        have m3 := bq.cell 3
                        have m4 := bq.cell 4
                        have e0 := bq.frozen 0
                        have e1 := bq.frozen 1
                        have e2 := bq.frozen 2
                        have e3 := bq.frozen 3
                        have e4 := bq.frozen 4
                        have zM := bq.lt
                        simp only [List.getElem?_toArray, List.getElem?_cons_zero, List.getElem?_cons_succ] at m0 m1 m2 m3 m4
                        clear bq
                        clear hfr5 hfr6 hu
                        go_upto_region 27 with (fail)
                        clear m0 m1 m2 m3 m4 e0 e1 e2 e3 e4 zM
                        have HM := hide (set5 (y0 := .slice P5 p5.length pc5) (y1 := .int .i64 f5) (y2 := .int .i64 g5) (y3 := .int .i64 o5) (y4 := .slice T5 t5.length tc5) HM.out)
                        have HR := hide (HR.out.upd uM (fun e => d3 e))
                        have HF := hide (HF.out.upd uM (fun e => d4 e))
                        have N := hide (set5_new (y0 := .slice P5 p5.length pc5) (y1 := .int .i64 f5) (y2 := .int .i64 g5) (y3 := .int .i64 o5) (y4 := .slice T5 t5.length tc5) N.out (Nat.le_succ w.heap.size))
                        clear uM
                        generalize ((((w11.setCell ⟨w.heap.size + 1, 0, none⟩ (.slice P5 p5.length pc5)).setCell ⟨w.heap.size + 1, 1, none⟩ (.int .i64 f5)).setCell ⟨w.heap.size + 1, 2, none⟩ (.int .i64 g5)).setCell ⟨w.heap.size + 1, 3, none⟩ (.int .i64 o5)).setCell ⟨w.heap.size + 1, 4, none⟩ (.slice T5 t5.length tc5) = W12 at *
                        by_cases hk2 : mkK r s y = 0
                        · have Hk2 := hide hk2
                          rw [hk2]
                          clear hk2
                          have bq := HM.out
                          have m0 := bq.cell 0
                          have m1 := bq.cell 1
                          have m2 := bq.cell 2
                          have m3 := bq.cell 3
                          have m4 := bq.cell 4
                          have zM := bq.lt
                          simp only [List.getElem?_toArray, List.getElem?_cons_zero, List.getElem?_cons_succ] at m0 m1 m2 m3 m4
                          clear bq
                          go_upto_region 29 with (fail)
                          have Wd := hide (show New W12 W12.drew from (Upd.refl _ W12).drew)
                          go_region_with (first
                            | (go_at_call 80; refine (Hfi.out _).mono ?_; rintro e w9 ⟨rfl, hu9⟩; have U9 := hide (Wd.out.trans_new hu9); have bR := HR.out.new_ U9.out; have bF := HF.out.new_ U9.out; have bM := HM.out.new_ U9.out; have r0 := bR.cell 0; have r1 := bR.cell 1; have r2 := bR.cell 2; have r3 := bR.cell 3; have r4 := bR.cell 4; have s0 := bR.frozen 0; have s1 := bR.frozen 1; have s2 := bR.frozen 2; have s3 := bR.frozen 3; have s4 := bR.frozen 4; have zR := bR.lt; simp only [List.getElem?_toArray, List.getElem?_cons_zero, List.getElem?_cons_succ] at r0 r1 r2 r3 r4; have h0 := bF.cell 0; have h1 := bF.cell 1; have j0 := bF.frozen 0; have j1 := bF.frozen 1; have zF := bF.lt; simp only [List.getElem?_toArray, List.getElem?_cons_zero, List.getElem?_cons_succ] at h0 h1; have n0 := bM.cell 0; have n1 := bM.cell 1; have n2 := bM.cell 2; have n3 := bM.cell 3; have n4 := bM.cell 4; have zN := bM.lt; simp only [List.getElem?_toArray, List.getElem?_cons_zero, List.getElem?_cons_succ] at n0 n1 n2 n3 n4; clear bR bF bM hu9)
                            | fail)
                          all_goals
                            go_wp2_with fail
                            refine bodyPost_ret (attr_out4 Tryd.results57 rfl rfl (end4 (HR.out.new_ U9.out) (HF.out.new_ U9.out) hRF).1 (end4 (HR.out.new_ U9.out) (HF.out.new_ U9.out) hRF).2) rfl ?_
                            have nF := new4 (y0 := .slice P5 p5.length pc5) (y1 := .int .i64 f5) (y2 := .int .i64 g5) (y3 := .int .i64 o5) (y4 := .slice T5 t5.length tc5) (u := .int .i64 0) (v := .int .i64 (-1)) (R := w.heap.size + 1 + 1) (Fo := w.heap.size + 1 + 1 + 1) (N.out.trans_new U9.out) (by omega) (by omega)
                            have fr7 := ((Fr5.out.store (S := fun b => b = w.heap.size + 1 + 1 ∨ b = w.heap.size + 1 + 1 + 1) (((Upd.refl _ W12).trans (Upd.of_new U9.out) (fun _ _ h => h)).trans (upd4 (y0 := .slice P5 p5.length pc5) (y1 := .int .i64 f5) (y2 := .int .i64 g5) (y3 := .int .i64 o5) (y4 := .slice T5 t5.length tc5) (u := .int .i64 0) (v := .int .i64 (-1)) (R := w.heap.size + 1 + 1) (Fo := w.heap.size + 1 + 1 + 1)) (fun _ _ h => h)) (fun k e => by have h1 := HR8.out.lt; have h2 := HF8.out.lt; rcases e with e | e <;> omega))).ok ⟨(Ha.out.new_ nF).path, (Ha.out.new_ nF).tags, Ha.out.pl, Ha.out.tl⟩
                            refine ⟨⟨P5, pc5, p5, f5, g5, o5, T5, tc5, t5⟩, ?_, by rw [Hap.out.2.2]; exact Hc5.out, fr7, nF⟩
                            rw [Hap.out.1, Hap.out.2.1, decide_eq_true Hk2.out, Hk2.out]; rfl
                        · have hk3 : (0 : Int) < ((mkK r s y : Nat) : Int) := by omega
                          have Hk2 := hide hk2
                          clear hk2
                          have Hmx := hide (show mkX r s y = zeroC from by rw [HKX.out.2]; exact leadX_err (by rw [← HKX.out.1]; exact Hk2.out))
                          go_wp2_with fail
                          refine (Hbf.out (mkK r s y) _).mono ?_
                          rintro e w13 ⟨rfl, hu⟩
                          have N := hide (N.out.trans_new hu)
                          have HM := hide (HM.out.new_ hu)
                          have HR := hide (HR.out.new_ hu)
                          have HF := hide (HF.out.new_ hu)
                          clear hu
                          have bq := HR.out
                          have r0 := bq.cell 0
                          have r1 := bq.cell 1
                          have r2 := bq.cell 2
                          have r3 := bq.cell 3
                          have r4 := bq.cell 4
                          have s0 := bq.frozen 0
                          have s1 := bq.frozen 1
                          have s2 := bq.frozen 2
                          have s3 := bq.frozen 3
                          have s4 := bq.frozen 4
                          have zR := bq.lt
                          simp only [List.getElem?_toArray, List.getElem?_cons_zero, List.getElem?_cons_succ] at r0 r1 r2 r3 r4
                          clear bq
                          have bq := HF.out
                          have h0 := bq.cell 0
                          have h1 := bq.cell 1
                          have j0 := bq.frozen 0
                          have j1 := bq.frozen 1
                          have zF := bq.lt
                          simp only [List.getElem?_toArray, List.getElem?_cons_zero, List.getElem?_cons_succ] at h0 h1
                          clear bq
                          go_wp2_with fail
                          refine bodyPost_ret (attr_out4 Tryd.results57 rfl rfl (end4 HR.out HF.out hRF).1 (end4 HR.out HF.out hRF).2) rfl ?_
                          exact ap4_end (k := (mkK r s y)) (new4 N.out (by omega) (by omega)) Hap.out.1 (by rw [Hap.out.2.1]; exact decide_eq_false Hk2.out) (by rw [Hap.out.2.2]; exact Hmx.out)
                    · have hm0 : ¬ (0 : Int) ≤ r.med := hm
                      have Hmk := hide (show AttrR.con ⟨a.P, a.pc, a.path, a.pref, a.med, a.origin, a.T, a.tc, a.tags⟩ = mk1 r y by rw [HY.out]; unfold mk1; rw [if_neg hp, if_neg hm])
                      have bq := HM.out
                      have m0 := bq.cell 0
                      have m1 := bq.cell 1
                      have m2 := bq.cell 2
                      have m3 := bq.cell 3
                      have m4 := bq.cell 4
                      have e0 := bq.frozen 0
                      have e1 := bq.frozen 1
                      have e2 := bq.frozen 2
                      have e3 := bq.frozen 3
                      have e4 := bq.frozen 4
                      have zM := bq.lt
                      simp only [List.getElem?_toArray, List.getElem?_cons_zero, List.getElem?_cons_succ] at m0 m1 m2 m3 m4
                      clear bq
                      go_upto_region 22 with (fail)
                      clear b6 b7 b8 b9 b10 zB m0 m1 m2 m3 m4 e0 e1 e2 e3 e4 zM
                      generalize w7 = W8 at *
                      have HM8 := HM
                      have HR8 := HR
                      have HF8 := HF
                      have OkA := hide (show AttrOk W8 ⟨a.P, a.pc, a.path, a.pref, a.med, a.origin, a.T, a.tc, a.tags⟩ from ⟨(Ha.out.new_ N.out).path, (Ha.out.new_ N.out).tags, Ha.out.pl, Ha.out.tl⟩)
                      have bq := HB.out
                      have b7 := bq.cell 7
                      have b8 := bq.cell 8
                      have b9 := bq.cell 9
                      have b10 := bq.cell 10
                      have zB := bq.lt
                      simp only [List.getElem?_toArray, List.getElem?_cons_zero, List.getElem?_cons_succ] at b7 b8 b9 b10
                      clear bq
                      have bq := HM.out
                      have m0 := bq.cell 0
                      have m1 := bq.cell 1
                      have m2 := bq.cell 2
                      have m3 := bq.cell 3
                      have m4 := bq.cell 4
                      have e0 := bq.frozen 0
                      have e1 := bq.frozen 1
                      have e2 := bq.frozen 2
                      have e3 := bq.frozen 3
                      have e4 := bq.frozen 4
                      have zM := bq.lt
                      simp only [List.getElem?_toArray, List.getElem?_cons_zero, List.getElem?_cons_succ] at m0 m1 m2 m3 m4
                      clear bq
                      by_cases h9 : 0 < r.add
                      · have h90 : (0 : Int) < r.add := h9
                        have Htg := hide (tagOf_any ⟨a.P, a.pc, a.path, a.pref, a.med, a.origin, a.T, a.tc, a.tags⟩ r.add W8 OkA.out (by show a.path.length ≤ 1000; omega) (by show a.tags.length ≤ 1000; omega))
                        rw [Hmk.out] at Htg
                        unfold AttrR.cells at Htg
                        dsimp only at Htg
                        have Htl := hide (tagX_len (x := mk1 r y) (t := r.add) (by rw [← Hmk.out]; exact hl) (by rw [← Hmk.out]; exact hl2))
                        clear e0 e1 e2 e3 e4
                        go_wp2_with fail
                        refine Htg.out.mono ?_
                        rintro e w9 ⟨⟨P3, pc3, p3, f3, g3, o3, T3, tc3, t3⟩, rfl, hcon3, hfr3, hu⟩
                        dsimp only at hfr3 ⊢
                        have Hc3 := hide hcon3
                        clear hcon3 Htg m0 m1 m2 m3 m4 zM b7 b8 b9 b10 zB
                        have N := hide (N.out.trans_new hu)
                        have HM := hide (HM.out.new_ hu)
                        have HR := hide (HR.out.new_ hu)
                        have HF := hide (HF.out.new_ hu)
                        have HB := hide (HB.out.new_ hu)
                        have HSZ := hide (Nat.le_trans hu.size (set5_one w9 (w.heap.size + 1) (.slice P3 p3.length pc3) (.int .i64 f3) (.int .i64 g3) (.int .i64 o3) (.slice T3 t3.length tc3)).size)
                        have uM := set5_one w9 (w.heap.size + 1) (.slice P3 p3.length pc3) (.int .i64 f3) (.int .i64 g3) (.int .i64 o3) (.slice T3 t3.length tc3)
                        have Fr3 := hide (hfr3.store uM (fun k e => by subst e; exact HM8.out.lt))
                        have HMo := HM
                        have bq := HM.out
                        have m0 := bq.cell 0
                        have m1 := bq.cell 1
                        have m2 := bq.cell 2
                        have m3 := bq.cell 3
                        have m4 := bq.cell 4
                        have e0 := bq.frozen 0
                        have e1 := bq.frozen 1
                        have e2 := bq.frozen 2
                        have e3 := bq.frozen 3
                        have e4 := bq.frozen 4
                        have zM := bq.lt
                        simp only [List.getElem?_toArray, List.getElem?_cons_zero, List.getElem?_cons_succ] at m0 m1 m2 m3 m4
                        clear bq
                        clear hfr3 hu
                        go_upto_region 25 with (fail)
                        clear m0 m1 m2 m3 m4 e0 e1 e2 e3 e4 zM
                        have HB := hide (HB.out.upd uM (by have h1 := Blk.ne_ HB.out HMo.out (by decide); exact h1))
                        have HM := hide (set5 (y0 := .slice P3 p3.length pc3) (y1 := .int .i64 f3) (y2 := .int .i64 g3) (y3 := .int .i64 o3) (y4 := .slice T3 t3.length tc3) HM.out)
                        have HR := hide (HR.out.upd uM (fun e => d3 e))
                        have HF := hide (HF.out.upd uM (fun e => d4 e))
                        have N := hide (set5_new (y0 := .slice P3 p3.length pc3) (y1 := .int .i64 f3) (y2 := .int .i64 g3) (y3 := .int .i64 o3) (y4 := .slice T3 t3.length tc3) N.out (Nat.le_succ w.heap.size))
                        clear uM
                        generalize ((((w9.setCell ⟨w.heap.size + 1, 0, none⟩ (.slice P3 p3.length pc3)).setCell ⟨w.heap.size + 1, 1, none⟩ (.int .i64 f3)).setCell ⟨w.heap.size + 1, 2, none⟩ (.int .i64 g3)).setCell ⟨w.heap.size + 1, 3, none⟩ (.int .i64 o3)).setCell ⟨w.heap.size + 1, 4, none⟩ (.slice T3 t3.length tc3) = W10 at *
                        by_cases hk : tagK (mk1 r y) r.add = 0
                        · have HKX := hide (mk_add (s := s) h9 hk)
                          rw [hk]
                          clear hk
                          rw [← Hc3.out] at HKX
                          have Hp3 := hide (show p3.length ≤ 1000 from by have h := congrArg AtC.path Hc3.out; rw [show p3 = _ from h]; exact Htl.out.1)
                          have Ht3 := hide (show t3.length ≤ 1000 from by have h := congrArg AtC.tags Hc3.out; rw [show t3 = _ from h]; exact Htl.out.2)
                          have OkA := hide (show AttrOk W10 ⟨P3, pc3, p3, f3, g3, o3, T3, tc3, t3⟩ from Fr3.out.ok ⟨(Ha.out.new_ N.out).path, (Ha.out.new_ N.out).tags, Ha.out.pl, Ha.out.tl⟩)
                          have sW8 := Nat.le_of_lt HM8.out.lt
                          have bq := HB.out
                          have b7 := bq.cell 7
                          have b8 := bq.cell 8
                          have b9 := bq.cell 9
                          have b10 := bq.cell 10
                          have zB := bq.lt
                          simp only [List.getElem?_toArray, List.getElem?_cons_zero, List.getElem?_cons_succ] at b7 b8 b9 b10
                          clear bq
                          have bq := HM.out
                          have m0 := bq.cell 0
                          have m1 := bq.cell 1
                          have m2 := bq.cell 2
                          have m3 := bq.cell 3
                          have m4 := bq.cell 4
                          have e0 := bq.frozen 0
                          have e1 := bq.frozen 1
                          have e2 := bq.frozen 2
                          have e3 := bq.frozen 3
                          have e4 := bq.frozen 4
                          have zM := bq.lt
                          simp only [List.getElem?_toArray, List.getElem?_cons_zero, List.getElem?_cons_succ] at m0 m1 m2 m3 m4
                          clear bq
                          have Hld := hide (leadOf_any ⟨P3, pc3, p3, f3, g3, o3, T3, tc3, t3⟩ s r.lead W10 OkA.out (by exact Hp3.out) (by exact Ht3.out))
                          rw [← HKX.out.1] at Hld
                          unfold AttrR.cells at Hld
                          dsimp only at Hld
                          clear e0 e1 e2 e3 e4
                          go_wp2_with fail
                          refine Hld.out.mono ?_
                          rintro e w11 ⟨⟨P5, pc5, p5, f5, g5, o5, T5, tc5, t5⟩, rfl, hcon5, hfr5, hu⟩
                          dsimp only at hfr5 ⊢
                          have Hc5 := hide (hcon5.trans HKX.out.2.symm)
                          have zW := HM.out.lt
                          have hfr6 := From.trans Fr3.out hfr5 HSZ.out hu
                          clear hcon5 Hld m0 m1 m2 m3 m4 zM b7 b8 b9 b10 zB
                          have N := hide (N.out.trans_new hu)
                          have HM := hide (HM.out.new_ hu)
                          have HR := hide (HR.out.new_ hu)
                          have HF := hide (HF.out.new_ hu)
                          have uM := set5_one w11 (w.heap.size + 1) (.slice P5 p5.length pc5) (.int .i64 f5) (.int .i64 g5) (.int .i64 o5) (.slice T5 t5.length tc5)
                          have Fr5 := hide (hfr6.store uM (fun k e => by subst e; exact HM8.out.lt))
                          have bq := HM.out
                          have m0 := bq.cell 0
                          have m1 := bq.cell 1
                          have m2 := bq.cell 2
                          have m3 := bq.cell 3
                          have m4 := bq.cell 4
                          have e0 := bq.frozen 0
                          have e1 := bq.frozen 1
                          have e2 := bq.frozen 2
                          have e3 := bq.frozen 3
                          have e4 := bq.frozen 4
                          have zM := bq.lt
                          simp only [List.getElem?_toArray, List.getElem?_cons_zero, List.getElem?_cons_succ] at m0 m1 m2 m3 m4
                          clear bq
                          clear hfr5 hfr6 hu
                          go_upto_region 27 with (fail)
                          clear m0 m1 m2 m3 m4 e0 e1 e2 e3 e4 zM
                          have HM := hide (set5 (y0 := .slice P5 p5.length pc5) (y1 := .int .i64 f5) (y2 := .int .i64 g5) (y3 := .int .i64 o5) (y4 := .slice T5 t5.length tc5) HM.out)
                          have HR := hide (HR.out.upd uM (fun e => d3 e))
                          have HF := hide (HF.out.upd uM (fun e => d4 e))
                          have N := hide (set5_new (y0 := .slice P5 p5.length pc5) (y1 := .int .i64 f5) (y2 := .int .i64 g5) (y3 := .int .i64 o5) (y4 := .slice T5 t5.length tc5) N.out (Nat.le_succ w.heap.size))
                          clear uM
                          generalize ((((w11.setCell ⟨w.heap.size + 1, 0, none⟩ (.slice P5 p5.length pc5)).setCell ⟨w.heap.size + 1, 1, none⟩ (.int .i64 f5)).setCell ⟨w.heap.size + 1, 2, none⟩ (.int .i64 g5)).setCell ⟨w.heap.size + 1, 3, none⟩ (.int .i64 o5)).setCell ⟨w.heap.size + 1, 4, none⟩ (.slice T5 t5.length tc5) = W12 at *
                          by_cases hk2 : mkK r s y = 0
                          · have Hk2 := hide hk2
                            rw [hk2]
                            clear hk2
                            have bq := HM.out
                            have m0 := bq.cell 0
                            have m1 := bq.cell 1
                            have m2 := bq.cell 2
                            have m3 := bq.cell 3
                            have m4 := bq.cell 4
                            have zM := bq.lt
                            simp only [List.getElem?_toArray, List.getElem?_cons_zero, List.getElem?_cons_succ] at m0 m1 m2 m3 m4
                            clear bq
                            go_upto_region 29 with (fail)
                            have Wd := hide (show New W12 W12.drew from (Upd.refl _ W12).drew)
                            go_region_with (first
                              | (go_at_call 80; refine (Hfi.out _).mono ?_; rintro e w9 ⟨rfl, hu9⟩; have U9 := hide (Wd.out.trans_new hu9); have bR := HR.out.new_ U9.out; have bF := HF.out.new_ U9.out; have bM := HM.out.new_ U9.out; have r0 := bR.cell 0; have r1 := bR.cell 1; have r2 := bR.cell 2; have r3 := bR.cell 3; have r4 := bR.cell 4; have s0 := bR.frozen 0; have s1 := bR.frozen 1; have s2 := bR.frozen 2; have s3 := bR.frozen 3; have s4 := bR.frozen 4; have zR := bR.lt; simp only [List.getElem?_toArray, List.getElem?_cons_zero, List.getElem?_cons_succ] at r0 r1 r2 r3 r4; have h0 := bF.cell 0; have h1 := bF.cell 1; have j0 := bF.frozen 0; have j1 := bF.frozen 1; have zF := bF.lt; simp only [List.getElem?_toArray, List.getElem?_cons_zero, List.getElem?_cons_succ] at h0 h1; have n0 := bM.cell 0; have n1 := bM.cell 1; have n2 := bM.cell 2; have n3 := bM.cell 3; have n4 := bM.cell 4; have zN := bM.lt; simp only [List.getElem?_toArray, List.getElem?_cons_zero, List.getElem?_cons_succ] at n0 n1 n2 n3 n4; clear bR bF bM hu9)
                              | fail)
                            all_goals
                              go_wp2_with fail
                              refine bodyPost_ret (attr_out4 Tryd.results57 rfl rfl (end4 (HR.out.new_ U9.out) (HF.out.new_ U9.out) hRF).1 (end4 (HR.out.new_ U9.out) (HF.out.new_ U9.out) hRF).2) rfl ?_
                              have nF := new4 (y0 := .slice P5 p5.length pc5) (y1 := .int .i64 f5) (y2 := .int .i64 g5) (y3 := .int .i64 o5) (y4 := .slice T5 t5.length tc5) (u := .int .i64 0) (v := .int .i64 (-1)) (R := w.heap.size + 1 + 1) (Fo := w.heap.size + 1 + 1 + 1) (N.out.trans_new U9.out) (by omega) (by omega)
                              have fr7 := ((Fr5.out.store (S := fun b => b = w.heap.size + 1 + 1 ∨ b = w.heap.size + 1 + 1 + 1) (((Upd.refl _ W12).trans (Upd.of_new U9.out) (fun _ _ h => h)).trans (upd4 (y0 := .slice P5 p5.length pc5) (y1 := .int .i64 f5) (y2 := .int .i64 g5) (y3 := .int .i64 o5) (y4 := .slice T5 t5.length tc5) (u := .int .i64 0) (v := .int .i64 (-1)) (R := w.heap.size + 1 + 1) (Fo := w.heap.size + 1 + 1 + 1)) (fun _ _ h => h)) (fun k e => by have h1 := HR8.out.lt; have h2 := HF8.out.lt; rcases e with e | e <;> omega))).ok ⟨(Ha.out.new_ nF).path, (Ha.out.new_ nF).tags, Ha.out.pl, Ha.out.tl⟩
                              refine ⟨⟨P5, pc5, p5, f5, g5, o5, T5, tc5, t5⟩, ?_, by rw [Hap.out.2.2]; exact Hc5.out, fr7, nF⟩
                              rw [Hap.out.1, Hap.out.2.1, decide_eq_true Hk2.out, Hk2.out]; rfl
                          · have hk3 : (0 : Int) < ((mkK r s y : Nat) : Int) := by omega
                            have Hk2 := hide hk2
                            clear hk2
                            have Hmx := hide (show mkX r s y = zeroC from by rw [HKX.out.2]; exact leadX_err (by rw [← HKX.out.1]; exact Hk2.out))
                            go_wp2_with fail
                            refine (Hbf.out (mkK r s y) _).mono ?_
                            rintro e w13 ⟨rfl, hu⟩
                            have N := hide (N.out.trans_new hu)
                            have HM := hide (HM.out.new_ hu)
                            have HR := hide (HR.out.new_ hu)
                            have HF := hide (HF.out.new_ hu)
                            clear hu
                            have bq := HR.out
                            have r0 := bq.cell 0
                            have r1 := bq.cell 1
                            have r2 := bq.cell 2
                            have r3 := bq.cell 3
                            have r4 := bq.cell 4
                            have s0 := bq.frozen 0
                            have s1 := bq.frozen 1
                            have s2 := bq.frozen 2
                            have s3 := bq.frozen 3
                            have s4 := bq.frozen 4
                            have zR := bq.lt
                            simp only [List.getElem?_toArray, List.getElem?_cons_zero, List.getElem?_cons_succ] at r0 r1 r2 r3 r4
                            clear bq
                            have bq := HF.out
                            have h0 := bq.cell 0
                            have h1 := bq.cell 1
                            have j0 := bq.frozen 0
                            have j1 := bq.frozen 1
                            have zF := bq.lt
                            simp only [List.getElem?_toArray, List.getElem?_cons_zero, List.getElem?_cons_succ] at h0 h1
                            clear bq
                            go_wp2_with fail
                            refine bodyPost_ret (attr_out4 Tryd.results57 rfl rfl (end4 HR.out HF.out hRF).1 (end4 HR.out HF.out hRF).2) rfl ?_
                            exact ap4_end (k := (mkK r s y)) (new4 N.out (by omega) (by omega)) Hap.out.1 (by rw [Hap.out.2.1]; exact decide_eq_false Hk2.out) (by rw [Hap.out.2.2]; exact Hmx.out)
                        · have HKX := hide (mk_bad (s := s) h9 hk)
                          have hk3 : (0 : Int) < ((tagK (mk1 r y) r.add : Nat) : Int) := by omega
                          have hk4 : (((tagK (mk1 r y) r.add : Nat) : Int) == 0) = false := by simp [hk]
                          have Hk := hide hk
                          clear hk
                          go_wp2_with fail
                          refine (Hbf.out (tagK (mk1 r y) r.add) _).mono ?_
                          rintro e w13 ⟨rfl, hu⟩
                          have N := hide (N.out.trans_new hu)
                          have HM := hide (HM.out.new_ hu)
                          have HR := hide (HR.out.new_ hu)
                          have HF := hide (HF.out.new_ hu)
                          clear hu
                          have bq := HR.out
                          have r0 := bq.cell 0
                          have r1 := bq.cell 1
                          have r2 := bq.cell 2
                          have r3 := bq.cell 3
                          have r4 := bq.cell 4
                          have s0 := bq.frozen 0
                          have s1 := bq.frozen 1
                          have s2 := bq.frozen 2
                          have s3 := bq.frozen 3
                          have s4 := bq.frozen 4
                          have zR := bq.lt
                          simp only [List.getElem?_toArray, List.getElem?_cons_zero, List.getElem?_cons_succ] at r0 r1 r2 r3 r4
                          clear bq
                          have bq := HF.out
                          have h0 := bq.cell 0
                          have h1 := bq.cell 1
                          have j0 := bq.frozen 0
                          have j1 := bq.frozen 1
                          have zF := bq.lt
                          simp only [List.getElem?_toArray, List.getElem?_cons_zero, List.getElem?_cons_succ] at h0 h1
                          clear bq
                          go_wp2_with fail
                          refine bodyPost_ret (attr_out4 Tryd.results57 rfl rfl (end4 HR.out HF.out hRF).1 (end4 HR.out HF.out hRF).2) rfl ?_
                          exact ap4_end (k := (tagK (mk1 r y) r.add)) (new4 N.out (by omega) (by omega)) (by rw [Hap.out.1, HKX.out.1]) (by rw [Hap.out.2.1, HKX.out.1]; exact decide_eq_false Hk.out) (by rw [Hap.out.2.2]; exact HKX.out.2)
                      · have h90 : ¬ (0 : Int) < r.add := h9
                        have HKX := hide (mk_noadd (s := s) (c := y) h9)
                        rw [← Hmk.out] at HKX
                        have Hld := hide (leadOf_any ⟨a.P, a.pc, a.path, a.pref, a.med, a.origin, a.T, a.tc, a.tags⟩ s r.lead W8 OkA.out (by show a.path.length ≤ 1000; omega) (by show a.tags.length ≤ 1000; omega))
                        rw [← HKX.out.1] at Hld
                        unfold AttrR.cells at Hld
                        dsimp only at Hld
                        clear e0 e1 e2 e3 e4
                        go_wp2_with fail
                        refine Hld.out.mono ?_
                        rintro e w11 ⟨⟨P5, pc5, p5, f5, g5, o5, T5, tc5, t5⟩, rfl, hcon5, hfr5, hu⟩
                        dsimp only at hfr5 ⊢
                        have Hc5 := hide (hcon5.trans HKX.out.2.symm)
                        have zW := HM.out.lt
                        have hfr6 := hfr5
                        clear hcon5 Hld m0 m1 m2 m3 m4 zM b7 b8 b9 b10 zB
                        have N := hide (N.out.trans_new hu)
                        have HM := hide (HM.out.new_ hu)
                        have HR := hide (HR.out.new_ hu)
                        have HF := hide (HF.out.new_ hu)
                        have uM := set5_one w11 (w.heap.size + 1) (.slice P5 p5.length pc5) (.int .i64 f5) (.int .i64 g5) (.int .i64 o5) (.slice T5 t5.length tc5)
                        have Fr5 := hide (hfr6.store uM (fun k e => by subst e; exact HM8.out.lt))
                        have bq := HM.out
                        have m0 := bq.cell 0
                        have m1 := bq.cell 1
                        have m2 := bq.cell 2
                        have m3 := bq.cell 3
                        have m4 := bq.cell 4
                        have e0 := bq.frozen 0
                        have e1 := bq.frozen 1
                        have e2 := bq.frozen 2
                        have e3 := bq.frozen 3
                        have e4 := bq.frozen 4
                        have zM := bq.lt
                        simp only [List.getElem?_toArray, List.getElem?_cons_zero, List.getElem?_cons_succ] at m0 m1 m2 m3 m4
                        clear bq
                        clear hfr5 hfr6 hu
                        go_upto_region 27 with (fail)
                        clear m0 m1 m2 m3 m4 e0 e1 e2 e3 e4 zM
                        have HM := hide (set5 (y0 := .slice P5 p5.length pc5) (y1 := .int .i64 f5) (y2 := .int .i64 g5) (y3 := .int .i64 o5) (y4 := .slice T5 t5.length tc5) HM.out)
                        have HR := hide (HR.out.upd uM (fun e => d3 e))
                        have HF := hide (HF.out.upd uM (fun e => d4 e))
                        have N := hide (set5_new (y0 := .slice P5 p5.length pc5) (y1 := .int .i64 f5) (y2 := .int .i64 g5) (y3 := .int .i64 o5) (y4 := .slice T5 t5.length tc5) N.out (Nat.le_succ w.heap.size))
                        clear uM
                        generalize ((((w11.setCell ⟨w.heap.size + 1, 0, none⟩ (.slice P5 p5.length pc5)).setCell ⟨w.heap.size + 1, 1, none⟩ (.int .i64 f5)).setCell ⟨w.heap.size + 1, 2, none⟩ (.int .i64 g5)).setCell ⟨w.heap.size + 1, 3, none⟩ (.int .i64 o5)).setCell ⟨w.heap.size + 1, 4, none⟩ (.slice T5 t5.length tc5) = W12 at *
                        by_cases hk2 : mkK r s y = 0
                        · have Hk2 := hide hk2
                          rw [hk2]
                          clear hk2
                          have bq := HM.out
                          have m0 := bq.cell 0
                          have m1 := bq.cell 1
                          have m2 := bq.cell 2
                          have m3 := bq.cell 3
                          have m4 := bq.cell 4
                          have zM := bq.lt
                          simp only [List.getElem?_toArray, List.getElem?_cons_zero, List.getElem?_cons_succ] at m0 m1 m2 m3 m4
                          clear bq
                          go_upto_region 29 with (fail)
                          have Wd := hide (show New W12 W12.drew from (Upd.refl _ W12).drew)
                          go_region_with (first
                            | (go_at_call 80; refine (Hfi.out _).mono ?_; rintro e w9 ⟨rfl, hu9⟩; have U9 := hide (Wd.out.trans_new hu9); have bR := HR.out.new_ U9.out; have bF := HF.out.new_ U9.out; have bM := HM.out.new_ U9.out; have r0 := bR.cell 0; have r1 := bR.cell 1; have r2 := bR.cell 2; have r3 := bR.cell 3; have r4 := bR.cell 4; have s0 := bR.frozen 0; have s1 := bR.frozen 1; have s2 := bR.frozen 2; have s3 := bR.frozen 3; have s4 := bR.frozen 4; have zR := bR.lt; simp only [List.getElem?_toArray, List.getElem?_cons_zero, List.getElem?_cons_succ] at r0 r1 r2 r3 r4; have h0 := bF.cell 0; have h1 := bF.cell 1; have j0 := bF.frozen 0; have j1 := bF.frozen 1; have zF := bF.lt; simp only [List.getElem?_toArray, List.getElem?_cons_zero, List.getElem?_cons_succ] at h0 h1; have n0 := bM.cell 0; have n1 := bM.cell 1; have n2 := bM.cell 2; have n3 := bM.cell 3; have n4 := bM.cell 4; have zN := bM.lt; simp only [List.getElem?_toArray, List.getElem?_cons_zero, List.getElem?_cons_succ] at n0 n1 n2 n3 n4; clear bR bF bM hu9)
                            | fail)
                          all_goals
                            go_wp2_with fail
                            refine bodyPost_ret (attr_out4 Tryd.results57 rfl rfl (end4 (HR.out.new_ U9.out) (HF.out.new_ U9.out) hRF).1 (end4 (HR.out.new_ U9.out) (HF.out.new_ U9.out) hRF).2) rfl ?_
                            have nF := new4 (y0 := .slice P5 p5.length pc5) (y1 := .int .i64 f5) (y2 := .int .i64 g5) (y3 := .int .i64 o5) (y4 := .slice T5 t5.length tc5) (u := .int .i64 0) (v := .int .i64 (-1)) (R := w.heap.size + 1 + 1) (Fo := w.heap.size + 1 + 1 + 1) (N.out.trans_new U9.out) (by omega) (by omega)
                            have fr7 := ((Fr5.out.store (S := fun b => b = w.heap.size + 1 + 1 ∨ b = w.heap.size + 1 + 1 + 1) (((Upd.refl _ W12).trans (Upd.of_new U9.out) (fun _ _ h => h)).trans (upd4 (y0 := .slice P5 p5.length pc5) (y1 := .int .i64 f5) (y2 := .int .i64 g5) (y3 := .int .i64 o5) (y4 := .slice T5 t5.length tc5) (u := .int .i64 0) (v := .int .i64 (-1)) (R := w.heap.size + 1 + 1) (Fo := w.heap.size + 1 + 1 + 1)) (fun _ _ h => h)) (fun k e => by have h1 := HR8.out.lt; have h2 := HF8.out.lt; rcases e with e | e <;> omega))).ok ⟨(Ha.out.new_ nF).path, (Ha.out.new_ nF).tags, Ha.out.pl, Ha.out.tl⟩
                            refine ⟨⟨P5, pc5, p5, f5, g5, o5, T5, tc5, t5⟩, ?_, by rw [Hap.out.2.2]; exact Hc5.out, fr7, nF⟩
                            rw [Hap.out.1, Hap.out.2.1, decide_eq_true Hk2.out, Hk2.out]; rfl
                        · have hk3 : (0 : Int) < ((mkK r s y : Nat) : Int) := by omega
                          have Hk2 := hide hk2
                          clear hk2
                          have Hmx := hide (show mkX r s y = zeroC from by rw [HKX.out.2]; exact leadX_err (by rw [← HKX.out.1]; exact Hk2.out))
                          go_wp2_with fail
                          refine (Hbf.out (mkK r s y) _).mono ?_
                          rintro e w13 ⟨rfl, hu⟩
                          have N := hide (N.out.trans_new hu)
                          have HM := hide (HM.out.new_ hu)
                          have HR := hide (HR.out.new_ hu)
                          have HF := hide (HF.out.new_ hu)
                          clear hu
                          have bq := HR.out
                          have r0 := bq.cell 0
                          have r1 := bq.cell 1
                          have r2 := bq.cell 2
                          have r3 := bq.cell 3
                          have r4 := bq.cell 4
                          have s0 := bq.frozen 0
                          have s1 := bq.frozen 1
                          have s2 := bq.frozen 2
                          have s3 := bq.frozen 3
                          have s4 := bq.frozen 4
                          have zR := bq.lt
                          simp only [List.getElem?_toArray, List.getElem?_cons_zero, List.getElem?_cons_succ] at r0 r1 r2 r3 r4
                          clear bq
                          have bq := HF.out
                          have h0 := bq.cell 0
                          have h1 := bq.cell 1
                          have j0 := bq.frozen 0
                          have j1 := bq.frozen 1
                          have zF := bq.lt
                          simp only [List.getElem?_toArray, List.getElem?_cons_zero, List.getElem?_cons_succ] at h0 h1
                          clear bq
                          go_wp2_with fail
                          refine bodyPost_ret (attr_out4 Tryd.results57 rfl rfl (end4 HR.out HF.out hRF).1 (end4 HR.out HF.out hRF).2) rfl ?_
                          exact ap4_end (k := (mkK r s y)) (new4 N.out (by omega) (by omega)) Hap.out.1 (by rw [Hap.out.2.1]; exact decide_eq_false Hk2.out) (by rw [Hap.out.2.2]; exact Hmx.out)
            · have hkn : k = n := by omega
              subst hkn
              have Hap := hide (ap_none (s := s) Hr2.out H0.out (find_no (fitX x m y) fun j z hy => Hz.out j z (by have := (List.getElem?_eq_some_iff.1 hy).1; have := Hn.out; omega) hy))
              go_wp2_with fail
              refine (Hfi.out _).mono ?_
              rintro e w9 ⟨rfl, hu⟩
              have N := hide (N.out.trans_new hu)
              have HK := hide (HK.out.new_ hu)
              have HM := hide (HM.out.new_ hu)
              have HR := hide (HR.out.new_ hu)
              have HF := hide (HF.out.new_ hu)
              clear hu
              have bq := HR.out
              have r0 := bq.cell 0
              have r1 := bq.cell 1
              have r2 := bq.cell 2
              have r3 := bq.cell 3
              have r4 := bq.cell 4
              have s0 := bq.frozen 0
              have s1 := bq.frozen 1
              have s2 := bq.frozen 2
              have s3 := bq.frozen 3
              have s4 := bq.frozen 4
              have zR := bq.lt
              simp only [List.getElem?_toArray, List.getElem?_cons_zero, List.getElem?_cons_succ] at r0 r1 r2 r3 r4
              clear bq
              have bq := HF.out
              have h0 := bq.cell 0
              have h1 := bq.cell 1
              have j0 := bq.frozen 0
              have j1 := bq.frozen 1
              have zF := bq.lt
              simp only [List.getElem?_toArray, List.getElem?_cons_zero, List.getElem?_cons_succ] at h0 h1
              clear bq
              go_wp2_with fail
              refine bodyPost_ret (attr_out4 Tryd.results57 rfl rfl (end4 HR.out HF.out hRF).1 (end4 HR.out HF.out hRF).2) rfl ?_
              exact ap4_end (k := 0) (new4 N.out (by omega) (by omega)) Hap.out.1 Hap.out.2.1 Hap.out.2.2
      · have Hpre := hide (ap_pre (s := s) (show (preC l x m y).1 ≠ 0 by rw [preC_con Hr0.out Hr1.out]; exact hk))
        have i1 : (0 : Int) < (((conC y).1 : Nat) : Int) := by omega
        clear hk
        have bq := HR.out
        have r0 := bq.cell 0
        have r1 := bq.cell 1
        have r2 := bq.cell 2
        have r3 := bq.cell 3
        have r4 := bq.cell 4
        have s0 := bq.frozen 0
        have s1 := bq.frozen 1
        have s2 := bq.frozen 2
        have s3 := bq.frozen 3
        have s4 := bq.frozen 4
        have zR := bq.lt
        simp only [List.getElem?_toArray, List.getElem?_cons_zero, List.getElem?_cons_succ] at r0 r1 r2 r3 r4
        clear bq
        have bq := HF.out
        have h0 := bq.cell 0
        have h1 := bq.cell 1
        have j0 := bq.frozen 0
        have j1 := bq.frozen 1
        have zF := bq.lt
        simp only [List.getElem?_toArray, List.getElem?_cons_zero, List.getElem?_cons_succ] at h0 h1
        clear bq
        go_upto_region 7 with (fail)
        go_region
        all_goals
          go_wp2_with fail
          refine bodyPost_ret (attr_out4 Tryd.results57 rfl rfl (end4 HR.out HF.out hRF).1.drew (end4 HR.out HF.out hRF).2.drew) rfl ?_
          exact ap4_end (new4 N.out (by omega) (by omega)).drew (by rw [Hpre.out.1, preC_con Hr0.out Hr1.out]) Hpre.out.2.1 Hpre.out.2.2
    · have Hpre := hide (ap_pre (s := s) (show (preC l x m y).1 ≠ 0 by rw [preC_chk Hr0.out hk]; exact hk))
      have Hk := hide hk
      have i1 : (0 : Int) < ((chk x m : Nat) : Int) := by omega
      have i2 : (((chk x m : Nat) : Int) == 0) = false := by simp [hk]
      clear hk
      have bq := HR.out
      have r0 := bq.cell 0
      have r1 := bq.cell 1
      have r2 := bq.cell 2
      have r3 := bq.cell 3
      have r4 := bq.cell 4
      have s0 := bq.frozen 0
      have s1 := bq.frozen 1
      have s2 := bq.frozen 2
      have s3 := bq.frozen 3
      have s4 := bq.frozen 4
      have zR := bq.lt
      simp only [List.getElem?_toArray, List.getElem?_cons_zero, List.getElem?_cons_succ] at r0 r1 r2 r3 r4
      clear bq
      have bq := HF.out
      have h0 := bq.cell 0
      have h1 := bq.cell 1
      have j0 := bq.frozen 0
      have j1 := bq.frozen 1
      have zF := bq.lt
      simp only [List.getElem?_toArray, List.getElem?_cons_zero, List.getElem?_cons_succ] at h0 h1
      clear bq
      go_upto_region 7 with (fail)
      go_region
      all_goals
        go_wp2_with fail
        refine bodyPost_ret (attr_out4 Tryd.results57 rfl rfl (end4 HR.out HF.out hRF).1.drew (end4 HR.out HF.out hRF).2.drew) rfl ?_
        exact ap4_end (new4 N.out (by omega) (by omega)).drew (by rw [Hpre.out.1, preC_chk Hr0.out Hk.out]) Hpre.out.2.1 Hpre.out.2.2
  · have hk9 : (rulesC l).1 ≠ 0 := fun h => hk (HC.out.trans h)
    have Hpre := hide (ap_pre (s := s) (show (preC l x m y).1 ≠ 0 by rw [preC_rules hk9]; exact hk9))
    have Hk9 := hide hk9
    have i1 : (0 : Int) < (C : Int) := by omega
    have i2 : ((C : Int) == 0) = false := by simp [hk]
    clear hk hk9
    have bq := HR.out
    have r0 := bq.cell 0
    have r1 := bq.cell 1
    have r2 := bq.cell 2
    have r3 := bq.cell 3
    have r4 := bq.cell 4
    have s0 := bq.frozen 0
    have s1 := bq.frozen 1
    have s2 := bq.frozen 2
    have s3 := bq.frozen 3
    have s4 := bq.frozen 4
    have zR := bq.lt
    simp only [List.getElem?_toArray, List.getElem?_cons_zero, List.getElem?_cons_succ] at r0 r1 r2 r3 r4
    clear bq
    have bq := HF.out
    have h0 := bq.cell 0
    have h1 := bq.cell 1
    have j0 := bq.frozen 0
    have j1 := bq.frozen 1
    have zF := bq.lt
    simp only [List.getElem?_toArray, List.getElem?_cons_zero, List.getElem?_cons_succ] at h0 h1
    clear bq
    go_upto_region 7 with (fail)
    go_region
    all_goals
      go_wp2_with fail
      refine bodyPost_ret (attr_out4 Tryd.results57 rfl rfl (end4 HR.out HF.out hRF).1.drew (end4 HR.out HF.out hRF).2.drew) rfl ?_
      exact ap4_end (new4 N.out (by omega) (by omega)).drew (by rw [Hpre.out.1, preC_rules Hk9.out, HC.out, HJ.out]) Hpre.out.2.1 Hpre.out.2.2
end Go.Proofs.YtkljanjapcpbdaaDoor

/- Own memory for what came in: attributes, prefixes. No condition but those that stand in each theorem. -/
import Derived.Test.YtlealjcllbpgkaaPfo
import Derived.Test.YtlealjcllbpgkaaRs1
import Derived.Test.YtlealjcllbpgkaaAt2
import Derived.Deep.Cut
import Derived.Test.YtlealjcllbpgkaaWi1
namespace Go.Proofs.Ytlealjcllbpgkaa
open Go.RowKit

/-- Its rows lie in blocks of ints. -/
def AttrTy (w : World) (a : AttrR) : Prop := Typed w a.P 3 ∧ Typed w a.T 3
theorem info_TI : (Try.prog.info? 3).map (fun i => (i.zero, i.size, i.bytes)) = some (some (.int .i64 0), 1, 8) := by kernel_rfl
theorem TA_info : (Try.prog.info? TA).map (·.size) = some 5 := by kernel_rfl
theorem attr_out {fn : Func} {p : Tmp} {tmps : Array Value} {w : World} {R : Nat} {x0 x1 x2 x3 x4 : Value} (h : fn.results = #[.cell p TA]) (hp : tmps.getD p undef = .pointer (some ⟨R, 0, none⟩)) (hb : Blk w R TA #[x0, x1, x2, x3, x4]) :
    (results fn tmps).run Try.prog w = .ok (.agg #[x0, x1, x2, x3, x4]) w := by
  exact results_cell_row h tmps w R TA #[x0, x1, x2, x3, x4] (0, 0) _ hp hb Try.underlying29 rfl (by rw [TA_info]; rfl)
theorem set5 {w : World} {R : Nat} {x0 x1 x2 x3 x4 y0 y1 y2 y3 y4 : Value} {t : TypeId} (hb : Blk w R t #[x0, x1, x2, x3, x4]) :
    Blk (((((w.setCell ⟨R, 0, none⟩ y0).setCell ⟨R, 1, none⟩ y1).setCell ⟨R, 2, none⟩ y2).setCell ⟨R, 3, none⟩ y3).setCell ⟨R, 4, none⟩ y4) R t #[y0, y1, y2, y3, y4] := by
  have := ((((hb.set_ 0 y0).set_ 1 y1).set_ 2 y2).set_ 3 y3).set_ 4 y4
  simpa using this
theorem set5_new {w W : World} {R : Nat} {y0 y1 y2 y3 y4 : Value} (hn : New w W) (hR : w.heap.size ≤ R) :
    New w (((((W.setCell ⟨R, 0, none⟩ y0).setCell ⟨R, 1, none⟩ y1).setCell ⟨R, 2, none⟩ y2).setCell ⟨R, 3, none⟩ y3).setCell ⟨R, 4, none⟩ y4) :=
  ((((hn.setCell (p := ⟨R, 0, none⟩) (.inr hR) y0).setCell (p := ⟨R, 1, none⟩) (.inr hR) y1).setCell (p := ⟨R, 2, none⟩) (.inr hR) y2).setCell (p := ⟨R, 3, none⟩) (.inr hR) y3).setCell (p := ⟨R, 4, none⟩) (.inr hR) y4

theorem set5_upd {y0 y1 y2 y3 y4 : Value} (w2 : World) (M R k : Nat) (y : Value) :
    Upd (fun b => b = M ∨ b = R) w2 ((((((w2.setCell ⟨M, k, none⟩ y).setCell ⟨R, 0, none⟩ y0).setCell ⟨R, 1, none⟩ y1).setCell ⟨R, 2, none⟩ y2).setCell ⟨R, 3, none⟩ y3).setCell ⟨R, 4, none⟩ y4) :=
  ((((((Upd.refl (fun b => b = M ∨ b = R) w2).setCell (p := ⟨M, k, none⟩) (.inl (.inl rfl)) y).setCell (p := ⟨R, 0, none⟩) (.inl (.inr rfl)) y0).setCell (p := ⟨R, 1, none⟩) (.inl (.inr rfl)) y1).setCell (p := ⟨R, 2, none⟩) (.inl (.inr rfl)) y2).setCell (p := ⟨R, 3, none⟩) (.inl (.inr rfl)) y3).setCell (p := ⟨R, 4, none⟩) (.inl (.inr rfl)) y4

set_option maxRecDepth 8000 in
set_option maxHeartbeats 4000000 in
theorem ownAttr_any (a : AttrR) (w : World) (ha : AttrOk w a) (hl : a.path.length ≤ 1000) (hl2 : a.tags.length ≤ 1000) :
    Calls Try.prog 21 #[.agg a.cells] w fun e w1 => ∃ a' : AttrR, e = .returned (.agg a'.cells) ∧ a'.con = a.con ∧ AttrOk w1 a' ∧ AttrTy w1 a' ∧ New w w1 := by
  have u := ((Upd.refl (fun _ => False) w).alloc (.cells a.cells TA)).alloc (.cells #[.slice none 0 0, .int .i64 0, .int .i64 0, .int .i64 0, .slice none 0 0] TA)
  have b0 := (Blk.new w TA a.cells).alloc (.cells #[.slice none 0 0, .int .i64 0, .int .i64 0, .int .i64 0, .slice none 0 0] TA)
  have b1 := Blk.at_ (w.alloc (.cells a.cells TA)) TA #[.slice none 0 0, .int .i64 0, .int .i64 0, .int .i64 0, .slice none 0 0] (w.heap.size + 1) (by simp)
  have Ha := hide (ha.new_ u)
  have Ha0 := hide ha
  have Hu := hide u
  have Hb0 := hide b0
  have Hb1 := hide b1
  clear ha u b0 b1
  unfold AttrR.cells at *
  obtain ⟨i0, hi0, hz0, hz1, hz2⟩ := info_parts info_TI
  go_enter Try.func21, Try.ntmps21
  go_upto_region 1 with (fail)
  generalize ((w.alloc (.cells #[.slice a.P a.path.length a.pc, .int .i64 a.pref, .int .i64 a.med, .int .i64 a.origin, .slice a.T a.tags.length a.tc] TA)).alloc (.cells #[.slice none 0 0, .int .i64 0, .int .i64 0, .int .i64 0, .slice none 0 0] TA)) = W at *
  have c0 := Hb0.out.cell 0
  have z0 := Hb0.out.lt
  have f0 := Hb0.out.frozen 0
  simp only [List.getElem?_toArray, List.getElem?_cons_zero] at c0
  have zW : w.heap.size ≤ W.heap.size := Hu.out.size
  go_wp2_with (at_builtin; refine append_src rfl (.tmp 5) (.tmp 7) 27 rfl W.heap.size 3 i0 (.int .i64 0) 1 8 Try.underlying27 hi0 hz0 hz1 hz2 rfl (by omega) (.slice none 0 0) 0 [] rfl (World.ownsRow_nil _ _ _ _) a.P a.path.length a.pc (a.path.map (.int .i64)) rfl (by simp) Ha.out.path.cells (ints_one _) (by unfold maxLen; omega) (by omega) (Nat.le_refl _) ?_)
  intro v1 w1 ho1 hg1
  have u1 : New W w1 := grown_new hg1
  obtain ⟨P1, pc1, rfl, _, hc1, hP1, hf1, ht1⟩ := ints_of_own ho1
  have b1 := Hb0.out.new_ u1
  have z1 := b1.lt
  have c0 := b1.cell 0
  have c4 := b1.cell 4
  have f0 := b1.frozen 0
  simp only [List.getElem?_toArray, List.getElem?_cons_zero, List.getElem?_cons_succ] at c0 c4
  clear b1
  have Hb1' := hide (Hb1.out.new_ u1)
  have n2 : New w (w1.setCell ⟨w.heap.size, 0, none⟩ (.slice P1 a.path.length pc1)) := (Hu.out.trans_new u1).setCell (p := ⟨w.heap.size, 0, none⟩) (.inr (Nat.le_refl _)) _
  have B2 := hide ((Hb0.out.new_ u1).set_ 0 (.slice P1 a.path.length pc1))
  have R2 := hide (Blk.far (Hb1.out.new_ u1) (p := ⟨w.heap.size, 0, none⟩) (Nat.succ_ne_self _) (.slice P1 a.path.length pc1))
  have Hp1 := hide (hP1.upd (S := fun k => k = w.heap.size) (w1 := w1.setCell ⟨w.heap.size, 0, none⟩ (.slice P1 a.path.length pc1)) ((Upd.refl (fun k => k = w.heap.size) w1).setCell (p := ⟨w.heap.size, 0, none⟩) (.inl rfl) _) (fun b o e => by have := hf1 b o e; have := Hb0.out.lt; omega))
  have Ht1 := hide (ht1.upd (S := fun k => k = w.heap.size) (w1 := w1.setCell ⟨w.heap.size, 0, none⟩ (.slice P1 a.path.length pc1)) ((Upd.refl (fun k => k = w.heap.size) w1).setCell (p := ⟨w.heap.size, 0, none⟩) (.inl rfl) _) (fun b o e => by have := hf1 b o e; have := Hb0.out.lt; omega))
  have Hf1 := hide hf1
  have HcP := hide hc1
  have U1 := hide u1
  have N2 := hide n2
  clear ho1 hg1 u1 hP1 n2 hf1 hc1 ht1
  go_wp2_with (at_builtin; refine append_src rfl (.tmp 10) (.tmp 12) 27 rfl (w1.setCell ⟨w.heap.size, 0, none⟩ (.slice P1 a.path.length pc1)).heap.size 3 i0 (.int .i64 0) 1 8 Try.underlying27 hi0 hz0 hz1 hz2 rfl (by omega) (.slice none 0 0) 0 [] rfl (World.ownsRow_nil _ _ _ _) a.T a.tags.length a.tc (a.tags.map (.int .i64)) rfl (by simp) (Ha0.out.tags.new_ N2.out).cells (ints_one _) (by unfold maxLen; omega) (by omega) (Nat.le_refl _) ?_)
  intro v2 w2 ho2 hg2
  have hsz : (w1.setCell ⟨w.heap.size, 0, none⟩ (.slice P1 a.path.length pc1)).heap.size = w1.heap.size := by simp
  generalize hW2 : (w1.setCell ⟨w.heap.size, 0, none⟩ (.slice P1 a.path.length pc1)) = W2 at *
  clear hW2
  have u2 : New W2 w2 := grown_new hg2
  obtain ⟨T1, tc1, rfl, _, hc2, hT1, hf2, ht2⟩ := ints_of_own ho2
  have bR := R2.out.new_ u2
  have bM := B2.out.new_ u2
  have hMR : w.heap.size ≠ w.heap.size + 1 := by omega
  have hMR2 : w.heap.size + 1 ≠ w.heap.size := by omega
  have zM := bM.lt
  have zR := bR.lt
  have m0 := bM.cell 0
  have m1 := bM.cell 1
  have m2 := bM.cell 2
  have m3 := bM.cell 3
  have m4 := bM.cell 4
  have e4 := bM.frozen 4
  have r0 := bR.cell 0
  have r1 := bR.cell 1
  have r2 := bR.cell 2
  have r3 := bR.cell 3
  have r4 := bR.cell 4
  have s0 := bR.frozen 0
  have s1 := bR.frozen 1
  have s2 := bR.frozen 2
  have s3 := bR.frozen 3
  have s4 := bR.frozen 4
  simp at m0 m1 m2 m3 m4 r0 r1 r2 r3 r4
  have HbR := hide bR
  have HbM := hide bM
  have U2 := hide u2
  clear ho2 hg2 bR bM u2
  go_wp2_with fail
  have hR3 := Blk.far HbR.out (p := ⟨w.heap.size, 4, none⟩) (fun e : w.heap.size + 1 = w.heap.size => absurd e (Nat.succ_ne_self _)) (.slice T1 a.tags.length tc1)
  refine bodyPost_ret (attr_out Try.results21 rfl (set5 hR3)) rfl ?_
  refine ⟨⟨P1, pc1, a.path, a.pref, a.med, a.origin, T1, tc1, a.tags⟩, rfl, rfl, ?_, ?_, ?_⟩
  · have uS := set5_upd (y0 := .slice P1 a.path.length pc1) (y1 := .int .i64 a.pref) (y2 := .int .i64 a.med) (y3 := .int .i64 a.origin) (y4 := .slice T1 a.tags.length tc1) w2 w.heap.size (w.heap.size + 1) 4 (.slice T1 a.tags.length tc1)
    have zz := R2.out.lt
    exact ⟨(Hp1.out.new_ U2.out).upd uS fun b o e => by have := Hf1.out b o e; have := Hb1.out.lt; omega, hT1.upd uS fun b o e => by have := hf2 b o e; omega, HcP.out, hc2⟩
  · have uS := set5_upd (y0 := .slice P1 a.path.length pc1) (y1 := .int .i64 a.pref) (y2 := .int .i64 a.med) (y3 := .int .i64 a.origin) (y4 := .slice T1 a.tags.length tc1) w2 w.heap.size (w.heap.size + 1) 4 (.slice T1 a.tags.length tc1)
    have zz := R2.out.lt
    exact ⟨(Ht1.out.new_ U2.out).upd uS fun b o e => by have := Hf1.out b o e; have := Hb1.out.lt; omega, ht2.upd uS fun b o e => by have := hf2 b o e; omega⟩
  · exact set5_new ((N2.out.trans_new U2.out).setCell (p := ⟨w.heap.size, 4, none⟩) (.inr (Nat.le_refl _)) _) (by omega)
end Go.Proofs.Ytlealjcllbpgkaa

namespace Go.Proofs.Ytlealjcllbpgkaa
open Go.RowKit

theorem info_TPf : (Try.prog.info? 26).map (fun i => (i.zero, i.size, i.bytes)) = some (some (.agg #[.int .i64 0, .int .i64 0]), 2, 16) := by kernel_rfl
theorem pf_size (ps : List Pf) : ∀ r ∈ ps.map Pf.cells, r.size = 2 := fun r hr => by obtain ⟨p, _, rfl⟩ := List.mem_map.1 hr; rfl
theorem pf_one (ps : List Pf) : ∀ u ∈ flat (ps.map Pf.cells), u.oneCell' = true := fun u hu => by
  obtain ⟨r, hr, hu⟩ := List.mem_flatMap.1 hu
  obtain ⟨p, _, rfl⟩ := List.mem_map.1 hr
  simp [Pf.cells] at hu
  rcases hu with rfl | rfl <;> rfl

end Go.Proofs.Ytlealjcllbpgkaa

/- Slices of ints: Index, Contains, Equal; isNaN, cmp.Less; package rule: in; package attr: Through, Same. No condition but those that stand in each theorem. -/
import Derived.Test.YtlealjcllbpgkaaRs1
import Derived.Test.YtlealjcllbpgkaaAt2
import Derived.Test.YtlealjcllbpgkaaOw1
import Derived.Lib.SliceRun
namespace Go.Proofs.Ytlealjcllbpgkaa
open Go.RowKit

theorem cmpNaN_any (v : Int) (w : World) : Calls Try.prog 32 #[.int .i64 v] w fun e w1 => e = .returned (.bool false) ∧ w = w1 := by
  have hne : (v != v) = false := by simp
  go_enter Try.func32, Try.ntmps32
  go_wp2
  go_ret
  exact ⟨rfl, rfl⟩

end Go.Proofs.Ytlealjcllbpgkaa

namespace Go.Proofs.Ytlealjcllbpgkaa
open Go.RowKit

set_option maxRecDepth 20000 in
set_option maxHeartbeats 1000000 in
theorem clone_any (A : Option Addr) (n c : Nat) (xs : List Int) (w : World) (hx : Ints w A xs) (hn : xs.length = n) (hl : n ≤ 1000) :
    Calls Try.prog 27 #[.slice A n c] w fun e w1 => ∃ v, e = .returned v ∧ w1.ownsRow w.heap.size 3 1 v n (xs.map (.int .i64)) ∧ New w w1 := by
  have Hx := hide hx
  have Hn := hide hn
  obtain ⟨i0, hi0, hz0, hz1, hz2⟩ := info_parts info_TI
  have q78 : ∀ (w : World) (a : Option Addr) (n c n' c' : Nat), (binOp .eql 27 (.slice a n c) (.slice none n' c')).run Try.prog w = .ok (.bool a.isNone) w := fun w a n c n' c' => Lib.run_eql_slice_nil w _ _ a n c n' c' Try.underlying27
  cases A with
  | none =>
    have h0 : n = 0 := by
      rcases Nat.eq_zero_or_pos n with h | h
      · exact h
      · obtain ⟨b, o, h1, _⟩ := hx (by omega)
        cases h1
    subst h0
    have hxs : xs = [] := List.eq_nil_of_length_eq_zero hn
    have Hxs := hide hxs
    clear hx hn hxs
    go_enter Try.func27, Try.ntmps27
    go_wp2_with fail
    go_ret
    exact ⟨_, rfl, by rw [Hxs.out]; exact World.ownsRow_nil _ _ _ _, Upd.refl _ _⟩
  | some ad =>
    clear hx hn
    go_enter Try.func27, Try.ntmps27
    go_upto_region 3 with (fail)
    have hemp : (w.alloc (.cells #[] 3)).ownsRow w.heap.size 3 1 (.slice (some ⟨w.heap.size, 0, none⟩) 0 0) 0 [] :=
      ⟨rfl, .inr ⟨w.heap.size, 0, #[], rfl, Nat.le_refl _, Blk.new w _ _, Nat.le_refl _, Nat.zero_le _, rfl, rfl⟩⟩
    have Hu := hide ((Upd.refl (fun _ => False) w).alloc (.cells #[] 3))
    have Hemp := hide hemp
    clear hemp
    go_wp2_with (at_builtin; refine append_src rfl (.tmp 5) (.tmp 6) 27 rfl w.heap.size 3 i0 (.int .i64 0) 1 8 Try.underlying27 hi0 hz0 hz1 hz2 rfl (by omega) (.slice (some ⟨w.heap.size, 0, none⟩) 0 0) 0 [] rfl Hemp.out (some ad) n c (xs.map (.int .i64)) rfl (by simp [Hn.out]) (fun h => (Hx.out.new_ Hu.out).cells (by rw [Hn.out]; exact h)) (ints_one _) (by unfold maxLen; omega) (by omega) (by simp) ?_)
    intro v1 w1 ho hg
    have hnew : New w w1 := Hu.out.trans (grown_upd (S := fun k => k = w.heap.size) hg fun g hgg => by simpa [Value.ownBlock] using hgg.symm) fun q hq hx => absurd hq (by omega)
    have Ho := hide ho
    have Hnew := hide hnew
    clear ho hg hnew
    go_wp2_with fail
    go_ret
    exact ⟨_, rfl, Ho.out, Hnew.out⟩

theorem ownLt {w : World} {base : Nat} {e : TypeId} {size n : Nat} {v : Value} {xs : List Value} (h : w.ownsRow base e size v n xs) {g : Nat} (hg : v.ownBlock = some g) : g < w.heap.size := by
  rcases h.2 with ⟨rfl, _⟩ | ⟨g1, cap, cur, rfl, hb, hh, _⟩
  · simp [Value.ownBlock] at hg
  · have : g1 = g := by simpa [Value.ownBlock] using hg
    subst this
    rcases Nat.lt_or_ge g1 w.heap.size with hlt | hge
    · exact hlt
    · rw [Array.getElem?_eq_none hge] at hh; cases hh
theorem ownKeep {S : Nat → Prop} {w w1 : World} {base : Nat} {e : TypeId} {size n : Nat} {v : Value} {xs : List Value} (h : w.ownsRow base e size v n xs) (hu : Upd S w w1) (hn : ∀ g, v.ownBlock = some g → ¬ S g) : w1.ownsRow base e size v n xs := by
  have hlt := fun g (hg : v.ownBlock = some g) => ownLt h hg
  obtain ⟨h1, h2⟩ := h
  refine ⟨h1, ?_⟩
  rcases h2 with h2 | ⟨g, cap, cur, rfl, hg, hh, r⟩
  · exact .inl h2
  · exact .inr ⟨g, cap, cur, rfl, hg, (hu.block g (hlt g (by simp [Value.ownBlock])) (hn g (by simp [Value.ownBlock]))).trans hh, r⟩
theorem copy_upd (w : World) (M : Nat) (x0 x4 y0 y1 y2 y3 y4 : Value) :
    Upd (fun b => b = M ∨ b = M + 1) w (((((((w.setCell ⟨M, 0, none⟩ x0).setCell ⟨M, 4, none⟩ x4).setCell ⟨M + 1, 0, none⟩ y0).setCell ⟨M + 1, 1, none⟩ y1).setCell ⟨M + 1, 2, none⟩ y2).setCell ⟨M + 1, 3, none⟩ y3).setCell ⟨M + 1, 4, none⟩ y4) :=
  (((((((Upd.refl (fun b => b = M ∨ b = M + 1) w).setCell (p := ⟨M, 0, none⟩) (.inl (.inl rfl)) x0).setCell (p := ⟨M, 4, none⟩) (.inl (.inl rfl)) x4).setCell (p := ⟨M + 1, 0, none⟩) (.inl (.inr rfl)) y0).setCell (p := ⟨M + 1, 1, none⟩) (.inl (.inr rfl)) y1).setCell (p := ⟨M + 1, 2, none⟩) (.inl (.inr rfl)) y2).setCell (p := ⟨M + 1, 3, none⟩) (.inl (.inr rfl)) y3).setCell (p := ⟨M + 1, 4, none⟩) (.inl (.inr rfl)) y4

set_option maxRecDepth 20000 in
set_option maxHeartbeats 4000000 in
theorem copy_any (a : AttrR) (w : World) (ha : AttrOk w a) (hl : a.path.length ≤ 1000) (hl2 : a.tags.length ≤ 1000) :
    Calls Try.prog 17 #[.agg a.cells] w fun e w1 => ∃ (a' : AttrR) (z : Nat), e = .returned (.agg a'.cells) ∧ a'.con = a.con ∧ AttrOk w1 a' ∧
      w1.ownsRow z 3 1 (.slice a'.T a'.tags.length a'.tc) a'.tags.length (a'.tags.map (.int .i64)) ∧ (∀ b o, a'.P = some ⟨b, o, none⟩ → w.heap.size ≤ b ∧ b < z) ∧ w.heap.size ≤ z ∧ New w w1 := by
  have u := ((Upd.refl (fun _ => False) w).alloc (.cells a.cells TA)).alloc (.cells #[.slice none 0 0, .int .i64 0, .int .i64 0, .int .i64 0, .slice none 0 0] TA)
  have b0 := (Blk.new w TA a.cells).alloc (.cells #[.slice none 0 0, .int .i64 0, .int .i64 0, .int .i64 0, .slice none 0 0] TA)
  have b1 := Blk.at_ (w.alloc (.cells a.cells TA)) TA #[.slice none 0 0, .int .i64 0, .int .i64 0, .int .i64 0, .slice none 0 0] (w.heap.size + 1) (by simp)
  have Ha := hide (ha.new_ u)
  have Hu := hide u
  have Hb0 := hide b0
  have Hb1 := hide b1
  clear ha u b0 b1
  unfold AttrR.cells at *
  go_enter Try.func17, Try.ntmps17
  go_upto_region 1 with (fail)
  generalize ((w.alloc (.cells #[.slice a.P a.path.length a.pc, .int .i64 a.pref, .int .i64 a.med, .int .i64 a.origin, .slice a.T a.tags.length a.tc] TA)).alloc (.cells #[.slice none 0 0, .int .i64 0, .int .i64 0, .int .i64 0, .slice none 0 0] TA)) = W at *
  have c0 := Hb0.out.cell 0
  have c4 := Hb0.out.cell 4
  have z0 := Hb0.out.lt
  have f0 := Hb0.out.frozen 0
  have f4 := Hb0.out.frozen 4
  simp only [List.getElem?_toArray, List.getElem?_cons_zero, List.getElem?_cons_succ] at c0 c4
  have Wd := hide (show New W W.drew from (Upd.refl _ W).drew)
  have Cp := hide (fun w' (nw : New W w') => clone_any a.P a.path.length a.pc a.path w' (Ha.out.path.new_ nw) rfl hl)
  have Ct := hide (fun w' (nw : New W w') => clone_any a.T a.tags.length a.tc a.tags w' (Ha.out.tags.new_ nw) rfl hl2)
  go_region_with (first
      | (go_at_call 27; refine (Cp.out _ (by exact Wd.out)).mono ?_; rintro e w2 ⟨v1, rfl, ho1, hu1⟩; obtain ⟨P1, pc1, rfl, _⟩ := ints_of_own ho1; have N1 := hide (Wd.out.trans_new hu1); have b2 := Hb0.out.new_ N1.out; have k0 := b2.cell 0; have k4 := b2.cell 4; have zk := b2.lt; have O1 := hide ho1; simp only [List.getElem?_toArray, List.getElem?_cons_zero, List.getElem?_cons_succ] at k0 k4; clear b2 ho1 hu1)
      | (go_at_call 27; refine (Ct.out _ (by exact N1.out)).mono ?_; rintro e w3 ⟨v2, rfl, ho2, hu2⟩; obtain ⟨T1, tc1, rfl, _⟩ := ints_of_own ho2; have N2 := hide (N1.out.trans_new hu2); have b3 := Hb0.out.new_ N2.out; have O2 := hide ho2; have U2 := hide hu2; have m0 := b3.cell 0; have m4 := b3.cell 4; have e0 := b3.frozen 0; have e4 := b3.frozen 4; have zM := b3.lt; simp only [List.getElem?_toArray, List.getElem?_cons_zero, List.getElem?_cons_succ] at m0 m4; clear b3 ho2 hu2))
  all_goals
    have bM := Hb0.out.new_ N2.out
    have bR := Hb1.out.new_ N2.out
    have hMR : w.heap.size ≠ w.heap.size + 1 := by omega
    have hMR2 : w.heap.size + 1 ≠ w.heap.size := by omega
    have zR := bR.lt
    have m1 := bM.cell 1
    have m2 := bM.cell 2
    have m3 := bM.cell 3
    have r0 := bR.cell 0
    have r1 := bR.cell 1
    have r2 := bR.cell 2
    have r3 := bR.cell 3
    have r4 := bR.cell 4
    have s0 := bR.frozen 0
    have s1 := bR.frozen 1
    have s2 := bR.frozen 2
    have s3 := bR.frozen 3
    have s4 := bR.frozen 4
    simp at m1 m2 m3 r0 r1 r2 r3 r4
    have HbR := hide bR
    clear bM bR
    go_wp2_with fail
    have hR3 := Blk.far (Blk.far HbR.out (p := ⟨w.heap.size, 0, none⟩) (fun e : w.heap.size + 1 = w.heap.size => absurd e (Nat.succ_ne_self _)) (.slice P1 a.path.length pc1)) (p := ⟨w.heap.size, 4, none⟩) (fun e : w.heap.size + 1 = w.heap.size => absurd e (Nat.succ_ne_self _)) (.slice T1 a.tags.length tc1)
    refine bodyPost_ret (attr_out Try.results17 rfl (set5 hR3)) rfl ?_
    have uW := Hu.out.size
    have uS := copy_upd w3 w.heap.size (.slice P1 a.path.length pc1) (.slice T1 a.tags.length tc1) (.slice P1 a.path.length pc1) (.int .i64 a.pref) (.int .i64 a.med) (.int .i64 a.origin) (.slice T1 a.tags.length tc1)
    obtain ⟨A1, k1, hA1, _, hc1, hP1, hf1, _⟩ := ints_of_own O1.out
    injection hA1 with e1 e2 e3
    subst e1; subst e3
    obtain ⟨A2, k2, hA2, _, hc2, hT1, hf2, _⟩ := ints_of_own O2.out
    injection hA2 with e1 e2 e3
    subst e1; subst e3
    have zz := Hb0.out.lt
    have zd : W.drew.heap.size = W.heap.size := rfl
    have zz1 := Hb1.out.lt
    have zz2 := N1.out.size
    refine ⟨⟨P1, pc1, a.path, a.pref, a.med, a.origin, T1, tc1, a.tags⟩, w2.heap.size, rfl, rfl, ?_, ?_, ?_, ?_, ?_⟩
    · exact ⟨(hP1.new_ U2.out).upd uS fun b o e => by have := hf1 b o e; omega, hT1.upd uS fun b o e => by have := hf2 b o e; omega, hc1, hc2⟩
    · exact ownKeep O2.out uS fun g hg => by
        rcases O2.out.2 with ⟨h1, _⟩ | ⟨g1, cap, cur, h1, h2, _⟩
        · rw [h1] at hg; simp [Value.ownBlock] at hg
        · rw [h1] at hg
          have : g1 = g := by simpa [Value.ownBlock] using hg
          omega
    · intro b o e
      have hown : (Value.slice P1 a.path.length pc1).ownBlock = some b := by
        have e' : P1 = some ⟨b, o, none⟩ := e
        rw [e']; rfl
      exact ⟨by have := hf1 b o e; omega, ownLt O1.out hown⟩
    · omega
    · exact ((Hu.out.trans_new N2.out).trans uS fun q hq hx => by omega)
end Go.Proofs.Ytlealjcllbpgkaa

/- Own memory for what came in: attributes, prefixes. No condition but those that stand in each theorem. -/
import Derived.Test.YtignngpligicjaaDoorAp1
import Derived.Test.YtignngpligicjaaDoorRs1
import Derived.Test.YtignngpligicjaaDoorAt2
import Derived.Deep.Cut
import Derived.Test.YtignngpligicjaaDoorWi1
namespace Go.Proofs.YtignngpligicjaaDoor
open Go.RowKit

/-- Its rows lie in blocks of ints. -/
def AttrTy (w : World) (a : AttrR) : Prop := Typed w a.P 3 ∧ Typed w a.T 3
theorem info_TI : (Tryd.prog.info? 3).map (fun i => (i.zero, i.size, i.bytes)) = some (some (.int .i64 0), 1, 8) := by kernel_rfl
theorem TA_info : (Tryd.prog.info? TA).map (·.size) = some 5 := by kernel_rfl
theorem attr_out {fn : Func} {p : Tmp} {tmps : Array Value} {w : World} {R : Nat} {x0 x1 x2 x3 x4 : Value} (h : fn.results = #[.cell p TA]) (hp : tmps.getD p undef = .pointer (some ⟨R, 0, none⟩)) (hb : Blk w R TA #[x0, x1, x2, x3, x4]) :
    (results fn tmps).run Tryd.prog w = .ok (.agg #[x0, x1, x2, x3, x4]) w := by
  exact results_cell_row h tmps w R TA #[x0, x1, x2, x3, x4] (0, 0) _ hp hb Tryd.underlying44 rfl (by rw [TA_info]; rfl)
theorem set5 {w : World} {R : Nat} {x0 x1 x2 x3 x4 y0 y1 y2 y3 y4 : Value} {t : TypeId} (hb : Blk w R t #[x0, x1, x2, x3, x4]) :
    Blk (((((w.setCell ⟨R, 0, none⟩ y0).setCell ⟨R, 1, none⟩ y1).setCell ⟨R, 2, none⟩ y2).setCell ⟨R, 3, none⟩ y3).setCell ⟨R, 4, none⟩ y4) R t #[y0, y1, y2, y3, y4] := by
  have := ((((hb.set_ 0 y0).set_ 1 y1).set_ 2 y2).set_ 3 y3).set_ 4 y4
  simpa using this
theorem set5_new {w W : World} {R : Nat} {y0 y1 y2 y3 y4 : Value} (hn : New w W) (hR : w.heap.size ≤ R) :
    New w (((((W.setCell ⟨R, 0, none⟩ y0).setCell ⟨R, 1, none⟩ y1).setCell ⟨R, 2, none⟩ y2).setCell ⟨R, 3, none⟩ y3).setCell ⟨R, 4, none⟩ y4) :=
  ((((hn.setCell (p := ⟨R, 0, none⟩) (.inr hR) y0).setCell (p := ⟨R, 1, none⟩) (.inr hR) y1).setCell (p := ⟨R, 2, none⟩) (.inr hR) y2).setCell (p := ⟨R, 3, none⟩) (.inr hR) y3).setCell (p := ⟨R, 4, none⟩) (.inr hR) y4

theorem set5_upd {y0 y1 y2 y3 y4 : Value} (w2 : World) (M R k : Nat) (y : Value) :
    Upd (fun b => b = M ∨ b = R) w2 ((((((w2.setCell ⟨M, k, none⟩ y).setCell ⟨R, 0, none⟩ y0).setCell ⟨R, 1, none⟩ y1).setCell ⟨R, 2, none⟩ y2).setCell ⟨R, 3, none⟩ y3).setCell ⟨R, 4, none⟩ y4) :=
  ((((((Upd.refl (fun b => b = M ∨ b = R) w2).setCell (p := ⟨M, k, none⟩) (.inl (.inl rfl)) y).setCell (p := ⟨R, 0, none⟩) (.inl (.inr rfl)) y0).setCell (p := ⟨R, 1, none⟩) (.inl (.inr rfl)) y1).setCell (p := ⟨R, 2, none⟩) (.inl (.inr rfl)) y2).setCell (p := ⟨R, 3, none⟩) (.inl (.inr rfl)) y3).setCell (p := ⟨R, 4, none⟩) (.inl (.inr rfl)) y4

end Go.Proofs.YtignngpligicjaaDoor

namespace Go.Proofs.YtignngpligicjaaDoor
open Go.RowKit

theorem info_TPf : (Tryd.prog.info? 34).map (fun i => (i.zero, i.size, i.bytes)) = some (some (.agg #[.int .i64 0, .int .i64 0]), 2, 16) := by kernel_rfl
theorem pf_size (ps : List Pf) : ∀ r ∈ ps.map Pf.cells, r.size = 2 := fun r hr => by obtain ⟨p, _, rfl⟩ := List.mem_map.1 hr; rfl
theorem pf_one (ps : List Pf) : ∀ u ∈ flat (ps.map Pf.cells), u.oneCell' = true := fun u hu => by
  obtain ⟨r, hr, hu⟩ := List.mem_flatMap.1 hu
  obtain ⟨p, _, rfl⟩ := List.mem_map.1 hr
  simp [Pf.cells] at hu
  rcases hu with rfl | rfl <;> rfl

set_option maxHeartbeats 1000000 in
theorem ownPrefixes_any (A : Option Addr) (n c : Nat) (ps : List Pf) (w : World) (hx : Pfs w A ps) (hn : ps.length = n) (hl : n ≤ 1000) :
    Calls Tryd.prog 12 #[.slice A n c] w fun e w1 => ∃ A' c', e = .returned (.slice A' n c') ∧ Pfs w1 A' ps ∧ n ≤ c' ∧ (∀ b o, A' = some ⟨b, o, none⟩ → w.heap.size ≤ b) ∧ Typed w1 A' 34 ∧ New w w1 := by
  have Hf := hide (Rws.flat (by omega) hx (pf_size ps))
  have Hn := hide hn
  obtain ⟨i0, hi0, hz0, hz1, hz2⟩ := info_parts info_TPf
  clear hx hn
  go_enter Tryd.func12, Tryd.ntmps12
  go_wp2_with (at_builtin; refine append_src rfl (.tmp 4) (.tmp 5) 22 rfl w.heap.size 34 i0 _ 2 16 Tryd.underlying22 hi0 hz0 hz1 hz2 rfl (by omega) (.slice none 0 0) 0 [] rfl (World.ownsRow_nil _ _ _ _) A n c (flat (ps.map Pf.cells)) rfl (by rw [flat_length _ (pf_size ps), List.length_map, Hn.out]) (fun h => Hf.out (by rw [List.length_map, Hn.out]; exact h)) (pf_one ps) (by unfold maxLen; omega) (by omega) (Nat.le_refl _) ?_)
  intro v1 w1 ho1 hg1
  have u1 : New w w1 := grown_new hg1
  have ho2 : w1.ownsRow w.heap.size 34 2 v1 n (flat (ps.map Pf.cells)) := by simpa using ho1
  obtain ⟨A1, c1, rfl, _, hc1, hP1, hf1, ht1⟩ := rws_of_own (by omega) ho2 (pf_size ps)
  clear ho1 ho2 hg1
  go_wp2_with fail
  go_ret
  exact ⟨_, _, rfl, hP1, hc1, hf1, ht1, u1⟩
end Go.Proofs.YtignngpligicjaaDoor

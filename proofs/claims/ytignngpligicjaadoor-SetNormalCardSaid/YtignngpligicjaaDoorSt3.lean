/- Spans in a row of the call's own: what a store makes of it, what its cells hold. No condition but those that stand in each theorem. -/
import Derived.Test.YtignngpligicjaaDoorSt2
import Derived.Test.YtignngpligicjaaDoorSp5
import Derived.Test.YtignngpligicjaaDoorOw2
namespace Go.Proofs.YtignngpligicjaaDoor
open Go.RowKit

theorem flat_cons2 (s : Nat × Nat) (l : List (Nat × Nat)) : flat ((s :: l).map spc) = .int .i64 (s.1 : Int) :: .int .i64 (s.2 : Int) :: flat (l.map spc) := rfl
theorem flat_set1 : ∀ (l : List (Nat × Nat)) (k y : Nat), k < l.length → (flat (l.map spc)).set (k * 2 + 1) (.int .i64 (y : Int)) = flat ((l.set k ((l.getD k (0, 0)).1, y)).map spc)
  | [], k, y, h => absurd h (by simp)
  | s :: l, 0, y, _ => by rw [flat_cons2]; rfl
  | s :: l, k + 1, y, h => by
    rw [flat_cons2, show (k + 1) * 2 + 1 = (k * 2 + 1) + 1 + 1 by omega, List.set_cons_succ, List.set_cons_succ, flat_set1 l k y (by simpa using h)]
    rfl
theorem flat_set2 : ∀ (l : List (Nat × Nat)) (k : Nat) (s : Nat × Nat), k < l.length → ((flat (l.map spc)).set (k * 2) (.int .i64 (s.1 : Int))).set (k * 2 + 1) (.int .i64 (s.2 : Int)) = flat ((l.set k s).map spc)
  | [], k, s, h => absurd h (by simp)
  | t :: l, 0, s, _ => by rw [flat_cons2]; rfl
  | t :: l, k + 1, s, h => by
    rw [flat_cons2, List.set_cons_succ, flat_cons2, show (k + 1) * 2 + 1 = (k * 2 + 1) + 1 + 1 by omega, show (k + 1) * 2 = k * 2 + 1 + 1 by omega, List.set_cons_succ, List.set_cons_succ, List.set_cons_succ, List.set_cons_succ, flat_set2 l k s (by simpa using h)]
theorem row_upd {S : Nat → Prop} {w w1 : World} {base : Nat} {e : TypeId} {size n : Nat} {v : Value} {xs : List Value} (h : w.ownsRow base e size v n xs) (hu : Upd S w w1) (hn : ∀ g, v.ownBlock = some g → ¬ S g) : w1.ownsRow base e size v n xs := by
  obtain ⟨h1, h2⟩ := h
  refine ⟨h1, ?_⟩
  rcases h2 with h2 | ⟨g, cap, cur, rfl, hg, hh, r⟩
  · exact .inl h2
  · exact .inr ⟨g, cap, cur, rfl, hg, Blk.upd (t := e) hh hu (hn g rfl), r⟩
theorem row_new {w w1 : World} {base : Nat} {e : TypeId} {size n : Nat} {v : Value} {xs : List Value} (h : w.ownsRow base e size v n xs) (hu : New w w1) : w1.ownsRow base e size v n xs := row_upd h hu fun _ _ x => x
theorem row_ge {w : World} {base : Nat} {e : TypeId} {size n : Nat} {v : Value} {xs : List Value} (h : w.ownsRow base e size v n xs) {g : Nat} (hg : v.ownBlock = some g) : base ≤ g ∧ g < w.heap.size := by
  rcases h.2 with ⟨rfl, _⟩ | ⟨g1, cap, cur, rfl, hb, hh, _⟩
  · simp [Value.ownBlock] at hg
  · have : g1 = g := by simpa [Value.ownBlock] using hg
    subst this
    exact ⟨hb, Blk.lt (t := e) hh⟩
theorem row_ne {w : World} {base : Nat} {e t : TypeId} {size n : Nat} {v : Value} {xs : List Value} {X : Nat} {cs : Array Value} (h : w.ownsRow base e size v n xs) (hb : Blk w X t cs) (hne : e ≠ t) : ¬ v.ownBlock = some X := fun hg => by
  rcases h.2 with ⟨rfl, _⟩ | ⟨g1, cap, cur, rfl, _, hh, _⟩
  · simp [Value.ownBlock] at hg
  · have : g1 = X := by simpa [Value.ownBlock] using hg
    subst this
    exact Blk.ne_ (t := e) (t1 := t) hh hb hne rfl
/-- A store into a row of the call's own. -/
theorem own_set {w : World} {base : Nat} {e : TypeId} {sz n : Nat} {g cap : Nat} {xs : List Value} (h : w.ownsRow base e sz (.slice (some ⟨g, 0, none⟩) n cap) n xs) (j : Nat) (u : Value) (hj : j < xs.length) :
    (w.setCell ⟨g, j, none⟩ u).ownsRow base e sz (.slice (some ⟨g, 0, none⟩) n cap) n (xs.set j u) := by
  obtain ⟨h1, h2⟩ := h
  refine ⟨by rw [List.length_set]; exact h1, .inr ?_⟩
  rcases h2 with ⟨h2, _⟩ | ⟨g1, cap1, cur, h2, hb, hh, hn, hm, hcs, ht⟩
  · cases h2
  · injection h2 with e1 _ e3
    injection e1 with e1
    injection e1 with e1
    subst e1; subst e3
    refine ⟨g, cap, cur.setIfInBounds j u, rfl, hb, Blk.set_ (t := e) hh j u, hn, hm, by simpa using hcs, ?_⟩
    rw [Array.toList_setIfInBounds, List.take_set, ht]
theorem OwnS.slice {w : World} {base : Nat} {v : Value} {l : List (Nat × Nat)} (h : OwnS w base v l) (h0 : 0 < l.length) : ∃ g cap, v = .slice (some ⟨g, 0, none⟩) l.length cap ∧ base ≤ g ∧ g < w.heap.size ∧ l.length ≤ cap ∧ ∀ k s, l[k]? = some s → w.cell? ⟨g, k * 2, none⟩ = some (.int .i64 (s.1 : Int)) ∧ w.cell? ⟨g, k * 2 + 1, none⟩ = some (.int .i64 (s.2 : Int)) ∧ w.frozen? ⟨g, k * 2, none⟩ = false ∧ w.frozen? ⟨g, k * 2 + 1, none⟩ = false := by
  rcases h.2 with ⟨_, h1⟩ | ⟨g, cap, cur, rfl, hb, hh, hn, hm, hcs, ht⟩
  · omega
  · have hblk : Blk w g TSp cur := hh
    refine ⟨g, cap, rfl, hb, hblk.lt, hn, fun k s hk => ?_⟩
    have hkl : k < l.length := (List.getElem?_eq_some_iff.1 hk).1
    have hr : (l.map spc)[k]? = some (spc s) := by rw [List.getElem?_map, hk]; rfl
    have key : ∀ j, j < 2 → cur[k * 2 + j]? = (spc s)[j]? := fun j hj => by
      have h1 := flat_get (l.map spc) (spc_size l) k _ hr j hj
      rw [← ht, List.getElem?_take, if_pos (by omega)] at h1
      rw [← h1]; simp
    exact ⟨by rw [hblk.cell]; exact key 0 (by omega), by rw [hblk.cell]; exact key 1 (by omega), hblk.frozen _, hblk.frozen _⟩
theorem OwnS.set1 {w : World} {base g cap : Nat} {l : List (Nat × Nat)} (h : OwnS w base (.slice (some ⟨g, 0, none⟩) l.length cap) l) {k y : Nat} {s : Nat × Nat} (hk : l[k]? = some s) :
    OwnS (w.setCell ⟨g, k * 2 + 1, none⟩ (.int .i64 (y : Int))) base (.slice (some ⟨g, 0, none⟩) (l.set k (s.1, y)).length cap) (l.set k (s.1, y)) := by
  have hkl : k < l.length := (List.getElem?_eq_some_iff.1 hk).1
  have hlen : (flat (l.map spc)).length = l.length * 2 := by rw [flat_length _ (spc_size l)]; simp
  have h1 := own_set h (k * 2 + 1) (.int .i64 (y : Int)) (by omega)
  rw [flat_set1 l k y hkl] at h1
  unfold OwnS
  rw [List.length_set]
  have hg : l.getD k (0, 0) = s := by simp [List.getD, hk]
  rwa [hg] at h1
theorem OwnS.set2 {w : World} {base g cap : Nat} {l : List (Nat × Nat)} (h : OwnS w base (.slice (some ⟨g, 0, none⟩) l.length cap) l) {k : Nat} (s : Nat × Nat) (hk : k < l.length) :
    OwnS ((w.setCell ⟨g, k * 2, none⟩ (.int .i64 (s.1 : Int))).setCell ⟨g, k * 2 + 1, none⟩ (.int .i64 (s.2 : Int))) base (.slice (some ⟨g, 0, none⟩) (l.set k s).length cap) (l.set k s) := by
  have hlen : (flat (l.map spc)).length = l.length * 2 := by rw [flat_length _ (spc_size l)]; simp
  have h1 := own_set h (k * 2) (.int .i64 (s.1 : Int)) (by omega)
  have h2 := own_set h1 (k * 2 + 1) (.int .i64 (s.2 : Int)) (by rw [List.length_set]; omega)
  rw [flat_set2 l k s hk] at h2
  unfold OwnS
  rw [List.length_set]
  exact h2
/-- Its beginning. -/
theorem OwnS.cut {w : World} {base g cap : Nat} {l : List (Nat × Nat)} (h : OwnS w base (.slice (some ⟨g, 0, none⟩) l.length cap) l) {k : Nat} (hk : k ≤ l.length) :
    OwnS w base (.slice (some ⟨g, 0, none⟩) (l.take k).length cap) (l.take k) := by
  rcases h.2 with ⟨h2, _⟩ | ⟨g1, cap1, cur, h2, hb, hh, hn, hm, hcs, ht⟩
  · cases h2
  · injection h2 with e1 _ e3
    injection e1 with e1
    injection e1 with e1
    subst e1; subst e3
    have hkl : (l.take k).length = k := by rw [List.length_take]; omega
    have e : flat ((l.take k).map spc) = (flat (l.map spc)).take (k * 2) := by
      have : ∀ (l : List (Nat × Nat)) (k : Nat), flat ((l.take k).map spc) = (flat (l.map spc)).take (k * 2) := by
        intro l
        induction l with
        | nil => intro k; simp [flat]
        | cons s l ih =>
          intro k
          cases k with
          | zero => simp [flat]
          | succ k =>
            rw [List.take_succ_cons, flat_cons2, flat_cons2, ih k, show (k + 1) * 2 = k * 2 + 1 + 1 by omega, List.take_succ_cons, List.take_succ_cons]
      exact this l k
    refine ⟨?_, .inr ⟨g, cap, cur, rfl, hb, hh, by omega, hm, hcs, ?_⟩⟩
    · rw [flat_length _ (spc_size _), List.length_map]
    · rw [hkl, e, ← ht, List.take_take, Nat.min_eq_left (by omega)]
theorem OwnS.cells {w : World} {base g n cap : Nat} {l : List (Nat × Nat)} (h : OwnS w base (.slice (some ⟨g, 0, none⟩) n cap) l) {k : Nat} {s : Nat × Nat} (hk : l[k]? = some s) :
    w.cell? ⟨g, k * 2, none⟩ = some (.int .i64 (s.1 : Int)) ∧ w.cell? ⟨g, k * 2 + 1, none⟩ = some (.int .i64 (s.2 : Int)) ∧ w.frozen? ⟨g, k * 2, none⟩ = false ∧ w.frozen? ⟨g, k * 2 + 1, none⟩ = false := by
  obtain ⟨g1, cap1, hv, _, _, _, hc⟩ := h.slice (by have := (List.getElem?_eq_some_iff.1 hk).1; omega)
  injection hv with e1 _ _
  injection e1 with e1
  injection e1 with e1
  subst e1
  exact hc k s hk
theorem OwnS.len {w : World} {base g n cap : Nat} {l : List (Nat × Nat)} (h : OwnS w base (.slice (some ⟨g, 0, none⟩) n cap) l) : l.length = n ∧ l.length ≤ cap := by
  rcases h.2 with ⟨h2, _⟩ | ⟨g1, cap1, cur, h2, hb, hh, hn, _⟩
  · cases h2
  · injection h2 with _ e2 e3
    subst e3
    exact ⟨e2.symm, hn⟩
theorem OwnS.upd {S : Nat → Prop} {w w1 : World} {base : Nat} {v : Value} {l : List (Nat × Nat)} (h : OwnS w base v l) (hu : Upd S w w1) (hn : ∀ g, v.ownBlock = some g → ¬ S g) : OwnS w1 base v l := row_upd h hu hn
theorem OwnS.new_ {w w1 : World} {base : Nat} {v : Value} {l : List (Nat × Nat)} (h : OwnS w base v l) (hu : New w w1) : OwnS w1 base v l := row_new h hu
theorem OwnS.put1 {w : World} {base g n cap : Nat} {l : List (Nat × Nat)} (h : OwnS w base (.slice (some ⟨g, 0, none⟩) n cap) l) {k y : Nat} {s : Nat × Nat} (hk : l[k]? = some s) :
    OwnS (w.setCell ⟨g, k * 2 + 1, none⟩ (.int .i64 (y : Int))) base (.slice (some ⟨g, 0, none⟩) n cap) (l.set k (s.1, y)) := by
  obtain ⟨rfl, _⟩ := h.len
  have := h.set1 (y := y) hk
  rwa [List.length_set] at this
theorem OwnS.put2 {w : World} {base g n cap : Nat} {l : List (Nat × Nat)} (h : OwnS w base (.slice (some ⟨g, 0, none⟩) n cap) l) {k : Nat} (s : Nat × Nat) (hk : k < l.length) :
    OwnS ((w.setCell ⟨g, k * 2, none⟩ (.int .i64 (s.1 : Int))).setCell ⟨g, k * 2 + 1, none⟩ (.int .i64 (s.2 : Int))) base (.slice (some ⟨g, 0, none⟩) n cap) (l.set k s) := by
  obtain ⟨rfl, _⟩ := h.len
  have := h.set2 s hk
  rwa [List.length_set] at this
theorem OwnS.front {w : World} {base g n cap : Nat} {l : List (Nat × Nat)} (h : OwnS w base (.slice (some ⟨g, 0, none⟩) n cap) l) {k : Nat} (hk : k ≤ l.length) :
    OwnS w base (.slice (some ⟨g, 0, none⟩) k cap) (l.take k) := by
  obtain ⟨rfl, _⟩ := h.len
  have := h.cut hk
  rwa [List.length_take, Nat.min_eq_left hk] at this
end Go.Proofs.YtignngpligicjaaDoor

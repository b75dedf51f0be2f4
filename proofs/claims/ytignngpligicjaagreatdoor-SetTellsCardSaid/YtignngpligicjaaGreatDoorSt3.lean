/- Spans in a row of the call's own: what a store makes of it, what its cells hold. No condition but those that stand in each theorem. -/
import Derived.Test.YtignngpligicjaaGreatDoorSt1
import Derived.Test.YtignngpligicjaaGreatDoorSp5
import Derived.Test.YtignngpligicjaaGreatDoorOw1
import Derived.Test.YtignngpligicjaaGreatDoorPfo
import Derived.Test.YtignngpligicjaaGreatDoorIp3
import Derived.Test.YtignngpligicjaaGreatDoorEv
import Derived.Deep.RegionHeld3
import Derived.Deep.DeepCutAuto
import Derived.Test.YtignngpligicjaaGreatDoorSp1
namespace Go.Proofs.YtignngpligicjaaGreatDoor
open Go.RowKit

theorem flat_cons2 (s : Nat × Nat) (l : List (Nat × Nat)) : flat ((s :: l).map spc) = .int .i64 (s.1 : Int) :: .int .i64 (s.2 : Int) :: flat (l.map spc) := rfl
theorem flat_set1 : ∀ (l : List (Nat × Nat)) (k y : Nat), k < l.length → (flat (l.map spc)).set (k * 2 + 1) (.int .i64 (y : Int)) = flat ((l.set k ((l.getD k (0, 0)).1, y)).map spc)
  | [], k, y, h => absurd h (by simp)
  | s :: l, 0, y, _ => by rw [flat_cons2]; rfl
  | s :: l, k + 1, y, h => by
    rw [flat_cons2, show (k + 1) * 2 + 1 = (k * 2 + 1) + 1 + 1 by omega, List.set_cons_succ, List.set_cons_succ, flat_set1 l k y (by simpa using h)]
    rfl
theorem flat_set2 : ∀ (l : List (Nat × Nat)) (k : Nat) (s : Nat × Nat), k < l.length → ((flat (l.map spc)).set (k * 2) (.int .i64 (s.1 : Int))).set (k * 2 + 1) (.int .i64 (s.2 : Int)) = flat ((l.set k s).map spc)
  | [], k, s, h => absurd h (by simp)
  | t :: l, 0, s, _ => by rw [flat_cons2]; rfl
  | t :: l, k + 1, s, h => by
    rw [flat_cons2, List.set_cons_succ, flat_cons2, show (k + 1) * 2 + 1 = (k * 2 + 1) + 1 + 1 by omega, show (k + 1) * 2 = k * 2 + 1 + 1 by omega, List.set_cons_succ, List.set_cons_succ, List.set_cons_succ, List.set_cons_succ, flat_set2 l k s (by simpa using h)]
theorem row_upd {S : Nat → Prop} {w w1 : World} {base : Nat} {e : TypeId} {size n : Nat} {v : Value} {xs : List Value} (h : w.ownsRow base e size v n xs) (hu : Upd S w w1) (hn : ∀ g, v.ownBlock = some g → ¬ S g) : w1.ownsRow base e size v n xs := by
  obtain ⟨h1, h2⟩ := h
  refine ⟨h1, ?_⟩
  rcases h2 with h2 | ⟨g, cap, cur, rfl, hg, hh, r⟩
  · exact .inl h2
  · exact .inr ⟨g, cap, cur, rfl, hg, Blk.upd (t := e) hh hu (hn g rfl), r⟩
theorem row_new {w w1 : World} {base : Nat} {e : TypeId} {size n : Nat} {v : Value} {xs : List Value} (h : w.ownsRow base e size v n xs) (hu : New w w1) : w1.ownsRow base e size v n xs := row_upd h hu fun _ _ x => x
theorem row_ge {w : World} {base : Nat} {e : TypeId} {size n : Nat} {v : Value} {xs : List Value} (h : w.ownsRow base e size v n xs) {g : Nat} (hg : v.ownBlock = some g) : base ≤ g ∧ g < w.heap.size := by
  rcases h.2 with ⟨rfl, _⟩ | ⟨g1, cap, cur, rfl, hb, hh, _⟩
  · simp [Value.ownBlock] at hg
  · have : g1 = g := by simpa [Value.ownBlock] using hg
    subst this
    exact ⟨hb, Blk.lt (t := e) hh⟩
theorem row_ne {w : World} {base : Nat} {e t : TypeId} {size n : Nat} {v : Value} {xs : List Value} {X : Nat} {cs : Array Value} (h : w.ownsRow base e size v n xs) (hb : Blk w X t cs) (hne : e ≠ t) : ¬ v.ownBlock = some X := fun hg => by
  rcases h.2 with ⟨rfl, _⟩ | ⟨g1, cap, cur, rfl, _, hh, _⟩
  · simp [Value.ownBlock] at hg
  · have : g1 = X := by simpa [Value.ownBlock] using hg
    subst this
    exact Blk.ne_ (t := e) (t1 := t) hh hb hne rfl
/-- A store into a row of the call's own. -/
theorem own_set {w : World} {base : Nat} {e : TypeId} {sz n : Nat} {g cap : Nat} {xs : List Value} (h : w.ownsRow base e sz (.slice (some ⟨g, 0, none⟩) n cap) n xs) (j : Nat) (u : Value) (hj : j < xs.length) :
    (w.setCell ⟨g, j, none⟩ u).ownsRow base e sz (.slice (some ⟨g, 0, none⟩) n cap) n (xs.set j u) := by
  obtain ⟨h1, h2⟩ := h
  refine ⟨by rw [List.length_set]; exact h1, .inr ?_⟩
  rcases h2 with ⟨h2, _⟩ | ⟨g1, cap1, cur, h2, hb, hh, hn, hm, hcs, ht⟩
  · cases h2
  · injection h2 with e1 _ e3
    injection e1 with e1
    injection e1 with e1
    subst e1; subst e3
    refine ⟨g, cap, cur.setIfInBounds j u, rfl, hb, Blk.set_ (t := e) hh j u, hn, hm, by simpa using hcs, ?_⟩
    rw [Array.toList_setIfInBounds, List.take_set, ht]
theorem OwnS.slice {w : World} {base : Nat} {v : Value} {l : List (Nat × Nat)} (h : OwnS w base v l) (h0 : 0 < l.length) : ∃ g cap, v = .slice (some ⟨g, 0, none⟩) l.length cap ∧ base ≤ g ∧ g < w.heap.size ∧ l.length ≤ cap ∧ ∀ k s, l[k]? = some s → w.cell? ⟨g, k * 2, none⟩ = some (.int .i64 (s.1 : Int)) ∧ w.cell? ⟨g, k * 2 + 1, none⟩ = some (.int .i64 (s.2 : Int)) ∧ w.frozen? ⟨g, k * 2, none⟩ = false ∧ w.frozen? ⟨g, k * 2 + 1, none⟩ = false := by
  rcases h.2 with ⟨_, h1⟩ | ⟨g, cap, cur, rfl, hb, hh, hn, hm, hcs, ht⟩
  · omega
  · have hblk : Blk w g TSp cur := hh
    refine ⟨g, cap, rfl, hb, hblk.lt, hn, fun k s hk => ?_⟩
    have hkl : k < l.length := (List.getElem?_eq_some_iff.1 hk).1
    have hr : (l.map spc)[k]? = some (spc s) := by rw [List.getElem?_map, hk]; rfl
    have key : ∀ j, j < 2 → cur[k * 2 + j]? = (spc s)[j]? := fun j hj => by
      have h1 := flat_get (l.map spc) (spc_size l) k _ hr j hj
      rw [← ht, List.getElem?_take, if_pos (by omega)] at h1
      rw [← h1]; simp
    exact ⟨by rw [hblk.cell]; exact key 0 (by omega), by rw [hblk.cell]; exact key 1 (by omega), hblk.frozen _, hblk.frozen _⟩
theorem OwnS.set1 {w : World} {base g cap : Nat} {l : List (Nat × Nat)} (h : OwnS w base (.slice (some ⟨g, 0, none⟩) l.length cap) l) {k y : Nat} {s : Nat × Nat} (hk : l[k]? = some s) :
    OwnS (w.setCell ⟨g, k * 2 + 1, none⟩ (.int .i64 (y : Int))) base (.slice (some ⟨g, 0, none⟩) (l.set k (s.1, y)).length cap) (l.set k (s.1, y)) := by
  have hkl : k < l.length := (List.getElem?_eq_some_iff.1 hk).1
  have hlen : (flat (l.map spc)).length = l.length * 2 := by rw [flat_length _ (spc_size l)]; simp
  have h1 := own_set h (k * 2 + 1) (.int .i64 (y : Int)) (by omega)
  rw [flat_set1 l k y hkl] at h1
  unfold OwnS
  rw [List.length_set]
  have hg : l.getD k (0, 0) = s := by simp [List.getD, hk]
  rwa [hg] at h1
theorem OwnS.set2 {w : World} {base g cap : Nat} {l : List (Nat × Nat)} (h : OwnS w base (.slice (some ⟨g, 0, none⟩) l.length cap) l) {k : Nat} (s : Nat × Nat) (hk : k < l.length) :
    OwnS ((w.setCell ⟨g, k * 2, none⟩ (.int .i64 (s.1 : Int))).setCell ⟨g, k * 2 + 1, none⟩ (.int .i64 (s.2 : Int))) base (.slice (some ⟨g, 0, none⟩) (l.set k s).length cap) (l.set k s) := by
  have hlen : (flat (l.map spc)).length = l.length * 2 := by rw [flat_length _ (spc_size l)]; simp
  have h1 := own_set h (k * 2) (.int .i64 (s.1 : Int)) (by omega)
  have h2 := own_set h1 (k * 2 + 1) (.int .i64 (s.2 : Int)) (by rw [List.length_set]; omega)
  rw [flat_set2 l k s hk] at h2
  unfold OwnS
  rw [List.length_set]
  exact h2
/-- Its beginning. -/
theorem OwnS.cut {w : World} {base g cap : Nat} {l : List (Nat × Nat)} (h : OwnS w base (.slice (some ⟨g, 0, none⟩) l.length cap) l) {k : Nat} (hk : k ≤ l.length) :
    OwnS w base (.slice (some ⟨g, 0, none⟩) (l.take k).length cap) (l.take k) := by
  rcases h.2 with ⟨h2, _⟩ | ⟨g1, cap1, cur, h2, hb, hh, hn, hm, hcs, ht⟩
  · cases h2
  · injection h2 with e1 _ e3
    injection e1 with e1
    injection e1 with e1
    subst e1; subst e3
    have hkl : (l.take k).length = k := by rw [List.length_take]; omega
    have e : flat ((l.take k).map spc) = (flat (l.map spc)).take (k * 2) := by
      have : ∀ (l : List (Nat × Nat)) (k : Nat), flat ((l.take k).map spc) = (flat (l.map spc)).take (k * 2) := by
        intro l
        induction l with
        | nil => intro k; simp [flat]
        | cons s l ih =>
          intro k
          cases k with
          | zero => simp [flat]
          | succ k =>
            rw [List.take_succ_cons, flat_cons2, flat_cons2, ih k, show (k + 1) * 2 = k * 2 + 1 + 1 by omega, List.take_succ_cons, List.take_succ_cons]
      exact this l k
    refine ⟨?_, .inr ⟨g, cap, cur, rfl, hb, hh, by omega, hm, hcs, ?_⟩⟩
    · rw [flat_length _ (spc_size _), List.length_map]
    · rw [hkl, e, ← ht, List.take_take, Nat.min_eq_left (by omega)]
theorem OwnS.cells {w : World} {base g n cap : Nat} {l : List (Nat × Nat)} (h : OwnS w base (.slice (some ⟨g, 0, none⟩) n cap) l) {k : Nat} {s : Nat × Nat} (hk : l[k]? = some s) :
    w.cell? ⟨g, k * 2, none⟩ = some (.int .i64 (s.1 : Int)) ∧ w.cell? ⟨g, k * 2 + 1, none⟩ = some (.int .i64 (s.2 : Int)) ∧ w.frozen? ⟨g, k * 2, none⟩ = false ∧ w.frozen? ⟨g, k * 2 + 1, none⟩ = false := by
  obtain ⟨g1, cap1, hv, _, _, _, hc⟩ := h.slice (by have := (List.getElem?_eq_some_iff.1 hk).1; omega)
  injection hv with e1 _ _
  injection e1 with e1
  injection e1 with e1
  subst e1
  exact hc k s hk
theorem OwnS.len {w : World} {base g n cap : Nat} {l : List (Nat × Nat)} (h : OwnS w base (.slice (some ⟨g, 0, none⟩) n cap) l) : l.length = n ∧ l.length ≤ cap := by
  rcases h.2 with ⟨h2, _⟩ | ⟨g1, cap1, cur, h2, hb, hh, hn, _⟩
  · cases h2
  · injection h2 with _ e2 e3
    subst e3
    exact ⟨e2.symm, hn⟩
theorem OwnS.upd {S : Nat → Prop} {w w1 : World} {base : Nat} {v : Value} {l : List (Nat × Nat)} (h : OwnS w base v l) (hu : Upd S w w1) (hn : ∀ g, v.ownBlock = some g → ¬ S g) : OwnS w1 base v l := row_upd h hu hn
theorem OwnS.new_ {w w1 : World} {base : Nat} {v : Value} {l : List (Nat × Nat)} (h : OwnS w base v l) (hu : New w w1) : OwnS w1 base v l := row_new h hu
theorem OwnS.put1 {w : World} {base g n cap : Nat} {l : List (Nat × Nat)} (h : OwnS w base (.slice (some ⟨g, 0, none⟩) n cap) l) {k y : Nat} {s : Nat × Nat} (hk : l[k]? = some s) :
    OwnS (w.setCell ⟨g, k * 2 + 1, none⟩ (.int .i64 (y : Int))) base (.slice (some ⟨g, 0, none⟩) n cap) (l.set k (s.1, y)) := by
  obtain ⟨rfl, _⟩ := h.len
  have := h.set1 (y := y) hk
  rwa [List.length_set] at this
theorem OwnS.put2 {w : World} {base g n cap : Nat} {l : List (Nat × Nat)} (h : OwnS w base (.slice (some ⟨g, 0, none⟩) n cap) l) {k : Nat} (s : Nat × Nat) (hk : k < l.length) :
    OwnS ((w.setCell ⟨g, k * 2, none⟩ (.int .i64 (s.1 : Int))).setCell ⟨g, k * 2 + 1, none⟩ (.int .i64 (s.2 : Int))) base (.slice (some ⟨g, 0, none⟩) n cap) (l.set k s) := by
  obtain ⟨rfl, _⟩ := h.len
  have := h.set2 s hk
  rwa [List.length_set] at this
theorem OwnS.front {w : World} {base g n cap : Nat} {l : List (Nat × Nat)} (h : OwnS w base (.slice (some ⟨g, 0, none⟩) n cap) l) {k : Nat} (hk : k ≤ l.length) :
    OwnS w base (.slice (some ⟨g, 0, none⟩) k cap) (l.take k) := by
  obtain ⟨rfl, _⟩ := h.len
  have := h.cut hk
  rwa [List.length_take, Nat.min_eq_left hk] at this
end Go.Proofs.YtignngpligicjaaGreatDoor

namespace Go.Proofs.YtignngpligicjaaGreatDoor
open Go.RowKit

/-- What is wrong with prefixes, and where. -/
def pfF (l : List Pf) (i : Nat) : Nat := match l[i]? with
  | some p => chk p.a p.n
  | none => 0
def pfsC (l : List Pf) : Nat × Int := firstC (pfF l) l.length 0
theorem pfF_at {l : List Pf} {i : Nat} {p : Pf} (h : l[i]? = some p) : pfF l i = chk p.a p.n := by unfold pfF; rw [h]
theorem info_TSp : (Tryz.prog.info? TSp).map (fun i => (i.zero, i.size, i.bytes)) = some (some (.agg #[.int .i64 0, .int .i64 0]), 2, 16) := by kernel_rfl
/-- What spans gives. -/
def SpPost (E : Nat → Addr) (ps : List Pf) (w : World) (e : Ending) (w1 : World) : Prop := ∃ v er, e = .returned (.tuple #[v, er]) ∧ ErrV w1 E er (pfsC ps).1 (pfsC ps).2 ∧ New w w1 ∧
  ((pfsC ps).1 ≠ 0 → v = .slice none 0 0) ∧ ((pfsC ps).1 = 0 → ∃ l', l'.Perm (ps.map Pf.sp) ∧ l'.Pairwise (fun p q => p.1 ≤ q.1) ∧ OwnS w1 w.heap.size v (mergeL l'))
theorem keep2 {w : World} {X : Nat} {x y : Value} (h : w.cell? ⟨X, 0, none⟩ = some x ∧ w.cell? ⟨X, 1, none⟩ = some y) : w.cell? ⟨X, 0, none⟩ = some x ∧ w.cell? ⟨X, 1, none⟩ = some y := h
theorem rws_two {w : World} {A : Option Addr} {ps : List Pf} (h : Rws w A 2 (ps.map Pf.cells)) {k : Nat} (hk : k < ps.length) : ∃ b o p, A = some ⟨b, o, none⟩ ∧ b < w.heap.size ∧ ps[k]? = some p ∧ w.cell? ⟨b, o + k * 2, none⟩ = some (.int .i64 p.a) ∧ w.cell? ⟨b, o + k * 2 + 1, none⟩ = some (.int .i64 p.n) := by
  obtain ⟨b, o, hA, hb, hc⟩ := h (by simpa using by omega)
  have hp : ps[k]? = some ps[k] := List.getElem?_eq_getElem hk
  have h1 := hc k ps[k].cells (by simp [hp])
  exact ⟨b, o, ps[k], hA, hb, hp, h1 0 _ rfl, h1 1 _ rfl⟩

/-- How far the joining of spans has come. -/
def MgS (L M : List (Nat × Nat)) (k i : Nat) : Prop := (i = 0 ∧ k = 0) ∨ ∃ q c, k = q + 1 ∧ q < i ∧ M[q]? = some c ∧ mergeL L = M.take q ++ mg c (L.drop i)

theorem mg_drop {L M : List (Nat × Nat)} {i q : Nat} {x : Nat × Nat} (h : M.drop i = L.drop i) (hq : q < i + 1) : (M.set q x).drop (i + 1) = L.drop (i + 1) := by
  have h1 := congrArg (List.drop 1) h
  rw [List.drop_drop, List.drop_drop] at h1
  rw [← h1, List.drop_set, if_pos hq]
theorem mg_at {L : List (Nat × Nat)} {i : Nat} {s c : Nat × Nat} (h : L[i]? = some s) : mg c (L.drop i) = if s.1 ≤ c.2 then mg (c.1, max c.2 s.2) (L.drop (i + 1)) else c :: mg s (L.drop (i + 1)) := by
  have hl := (List.getElem?_eq_some_iff.1 h).1
  have e : L.drop i = s :: L.drop (i + 1) := by
    rw [List.drop_eq_getElem_cons hl]
    congr 1
    rw [List.getElem?_eq_getElem hl] at h
    exact Option.some.inj h
  rw [e]; rfl
theorem mg_take {M : List (Nat × Nat)} {q : Nat} {x : Nat × Nat} : (M.set q x).take q = M.take q := by
  rw [List.take_set]
  exact List.set_eq_of_length_le (by rw [List.length_take]; omega)

set_option maxRecDepth 20000 in
set_option maxHeartbeats 4000000 in
theorem spans_any (A : Option Addr) (n c : Nat) (ps : List Pf) (E : Nat → Addr) (w : World) (h2 : Sen w gBound (E 2)) (h3 : Sen w gShape (E 3)) (hx : Rws w A 2 (ps.map Pf.cells)) (hn : ps.length = n) (hl : n ≤ 100000) :
    Calls Tryz.prog 71 #[.slice A n c] w (SpPost E ps w) := by
  obtain ⟨i0, hi0, hz0, hz1, hz2⟩ := info_parts info_TSp
  have H2 := hide h2
  have H3 := hide h3
  have Hx := hide hx
  have Hn := hide hn
  have Hi0 := hide hi0
  have Hz := hide (And.intro hz0 (And.intro hz1 hz2))
  clear h2 h3 hx hn hi0 hz0 hz1 hz2
  go_enter Tryz.func71, Tryz.ntmps71
  go_wp2_with fail
  go_loopw [4, 13] (fun l i wr => ∃ j : Nat, j ≤ n ∧ i = .int .i64 j ∧ New w wr ∧ OwnS wr w.heap.size l ((ps.take j).map Pf.sp) ∧ ∀ q : Nat, 0 ≤ q → q < j → pfF ps q = 0) (fun _ i _ => n - (intOf i).toNat)
  case atStart => exact ⟨0, by omega, rfl, Upd.refl _ _, World.ownsRow_nil _ _ _ _, fun q _ h => absurd h (by omega)⟩
  case round =>
    obtain ⟨j, hj, rfl, hnew, hown, hz⟩ := hrel
    have Hnew := hide hnew
    have Hown := hide hown
    have Hzz := hide hz
    clear hown hz
    obtain ⟨wo, rfl⟩ : ∃ wo : World, wo = wr := ⟨_, rfl⟩
    by_cases hlt : j < n
    · obtain ⟨b, o, p, hA, hbw, hpj, e0, e1⟩ := rws_two (Hx.out.new_ hnew) (k := j) (by have := Hn.out; omega)
      subst hA
      have HF := hide (pfF_at hpj)
      have Hpj := hide hpj
      have i3 : (j : Int) < (n : Int) := by omega
      have n1 := Hnew.out.trans_new ((Upd.refl (fun _ => False) wo).alloc (.cells #[.int .i64 p.a, .int .i64 p.n] TPf))
      have HB := hide (Blk.new wo TPf #[.int .i64 p.a, .int .i64 p.n])
      by_cases hc : chk p.a p.n = 0
      · have Hck := hide (check_yes p.a p.n E _ (H2.out.new n1) (H3.out.new n1) hc)
        have Hc := hide hc
        have N1 := hide n1
        clear hpj hc hnew n1
        go_wp2_with fail
        refine Hck.out.mono ?_
        rintro e w3 ⟨rfl, hu3⟩
        have hb3 := HB.out.new_ hu3
        have hn3 := (((Upd.refl (fun _ => False) wo).alloc (.cells #[.int .i64 p.a, .int .i64 p.n] TPf)).trans_new hu3)
        have HB3 := hide hb3
        have N3 := hide (N1.out.trans_new hu3)
        have Hown3 := hide (row_new Hown.out hn3)
        have k0 := hb3.cell 0
        have k1 := hb3.cell 1
        have kz := hb3.lt
        simp only [List.getElem?_toArray, List.getElem?_cons_zero, List.getElem?_cons_succ] at k0 k1
        clear hb3 hn3 hu3 e0 e1 hbw
        generalize wo.heap.size = X at *
        go_upto_region 8 with (fail)
        obtain ⟨⟨z1, z2⟩, ⟨z3, z4⟩, _⟩ := chk_zero Hc.out
        obtain ⟨Z, hZ⟩ : ∃ Z : Int, Z = ((2 ^ (32 - p.n.toNat) : Nat) : Int) := ⟨_, rfl⟩
        have hsz := size_any p.a p.n E
        rw [if_pos Hc.out, ← hZ] at hsz
        have hz9 := pow_le32 (32 - p.n.toNat) (by omega)
        have hz0 := pow_pos2 (32 - p.n.toNat)
        have hzb : 0 < Z ∧ Z ≤ 4294967296 := by omega
        have Hsz := hide hsz
        have HZ := hide hZ
        obtain ⟨y1, y2⟩ := hzb
        clear hsz hZ hz9 hz0 z3 z4
        have iw : IntKind.i64.wrap (p.a + Z) = p.a + Z := IntWalk.i64_in _ (by omega)
        have iw2 : wrap64 (p.a + Z) = p.a + Z := IntWalk.wrap64_in _ (by omega)
        obtain ⟨l, hl3⟩ : ∃ l : Value, l = u4 := ⟨_, rfl⟩
        rw [← hl3] at Hown3 ⊢
        clear hl3 Hown
        have K0 := hide (keep2 ⟨k0, k1⟩)
        have HX := hide kz
        go_region_held3 (fun w' => w'.cell? ⟨X, 0, none⟩ = some (.int .i64 p.a) ∧ w'.cell? ⟨X, 1, none⟩ = some (.int .i64 p.n))
          (first | go_keep | exact K2.out | exact K1.out)
          (first
            | (go_at_call 27; refine (Hsz.out _ (by exact (H2.out.new N3.out).new (Upd.refl _ _).drew) (by exact (H3.out.new N3.out).new (Upd.refl _ _).drew)).mono ?_; rintro e w4 ⟨rfl, hu4⟩; have K2 := hide (keep2 ⟨(hu4.cell HX.out (fun x => x)).trans K0.out.1, (hu4.cell HX.out (fun x => x)).trans K0.out.2⟩); have U4 := hide ((Upd.refl (fun _ => False) w3).drew.trans_new hu4); have Hown4 := hide (row_new Hown3.out U4.out); clear hu4)
            | (refine step_append_lies _ (by rfl) _ _ _ (by rfl) w.heap.size TSp i0 _ 2 16 Tryz.underlying94 Hi0.out Hz.out.1 Hz.out.2.1 Hz.out.2.2 rfl (by omega) l _ _ (by rfl) (Hown4.out.alloc _) ⟨w4.heap.size, 0, none⟩ 1 1 [.int .i64 p.a, .int .i64 (p.a + Z)] (by rfl) (by rfl) (World.news_of_block (cs := #[.int .i64 p.a, .int .i64 (p.a + Z)]) (t := TSp) (fr := (0, 0)) (heap_alloc_new w4 _)) (by simp [Value.oneCell']) (by omega) (by unfold maxLen; simp; omega) (by simp; omega) (by have := N3.out.size; have := U4.out.size; simp; omega) (w4.heap.size + 1) (by simp) ?_; intro gg cap w5 hown5 hgrow hat hlt5; have hu5 : Upd (fun q => l.ownBlock = some q) w4 w5 := ((Upd.refl _ w4).alloc _).trans' (Upd.of_grown hgrow fun q _ hq => hq); have K1 := hide (keep2 ⟨(hu5.cell (Nat.lt_of_lt_of_le HX.out U4.out.size) (row_ne Hown4.out (HB3.out.new_ U4.out) (by decide))).trans K2.out.1, (hu5.cell (Nat.lt_of_lt_of_le HX.out U4.out.size) (row_ne Hown4.out (HB3.out.new_ U4.out) (by decide))).trans K2.out.2⟩)))
        go_wp2_with fail
        refine ⟨⟨j + 1, by omega, by go_num, (N3.out.trans_new U4.out).trans hu5 fun q hq hx => by have := (row_ge Hown4.out hx).1; omega, ?_, fun q h0 hq => ?_⟩, by simp [intOf]; omega⟩
        · have e1 : (ps.take (j + 1)).map Pf.sp = (ps.take j).map Pf.sp ++ [p.sp] := by rw [List.take_add_one, Hpj.out, List.map_append]; rfl
          have e2 : spc p.sp = #[.int .i64 p.a, .int .i64 (p.a + Z)] := by
            unfold spc Pf.sp
            have e3 : ((p.a.toNat : Nat) : Int) = p.a := by omega
            have e4 : ((p.a.toNat + 2 ^ (32 - p.n.toNat) : Nat) : Int) = p.a + Z := by rw [HZ.out, Int.natCast_add, e3]
            simp only
            rw [e3, e4]
          have e5 : ((ps.take j).map Pf.sp ++ [p.sp]).length = min j ps.length + 1 := by simp
          unfold OwnS
          rw [e1, e5, List.map_append, flat_append]
          have := hown5
          simpa [flat, e2] using this
        · by_cases hqj : q < j
          · exact Hzz.out q h0 hqj
          · obtain rfl : q = j := by omega
            rw [HF.out]; exact Hc.out
      · have Hck := hide (check_no p.a p.n E _ (H2.out.new n1) (H3.out.new n1) hc)
        have HF2 := hide HF.out
        have Hc := hide hc
        have N1 := hide n1
        clear hpj hc hnew n1
        go_wp2_with fail
        refine Hck.out.mono ?_
        rintro e w3 ⟨rfl, hu3⟩
        unfold errv
        have N3 := hide (N1.out.trans_new hu3)
        clear hu3
        go_wp2_with fail
        go_ret2
        have h1 := firstC_at (pfF ps) n 0 j (by omega) (by omega) (by rw [HF2.out]; exact Hc.out) Hzz.out
        rw [HF2.out] at h1
        have h5 : pfsC ps = (chk p.a p.n, (j : Int)) := by unfold pfsC; rw [Hn.out]; exact h1
        refine ⟨_, _, rfl, ?_, N3.out.alloc _, fun _ => rfl, fun h => absurd (by rw [h5] at h; exact h) Hc.out⟩
        rw [h5]
        exact .fault (Nat.pos_of_ne_zero Hc.out) (by have := chk_le p.a p.n; omega) (Blk.new _ _ _)
    · have hjn : j = n := by omega
      subst hjn
      have hown := Hown.out
      rw [List.take_of_length_le (by have := Hn.out; omega)] at hown
      have Hs := hide (sortSpans_any _ _ _ _ hown (by rw [List.length_map]; have := Hn.out; omega))
      have Hfc := hide (show pfsC ps = (0, -1) by unfold pfsC; exact firstC_no _ _ _ (fun i h1 h2 => Hzz.out i h1 (by have := Hn.out; omega)))
      clear Hown hlt hown hnew
      obtain ⟨l, hl3⟩ : ∃ l : Value, l = u4 := ⟨_, rfl⟩
      rw [← hl3] at Hs ⊢
      clear hl3
      go_wp2_with fail
      refine Hs.out.mono ?_
      rintro e w2 ⟨rfl, L, hp, hs, ho, hg⟩
      have N2 := hide (Hnew.out.trans (grown_upd (S := fun k => l.ownBlock = some k) hg fun g h => h) fun q hq hx => by have := (row_ge ho hx).1; omega)
      have Hp := hide hp
      have Hss := hide hs
      have hLn : L.length = j := by rw [hp.length_eq, List.length_map]; exact Hn.out
      have HL := hide hLn
      have HO := hide ho
      clear hp hs hg ho hLn Hs
      rcases HO.out.2 with ⟨rfl, h0⟩ | ⟨g, cap, _, hl, hgb, hgh, hnc, hcm, _⟩
      · obtain rfl : L = [] := List.eq_nil_of_length_eq_zero h0
        clear h0
        go_wp2_with fail
        go_loopw [8, 43] (fun k i wr => k = .int .i64 0 ∧ i = .int .i64 0 ∧ wr = w2) (fun _ i _ => 1 - (intOf i).toNat)
        case atStart => exact ⟨rfl, rfl, rfl⟩
        case round =>
          obtain ⟨rfl, rfl, rfl⟩ := hrel
          go_wp2_with fail
          go_ret2
          exact ⟨_, _, rfl, by rw [Hfc.out]; exact .nil, N2.out, fun h => absurd (show (pfsC ps).1 = 0 by rw [Hfc.out]) h, fun _ => ⟨[], Hp.out, Hss.out, HO.out⟩⟩
      · have hg2 : g < w2.heap.size := Blk.lt (t := TSp) hgh
        have HG := hide (And.intro hgb hg2)
        clear hgh hgb hg2
        have hlj : L.length = j := HL.out
        subst hl
        rw [hlj] at hnc
        have HO := hide (show OwnS w2 w.heap.size (.slice (some ⟨g, 0, none⟩) j cap) L by have := HO.out; rwa [hlj] at this)
        have Hnc := hide hnc
        rw [hlj]
        clear hlj hnc hcm
        go_wp2_with fail
        go_loopw [8, 43] (fun kv iv wr => ∃ (k i : Nat) (M : List (Nat × Nat)), i ≤ j ∧ kv = .int .i64 k ∧ iv = .int .i64 i ∧ Upd (fun q => q = g) w2 wr ∧ OwnS wr w.heap.size (.slice (some ⟨g, 0, none⟩) j cap) M ∧ M.drop i = L.drop i ∧ MgS L M k i) (fun _ iv _ => j - (intOf iv).toNat)
        case atStart => exact ⟨0, 0, L, by omega, rfl, rfl, Upd.refl _ _, HO.out, rfl, .inl ⟨rfl, rfl⟩⟩
        case round =>
          obtain ⟨k, i, M, hi, rfl, rfl, hu, ho, hd, hm⟩ := hrel
          have HM := hide hm
          have HD := hide hd
          have HW := hide ho
          have HU := hide hu
          clear hm hd ho hu
          by_cases hlt : i < j
          · have hMl := HW.out.len.1
            obtain ⟨s, hs1⟩ : ∃ s, M[i]? = some s := ⟨_, List.getElem?_eq_getElem (by omega)⟩
            have hLs : L[i]? = some s := by
              have h1 := congrArg (fun z : List (Nat × Nat) => z[0]?) HD.out
              simp only [List.getElem?_drop, Nat.add_zero] at h1
              rw [← h1]; exact hs1
            obtain ⟨c0, c1, f0, f1⟩ := HW.out.cells hs1
            have Hs1 := hide hs1
            have HLs := hide hLs
            have HMl := hide hMl
            have zg : g < wr.heap.size := Nat.lt_of_lt_of_le HG.out.2 HU.out.size
            have i5 : (i : Int) < (j : Int) := by omega
            have UA := hide ((Upd.refl (fun _ => False) wr).alloc (.cells #[.int .i64 (s.1 : Int), .int .i64 (s.2 : Int)] TSp))
            have BX := hide (Blk.new wr TSp #[.int .i64 (s.1 : Int), .int .i64 (s.2 : Int)])
            clear hs1 hLs hMl
            go_upto_region 15 with (fail)
            clear c0 c1 f0 f1
            have hgx : g ≠ wr.heap.size := by omega
            generalize wr.alloc (.cells #[.int .i64 (s.1 : Int), .int .i64 (s.2 : Int)] TSp) = W at *
            have HWW := hide (HW.out.new_ UA.out)
            have zW : g < W.heap.size := Nat.lt_of_lt_of_le zg UA.out.size
            generalize wr.heap.size = X at *
            have bx := BX.out
            have x0 := bx.cell 0
            have x1 := bx.cell 1
            have xz := bx.lt
            simp only [List.getElem?_toArray, List.getElem?_cons_zero, List.getElem?_cons_succ] at x0 x1
            clear bx zg
            rcases HM.out with ⟨hi0, hk0⟩ | ⟨q, c, hkq, hqi, hMq, hmg⟩
            · subst hi0
              subst hk0
              refine wp_region_new W (Upd.refl _ _) (by kernel_rfl) (by kernel_rfl) ?_
              repeat (go_big_quiet_step (fail))
              refine wpQuiet_nil ?_
              rintro _ ⟨nq, rfl⟩
              obtain ⟨wq, hu⟩ := nq
              dsimp only
              have HWq := hide (HWW.out.new_ hu)
              have bx := BX.out.new_ hu
              have y0 := bx.cell 0
              have y1 := bx.cell 1
              have yz := bx.lt
              simp only [List.getElem?_toArray, List.getElem?_cons_zero, List.getElem?_cons_succ] at y0 y1
              clear bx x0 x1 xz
              obtain ⟨g0, g1, fz0, fz1⟩ := HWq.out.cells (k := 0) (s := s) Hs1.out
              simp only [Nat.zero_mul, Nat.zero_add] at g0 g1 fz0 fz1
              have zq : g < wq.heap.size := Nat.lt_of_lt_of_le zW hu.size
              have Uq := hide hu
              clear hu
              go_wp2_with fail
              have hM0 : 0 < M.length := by have := HMl.out; omega
              have hw9 := HWq.out.put2 (k := 0) s hM0
              simp only [Nat.zero_mul, Nat.zero_add] at hw9
              refine ⟨⟨1, 1, M.set 0 s, by omega, rfl, rfl, (((HU.out.trans_new UA.out).trans_new Uq.out).setCell (p := ⟨g, 0, none⟩) (.inl rfl) _).setCell (p := ⟨g, 1, none⟩) (.inl rfl) _, hw9, ?_, .inr ⟨0, s, rfl, by omega, by simp [hM0], ?_⟩⟩, by simp [intOf]; omega⟩
              · have h1 := congrArg (List.drop 1) HD.out
                rw [List.drop_drop, List.drop_drop] at h1
                rw [List.drop_set]
                simpa using h1
              · have h1 := HLs.out
                cases L with
                | nil => simp at h1
                | cons a b => injection h1 with h1; subst h1; rfl
            · subst hkq
              obtain ⟨K, hK⟩ : ∃ K : Int, K = ((q + 1 : Nat) : Int) := ⟨_, rfl⟩
              rw [← hK]
              have iw : IntKind.i64.wrap (K - 1) = (q : Int) := by rw [hK]; rw [IntWalk.i64_in _ (by omega)]; omega
              have iw2 : wrap64 (K - 1) = (q : Int) := by rw [hK]; rw [IntWalk.wrap64_in _ ⟨by omega, by omega⟩]; omega
              have HK := hide hK
              have HMq := hide hMq
              have Hmg := hide hmg
              have i7 : (0 : Int) < (i : Int) := by omega
              have i9 : 0 < i := by omega
              have i8 : (q : Int) < (j : Int) := by omega
              obtain ⟨g0, g1, fz0, fz1⟩ := HWW.out.cells hMq
              have fb0 := BX.out.frozen 0
              clear hK hMq hmg
              by_cases hle : s.1 ≤ c.2
              · have hle2 : (s.1 : Int) ≤ (c.2 : Int) := by omega
                have Hle := hide hle
                clear hle
                refine wp_region_new W (Upd.refl _ _) (by kernel_rfl) (by kernel_rfl) ?_
                repeat (go_big_quiet_step (fail))
                refine wpQuiet_nil ?_
                rintro _ ⟨nq, rfl⟩
                obtain ⟨wq, hu⟩ := nq
                dsimp only
                have HWq := hide (HWW.out.new_ hu)
                have bx := BX.out.new_ hu
                have y0 := bx.cell 0
                have y1 := bx.cell 1
                have yf1 := bx.frozen 1
                have yz := bx.lt
                simp only [List.getElem?_toArray, List.getElem?_cons_zero, List.getElem?_cons_succ] at y0 y1
                clear bx x0 x1 xz g0 g1 fz0 fz1 fb0
                obtain ⟨g0, g1, fz0, fz1⟩ := HWq.out.cells HMq.out
                have zq : g < wq.heap.size := Nat.lt_of_lt_of_le zW hu.size
                have Uq := hide hu
                clear hu
                go_upto_region 16 with (fail)
                go_region
                all_goals
                  go_wp2_with fail
                  refine ⟨⟨q + 1, i + 1, M.set q (c.1, max c.2 s.2), by omega, by rw [HK.out], by go_num, (((HU.out.trans_new UA.out).trans_new Uq.out).setCell (p := ⟨g, q * 2 + 1, none⟩) (.inl rfl) _).drew, ?_, ?_, .inr ⟨q, (c.1, max c.2 s.2), rfl, by omega, ?_, ?_⟩⟩, by simp [intOf]; omega⟩
                  · have h1 := HWq.out.put1 (y := max c.2 s.2) HMq.out
                    rw [show ((max c.2 s.2 : Nat) : Int) = max (c.2 : Int) (s.2 : Int) by omega] at h1
                    exact h1.new_ (Upd.refl _ _).drew
                  · exact mg_drop HD.out (by omega)
                  · have := (List.getElem?_eq_some_iff.1 HMq.out).1
                    simp [this]
                  · rw [Hmg.out, mg_at HLs.out, if_pos Hle.out, mg_take]
              · have hle2 : ¬ (s.1 : Int) ≤ (c.2 : Int) := by omega
                have Hle := hide hle
                clear hle
                refine wp_region_new W (Upd.refl _ _) (by kernel_rfl) (by kernel_rfl) ?_
                repeat (go_big_quiet_step (fail))
                refine wpQuiet_nil ?_
                rintro _ ⟨nq, rfl⟩
                obtain ⟨wq, hu⟩ := nq
                dsimp only
                have HWq := hide (HWW.out.new_ hu)
                have bx := BX.out.new_ hu
                have y0 := bx.cell 0
                have y1 := bx.cell 1
                have yz := bx.lt
                simp only [List.getElem?_toArray, List.getElem?_cons_zero, List.getElem?_cons_succ] at y0 y1
                clear bx x0 x1 xz g0 g1 fz0 fz1 fb0 iw iw2
                have hM1 : q + 1 < M.length := by have := HMl.out; omega
                obtain ⟨d, hd1⟩ : ∃ d, M[q + 1]? = some d := ⟨_, List.getElem?_eq_getElem hM1⟩
                obtain ⟨g0, g1, fz0, fz1⟩ := HWq.out.cells hd1
                have zq : g < wq.heap.size := Nat.lt_of_lt_of_le zW hu.size
                have Uq := hide hu
                have HM1 := hide hM1
                clear hu hd1 hM1
                have hK := HK.out
                subst hK
                have i10 : (q : Int) + 1 < (j : Int) := by omega
                go_wp2_with fail
                refine ⟨⟨q + 2, i + 1, M.set (q + 1) s, by omega, by go_num, by go_num, (((HU.out.trans_new UA.out).trans_new Uq.out).setCell (p := ⟨g, (q + 1) * 2, none⟩) (.inl rfl) _).setCell (p := ⟨g, (q + 1) * 2 + 1, none⟩) (.inl rfl) _, HWq.out.put2 s HM1.out, mg_drop HD.out (by omega), .inr ⟨q + 1, s, rfl, by omega, by simp [HM1.out], ?_⟩⟩, by simp [intOf]; omega⟩
                rw [Hmg.out, mg_at HLs.out, if_neg Hle.out, mg_take, List.take_add_one, HMq.out, List.append_assoc]
                rfl
          · have hij : i = j := by omega
            subst hij
            have hML := HW.out.len
            obtain ⟨K, hK⟩ : ∃ K : Nat, K = k := ⟨_, rfl⟩
            have hkm : K ≤ M.length ∧ mergeL L = M.take K := by
              rcases HM.out with ⟨h0, h1⟩ | ⟨q, c9, h1, h3, h4, h5⟩
              · subst h0
                have hL0 : L = [] := List.eq_nil_of_length_eq_zero HL.out
                rw [hK, h1, hL0]
                exact ⟨by omega, rfl⟩
              · rw [List.drop_of_length_le (by rw [HL.out]; omega)] at h5
                rw [hK, h1, h5, List.take_add_one, h4]
                exact ⟨by omega, rfl⟩
            rw [← hK]
            have HKm := hide hkm
            have hk1 : K ≤ i := by have := hkm.1; omega
            have hk2 : K ≤ cap := by omega
            have HML := hide hML
            have Hnot := hide hlt
            clear hkm hML hK hlt
            go_wp2_with fail
            go_ret2
            refine ⟨_, _, rfl, by rw [Hfc.out]; exact .nil, N2.out.trans HU.out fun x hx e => by have := HG.out.1; omega, fun h => absurd (show (pfsC ps).1 = 0 by rw [Hfc.out]) h, fun _ => ⟨L, Hp.out, Hss.out, ?_⟩⟩
            rw [HKm.out.2]
            exact HW.out.front HKm.out.1
end Go.Proofs.YtignngpligicjaaGreatDoor

namespace Go.Proofs.YtignngpligicjaaGreatDoor
open Go.RowKit

/-- A slice of the call's own that holds these prefixes. -/
def OwnP (w : World) (base : Nat) (v : Value) (l : List Pf) : Prop := w.ownsRow base TPf 2 v l.length (flat (l.map Pf.cells))
theorem OwnP.upd {S : Nat → Prop} {w w1 : World} {base : Nat} {v : Value} {l : List Pf} (h : OwnP w base v l) (hu : Upd S w w1) (hn : ∀ g, v.ownBlock = some g → ¬ S g) : OwnP w1 base v l := row_upd h hu hn
theorem OwnP.new_ {w w1 : World} {base : Nat} {v : Value} {l : List Pf} (h : OwnP w base v l) (hu : New w w1) : OwnP w1 base v l := row_new h hu
theorem shl_pow (K Z : Nat) (h : Z = 2 ^ K) (hK : K ≤ 32) : wrap64 (2 ^ K) = (Z : Int) := by
  subst h
  exact w64_pow K hK
theorem sum_top {f K Z t : Nat} (h : Z = 2 ^ K) (h1 : f + 2 ^ K ≤ t) (h2 : t ≤ 4294967296) : f + Z ≤ 4294967296 := by
  subst h
  omega
theorem wrap_sum (f Z : Nat) (h : f + Z ≤ 4294967296) : IntKind.i64.wrap ((f : Int) + (Z : Int)) = ((f + Z : Nat) : Int) ∧ wrap64 ((f : Int) + (Z : Int)) = ((f + Z : Nat) : Int) := by
  constructor
  · rw [IntWalk.i64_in _ (by omega)]; omega
  · rw [IntWalk.wrap64_in _ ⟨by omega, by omega⟩]; omega
def mF (X t : Nat) (w : World) : Nat := t - (intOf ((w.cell? ⟨X, 0, none⟩).getD undef)).toNat
theorem rowc {W : World} {g : Nat} {cs : Array Value} {t : TypeId} (hg : g = W.heap.size) : ∀ (j : Nat) (u : Value), cs.toList[j]? = some u → (W.alloc (.cells cs t)).cell? ⟨g, 0 + j, none⟩ = some u := fun j u hu => by
  subst hg
  rw [Nat.zero_add, (Blk.new W t cs).cell]
  simpa using hu
theorem mF_at {X t f : Nat} {w : World} (h : w.cell? ⟨X, 0, none⟩ = some (.int .i64 (f : Int))) : mF X t w = t - f := by unfold mF; rw [h]; rfl
/-- Spans that a slice holds. -/
def Sps (w : World) (A : Option Addr) (r : List (Nat × Nat)) : Prop := Rws w A 2 (r.map spc)
theorem sps_at {w : World} {A : Option Addr} {r : List (Nat × Nat)} (h : Sps w A r) {k : Nat} (hk : k < r.length) : ∃ b o s, A = some ⟨b, o, none⟩ ∧ b < w.heap.size ∧ r[k]? = some s ∧ w.cell? ⟨b, o + k * 2, none⟩ = some (.int .i64 (s.1 : Int)) ∧ w.cell? ⟨b, o + k * 2 + 1, none⟩ = some (.int .i64 (s.2 : Int)) := by
  obtain ⟨b, o, hA, hb, hc⟩ := h (by simpa using by omega)
  have hp : r[k]? = some r[k] := List.getElem?_eq_getElem hk
  have h1 := hc k (spc r[k]) (by simp [hp])
  exact ⟨b, o, r[k], hA, hb, hp, h1 0 _ rfl, h1 1 _ rfl⟩
theorem OwnS.sps {w : World} {base : Nat} {v : Value} {l : List (Nat × Nat)} (h : OwnS w base v l) : ∃ A cap, v = .slice A l.length cap ∧ l.length ≤ cap ∧ Sps w A l := by
  obtain ⟨A, cap, rfl, hn, hc, hr, _, _⟩ := rws_of_own (by omega) h (spc_size l)
  exact ⟨A, cap, rfl, hc, hr⟩
theorem OwnP.rws {w : World} {base : Nat} {v : Value} {l : List Pf} (h : OwnP w base v l) : ∃ A cap, v = .slice A l.length cap ∧ l.length ≤ cap ∧ Rws w A 2 (l.map Pf.cells) ∧ (∀ b o, A = some ⟨b, o, none⟩ → base ≤ b) := by
  obtain ⟨A, cap, rfl, hn, hc, hr, hb, _⟩ := rws_of_own (by omega) h (by intro r hr; obtain ⟨p, _, rfl⟩ := List.mem_map.1 hr; rfl)
  exact ⟨A, cap, rfl, hc, hr, hb⟩

theorem sub32 (K : Nat) (h : K ≤ 32) : IntKind.i64.wrap (32 - (K : Int)) = ((32 - K : Nat) : Int) ∧ wrap64 (32 - (K : Int)) = ((32 - K : Nat) : Int) := by
  constructor
  · rw [IntWalk.i64_in _ (by omega)]; omega
  · rw [IntWalk.wrap64_in _ ⟨by omega, by omega⟩]; omega
theorem u64_in (x : Nat) (h : x < 18446744073709551616) : IntKind.u64.wrap (x : Int) = (x : Int) := by
  simp [IntKind.wrap, IntKind.bits, IntKind.signed]; omega
theorem pre_facts {f t : Nat} (h : f < t) (ht : t ≤ 4294967296) : ∃ F D C L B K : Nat, C = Lib.ctz 64 F ∧ L = Lib.bitLen D ∧ F < 18446744073709551616 ∧ D < 18446744073709551616 ∧ Top f t K ∧
    IntKind.u64.wrap (f : Int) = (f : Int) ∧ bits .or .u64 (f : Int) 4294967296 = (F : Int) ∧ IntKind.i64.wrap ((t : Int) - (f : Int)) = (D : Int) ∧ IntKind.u64.wrap (D : Int) = (D : Int) ∧ IntKind.i64.wrap ((L : Int) - 1) = (B : Int) ∧ min (C : Int) (B : Int) = (K : Int) := by
  obtain ⟨htop, hc32, hb1, hb33⟩ := topK_ok h ht
  have hKm : min (Lib.ctz 64 (f + 4294967296)) (Lib.bitLen (t - f) - 1) = topK f t := rfl
  refine ⟨f + 4294967296, t - f, _, _, Lib.bitLen (t - f) - 1, topK f t, rfl, rfl, by omega, by omega, htop, u64_in f (by omega), or_high f (by omega), ?_, u64_in _ (by omega), ?_, ?_⟩
  · rw [IntWalk.i64_in _ (by omega)]; omega
  · rw [IntWalk.i64_in _ (by omega)]; omega
  · rw [← hKm]; omega
/-- How far a span is taken. -/
def PreR (w : World) (X : Nat) (P : List (Nat × Nat)) (s : Nat × Nat) (l : Value) (wr : World) : Prop := ∃ (f : Nat) (Q : List (Nat × Nat)), f ≤ s.2 ∧ New w wr ∧ Blk wr X TSp #[.int .i64 (f : Int), .int .i64 (s.2 : Int)] ∧ OwnP wr w.heap.size l ((P ++ Q).map pfOf) ∧ GreTo s.1 f s.2 Q ∧ (P ++ Q).length ≤ f
theorem pre_step {w w' wi : World} {X f K Z : Nat} {P Q : List (Nat × Nat)} {s : Nat × Nat} {v' : Value} (hu : New w w') (hb : Blk w' X TSp #[.int .i64 (f : Int), .int .i64 (s.2 : Int)]) (ho : OwnP w' w.heap.size v' ((P ++ Q).map pfOf ++ [pfOf (f, K)]))
    (ht : Top f s.2 K) (hg : GreTo s.1 f s.2 Q) (hq : (P ++ Q).length ≤ f) (zX : w.heap.size ≤ X) (hz : Z = 2 ^ K) (hm : mF X s.2 wi = s.2 - f) :
    PreR w X P s v' (w'.setCell ⟨X, 0, none⟩ (.int .i64 ((f : Int) + (Z : Int)))).drew ∧ mF X s.2 (w'.setCell ⟨X, 0, none⟩ (.int .i64 ((f : Int) + (Z : Int)))).drew < mF X s.2 wi := by
  have hzp : 0 < Z := by rw [hz]; exact pow_pos2 K
  have hfz : f + Z ≤ s.2 := by rw [hz]; exact ht.2.2.1
  have hg2 := greTo_snoc Q s.1 f s.2 K hg ht
  rw [← hz] at hg2
  clear hz ht
  have hn9 := (hu.setCell (p := ⟨X, 0, none⟩) (.inr zX) (.int .i64 ((f : Int) + (Z : Int)))).drew
  have hb9 : Blk (w'.setCell ⟨X, 0, none⟩ (.int .i64 ((f : Int) + (Z : Int)))).drew X TSp #[.int .i64 ((f + Z : Nat) : Int), .int .i64 (s.2 : Int)] := by
    have := (hb.set_ 0 (.int .i64 ((f : Int) + (Z : Int)))).drew
    rw [Int.natCast_add]
    simpa using this
  have ho9 : OwnP (w'.setCell ⟨X, 0, none⟩ (.int .i64 ((f : Int) + (Z : Int)))).drew w.heap.size v' ((P ++ Q).map pfOf ++ [pfOf (f, K)]) :=
    ho.upd (S := fun q => q = X) ((Upd.refl (fun q => q = X) w').setCell (p := ⟨X, 0, none⟩) (.inl rfl) _).drew (fun g h1 h2 => row_ne ho hb (by decide) (by rw [h1, h2]))
  have hcel := hb9.cell 0
  simp only [List.getElem?_toArray, List.getElem?_cons_zero] at hcel
  have hm2 := mF_at (t := s.2) hcel
  refine ⟨⟨f + Z, Q ++ [(f, K)], hfz, hn9, hb9, ?_, hg2, ?_⟩, ?_⟩
  · rw [← List.append_assoc, List.map_append]
    exact ho9
  · rw [← List.append_assoc, List.length_append]
    simp only [List.length_cons, List.length_nil]
    omega
  · rw [hm, hm2]
    omega

set_option maxRecDepth 20000 in
set_option maxHeartbeats 4000000 in
theorem prefixes_any (A : Option Addr) (n c : Nat) (r : List (Nat × Nat)) (w : World) (htz : TzOk w) (hx : Sps w A r) (hn : r.length = n) (hl : n ≤ 1000000) (ha : Apart r) :
    Calls Tryz.prog 72 #[.slice A n c] w fun e w1 => ∃ v P, e = .returned v ∧ Gres r P ∧ OwnP w1 w.heap.size v (P.map pfOf) ∧ P.length ≤ 4294967296 ∧ New w w1 := by
  obtain ⟨i0, hi0, hz0, hz1, hz2⟩ := info_parts info_TPf
  have Htz := hide htz
  have Hx := hide hx
  have Hn := hide hn
  have Ha := hide ha
  have Hi0 := hide hi0
  have Hz := hide (And.intro hz0 (And.intro hz1 hz2))
  clear htz hx hn ha hi0 hz0 hz1 hz2
  go_enter Tryz.func72, Tryz.ntmps72
  go_wp2_with fail
  go_loopw [3, 9] (fun l i wr => ∃ (j : Nat) (P : List (Nat × Nat)), j ≤ n ∧ i = .int .i64 j ∧ New w wr ∧ OwnP wr w.heap.size l (P.map pfOf) ∧ Gres (r.take j) P ∧ P.length ≤ 4294967296 ∧ ∀ s, r[j]? = some s → P.length ≤ s.1) (fun _ i _ => n - (intOf i).toNat)
  case atStart => exact ⟨0, [], by omega, rfl, Upd.refl _ _, World.ownsRow_nil _ _ _ _, rfl, by simp, fun s _ => by simp⟩
  case round =>
    obtain ⟨j, P, hj, rfl, hnew, hown, hg, hP, hPs⟩ := hrel
    have Hnew := hide hnew
    have Hown := hide hown
    have HGr := hide hg
    have HP := hide hP
    have HPs := hide hPs
    clear hown hg hP hPs
    obtain ⟨wo, rfl⟩ : ∃ wo : World, wo = wr := ⟨_, rfl⟩
    obtain ⟨l, hl3⟩ : ∃ l : Value, l = u3 := ⟨_, rfl⟩
    rw [← hl3] at Hown ⊢
    clear hl3
    by_cases hlt : j < n
    · obtain ⟨b, o, s, hA, hbw, hsj, e0, e1⟩ := sps_at (k := j) (show Sps wo A r from Hx.out.new_ hnew) (by have := Hn.out; omega)
      subst hA
      have Hsj := hide hsj
      have Hsp := hide (apart_at r Ha.out j s hsj)
      have i3 : (j : Int) < (n : Int) := by omega
      have BX := hide (Blk.new wo TSp #[.int .i64 (s.1 : Int), .int .i64 (s.2 : Int)])
      have UA := hide ((Upd.refl (fun _ => False) wo).alloc (.cells #[.int .i64 (s.1 : Int), .int .i64 (s.2 : Int)] TSp))
      have zX : w.heap.size ≤ wo.heap.size := hnew.size
      clear hsj hnew
      go_wp2_with fail
      clear e0 e1 hbw
      have Hown := hide (Hown.out.new_ UA.out)
      have Hnew := hide (Hnew.out.trans_new UA.out)
      generalize wo.alloc (.cells #[.int .i64 (s.1 : Int), .int .i64 (s.2 : Int)] TSp) = W at *
      generalize wo.heap.size = X at *
      go_loopw [3] (fun l wr => PreR w X P s l wr) (fun _ wr => mF X s.2 wr)
      case atStart => exact ⟨s.1, [], by have := Hsp.out; omega, Hnew.out, BX.out, by rw [List.append_nil]; exact Hown.out, rfl, by rw [List.append_nil]; exact HPs.out s Hsj.out⟩
      case round =>
        obtain ⟨f, Q, hf, hu, hb, ho, hgr, hq⟩ := hrel
        have HU := hide hu
        have HB := hide hb
        have HO := hide ho
        have HG := hide hgr
        have HQ := hide hq
        have zXr := hb.lt
        have x0 := hb.cell 0
        have x1 := hb.cell 1
        simp only [List.getElem?_toArray, List.getElem?_cons_zero, List.getElem?_cons_succ] at x0 x1
        have Hm := hide (mF_at (t := s.2) x0)
        have hsp := Hsp.out
        clear hu hb ho hgr hq Hown BX
        obtain ⟨wi, rfl⟩ : ∃ wi : World, wi = wr := ⟨_, rfl⟩
        obtain ⟨l, hl3⟩ : ∃ l : Value, l = u3 := ⟨_, rfl⟩
        rw [← hl3] at HO ⊢
        clear hl3
        by_cases hlt2 : f < s.2
        · obtain ⟨F, D, C, L, B, K, hC, hL, hF, hD, htop, ir1, ir2, ir3, ir4, ir5, ir6⟩ := pre_facts hlt2 hsp.2
          have htz := fun w' h => tz_any F hF w' h
          have hbl := fun w' => bitlen_any D hD w'
          rw [← hC] at htz
          rw [← hL] at hbl
          have i1 : (f : Int) < (s.2 : Int) := Int.ofNat_lt.2 hlt2
          have Htop := hide htop
          have Htz2 := hide htz
          have Hbl := hide hbl
          clear htop hF hD htz hbl hC hL
          go_upto_region 6 with (fail)
          refine wp_region_new wi (Upd.refl _ _) (by kernel_rfl) (by kernel_rfl) ?_
          repeat (go_big_quiet_step (first | (go_at_call 111; exact new_call_same (Htz2.out _ ((Htz.out.new HU.out).new (NewW.h _)))) | (go_at_call 112; exact new_call_same (Hbl.out _))))
          refine wpQuiet_nil ?_
          rintro _ ⟨nq, rfl⟩
          obtain ⟨wq, hu⟩ := nq
          dsimp only
          have HB := hide (HB.out.new_ hu)
          have HO := hide (HO.out.new_ hu)
          have HU := hide (HU.out.trans_new hu)
          clear hu ir1 ir2 ir3 ir4 ir5 ir6 x0 x1 zXr
          have x0 := HB.out.cell 0
          have x1 := HB.out.cell 1
          have zXr := HB.out.lt
          simp only [List.getElem?_toArray, List.getElem?_cons_zero, List.getElem?_cons_succ] at x0 x1
          have hK32 : K ≤ 32 := Htop.out.1
          obtain ⟨ir7, ir8⟩ := sub32 K hK32
          have hft := Htop.out.2.2.1
          have hz0 := pow_pos2 K
          have hq9 := HQ.out
          have hlen9 : ((P ++ Q).map pfOf).length = (P ++ Q).length := List.length_map ..
          obtain ⟨R, hR⟩ : ∃ R, R = (P ++ Q).map pfOf := ⟨_, rfl⟩
          rw [← hR] at HO hlen9
          have hlR : R.length ≤ f := by omega
          have HR := hide hR
          clear hR hlen9 hq9
          go_upto_region 7 with (fail)
          go_wp2_with (at_builtin; refine append_src rfl (.tmp 32) (.tmp 38) 46 rfl w.heap.size TPf i0 _ 2 16 Tryz.underlying46 Hi0.out Hz.out.1 Hz.out.2.1 Hz.out.2.2 rfl (by omega) l _ _ rfl (HO.out.alloc _) (some ⟨wq.heap.size, 0, none⟩) 1 1 [.int .i64 (f : Int), .int .i64 ((32 - K : Nat) : Int)] rfl rfl (fun _ => ⟨_, _, rfl, rowc rfl⟩) (by simp [Value.oneCell']) (by unfold maxLen; omega) (by omega) (by have := HU.out.size; simp; omega) ?_)
          intro v' w' ho hg
          have hu5 : Upd (fun q => l.ownBlock = some q) wq w' := ((Upd.refl _ wq).alloc _).trans' (grown_upd hg fun g h => h)
          have HU5 := hide (HU.out.trans hu5 fun q hq hx => by have := (row_ge HO.out hx).1; omega)
          have HB5 := hide (HB.out.upd hu5 (row_ne HO.out HB.out (by decide)))
          have HO5 := hide (show OwnP w' w.heap.size v' (R ++ [pfOf (f, K)]) by
            unfold OwnP
            rw [List.map_append, flat_append, List.length_append]
            simpa [flat, pfOf, Pf.cells] using ho)
          clear ho hg hu5 x0 x1 zXr
          have x0 := HB5.out.cell 0
          have x1 := HB5.out.cell 1
          have xf := HB5.out.frozen 0
          have zXr := HB5.out.lt
          simp only [List.getElem?_toArray, List.getElem?_cons_zero, List.getElem?_cons_succ] at x0 x1
          obtain ⟨Z, hZ⟩ : ∃ Z : Nat, Z = 2 ^ K := ⟨_, rfl⟩
          have js1 := shl_pow K Z hZ hK32
          have js4 := sum_top hZ hft hsp.2
          obtain ⟨js2, js3⟩ := wrap_sum f Z js4
          have HZ9 := hide hZ
          clear hZ ir7 ir8 hft hz0 hlR
          go_upto_region 8 with (fail)
          go_region
          all_goals
            go_wp2_with fail
            exact pre_step HU5.out HB5.out (by have h9 := HO5.out; rw [HR.out] at h9; exact h9) Htop.out HG.out HQ.out zX HZ9.out Hm.out
        · have i1 : ¬ (f : Int) < (s.2 : Int) := by omega
          have Hfs := hide (show f = s.2 by omega)
          clear hlt2 hsp hf
          go_wp2_with fail
          have e1 : r.take (j + 1) = r.take j ++ [s] := by rw [List.take_add_one, Hsj.out]; rfl
          have hg9 := HG.out
          rw [Hfs.out] at hg9
          have hq9 := HQ.out
          rw [Hfs.out] at hq9
          refine ⟨⟨j + 1, P ++ Q, by omega, by go_num, HU.out, HO.out, ?_, Nat.le_trans hq9 Hsp.out.2, fun t ht => ?_⟩, by simp [intOf]; omega⟩
          · rw [e1]
            exact gres_snoc _ _ _ _ HGr.out (greTo_gre Q s.1 s.2 hg9)
          · have := apart_next r Ha.out j (j + 1) s t Hsj.out ht (by omega)
            omega
    · have hjn : j = n := by omega
      subst hjn
      have hg9 := HGr.out
      rw [List.take_of_length_le (by have := Hn.out; omega)] at hg9
      have HG9 := hide hg9
      clear hg9 hlt
      go_wp2_with fail
      go_ret
      exact ⟨_, P, rfl, HG9.out, Hown.out, HP.out, Hnew.out⟩
end Go.Proofs.YtignngpligicjaaGreatDoor

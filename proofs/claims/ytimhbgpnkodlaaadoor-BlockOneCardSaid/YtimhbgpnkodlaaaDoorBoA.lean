/- The law BlockOne, its walk: what lies there between two acts; the longest of all ways. No condition but those that stand in each theorem. -/
import Derived.Test.YtimhbgpnkodlaaaDoorBpE
import Derived.Test.YtimhbgpnkodlaaaDoorInI
namespace Go.Proofs.YtimhbgpnkodlaaaDoor
open Go.RowKit Go.Maps
section
variable {w w1 w2 : World} {kp bm tm : Nat} {p : Pf} {L : Int} {c : PoolC} {E : Nat → Addr} {host : Int}
/-- An address of a place. -/
def plB (p : Pf) (i : Nat) : Int := p.a + (i : Int)
structure BoW (w wr : World) (kp bm tm : Nat) (p : Pf) (L : Int) (c : PoolC) (v1 v2 : Value) (hv : List Nat) (hs : List Int) : Prop where
  new : New w wr
  pool : PoolM wr kp bm tm p L c
  r1 : OwnI wr w.heap.size v1 (hv.map (plB p))
  r2 : OwnI wr w.heap.size v2 hs
  apt : Apt v1 v2
  law : LawB (plN p) (plZ L) c hv hs
variable {wr wx : World} {v1 v2 u : Value} {hv : List Nat} {hs : List Int}
theorem BoW.new_ (h : BoW w wr kp bm tm p L c v1 v2 hv hs) (hu : New wr wx) : BoW w wx kp bm tm p L c v1 v2 hv hs := ⟨h.new.trans_new hu, h.pool.new_ hu, row_new h.r1 hu, row_new h.r2 hu, h.apt, h.law⟩
theorem BoW.cnt (h : BoW w wr kp bm tm p L c v1 v2 hv hs) : cntC (plN p) c.T = hv.length := cntC_had h.law.nd h.law.mem fun k hk => h.law.out.1 k hk
theorem BoW.len (h : BoW w wr kp bm tm p L c v1 v2 hv hs) (hg : PoolG p L) : hv.length ≤ 4096 := by
  have h2 := h.cnt
  have h3 := cntC_le (plN p) c.T
  have h4 := hg.n_le
  omega
theorem bow_start (hn : New w wr) (hp : PoolM wr kp bm tm p L zeroP) : BoW w wr kp bm tm p L zeroP (.slice none 0 0) (.slice none 0 0) [] [] :=
  ⟨hn, hp, World.ownsRow_nil _ _ _ _, World.ownsRow_nil _ _ _ _, fun g h => by simp [Value.ownBlock] at h, LawB.start _ _⟩
theorem BoW.took (h : BoW w wr kp bm tm p L c v1 v2 hv hs) (hN : PoolN w kp bm tm) {c1 : PoolC} (hp : PoolM wx kp bm tm p L c1) (hu : Upd (fun k => k = bm ∨ k = tm) wr wx) :
    New w wx ∧ OwnI wx w.heap.size v1 (hv.map (plB p)) ∧ OwnI wx w.heap.size v2 hs := ⟨h.new.keep hu hN.in_, row_pool h.r1 h.pool hu, row_pool h.r2 h.pool hu⟩
/-- An address of the prefix is of it. -/
theorem has_self (hg : PoolG p L) {i : Nat} (hi : i < plN p) : hasB p.a p.n (p.a + (i : Int)) = true := by
  have hp : PoolP p p.n := ⟨hg.pp.ok, Int.le_refl _, (chk_zero hg.pp.ok).2.1.2⟩
  have := hp.has_block (i := i) (j := 0) hi (plM_pos _ _)
  rw [Nat.zero_mul, show ((0 : Nat) : Int) = 0 from rfl, Int.add_zero] at this
  rw [this, decide_eq_true_eq]
  exact (Nat.div_eq_of_lt hi).symm
theorem any_not {x : Int} {l : List Int} (h : x ∉ l) : (l.any fun y => decide (x = y)) = false := by
  rw [List.any_eq_false]
  intro y hy he
  rw [of_decide_eq_true he] at h
  exact h hy
theorem any_yes {x : Int} {l : List Int} (h : x ∈ l) : (l.any fun y => decide (x = y)) = true := List.any_eq_true.2 ⟨x, h, decide_eq_true rfl⟩
theorem plB_not {i : Nat} {l : List Nat} (h : i ∉ l) : p.a + (i : Int) ∉ l.map (plB p) := fun hm => by
  obtain ⟨j, hj, he⟩ := List.mem_map.1 hm
  unfold plB at he
  have : j = i := by omega
  exact h (this ▸ hj)
/-- The pairs that the last loops look at: of one host's ways. -/
def pairsOf (a : Int) (h : Int) (ws : List Pf) : List (Int × Int) := (ws.filter fun q => hasB q.a q.n a).map fun q => (q.n, h)
theorem pairs_take {a h : Int} {ws : List Pf} {k : Nat} {q : Pf} (hq : ws[k]? = some q) : pairsOf a h (ws.take (k + 1)) = pairsOf a h (ws.take k) ++ if hasB q.a q.n a then [(q.n, h)] else [] := by
  unfold pairsOf
  have hk := (List.getElem?_eq_some_iff.1 hq).1
  have he : ws[k] = q := (List.getElem?_eq_some_iff.1 hq).2
  rw [List.take_succ_eq_append_getElem hk, List.filter_append, List.map_append, he]
  by_cases hb : hasB q.a q.n a
  · rw [if_pos hb]; simp [hb]
  · rw [if_neg hb]; simp [hb]
def allPairs (a : Int) (ws : Int → List Pf) (hs : List Int) : List (Int × Int) := hs.flatMap fun h => pairsOf a h (ws h)
theorem all_take {a : Int} {ws : Int → List Pf} {hs : List Int} {k : Nat} {h : Int} (hq : hs[k]? = some h) : allPairs a ws (hs.take (k + 1)) = allPairs a ws (hs.take k) ++ pairsOf a h (ws h) := by
  unfold allPairs
  have hk := (List.getElem?_eq_some_iff.1 hq).1
  have he : hs[k] = h := (List.getElem?_eq_some_iff.1 hq).2
  rw [List.take_succ_eq_append_getElem hk, List.flatMap_append, he]
  simp
/-- All looked at: the owner's is the longest, and alone. -/
theorem all_longest (hg : PoolG p L) (hl : LawB (plN p) (plZ L) c hv hs) {i : Nat} (hi : i ∈ hv) :
    ∃ f, (allPairs (p.a + (i : Int)) (fun h => waysH (plN p) (plM p L) (plZ L) p.a L c h) hs).foldl stepW (-1, 0, false) = (f, c.T i, false) := by
  have hT := (hl.mem i).1 hi
  have hlt : i < plN p := Classical.byContradiction fun h => hT (hl.out.1 i (by omega))
  have hln := hg.ln
  refine longest_own (n := plN p) (m := plM p L) (z := plZ L) (a := p.a) (L := L) (has := fun q => hasB q.a q.n (p.a + (i : Int))) hl.inv hl.one (plZ_pos L) hln.2.2 (by omega) (plZ_one (L := L)) (fun k hk => hg.pp.in_block hk) hl.hnd (fun h hh => ?_) hlt hT (hl.hin i hT)
    (fun j hj => hg.pp.has_block hlt hj) fun k hk => hg.pp.has_one hlt hk
  have h0 : h ≠ 0 := by have := hl.hb h hh; omega
  show (waysH (plN p) (plM p L) (plZ L) p.a L c h).Perm _
  unfold waysH
  rw [if_neg h0]
  exact (waysS_rise (plZ_pos L) (plZ_one (L := L))).2
theorem own_ints {base n cap : Nat} {A : Option Addr} {l : List Int} (h : OwnI w base (.slice A n cap) l) : Ints w A l ∧ l.length = n ∧ n ≤ cap := by
  obtain ⟨A1, c1, e, hl, hc, hi, _, _⟩ := ints_of_own h
  injection e with e1 e2 e3
  subst e1
  subst e3
  exact ⟨hi, e2.symm, by omega⟩
theorem row_lower {base base2 size n : Nat} {e : TypeId} {v : Value} {xs : List Value} (h : w.ownsRow base e size v n xs) (hb : base2 ≤ base) : w.ownsRow base2 e size v n xs := by
  obtain ⟨h1, h2⟩ := h
  refine ⟨h1, ?_⟩
  rcases h2 with h2 | ⟨g, cap, cur, e1, hg, r⟩
  · exact .inl h2
  · exact .inr ⟨g, cap, cur, e1, Nat.le_trans hb hg, r⟩
/-- A row made since lies apart from what was there. -/
theorem apt_new {base size n base2 size2 n2 : Nat} {e e2 : TypeId} {v v2 : Value} {xs ys : List Value} (h : w.ownsRow base e size v n xs) (h2 : w2.ownsRow base2 e2 size2 v2 n2 ys) (hb : w.heap.size ≤ base2) : Apt v2 v := fun g g1 g2 => by
  have := (row_ge h g2).2
  have := (row_ge h2 g1).1
  omega
/-- The first part of a row, and what lies behind one of it. -/
theorem ints_front {A : Option Addr} {l : List Int} (h : Ints w A l) (k : Nat) : 0 < k → k ≤ l.length → ∃ b q, A = some ⟨b, q, none⟩ ∧ ∀ (j : Nat) (u : Value), ((l.take k).map (Value.int .i64))[j]? = some u → w.cell? ⟨b, q + j, none⟩ = some u := fun h0 hk => by
  obtain ⟨b, q, hA, _, hc⟩ := h (by omega)
  refine ⟨b, q, hA, fun j u hu => ?_⟩
  rw [List.getElem?_map, List.getElem?_take] at hu
  split at hu
  · obtain ⟨x, hx, rfl⟩ := Option.map_eq_some_iff.1 hu
    exact hc j x hx
  · cases hu
theorem ints_back {b q : Nat} {l : List Int} (h : Ints w (some ⟨b, q, none⟩) l) (k : Nat) : 0 < (l.drop k).length → ∃ b1 q1, (some ⟨b, q + k, none⟩ : Option Addr) = some ⟨b1, q1, none⟩ ∧ ∀ (j : Nat) (u : Value), ((l.drop k).map (Value.int .i64))[j]? = some u → w.cell? ⟨b1, q1 + j, none⟩ = some u := fun h0 => by
  rw [List.length_drop] at h0
  obtain ⟨b1, q1, hA, _, hc⟩ := h (by omega)
  injection hA with hA
  injection hA with h1 h2 _
  subst h1
  subst h2
  refine ⟨b, q + k, rfl, fun j u hu => ?_⟩
  rw [List.getElem?_map, List.getElem?_drop] at hu
  obtain ⟨x, hx, rfl⟩ := Option.map_eq_some_iff.1 hu
  rw [Nat.add_assoc]
  exact hc (k + j) x hx
theorem own_parts {base base2 j m : Nat} {v : Value} {xs ys : List Int} (h : w.ownsRow base 3 1 v (0 + j + m) ([] ++ xs.map (Value.int .i64) ++ ys.map (Value.int .i64))) (hj : xs.length = j) (hm : ys.length = m) (hb : base2 ≤ base) : OwnI w base2 v (xs ++ ys) := by
  subst hj
  subst hm
  unfold OwnI
  rw [List.length_append, List.map_append]
  have := row_lower h hb
  simpa using this
/-- One of what was had is gone. -/
theorem BoW.gone {j i : Nat} {W3 w3 w4 : World} {v3 v4 : Value} {xs : List Value} {k3 : Nat} (hn3 : New w W3) (hp3 : PoolM W3 kp bm tm p L (giveC (plZ L) c i)) (r2 : OwnI W3 w.heap.size v2 hs) (h3 : New W3 w3) (ho3 : w3.ownsRow W3.heap.size 3 1 v3 k3 xs)
    (hg4 : w3.grownBy w4 v3.ownBlock) (ho4 : OwnI w4 W3.heap.size v4 ((hv.take j ++ hv.drop (j + 1)).map (plB p))) (hl : LawB (plN p) (plZ L) (giveC (plZ L) c i) (hv.take j ++ hv.drop (j + 1)) hs) :
    BoW w w4 kp bm tm p L (giveC (plZ L) c i) v4 v2 (hv.take j ++ hv.drop (j + 1)) hs := by
  have h1 := hn3.size
  have ha : Apt v2 v3 := (apt_new r2 ho3 (Nat.le_refl _)).symm
  exact ⟨own_ge ho3 (hn3.trans_new h3) h1 hg4, (hp3.new_ h3).kept_row ho3 (by decide) hg4, row_lower ho4 h1, row_kept_apt (row_new r2 h3) ho3 ha hg4, apt_new r2 ho4 (Nat.le_refl _), hl⟩
theorem plA_eq (p : Pf) (i : Nat) : plB p i = p.a + (i : Int) := rfl
theorem waysH_len {h : Int} (hg : PoolG p L) : (waysH (plN p) (plM p L) (plZ L) p.a L c h).length ≤ 10000 := by
  unfold waysH
  split
  · exact Nat.zero_le _
  · have h1 := (waysS_rise (n := plN p) (m := plM p L) (a := p.a) (L := L) (c := c) (h := h) (plZ_pos L) (plZ_one (L := L))).2.length_eq
    rw [h1, waysC_loose, List.length_append, List.length_map]
    have h2 := blocks_len (c := c) (plM p L) (plZ L) p.a L h
    have h3 := plM_le hg
    have h4 := hg.n_le
    have h5 : (looseZ (plN p) (plZ L) p.a c h).length ≤ plN p := by
      unfold looseZ looseC
      rw [List.length_map]
      exact Nat.le_trans (List.length_filter_le _ _) (Nat.le_of_eq List.length_range)
    omega
theorem step_over {F H n h : Int} {T b : Bool} (hf : ¬ n < F) (hb : decide (n = F) = b) : stepW (F, H, T) (n, h) = (n, h, b) := by
  unfold stepW
  rw [if_neg hf, hb]
end
end Go.Proofs.YtimhbgpnkodlaaaDoor

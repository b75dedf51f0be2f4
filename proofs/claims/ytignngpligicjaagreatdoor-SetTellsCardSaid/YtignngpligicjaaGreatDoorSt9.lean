/- Two sets: the ends of spans. No condition but those that stand in each theorem. -/
import Derived.Test.YtignngpligicjaaGreatDoorSt8
import Derived.Test.YtignngpligicjaaGreatDoorSp1
namespace Go.Proofs.YtignngpligicjaaGreatDoor
open Go.RowKit

/-- The ends of spans. -/
def endsN (l : List (Nat × Nat)) : List Nat := l.flatMap fun s => [s.1, s.2]
def endsI (l : List (Nat × Nat)) : List Int := (endsN l).map fun n : Nat => (n : Int)
theorem endsI_snoc (l : List (Nat × Nat)) (s : Nat × Nat) : endsI (l ++ [s]) = endsI l ++ [(s.1 : Int), (s.2 : Int)] := by simp [endsI, endsN]
theorem endsI_len (l : List (Nat × Nat)) : (endsI l).length = l.length * 2 := by
  unfold endsI endsN
  rw [List.length_map]
  induction l with
  | nil => rfl
  | cons s l ih => rw [List.flatMap_cons, List.length_append, ih]; simp; omega
theorem endsN_mem (x y : List (Nat × Nat)) (z : Nat) : z ∈ endsN (x ++ y) ↔ ∃ s, (s ∈ x ∨ s ∈ y) ∧ (z = s.1 ∨ z = s.2) := by
  unfold endsN
  rw [List.mem_flatMap]
  simp
/-- Ends sorted are the ends of a list of numbers from 0. -/
theorem ends_sorted {l : List (Nat × Nat)} {E : List Int} (hp : E.Perm (endsI l)) (hs : E.Pairwise (· ≤ ·)) : ∃ N : List Nat, E = N.map (fun n : Nat => (n : Int)) ∧ N.Perm (endsN l) ∧ N.Pairwise (· ≤ ·) := by
  refine ⟨E.map Int.toNat, ?_, ?_, ?_⟩
  · rw [List.map_map]
    conv => lhs; rw [← List.map_id E]
    refine List.map_congr_left fun x hx => ?_
    have h1 := hp.mem_iff.1 hx
    unfold endsI at h1
    obtain ⟨n, _, rfl⟩ := List.mem_map.1 h1
    simp
  · have := hp.map Int.toNat
    unfold endsI at this
    rw [List.map_map] at this
    simpa [Function.comp_def] using this
  · rw [List.pairwise_map]
    exact hs.imp fun h => Int.toNat_le_toNat h
theorem inSL_inB2 (r : List (Nat × Nat)) (a : Nat) : inSL r (a : Int) = inB2 r a := by
  unfold inSL inB2 inSp
  congr 1
  funext s
  congr 1
  · exact decide_eq_decide.2 (by omega)
  · exact decide_eq_decide.2 (by omega)
/-- What is wrong with two lists of prefixes. -/
def twoC (a b : List Pf) : Nat × Int := if (pfsC a).1 = 0 then pfsC b else pfsC a
theorem ErrV.nil_of {w : World} {E : Nat → Addr} {v : Value} {k : Nat} {i : Int} (h : ErrV w E v k i) (hk : k = 0) : v = .nilIface := by
  rcases h.form with ⟨_, _, h1⟩ | ⟨h1, _⟩
  · exact h1
  · exact absurd hk h1
theorem ErrV.ptr_of {w : World} {E : Nat → Addr} {v : Value} {k : Nat} {i : Int} (h : ErrV w E v k i) (hk : k ≠ 0) : ∃ t p, v = .iface t (.pointer (some p)) := by
  rcases h.form with ⟨h1, _⟩ | ⟨_, h1⟩
  · exact absurd h1 hk
  · exact h1
theorem OwnS.get {w : World} {base : Nat} {v : Value} {l : List (Nat × Nat)} (h : OwnS w base v l) : ∃ A cap, v = .slice A l.length cap ∧ Sps w A l := by
  obtain ⟨A, cap, h1, _, h2⟩ := h.sps
  exact ⟨A, cap, h1, h2⟩
theorem info_TIn : (Tryz.prog.info? 3).map (fun i => (i.zero, i.size, i.bytes)) = some (some (.int .i64 0), 1, 8) := by kernel_rfl
theorem OwnS.lower {w : World} {base base2 : Nat} {v : Value} {l : List (Nat × Nat)} (h : OwnS w base v l) (hb : base2 ≤ base) : OwnS w base2 v l := by
  obtain ⟨h1, h2⟩ := h
  refine ⟨h1, ?_⟩
  rcases h2 with h2 | ⟨g, cap, cur, h2, hg, r⟩
  · exact .inl h2
  · exact .inr ⟨g, cap, cur, h2, Nat.le_trans hb hg, r⟩
theorem row_ne_row {w : World} {base1 base2 : Nat} {e1 e2 : TypeId} {s1 s2 n1 n2 : Nat} {v1 v2 : Value} {x1 x2 : List Value} (h1 : w.ownsRow base1 e1 s1 v1 n1 x1) (h2 : w.ownsRow base2 e2 s2 v2 n2 x2) (hne : e1 ≠ e2) : ∀ g, v1.ownBlock = some g → ¬ v2.ownBlock = some g := fun g hg hg2 => by
  rcases h1.2 with ⟨rfl, _⟩ | ⟨g1, cap, cur, rfl, _, hh, _⟩
  · simp [Value.ownBlock] at hg
  · have : g1 = g := by simpa [Value.ownBlock] using hg
    subst this
    exact row_ne h2 (show Blk w g1 e1 cur from hh) hne.symm hg2
theorem OwnI.slice {w : World} {base : Nat} {v : Value} {l : List Int} (h : OwnI w base v l) (h0 : 0 < l.length) : ∃ g cap, v = .slice (some ⟨g, 0, none⟩) l.length cap ∧ base ≤ g ∧ g < w.heap.size := by
  rcases h.2 with ⟨_, h1⟩ | ⟨g, cap, cur, rfl, hb, hh, _⟩
  · omega
  · exact ⟨g, cap, rfl, hb, Blk.lt (t := 3) (cs := cur) hh⟩
theorem OwnI.cell {w : World} {base g n cap : Nat} {l : List Int} (h : OwnI w base (.slice (some ⟨g, 0, none⟩) n cap) l) {k : Nat} {x : Int} (hk : l[k]? = some x) : w.cell? ⟨g, k, none⟩ = some (.int .i64 x) := by
  rcases h.2 with ⟨h1, _⟩ | ⟨g1, cap1, cur, h2, hb, hh, hn, hm, hcs, ht⟩
  · cases h1
  · injection h2 with e1 _ _
    injection e1 with e1
    injection e1 with e1
    subst e1
    have hb2 : Blk w g 3 cur := hh
    have hkl := (List.getElem?_eq_some_iff.1 hk).1
    have h3 : (cur.toList.take (l.length * 1))[k]? = (l.map (Value.int .i64))[k]? := by rw [ht]
    rw [List.getElem?_take, if_pos (by omega), List.getElem?_map, hk] at h3
    rw [hb2.cell]
    simpa using h3
/-- How far two sets have come. -/
def TwS (f : Nat → Bool) (N : List Nat) (D : List (Nat × Nat)) (o : Option (Nat × Nat)) (q : Nat) : Prop := (o = none → D = []) ∧ ((N = [] ∧ D = [] ∧ o = none) ∨ ∃ e, N[q]? = some e ∧ twL f N = D ++ tw f o e (N.drop (q + 1)))
theorem twS_start (f : Nat → Bool) (N : List Nat) : TwS f N [] none 0 := by
  refine ⟨fun _ => rfl, ?_⟩
  cases N with
  | nil => exact .inl ⟨rfl, rfl, rfl⟩
  | cons e l => exact .inr ⟨e, rfl, rfl⟩
theorem drop_two {N : List Nat} {q d : Nat} (h : N[q + 1]? = some d) : N.drop (q + 1) = d :: N.drop (q + 2) := by
  have hl := (List.getElem?_eq_some_iff.1 h).1
  rw [List.drop_eq_getElem_cons hl]
  congr 1
  rw [List.getElem?_eq_getElem hl] at h
  exact Option.some.inj h
theorem tw_none (f : Nat → Bool) (e d : Nat) (l : List Nat) : tw f none e (d :: l) = if f e = false ∨ e = d then tw f none d l else tw f (some (e, d)) d l := rfl
theorem tw_some (f : Nat → Bool) (c : Nat × Nat) (e d : Nat) (l : List Nat) : tw f (some c) e (d :: l) = if f e = false ∨ e = d then tw f (some c) d l else if c.2 = e then tw f (some (c.1, d)) d l else c :: tw f (some (e, d)) d l := rfl
/-- Nothing is wanted here. -/
theorem twS_skip {f : Nat → Bool} {N : List Nat} {D : List (Nat × Nat)} {o : Option (Nat × Nat)} {q e d : Nat} (h : TwS f N D o q) (he : N[q]? = some e) (hd : N[q + 1]? = some d) (hn : f e = false ∨ e = d) : TwS f N D o (q + 1) := by
  refine ⟨h.1, ?_⟩
  rcases h.2 with ⟨h1, _⟩ | ⟨e1, h1, h2⟩
  · rw [h1] at he; simp at he
  · rw [he] at h1
    injection h1 with h1
    subst h1
    refine .inr ⟨d, hd, ?_⟩
    rw [h2, drop_two hd]
    congr 1
    cases o with
    | none => rw [tw_none, if_pos hn]
    | some c => rw [tw_some, if_pos hn]
/-- It goes on. -/
theorem twS_more {f : Nat → Bool} {N : List Nat} {D : List (Nat × Nat)} {c : Nat × Nat} {q e d : Nat} (h : TwS f N D (some c) q) (he : N[q]? = some e) (hd : N[q + 1]? = some d) (hn : ¬ (f e = false ∨ e = d)) (hc : c.2 = e) : TwS f N D (some (c.1, d)) (q + 1) := by
  refine ⟨fun hx => (by cases hx), ?_⟩
  rcases h.2 with ⟨h1, _⟩ | ⟨e1, h1, h2⟩
  · rw [h1] at he; simp at he
  · rw [he] at h1
    injection h1 with h1
    subst h1
    refine .inr ⟨d, hd, ?_⟩
    rw [h2, drop_two hd]
    congr 1
    rw [tw_some, if_neg hn, if_pos hc]
/-- A new one. -/
theorem twS_new {f : Nat → Bool} {N : List Nat} {D : List (Nat × Nat)} {o : Option (Nat × Nat)} {q e d : Nat} (h : TwS f N D o q) (he : N[q]? = some e) (hd : N[q + 1]? = some d) (hn : ¬ (f e = false ∨ e = d)) (hc : ∀ c, o = some c → c.2 ≠ e) : TwS f N (D ++ o.toList) (some (e, d)) (q + 1) := by
  refine ⟨fun hx => (by cases hx), ?_⟩
  rcases h.2 with ⟨h1, _⟩ | ⟨e1, h1, h2⟩
  · rw [h1] at he; simp at he
  · rw [he] at h1
    injection h1 with h1
    subst h1
    refine .inr ⟨d, hd, ?_⟩
    rw [h2, drop_two hd, List.append_assoc]
    congr 1
    cases o with
    | none => rw [tw_none, if_neg hn]; rfl
    | some c => rw [tw_some, if_neg hn, if_neg (hc c rfl)]; rfl
/-- All ends are gone through. -/
theorem twS_end {f : Nat → Bool} {N : List Nat} {D : List (Nat × Nat)} {o : Option (Nat × Nat)} {q : Nat} (h : TwS f N D o q) (hq : N.length ≤ q + 1) : twL f N = D ++ o.toList := by
  rcases h.2 with ⟨h1, h2, h3⟩ | ⟨e, h1, h2⟩
  · rw [h1, h2, h3]; rfl
  · rw [h2, List.drop_of_length_le hq]
    cases o <;> rfl
theorem idx_facts {q N : Nat} {K : Int} (hK : K = ((q + 1 : Nat) : Int)) (h : q + 1 < N) (hN : N ≤ 400000) : IntKind.i64.wrap (K - 1) = (q : Int) ∧ wrap64 (K - 1) = (q : Int) ∧ K.toNat = q + 1 ∧ 0 ≤ K ∧ K < (N : Int) := by
  subst hK
  refine ⟨?_, ?_, by omega, by omega, by omega⟩
  · rw [IntWalk.i64_in _ (by omega)]; omega
  · rw [IntWalk.wrap64_in _ ⟨by omega, by omega⟩]; omega
theorem keepE9 {w : World} {g q : Nat} {x y : Value} (h : w.cell? ⟨g, q, none⟩ = some x ∧ w.cell? ⟨g, q + 1, none⟩ = some y) : w.cell? ⟨g, q, none⟩ = some x ∧ w.cell? ⟨g, q + 1, none⟩ = some y := h
theorem OwnS.snoc {w : World} {base : Nat} {v : Value} {R : List (Nat × Nat)} {e d : Nat} (h : w.ownsRow base TSp 2 v (R.length + 1) (flat (R.map spc) ++ [.int .i64 (e : Int), .int .i64 (d : Int)])) : OwnS w base v (R ++ [(e, d)]) := by
  unfold OwnS
  rw [List.map_append, flat_append, List.length_append]
  exact h
theorem len_facts {L M : Nat} (h : L = M + 1) (hL : L ≤ 400000) : IntKind.i64.wrap ((L : Int) - 1) = (M : Int) ∧ wrap64 ((L : Int) - 1) = (M : Int) := by
  subst h
  constructor
  · rw [IntWalk.i64_in _ (by omega)]; omega
  · rw [IntWalk.wrap64_in _ ⟨by omega, by omega⟩]; omega
/-- No error is none in every world. -/
theorem ErrV.nilw {w w1 : World} {E : Nat → Addr} {k : Nat} {i : Int} (h : ErrV w E .nilIface k i) (hk : k = 0) : ErrV w1 E .nilIface k i := by
  rcases h.form with ⟨h1, h2, _⟩ | ⟨h1, _⟩
  · subst h1
    subst h2
    exact ErrV.nil
  · exact absurd hk h1
/-- What two gives, plainly. -/
theorem two_fin {wK : Bool → Bool → Bool} (hw : wK false false = false) {a b : List Pf} {l1 l2 X Y XY R : List (Nat × Nat)} {EN : List Nat} (hca : (pfsC a).1 = 0) (hcb : (pfsC b).1 = 0)
    (hp1 : l1.Perm (a.map Pf.sp)) (hs1 : l1.Pairwise (fun p q => p.1 ≤ q.1)) (hp2 : l2.Perm (b.map Pf.sp)) (hs2 : l2.Pairwise (fun p q => p.1 ≤ q.1)) (hX : mergeL l1 = X) (hY : mergeL l2 = Y) (hXY : X ++ Y = XY)
    (hE : EN.Perm (endsN XY)) (hS : EN.Pairwise (· ≤ ·)) (hR : twL (fun z => wK (inB2 X z) (inB2 Y z)) EN = R) :
    Apart R ∧ ∀ P, Gres R P → Canon (fun x => wK (inK (a.map Pf.b) x) (inK (b.map Pf.b) x) = true) P := by
  obtain ⟨a1, i1⟩ := spans_ok (pfsC_ok hca) hp1 hs1
  obtain ⟨a2, i2⟩ := spans_ok (pfsC_ok hcb) hp2 hs2
  rw [hX] at a1 i1
  rw [hY] at a2 i2
  obtain ⟨h1, h2⟩ := two_ok wK X Y hw (fun s hs => by
    rcases hs with hs | hs
    · exact apart_spn X a1 s hs
    · exact apart_spn Y a2 s hs) EN hS (fun z => by rw [hE.mem_iff, ← hXY]; exact endsN_mem X Y z)
  rw [hR] at h1 h2
  refine ⟨h1, fun P hP => (gres_canon h1 hP).iff fun x _ => (h2 x).trans ?_⟩
  have e1 : inB2 X x = inK (a.map Pf.b) x := Bool.eq_iff_iff.2 ((inB2_iff X x).trans ((i1 x).trans (inK_iff _ x).symm))
  have e2 : inB2 Y x = inK (b.map Pf.b) x := Bool.eq_iff_iff.2 ((inB2_iff Y x).trans ((i2 x).trans (inK_iff _ x).symm))
  rw [e1, e2]
end Go.Proofs.YtignngpligicjaaGreatDoor

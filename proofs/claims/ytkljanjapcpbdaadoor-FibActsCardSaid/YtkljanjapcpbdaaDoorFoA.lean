/- Entries put in some order: what is there then. Plain laws. No condition but those that stand in each theorem. -/
import Derived.Test.YtkljanjapcpbdaaDoorFo1
namespace Go.Proofs.YtkljanjapcpbdaaDoor
open Go.RowKit

/-- An entry of a list that came in: address, length, hop. -/
structure E3 where
  a : Int
  n : Int
  h : Int

/-- The list's cells. -/
def Ents (w : World) (b o : Nat) (xs : List E3) : Prop :=
  ∀ (i : Nat) (x : E3), xs[i]? = some x → w.cell? ⟨b, o + i * 3, none⟩ = some (.int .i64 x.a) ∧ w.cell? ⟨b, o + i * 3 + 1, none⟩ = some (.int .i64 x.n) ∧ w.cell? ⟨b, o + i * 3 + 2, none⟩ = some (.int .i64 x.h)

theorem Ents.upd {S : Nat → Prop} {w w1 : World} {b o : Nat} {xs : List E3} (h : Ents w b o xs) (hu : Upd S w w1) (hb : b < w.heap.size) (hn : ¬ S b) : Ents w1 b o xs := by
  intro i x hx
  obtain ⟨h1, h2, h3⟩ := h i x hx
  exact ⟨(hu.cell hb hn).trans h1, (hu.cell hb hn).trans h2, (hu.cell hb hn).trans h3⟩

/-- What the first loop has shown of the entries ahead of k. -/
def Good (xs : List E3) (k : Nat) : Prop :=
  ∀ j x, j < k → xs[j]? = some x → chk x.a x.n = 0 ∧ ∀ m y, m < j → xs[m]? = some y → ¬ (x.a = y.a ∧ x.n = y.n)

theorem Good.zero (xs : List E3) : Good xs 0 := fun j _ hj => by omega
theorem Good.succ {xs : List E3} {k : Nat} {x : E3} (h : Good xs k) (hx : xs[k]? = some x) (h1 : chk x.a x.n = 0) (h2 : ∀ m y, m < k → xs[m]? = some y → ¬ (x.a = y.a ∧ x.n = y.n)) : Good xs (k + 1) := by
  intro j z hj hz
  by_cases hjk : j < k
  · exact h j z hjk hz
  · obtain rfl : j = k := by omega
    rw [hx] at hz; injection hz with hz; subst hz
    exact ⟨h1, h2⟩


def E3.en (x : E3) : Fm.En := ⟨x.a.toNat, x.n.toNat, x.h⟩

/-- What is there when the entries of these places were put. -/
def VI (xs : List E3) (js : List Nat) : Fm.VM := Fm.VL ((js.filterMap (xs[·]?)).map E3.en)

theorem low_mod (a n : Nat) : low a n = a % 2 ^ (32 - n) := rfl

theorem same_of_top {x y : E3} (hx : chk x.a x.n = 0) (hy : chk y.a y.n = 0) (h1 : x.n.toNat = y.n.toNat) (h2 : Fm.top x.a.toNat x.n.toNat = Fm.top y.a.toNat y.n.toNat) : x.a = y.a ∧ x.n = y.n := by
  obtain ⟨a1, b1, c1⟩ := chk_zero hx
  obtain ⟨a2, b2, c2⟩ := chk_zero hy
  rw [h1] at h2 c1
  have := Fm.addr_of_top x.a.toNat y.a.toNat y.n.toNat c1 c2 h2
  omega

theorem Good.apart {xs : List E3} {n : Nat} (h : Good xs n) (hn : xs.length ≤ n) {i j : Nat} {x y : E3} (hi : xs[i]? = some x) (hj : xs[j]? = some y) (hij : i ≠ j) :
    ¬ (x.n.toNat = y.n.toNat ∧ Fm.top x.a.toNat x.n.toNat = Fm.top y.a.toNat y.n.toNat) := by
  have li : i < xs.length := (List.getElem?_eq_some_iff.1 hi).1
  have lj : j < xs.length := (List.getElem?_eq_some_iff.1 hj).1
  rintro ⟨h1, h2⟩
  have gi := h i x (by omega) hi
  have gj := h j y (by omega) hj
  obtain ⟨s1, s2⟩ := same_of_top gi.1 gj.1 h1 h2
  rcases Nat.lt_or_gt_of_ne hij with hlt | hgt
  · exact gj.2 i x hlt hi ⟨s1.symm, s2.symm⟩
  · exact gi.2 j y hgt hj ⟨s1, s2⟩

theorem VI_free {xs : List E3} {n : Nat} (h : Good xs n) (hn : xs.length ≤ n) {js : List Nat} {i : Nat} {x : E3} (hi : xs[i]? = some x) (hnot : i ∉ js) : at1 (VI xs js) x.a x.n = none := by
  unfold at1 VI
  rw [Fm.VL_none]
  intro e he
  simp only [List.mem_map, List.mem_filterMap] at he
  obtain ⟨y, ⟨j, hj, hy⟩, rfl⟩ := he
  have hij : j ≠ i := fun e => hnot (e ▸ hj)
  have := h.apart hn hy hi hij
  simp only [Fm.En.at, E3.en, Bool.and_eq_false_iff, beq_eq_false_iff_ne]
  by_cases h1 : y.n.toNat = x.n.toNat
  · right; intro h2; exact this ⟨h1, h2⟩
  · left; exact h1

theorem VI_snoc {xs : List E3} {n : Nat} (h : Good xs n) (hn : xs.length ≤ n) {js : List Nat} {i : Nat} {x : E3} (hi : xs[i]? = some x) (hnot : i ∉ js) : put1 (VI xs js) x.a x.n (some x.h) = VI xs (js ++ [i]) := by
  have hf := VI_free h hn hi hnot
  have := Fm.VL_snoc ((js.filterMap (xs[·]?)).map E3.en) x.en hf
  unfold VI put1
  rw [List.filterMap_append, List.map_append]
  have e : List.map E3.en (List.filterMap (xs[·]?) [i]) = [x.en] := by simp [hi]
  rw [e, this]
  rfl

theorem VI_dist {xs : List E3} {n : Nat} (h : Good xs n) (hn : xs.length ≤ n) {js : List Nat} (hd : js.Nodup) : Fm.Dist ((js.filterMap (xs[·]?)).map E3.en) := by
  unfold Fm.Dist
  rw [List.pairwise_map]
  induction js with
  | nil => simp
  | cons j js ih =>
    rw [List.nodup_cons] at hd
    cases hj : xs[j]? with
    | none => rw [List.filterMap_cons_none hj]; exact ih hd.2
    | some x =>
      rw [List.filterMap_cons_some hj, List.pairwise_cons]
      refine ⟨?_, ih hd.2⟩
      intro y hy
      rw [List.mem_filterMap] at hy
      obtain ⟨i, hi, hyi⟩ := hy
      exact h.apart hn hj hyi (fun e => hd.1 (e ▸ hi))

theorem VI_same {xs : List E3} {n : Nat} (h : Good xs n) (hn : xs.length ≤ n) {js ks : List Nat} (h1 : js.Nodup) (h2 : ks.Nodup) (hm : ∀ i, i ∈ js ↔ i ∈ ks) : VI xs js = VI xs ks := by
  unfold VI
  apply Fm.VL_ext (VI_dist h hn h1) (VI_dist h hn h2)
  intro e
  simp only [List.mem_map, List.mem_filterMap]
  constructor
  · rintro ⟨x, ⟨i, hi, hx⟩, rfl⟩; exact ⟨x, ⟨i, (hm i).1 hi, hx⟩, rfl⟩
  · rintro ⟨x, ⟨i, hi, hx⟩, rfl⟩; exact ⟨x, ⟨i, (hm i).2 hi, hx⟩, rfl⟩

theorem VI_at {xs : List E3} {n : Nat} (h : Good xs n) (hn : xs.length ≤ n) {js : List Nat} (hd : js.Nodup) {i : Nat} {x : E3} (hi : xs[i]? = some x) (hin : i ∈ js) : at1 (VI xs js) x.a x.n = some x.h := by
  unfold at1 VI
  rw [Fm.VL_mem (VI_dist h hn hd)]
  exact ⟨x.en, List.mem_map.2 ⟨x, List.mem_filterMap.2 ⟨i, hin, hi⟩, rfl⟩, rfl, rfl, rfl⟩

theorem VI_drop {xs : List E3} {n : Nat} (h : Good xs n) (hn : xs.length ≤ n) {js ks : List Nat} (h1 : js.Nodup) (h2 : ks.Nodup) {i : Nat} {x : E3} (hi : xs[i]? = some x)
    (hm : ∀ j, j ∈ ks ↔ j ∈ js ∧ j ≠ i) : put1 (VI xs js) x.a x.n none = VI xs ks := by
  funext l v
  unfold put1 Fm.up
  by_cases hl : l = x.n.toNat ∧ v = Fm.top x.a.toNat x.n.toNat
  · rw [if_pos hl]
    obtain ⟨rfl, rfl⟩ := hl
    exact (VI_free h hn hi (fun hc => ((hm i).1 hc).2 rfl)).symm
  · rw [if_neg hl]
    unfold VI
    cases hy : Fm.VL ((ks.filterMap (xs[·]?)).map E3.en) l v with
    | some z =>
      rw [Fm.VL_mem (VI_dist h hn h2)] at hy
      obtain ⟨e, he, r⟩ := hy
      rw [Fm.VL_mem (VI_dist h hn h1)]
      simp only [List.mem_map, List.mem_filterMap] at he ⊢
      obtain ⟨y, ⟨j, hj, hyj⟩, rfl⟩ := he
      exact ⟨_, ⟨y, ⟨j, ((hm j).1 hj).1, hyj⟩, rfl⟩, r⟩
    | none =>
      cases hz : Fm.VL ((js.filterMap (xs[·]?)).map E3.en) l v with
      | none => rfl
      | some z =>
        rw [Fm.VL_mem (VI_dist h hn h1)] at hz
        obtain ⟨e, he, r1, r2, r3⟩ := hz
        simp only [List.mem_map, List.mem_filterMap] at he
        obtain ⟨y, ⟨j, hj, hyj⟩, rfl⟩ := he
        have hji : j ≠ i := by
          rintro rfl
          rw [hi] at hyj; injection hyj with hyj; subst hyj
          exact hl ⟨r1.symm, r2.symm⟩
        have : Fm.VL ((ks.filterMap (xs[·]?)).map E3.en) l v = some z :=
          (Fm.VL_mem (VI_dist h hn h2)).2 ⟨_, List.mem_map.2 ⟨y, List.mem_filterMap.2 ⟨j, (hm j).2 ⟨hj, hji⟩, hyj⟩, rfl⟩, r1, r2, r3⟩
        rw [hy] at this; cases this

/-- The places that were put after k rounds: in order, turned around, all but one. -/
def js1 (k : Nat) : List Nat := List.range k
def js2 (len k : Nat) : List Nat := (List.range k).map (len - 1 - ·)
def js3 (at_ k : Nat) : List Nat := (List.range k).filter (· != at_)

theorem js1_succ (k : Nat) : js1 (k + 1) = js1 k ++ [k] := List.range_succ
theorem js2_succ (len k : Nat) : js2 len (k + 1) = js2 len k ++ [len - 1 - k] := by simp [js2, List.range_succ]
theorem js3_succ (at_ k : Nat) (h : k ≠ at_) : js3 at_ (k + 1) = js3 at_ k ++ [k] := by simp [js3, List.range_succ, h]
theorem js3_skip (k : Nat) : js3 k (k + 1) = js3 k k := by simp [js3, List.range_succ]
theorem js1_not (k : Nat) : k ∉ js1 k := by simp [js1]
theorem js2_not {len k : Nat} (h : k < len) : len - 1 - k ∉ js2 len k := by
  simp only [js2, List.mem_map, List.mem_range, not_exists, not_and]
  intro j hj; omega
theorem js3_not (at_ k : Nat) : k ∉ js3 at_ k := by simp [js3]
theorem js1_nodup (k : Nat) : (js1 k).Nodup := List.nodup_range
theorem js3_nodup (at_ k : Nat) : (js3 at_ k).Nodup := List.Pairwise.filter _ List.nodup_range
theorem js2_nodup (len k : Nat) (h : k ≤ len) : (js2 len k).Nodup := by
  induction k with
  | zero => simp [js2]
  | succ k ih =>
    rw [js2_succ, List.nodup_append]
    refine ⟨ih (by omega), by simp, ?_⟩
    intro a ha b hb
    simp at hb; subst hb
    rintro rfl
    exact js2_not (by omega) ha
theorem js2_mem (len i : Nat) : i ∈ js2 len len ↔ i ∈ js1 len := by
  simp only [js2, js1, List.mem_map, List.mem_range]
  constructor
  · rintro ⟨j, hj, rfl⟩; omega
  · intro h; exact ⟨len - 1 - i, by omega, by omega⟩
theorem js3_mem (at_ len j : Nat) : j ∈ js3 at_ len ↔ j ∈ js1 len ∧ j ≠ at_ := by simp [js3, js1]
theorem VI_nil (xs : List E3) : VI xs [] = V0 := by funext i v; simp [VI, Fm.VL, V0]
/-- Three tables, no block of two. -/
structure Tri (B : Nat) (w : World) (t u v : Nat) (nt nu nv : Int) (Vt Vu Vv : Fm.VM) : Prop where
  ex : ∃ Ft Fu Fv : Nat → Prop, TabB B w t 60 nt Vt Ft ∧ TabB B w u 60 nu Vu Fu ∧ TabB B w v 60 nv Vv Fv ∧ Dis Ft Fu ∧ Dis Ft Fv ∧ Dis Fu Fv

theorem Tri.rot {B : Nat} {w : World} {t u v : Nat} {nt nu nv : Int} {Vt Vu Vv : Fm.VM} (h : Tri B w t u v nt nu nv Vt Vu Vv) : Tri B w u v t nu nv nt Vu Vv Vt := by
  obtain ⟨Ft, Fu, Fv, h1, h2, h3, d1, d2, d3⟩ := h.ex
  exact ⟨Fu, Fv, Ft, h2, h3, h1, d3, d1.symm, d2.symm⟩
theorem Tri.new {B : Nat} {w w1 : World} {t u v : Nat} {nt nu nv : Int} {Vt Vu Vv : Fm.VM} (h : Tri B w t u v nt nu nv Vt Vu Vv) (hu : New w w1) : Tri B w1 t u v nt nu nv Vt Vu Vv := by
  obtain ⟨Ft, Fu, Fv, h1, h2, h3, d⟩ := h.ex
  exact ⟨Ft, Fu, Fv, h1.new hu, h2.new hu, h3.new hu, d⟩

/-- Put into the first of three. -/
theorem put_tri (B : Nat) (a n hop cn nu nv : Int) (t u v : Nat) (V Vu Vv : Fm.VM) (E : Nat → Addr) (w : World) (h2 : Sen w gBound (E 2)) (h3 : Sen w gShape (E 3)) (h : chk a n = 0)
    (hT : Tri B w t u v cn nu nv V Vu Vv) (hv : at1 V a n = none) (hfull : cn < 60) (hcn : 0 ≤ cn) (hB : B ≤ w.heap.size) :
    Calls Tryd.prog 25 #[.pointer (some ⟨t, 0, none⟩), .agg #[.int .i64 a, .int .i64 n], .int .i64 hop] w fun e w1 =>
      e = .returned .nilIface ∧ Tri B w1 t u v (cn + 1) nu nv (put1 V a n (some hop)) Vu Vv ∧ Upd (fun k => B ≤ k) w w1 := by
  obtain ⟨Ft, Fu, Fv, h1, hU, hV, d1, d2, d3⟩ := hT.ex
  refine (put_tab B a n hop 60 cn t V Ft E w h2 h3 h h1 hv hfull hcn (by decide) hB).mono ?_
  rintro e w1 ⟨G, rfl, hG, hg, hu⟩
  exact ⟨rfl, ⟨G, Fu, Fv, hG, hU.upd hu d1.symm, hV.upd hu d2.symm, d1.grow (fun k hk => hU.lt hk) hg, d2.grow (fun k hk => hV.lt hk) hg, d3⟩, hu.mono fun k _ hk => h1.from_ k hk⟩

theorem drop_tri (B : Nat) (a n cn x nu nv : Int) (t u v : Nat) (V Vu Vv : Fm.VM) (E : Nat → Addr) (w : World) (h2 : Sen w gBound (E 2)) (h3 : Sen w gShape (E 3)) (h : chk a n = 0)
    (hT : Tri B w t u v cn nu nv V Vu Vv) (hv : at1 V a n = some x) (hc0 : 0 < cn) (hc1 : cn ≤ 60) :
    Calls Tryd.prog 27 #[.pointer (some ⟨t, 0, none⟩), .agg #[.int .i64 a, .int .i64 n]] w fun e w1 =>
      e = .returned .nilIface ∧ Tri B w1 t u v (cn - 1) nu nv (put1 V a n none) Vu Vv ∧ Upd (fun k => B ≤ k) w w1 := by
  obtain ⟨Ft, Fu, Fv, h1, hU, hV, d1, d2, d3⟩ := hT.ex
  refine (drop_tab B a n 60 cn x t V Ft E w h2 h3 h h1 hv hc0 hc1).mono ?_
  rintro e w1 ⟨rfl, hG, hu⟩
  exact ⟨rfl, ⟨Ft, Fu, Fv, hG, hU.upd hu d1.symm, hV.upd hu d2.symm, d1, d2, d3⟩, hu.mono fun k _ hk => h1.from_ k hk⟩

theorem find_tri (B : Nat) (a cn nu nv : Int) (t u v : Nat) (V Vu Vv : Fm.VM) (E : Nat → Addr) (w : World) (h2 : Sen w gBound (E 2)) (hT : Tri B w t u v cn nu nv V Vu Vv) :
    Calls Tryd.prog 33 #[.pointer (some ⟨t, 0, none⟩), .int .i64 a] w fun e w1 => e = .returned (.tuple (foundR a (found V a))) ∧ New w w1 := by
  obtain ⟨Ft, Fu, Fv, h1, _⟩ := hT.ex
  exact find_tab B a 60 cn t V Ft E w h2 h1

theorem count_tri (B : Nat) (cn nu nv : Int) (t u v : Nat) (V Vu Vv : Fm.VM) (w : World) (hT : Tri B w t u v cn nu nv V Vu Vv) :
    Calls Tryd.prog 35 #[.pointer (some ⟨t, 0, none⟩)] w fun e w1 => e = .returned (.int .i64 cn) ∧ w = w1 := by
  obtain ⟨Ft, Fu, Fv, h1, _⟩ := hT.ex
  exact count_tab B 60 cn t V Ft w h1

/-- How many are put, but for one. -/
def cnt3 (at_ k : Nat) : Nat := if at_ < k then k - 1 else k
theorem cnt3_succ {at_ k : Nat} (h : k ≠ at_) : cnt3 at_ (k + 1) = cnt3 at_ k + 1 := by unfold cnt3; split <;> split <;> omega
theorem cnt3_skip (k : Nat) : cnt3 k (k + 1) = cnt3 k k := by unfold cnt3; split <;> split <;> omega
theorem cnt3_le (at_ k : Nat) : cnt3 at_ k ≤ k := by unfold cnt3; split <;> omega
theorem tri_skip {B : Nat} {w : World} {t u v k m len : Nat} {at1 : Int} {xs : List E3} {x y : E3} (hg : Good xs len) (hle : xs.length ≤ len) (hx : xs[k]? = some x) (hy : xs[m]? = some y) (hk : k < len) (hm : m = len - 1 - k) (hka : (k : Int) = at1)
    (h : Tri B w t u v ((k : Int) + 1) ((k : Int) + 1) (cnt3 at1.toNat k) (put1 (VI xs (js1 k)) x.a x.n (some x.h)) (put1 (VI xs (js2 len k)) y.a y.n (some y.h)) (VI xs (js3 at1.toNat k))) :
    Tri B w t u v ((k + 1 : Nat) : Int) ((k + 1 : Nat) : Int) (cnt3 at1.toNat (k + 1)) (VI xs (js1 (k + 1))) (VI xs (js2 len (k + 1))) (VI xs (js3 at1.toNat (k + 1))) := by
  subst hm
  rw [VI_snoc hg hle hx (js1_not k), VI_snoc hg hle hy (js2_not hk), ← js1_succ, ← js2_succ] at h
  obtain rfl : at1.toNat = k := by omega
  rw [cnt3_skip, js3_skip]
  push_cast
  exact h
theorem tri_step {B : Nat} {w : World} {t u v k m len : Nat} {at1 : Int} {xs : List E3} {x y : E3} (hg : Good xs len) (hle : xs.length ≤ len) (hx : xs[k]? = some x) (hy : xs[m]? = some y) (hk : k < len) (hm : m = len - 1 - k) (hka : k ≠ at1.toNat)
    (h : Tri B w t u v ((k : Int) + 1) ((k : Int) + 1) ((cnt3 at1.toNat k : Int) + 1) (put1 (VI xs (js1 k)) x.a x.n (some x.h)) (put1 (VI xs (js2 len k)) y.a y.n (some y.h)) (put1 (VI xs (js3 at1.toNat k)) x.a x.n (some x.h))) :
    Tri B w t u v ((k + 1 : Nat) : Int) ((k + 1 : Nat) : Int) (cnt3 at1.toNat (k + 1)) (VI xs (js1 (k + 1))) (VI xs (js2 len (k + 1))) (VI xs (js3 at1.toNat (k + 1))) := by
  subst hm
  rw [VI_snoc hg hle hx (js1_not k), VI_snoc hg hle hy (js2_not hk), VI_snoc hg hle hx (js3_not _ k), ← js1_succ, ← js2_succ, ← js3_succ _ _ hka] at h
  rw [cnt3_succ hka]
  push_cast
  exact h
def fA (a : Int) : Option (Nat × Int) → Int
  | none => 0
  | some (i, _) => a - low a.toNat i
def fB : Option (Nat × Int) → Int
  | none => 0
  | some (i, _) => i
def fC : Option (Nat × Int) → Int
  | none => 0
  | some (_, h) => h
theorem foundR_eq (a : Int) (o : Option (Nat × Int)) : foundR a o = #[.agg #[.int .i64 (fA a o), .int .i64 (fB o)], .int .i64 (fC o), .bool o.isSome] := by
  rcases o with _ | ⟨i, h⟩ <;> rfl

/-- What Find answers, part by part. -/
theorem find_tri2 (B : Nat) (a cn nu nv : Int) (t u v : Nat) (V Vu Vv : Fm.VM) (E : Nat → Addr) (w : World) (h2 : Sen w gBound (E 2)) (hT : Tri B w t u v cn nu nv V Vu Vv) {p0 p1 p2 : Int} {p3 : Bool}
    (e0 : p0 = fA a (found V a)) (e1 : p1 = fB (found V a)) (e2 : p2 = fC (found V a)) (e3 : p3 = (found V a).isSome) :
    Calls Tryd.prog 33 #[.pointer (some ⟨t, 0, none⟩), .int .i64 a] w fun e w1 => e = .returned (.tuple #[.agg #[.int .i64 p0, .int .i64 p1], .int .i64 p2, .bool p3]) ∧ New w w1 := by
  subst e0; subst e1; subst e2; subst e3
  rw [← foundR_eq]
  exact find_tri B a cn nu nv t u v V Vu Vv E w h2 hT
/-- .. and all their blocks lie below C. -/
structure TriC (B C : Nat) (w : World) (t u v : Nat) (nt nu nv : Int) (Vt Vu Vv : Fm.VM) : Prop where
  ex : ∃ Ft Fu Fv : Nat → Prop, TabB B w t 60 nt Vt Ft ∧ TabB B w u 60 nu Vu Fu ∧ TabB B w v 60 nv Vv Fv ∧ Dis Ft Fu ∧ Dis Ft Fv ∧ Dis Fu Fv ∧ ∀ k, Ft k ∨ Fu k ∨ Fv k → k < C
theorem TriC.tri {B C : Nat} {w : World} {t u v : Nat} {nt nu nv : Int} {Vt Vu Vv : Fm.VM} (h : TriC B C w t u v nt nu nv Vt Vu Vv) : Tri B w t u v nt nu nv Vt Vu Vv := by
  obtain ⟨Ft, Fu, Fv, h1, h2, h3, d1, d2, d3, _⟩ := h.ex
  exact ⟨Ft, Fu, Fv, h1, h2, h3, d1, d2, d3⟩
theorem TriC.upd {B C : Nat} {S : Nat → Prop} {w w1 : World} {t u v : Nat} {nt nu nv : Int} {Vt Vu Vv : Fm.VM} (h : TriC B C w t u v nt nu nv Vt Vu Vv) (hu : Upd S w w1) (hs : ∀ k, S k → C ≤ k) : TriC B C w1 t u v nt nu nv Vt Vu Vv := by
  obtain ⟨Ft, Fu, Fv, h1, h2, h3, d1, d2, d3, hc⟩ := h.ex
  exact ⟨Ft, Fu, Fv, h1.upd hu fun k hk hx => by have := hc k (.inl hk); have := hs k hx; omega, h2.upd hu fun k hk hx => by have := hc k (.inr (.inl hk)); have := hs k hx; omega, h3.upd hu fun k hk hx => by have := hc k (.inr (.inr hk)); have := hs k hx; omega, d1, d2, d3, hc⟩
theorem TriC.new {B C : Nat} {w w1 : World} {t u v : Nat} {nt nu nv : Int} {Vt Vu Vv : Fm.VM} (h : TriC B C w t u v nt nu nv Vt Vu Vv) (hu : New w w1) : TriC B C w1 t u v nt nu nv Vt Vu Vv :=
  h.upd hu fun _ hx => hx.elim
theorem TriC.set2 {B C : Nat} {w : World} {t u v : Nat} {nt nu nv : Int} {Vt Vu Vv : Fm.VM} (h : TriC B C w t u v nt nu nv Vt Vu Vv) {g : Nat} (hg : C ≤ g) (x y : Value) : TriC B C ((w.setCell ⟨g, 0, none⟩ x).setCell ⟨g, 1, none⟩ y) t u v nt nu nv Vt Vu Vv :=
  h.upd (S := fun k => C ≤ k) (((Upd.refl _ _).setCell (p := ⟨g, 0, none⟩) (.inl hg) _).setCell (p := ⟨g, 1, none⟩) (.inl hg) _) fun _ hx => hx

theorem drop_tri0 (B : Nat) (a n cn x nu nv : Int) (t u v : Nat) (V Vu Vv : Fm.VM) (E : Nat → Addr) (w0 w : World) (h2 : Sen w gBound (E 2)) (h3 : Sen w gShape (E 3)) (h : chk a n = 0)
    (hT : Tri B w0 t u v cn nu nv V Vu Vv) (h0 : New w0 w) (hv : at1 V a n = some x) (hc0 : 0 < cn) (hc1 : cn ≤ 60) :
    Calls Tryd.prog 27 #[.pointer (some ⟨t, 0, none⟩), .agg #[.int .i64 a, .int .i64 n]] w fun e w1 =>
      e = .returned .nilIface ∧ TriC B w0.heap.size w1 t u v (cn - 1) nu nv (put1 V a n none) Vu Vv ∧ Upd (fun k => B ≤ k ∧ k < w0.heap.size) w w1 := by
  obtain ⟨Ft, Fu, Fv, h1, hU, hV, d1, d2, d3⟩ := hT.ex
  refine (drop_tab B a n 60 cn x t V Ft E w h2 h3 h (h1.new h0) hv hc0 hc1).mono ?_
  rintro e w1 ⟨rfl, hG, hu⟩
  exact ⟨rfl, ⟨Ft, Fu, Fv, hG, (hU.new h0).upd hu d1.symm, (hV.new h0).upd hu d2.symm, d1, d2, d3, fun k hk => by rcases hk with h | h | h; exact h1.lt h; exact hU.lt h; exact hV.lt h⟩, hu.mono fun k _ hk => ⟨h1.from_ k hk, h1.lt hk⟩⟩
end Go.Proofs.YtkljanjapcpbdaaDoor

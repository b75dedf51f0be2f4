/- Laid contracts of the library at this program: bits.Mul, slices.BinarySearch, slices.Insert over ints; each in the words of Ints. No condition but those that stand in each theorem. (The first part was written by the kit's plain-laying tool for this program.) -/
import Derived.Shelf.Bits.Mul64
import Derived.Shelf.Slices.SearchI
import Derived.Shelf.Slices.Empties
import Derived.Shelf.Spec.SlicesInsert
import Derived.Shelf.Spec.SlicesInsertGrow
import Derived.Test.YtignngpligicjaaGreatDoorRu5
namespace Go.Proofs.YtignngpligicjaaGreatDoor
open Go.Shelf
def sh264_ren : Go.Shelf.Ren := ⟨fun | 264 => 155 | n => n, fun | 53 => 135 | 46 => 84 | n => n, fun | n => n⟩
theorem sh264 : Go.Proofs.Lays.n264 Tryz.prog sh264_ren := {
  mixed := by kernel_rfl
  f264 := Tryz.func155.trans (congrArg some (by kernel_rfl))
  t46 := Tryz.underlying84
  a46 := Tryz.isAgg84
  z46 := Tryz.sizeOf84
  v46 := Tryz.zeroValue84
  t53 := Tryz.underlying135
  a53 := Tryz.isAgg135
  z53 := Tryz.sizeOf135
  v53 := Tryz.zeroValue135 }
def sh212_ren : Go.Shelf.Ren := ⟨fun | 212 => 125 | 263 => 154 | 264 => 155 | n => n, fun | 46 => 84 | 51 => 179 | 146 => 185 | 53 => 135 | 148 => 187 | n => n, fun | n => n⟩
theorem sh212 : Go.Proofs.Lays.n212 Tryz.prog sh212_ren := {
  mixed := by kernel_rfl
  f212 := Tryz.func125.trans (congrArg some (by kernel_rfl))
  f263 := Tryz.func154.trans (congrArg some (by kernel_rfl))
  f264 := Tryz.func155.trans (congrArg some (by kernel_rfl))
  t46 := Tryz.underlying84
  a46 := Tryz.isAgg84
  z46 := Tryz.sizeOf84
  v46 := Tryz.zeroValue84
  t51 := Tryz.underlying179
  a51 := Tryz.isAgg179
  z51 := Tryz.sizeOf179
  v51 := Tryz.zeroValue179
  t53 := Tryz.underlying135
  a53 := Tryz.isAgg135
  z53 := Tryz.sizeOf135
  v53 := Tryz.zeroValue135
  t146 := Tryz.underlying185
  a146 := Tryz.isAgg185
  z146 := Tryz.sizeOf185
  v146 := Tryz.zeroValue185
  t148 := Tryz.underlying187
  a148 := Tryz.isAgg187
  z148 := Tryz.sizeOf187
  v148 := Tryz.zeroValue187 }
def shNm225_ren : Go.Shelf.Ren := ⟨fun | 25 => 96 | 31 => 126 | 32 => 127 | 37 => 145 | n => n, fun | 22 => 60 | 3 => 3 | 4 => 4 | 40 => 84 | 0 => 0 | n => n, fun | n => n⟩
theorem shNm225 : Go.Proofs.Lays2.n25 Tryz.prog shNm225_ren := {
  mixed := by kernel_rfl
  f25 := Tryz.func96.trans (congrArg some (by kernel_rfl))
  f31 := Tryz.func126.trans (congrArg some (by kernel_rfl))
  f32 := Tryz.func127.trans (congrArg some (by kernel_rfl))
  f37 := Tryz.func145.trans (congrArg some (by kernel_rfl))
  t0 := Tryz.underlying0
  a0 := Tryz.isAgg0
  z0 := Tryz.sizeOf0
  v0 := Tryz.zeroValue0
  t3 := Tryz.underlying3
  a3 := Tryz.isAgg3
  z3 := Tryz.sizeOf3
  v3 := Tryz.zeroValue3
  t4 := Tryz.underlying4
  a4 := Tryz.isAgg4
  z4 := Tryz.sizeOf4
  v4 := Tryz.zeroValue4
  t22 := Tryz.underlying60
  a22 := Tryz.isAgg60
  z22 := Tryz.sizeOf60
  v22 := Tryz.zeroValue60
  t40 := Tryz.underlying84
  a40 := Tryz.isAgg84
  z40 := Tryz.sizeOf84
  v40 := Tryz.zeroValue84 }
def shNm221_ren : Go.Shelf.Ren := ⟨fun | 21 => 97 | 27 => 128 | 28 => 129 | 35 => 156 | 39 => 193 | n => n, fun | 22 => 60 | 3 => 3 | 4 => 4 | 0 => 0 | n => n, fun | n => n⟩
theorem shNm221 : Go.Proofs.Lays2.n21 Tryz.prog shNm221_ren := {
  mixed := by kernel_rfl
  f21 := Tryz.func97.trans (congrArg some (by kernel_rfl))
  f27 := Tryz.func128.trans (congrArg some (by kernel_rfl))
  f28 := Tryz.func129.trans (congrArg some (by kernel_rfl))
  f35 := Tryz.func156.trans (congrArg some (by kernel_rfl))
  f39 := Tryz.func193.trans (congrArg some (by kernel_rfl))
  t0 := Tryz.underlying0
  a0 := Tryz.isAgg0
  z0 := Tryz.sizeOf0
  v0 := Tryz.zeroValue0
  t3 := Tryz.underlying3
  a3 := Tryz.isAgg3
  z3 := Tryz.sizeOf3
  v3 := Tryz.zeroValue3
  t4 := Tryz.underlying4
  a4 := Tryz.isAgg4
  z4 := Tryz.sizeOf4
  v4 := Tryz.zeroValue4
  t22 := Tryz.underlying60
  a22 := Tryz.isAgg60
  z22 := Tryz.sizeOf60
  v22 := Tryz.zeroValue60
  i3 := by kernel_rfl }

open Go.RowKit

theorem mul_any (x y : Nat) (hx : x < 18446744073709551616) (hy : y < 18446744073709551616) (w : World) :
    Calls Tryz.prog 125 #[.int .u64 x, .int .u64 y] w fun e w' => e = .returned (.tuple #[.int .u64 ((x * y / 18446744073709551616 : Nat) : Int), .int .u64 ((x * y % 18446744073709551616 : Nat) : Int)]) ∧ w' = w := Any.bits_Mul sh212 x y hx hy w

theorem bsearch_any (A : Option Addr) (n c : Nat) (xs : List Int) (v : Int) (w : World) (hx : Ints w A xs) (hn : xs.length = n) (hl : n ≤ 1000) (hs : xs.Pairwise (· ≤ ·)) :
    Calls Tryz.prog 96 #[.slice A n c, .int .i64 v] w fun e w1 => e = .returned (.tuple #[.int .i64 (xs.countP (· < v) : Nat), .bool (xs.contains v)]) ∧ New w w1 := by
  subst hn
  by_cases h0 : xs.length = 0
  · obtain rfl : xs = [] := List.eq_nil_of_length_eq_zero h0
    refine (Any.slices_BinarySearch_int_empty shNm225 A c v w : Calls Tryz.prog 96 _ _ _).mono ?_
    rintro e w1 ⟨rfl, rfl⟩
    exact ⟨rfl, Upd.refl _ _⟩
  · obtain ⟨b, o, rfl, _, hc⟩ := hx (by omega)
    refine (Any.slices_BinarySearch_int shNm225 b o xs.length c xs v w (Nat.le_refl _) (by omega) (fun j hj => by rw [hc j _ (List.getElem?_eq_getElem hj)]; simp [List.getD_eq_getElem?_getD, hj]) (by simpa using hs) : Calls Tryz.prog 96 _ _ _).mono ?_
    rintro e w1 ⟨rfl, q, rfl⟩
    refine ⟨by simp, (Upd.refl _ _).drewN q⟩

theorem ins_get {α : Type} (xs : List α) (v : α) {i : Nat} (hi : i ≤ xs.length) (j : Nat) : (xs.take i ++ v :: xs.drop i)[j]? = if j < i then xs[j]? else if j = i then some v else xs[j - 1]? := by
  have hl : (xs.take i).length = i := by rw [List.length_take]; omega
  by_cases h : j < i
  · rw [if_pos h, List.getElem?_append_left (by omega), List.getElem?_take, if_pos h]
  · rw [if_neg h, List.getElem?_append_right (by omega), hl]
    by_cases h2 : j = i
    · subst h2; simp
    · rw [if_neg h2, show j - i = (j - 1 - i) + 1 by omega, List.getElem?_cons_succ, List.getElem?_drop]
      congr 1
      omega
theorem Upd.setCells {S : Nat → Prop} {a : World} (g : Nat) (hg : S g ∨ a.heap.size ≤ g) : ∀ (vs : List Value) (o : Nat) (w : World), Upd S a w → Upd S a (w.setCells g o vs)
  | [], _, _, h => h
  | v :: r, o, w, h => by
    rw [World.setCells]
    exact Upd.setCells g hg r (o + 1) _ (h.setCell (p := ⟨g, o, none⟩) hg v)

theorem own_cells {w : World} {z g n c : Nat} {e : TypeId} {xs : List Int} (h : w.ownsRow z e 1 (.slice (some ⟨g, 0, none⟩) n c) n (xs.map (.int .i64))) :
    ∃ cur : Array Value, Blk w g e cur ∧ cur.size = c ∧ n ≤ c ∧ c ≤ maxLen ∧ z ≤ g ∧ xs.length = n ∧ ∀ j, j < n → cur[j]? = (xs.map (Value.int .i64))[j]? := by
  have h1 := h.1
  rcases h.2 with ⟨h2, _⟩ | ⟨g1, cap, cur, h2, hb, hh, hnc, hm, hcs, ht⟩
  · cases h2
  · injection h2 with e1 _ e3
    injection e1 with e1
    injection e1 with e1
    subst e1; subst e3
    refine ⟨cur, hh, by simpa using hcs, hnc, hm, hb, by simpa using h1, fun j hj => ?_⟩
    rw [← ht, List.getElem?_take, if_pos (by omega)]
    simp

theorem shape_of_blk {w : World} {g : Nat} {t : TypeId} {cs : Array Value} (h : Blk w g t cs) : w.shape? g = some (t, cs.size) := by
  have h1 : w.heap[g]? = some (.cells cs t (0, 0)) := h
  simp [World.shape?, h1]
/-- slices.Insert of one value. -/
theorem insert_any (z n c i vb : Nat) (A : Option Addr) (xs : List Int) (v : Int) (w : World) (ho : w.ownsRow z 3 1 (.slice A n c) n (xs.map (.int .i64))) (hi : i ≤ n) (hn : n ≤ 1000) (hv : Blk w vb 3 #[.int .i64 v]) (hvb : ∀ b o, A = some ⟨b, o, none⟩ → b ≠ vb) (hz : z ≤ w.heap.size) :
    Calls Tryz.prog 97 #[.slice A n c, .int .i64 i, .slice (some ⟨vb, 0, none⟩) 1 1] w fun e w1 =>
      ∃ A' c', e = .returned (.slice A' (n + 1) c') ∧ Ints w1 A' (xs.take i ++ v :: xs.drop i) ∧ n + 1 ≤ c' ∧ (∀ b o, A' = some ⟨b, o, none⟩ → z ≤ b) ∧ Upd (fun k => ∃ o, A = some ⟨k, o, none⟩) w w1 := by
  have hlen : xs.length = n := by simpa using ho.1
  have hvs : ∀ j u, [Value.int .i64 v][j]? = some u → w.cell? ⟨vb, 0 + j, none⟩ = some u := fun j u hj => by
    rw [Nat.zero_add, hv.cell j]; simpa using hj
  have h1v : ∀ u ∈ [Value.int .i64 v], u.oneCell' = true := fun u hu => by simp at hu; subst hu; rfl
  have h1c : ∀ u ∈ xs.map (Value.int .i64), u.oneCell' = true := ints_one xs
  have hcl : (xs.map (Value.int .i64)).length = n := by simpa using hlen
  have fin : ∀ (w1 : World) (b : Nat), b < w1.heap.size → (∀ j, j ≤ n → w1.cell? ⟨b, j, none⟩ = if j < i then (xs.map (Value.int .i64))[j]? else if j = i then some (.int .i64 v) else (xs.map (Value.int .i64))[j - 1]?) → Ints w1 (some ⟨b, 0, none⟩) (xs.take i ++ v :: xs.drop i) := fun w1 b hb hc _ => by
    refine ⟨b, 0, rfl, hb, fun j x hx => ?_⟩
    have hj : j < n + 1 := by
      have := (List.getElem?_eq_some_iff.1 hx).1
      simp at this
      omega
    rw [Nat.zero_add, hc j (by omega)]
    rw [ins_get xs v (by omega)] at hx
    split at hx
    · next h => rw [if_pos h, List.getElem?_map, hx]; rfl
    · next h =>
      rw [if_neg h]
      split at hx
      · next h2 => rw [if_pos h2]; injection hx with hx; subst hx; rfl
      · next h2 => rw [if_neg h2, List.getElem?_map, hx]; rfl
  have grow0 : ∀ (base : Option Addr), (base = none → n = 0) → n ≤ c → c < n + 1 → i = n → (∀ a, base = some a → ∀ j u, (xs.map (Value.int .i64))[j]? = some u → w.cell? (a.add j) = some u) →
      Calls Tryz.prog 97 #[.slice base n c, .int .i64 i, .slice (some ⟨vb, 0, none⟩) 1 1] w fun e w1 =>
      ∃ A' c', e = .returned (.slice A' (n + 1) c') ∧ Ints w1 A' (xs.take i ++ v :: xs.drop i) ∧ n + 1 ≤ c' ∧ (∀ b o, A' = some ⟨b, o, none⟩ → z ≤ b) ∧ Upd (fun k => ∃ o, A = some ⟨k, o, none⟩) w w1 := by
    intro base hnil hnc hroom hin hcs
    subst hin
    refine (Any2.slices_Insert_int_end_grow shNm221 base i c vb 0 1 1 (xs.map (.int .i64)) [.int .i64 v] w (by omega) hnc hroom (by omega) hcl rfl hnil hcs hvs h1v : Calls Tryz.prog 97 _ _ _).mono ?_
    rintro e w1 ⟨rfl, rfl⟩
    refine ⟨_, _, rfl, fin _ _ (by simp) (fun j hj => ?_), ?_, (fun b o e => by injection e with e; injection e with e; omega), ((Upd.refl _ w).drew).alloc _⟩
    · rw [World.cell?_alloc_at (w := w.drew) _ _ w.heap.size _ rfl]
      have hxl : (xs.map (Value.int .i64)).length = i := hcl
      rw [Array.getElem?_append_left (by simp [hlen]; omega), List.getElem?_toArray]
      by_cases h : j < i
      · rw [if_pos h, List.getElem?_append_left (by omega)]
      · obtain rfl : j = i := by omega
        rw [if_neg h, if_pos rfl, List.getElem?_append_right (by omega), hxl]
        simp
    · exact grownCap_ge _ _ _ _
  cases A with
  | none =>
    have hc0 : n = 0 ∧ c = 0 := by
      rcases ho.2 with ⟨h1, h2⟩ | ⟨g, cap, cur, h1, _⟩
      · injection h1 with _ _ h3; exact ⟨h2, h3⟩
      · cases h1
    exact grow0 none (fun _ => hc0.1) (by omega) (by omega) (by omega) (fun a h => by cases h)
  | some ad =>
    obtain ⟨g, rfl⟩ : ∃ g, ad = ⟨g, 0, none⟩ := by
      rcases ho.2 with ⟨h1, h2⟩ | ⟨g, cap, cur, h1, _⟩
      · cases h1
      · injection h1 with h1; injection h1 with h1; exact ⟨g, h1⟩
    obtain ⟨cur, hb, hcs, hnc, hmx, hzg, _, hcur⟩ := own_cells ho
    have hgv : vb ≠ g := fun e => hvb g 0 rfl e.symm
    have hcells : ∀ j u, (xs.map (Value.int .i64))[j]? = some u → w.cell? ⟨g, 0 + j, none⟩ = some u := fun j u hj => by
      have hjn : j < n := by have := (List.getElem?_eq_some_iff.1 hj).1; omega
      rw [Nat.zero_add, hb.cell j, hcur j hjn, hj]
    have hsome : ∀ j, j < c → (w.cell? ⟨g, 0 + j, none⟩).isSome = true := fun j hj => by
      rw [Nat.zero_add, hb.cell j, Array.getElem?_eq_getElem (by omega)]; rfl
    have hfz : ∀ j, w.frozen? ⟨g, 0 + j, none⟩ = false := fun j => hb.frozen _
    have hmx2 : c ≤ 9223372036854775807 := hmx
    have hSg : (fun k => ∃ o, (some ⟨g, 0, none⟩ : Option Addr) = some ⟨k, o, none⟩) g := ⟨0, rfl⟩
    have ge_z : ∀ b o, (some ⟨g, 0, none⟩ : Option Addr) = some ⟨b, o, none⟩ → z ≤ b := fun b o e => by injection e with e; injection e with e; omega
    by_cases hin : i = n
    · by_cases hroom : n + 1 ≤ c
      · subst hin
        refine (Any2.slices_Insert_int_end_room shNm221 g 0 i c vb 0 1 1 [.int .i64 v] w (by omega) hroom hmx2 rfl (fun j hj => by rw [show 0 + i + j = 0 + (i + j) by omega]; exact hsome _ (by omega)) (fun j _ => by rw [show 0 + i + j = 0 + (i + j) by omega]; exact hfz _) hvs h1v : Calls Tryz.prog 97 _ _ _).mono ?_
        rintro e w1 ⟨rfl, rfl⟩
        have hu : Upd (fun k => ∃ o, (some ⟨g, 0, none⟩ : Option Addr) = some ⟨k, o, none⟩) w (w.setCells g (0 + i) [.int .i64 v]) := Upd.setCells g (.inl hSg) _ _ _ (Upd.refl _ _)
        refine ⟨_, _, rfl, fin _ g (Nat.lt_of_lt_of_le hb.lt hu.size) (fun j hj => ?_), hroom, ge_z, hu⟩
        by_cases h : j < i
        · rw [if_pos h, World.cell?_setCells_out g _ _ _ _ (fun _ _ => by left; show j < 0 + i; omega), hb.cell j, hcur j h]
        · obtain rfl : j = i := by omega
          have h1 := World.cell?_setCells_in g [.int .i64 v] (0 + j) w (fun k hk => by
            have : k = 0 := by simpa using hk
            subst this
            rw [show 0 + j + 0 = 0 + j by omega]; exact hsome j (by omega)) 0 (by simp)
          rw [if_neg h, if_pos rfl]
          simpa using h1
      · exact grow0 (some ⟨g, 0, none⟩) (fun h => by cases h) hnc (by omega) hin (fun a ha j u hj => by
          injection ha with ha
          subst ha
          have h1 := hcells j u hj
          rw [Addr.add_lit]
          exact h1)
    · by_cases hroom : n + 1 ≤ c
      · refine (Any2.slices_Insert_int_shift shNm221 g 0 n c i vb 0 1 1 (xs.map (.int .i64)) [.int .i64 v] w (by omega) (by omega) hroom hmx2 hgv hcl rfl hcells (fun j hj => hsome j (by omega)) (fun j _ => hfz j) hvs h1c h1v 3 3 1 cur.size (shape_of_blk hv) (shape_of_blk hb) (by omega) (hv.frozen _) (hv.frozen _) : Calls Tryz.prog 97 _ _ _).mono ?_
        rintro e w1 ⟨rfl, rfl⟩
        have hu : Upd (fun k => ∃ o, (some ⟨g, 0, none⟩ : Option Addr) = some ⟨k, o, none⟩) w ((w.drew.setCells g (0 + (i + 1)) ((xs.map (Value.int .i64)).drop i)).setCells g (0 + i) [.int .i64 v]) :=
          Upd.setCells g (.inl hSg) _ _ _ (Upd.setCells g (.inl hSg) _ _ _ (Upd.refl _ _).drew)
        have hdl : ((xs.map (Value.int .i64)).drop i).length = n - i := by rw [List.length_drop]; omega
        have hs1 : ∀ j, j < n + 1 → ((w.drew.setCells g (0 + (i + 1)) ((xs.map (Value.int .i64)).drop i)).cell? ⟨g, 0 + j, none⟩).isSome = true := fun j hj =>
          isSome_setCells g _ _ _ (fun k hk => by rw [show 0 + (i + 1) + k = 0 + (i + 1 + k) by omega]; exact hsome _ (by omega)) _ (hsome j (by omega))
        refine ⟨_, _, rfl, fin _ g (Nat.lt_of_lt_of_le hb.lt hu.size) (fun j hj => ?_), hroom, ge_z, hu⟩
        by_cases h : j < i
        · rw [if_pos h, World.cell?_setCells_out g _ _ _ _ (fun _ _ => by left; show j < 0 + i; omega), World.cell?_setCells_out g _ _ _ _ (fun _ _ => by left; show j < 0 + (i + 1); omega)]
          show w.cell? ⟨g, j, none⟩ = _
          rw [hb.cell j, hcur j (by omega)]
        · by_cases h2 : j = i
          · subst h2
            have h1 := World.cell?_setCells_in g [.int .i64 v] (0 + j) _ (fun k hk => by
              have : k = 0 := by simpa using hk
              subst this
              rw [show 0 + j + 0 = 0 + j by omega]; exact hs1 j (by omega)) 0 (by simp)
            rw [if_neg h, if_pos rfl]
            simpa using h1
          · rw [if_neg h, if_neg h2, World.cell?_setCells_out g _ _ _ _ (fun _ _ => by right; show 0 + i + 1 ≤ j; omega)]
            have h1 := World.cell?_setCells_in g ((xs.map (Value.int .i64)).drop i) (0 + (i + 1)) w.drew (fun k hk => by
              rw [show 0 + (i + 1) + k = 0 + (i + 1 + k) by omega]; exact hsome _ (by omega)) (j - (i + 1)) (by omega)
            rw [show 0 + (i + 1) + (j - (i + 1)) = j by omega] at h1
            rw [h1, List.getElem_drop, List.getElem?_eq_getElem (by omega)]
            simp only [show i + (j - (i + 1)) = j - 1 by omega]
      · refine (Any2.slices_Insert_int_grow shNm221 g 0 n c i vb 0 1 1 (xs.map (.int .i64)) [.int .i64 v] w (by omega) (by omega) hnc (by omega) (by omega) hcl rfl hcells hvs h1c h1v : Calls Tryz.prog 97 _ _ _).mono ?_
        rintro e w1 ⟨rfl, rfl⟩
        generalize hG : grownCap w (n + 1) c _ = G
        have hge : n + 1 ≤ G := by rw [← hG]; exact grownCap_ge _ _ _ _
        generalize hR : (((xs.map (Value.int .i64)).take i).toArray ++ Builtin.zeroCells (Value.int .i64 0).cells (n + 1 - i) ++ Builtin.zeroCells (Value.int .i64 0).cells (G - (n + 1))) = R
        have hRs : n + 1 ≤ R.size := by rw [← hR]; simp [Builtin.zeroCells, Value.cells]; omega
        have hRi : ∀ j, j < i → R[j]? = (xs.map (Value.int .i64))[j]? := fun j hj => by
          have hl1 : ((xs.map (Value.int .i64)).take i).length = i := by rw [List.length_take]; omega
          rw [← hR, Array.append_assoc, Array.getElem?_append_left (by simp only [List.size_toArray]; omega), List.getElem?_toArray, List.getElem?_take, if_pos hj]
        generalize hw2 : w.alloc _ = w2
        have hb2 : Blk w2 w.heap.size (shNm221_ren.t 3) R := by rw [← hw2]; exact Blk.new w _ R
        have hdl : ((xs.map (Value.int .i64)).drop i).length = n - i := by rw [List.length_drop]; omega
        have hs0 : ∀ j, j < n + 1 → (w2.drew.cell? ⟨w.heap.size, j, none⟩).isSome = true := fun j hj => by
          show (w2.cell? ⟨w.heap.size, j, none⟩).isSome = true
          rw [hb2.cell j, Array.getElem?_eq_getElem (by omega)]; rfl
        have hs1 : ∀ j, j < n + 1 → (((w2.drew.setCells w.heap.size i [.int .i64 v]).drew).cell? ⟨w.heap.size, j, none⟩).isSome = true := fun j hj =>
          isSome_setCells w.heap.size _ _ _ (fun k hk => by
            have : k = 0 := by simpa using hk
            subst this
            exact hs0 _ (by omega)) _ (hs0 j hj)
        have hu2 : Upd (fun k => ∃ o, (some ⟨g, 0, none⟩ : Option Addr) = some ⟨k, o, none⟩) w w2 := by rw [← hw2]; exact (Upd.refl _ _).alloc _
        have hu : Upd (fun k => ∃ o, (some ⟨g, 0, none⟩ : Option Addr) = some ⟨k, o, none⟩) w ((w2.drew.setCells w.heap.size i [.int .i64 v]).drew.setCells w.heap.size (i + 1) ((xs.map (Value.int .i64)).drop i)) :=
          Upd.setCells w.heap.size (.inr (Nat.le_refl _)) _ _ _ (Upd.setCells w.heap.size (.inr (Nat.le_refl _)) _ _ _ hu2.drew).drew
        have hlt : w.heap.size < ((w2.drew.setCells w.heap.size i [.int .i64 v]).drew.setCells w.heap.size (i + 1) ((xs.map (Value.int .i64)).drop i)).heap.size := by
          have h1 := (Upd.setCells (S := fun _ => True) w.heap.size (.inl trivial) ((xs.map (Value.int .i64)).drop i) (i + 1) _ ((Upd.setCells (S := fun _ => True) w.heap.size (.inl trivial) [.int .i64 v] i _ (Upd.refl (fun _ => True) w2).drew).drew)).size
          exact Nat.lt_of_lt_of_le hb2.lt h1
        refine ⟨_, _, rfl, fin _ w.heap.size hlt (fun j hj => ?_), hge, (fun b o e => by injection e with e; injection e with e; omega), hu⟩
        by_cases h : j < i
        · rw [if_pos h, World.cell?_setCells_out _ _ _ _ _ (fun _ _ => by left; show j < i + 1; omega)]
          show (w2.drew.setCells w.heap.size i [.int .i64 v]).cell? ⟨w.heap.size, j, none⟩ = _
          rw [World.cell?_setCells_out _ _ _ _ _ (fun _ _ => by left; show j < i; omega)]
          show w2.cell? ⟨w.heap.size, j, none⟩ = _
          rw [hb2.cell j, hRi j h]
        · by_cases h2 : j = i
          · subst h2
            rw [if_neg h, if_pos rfl, World.cell?_setCells_out _ _ _ _ _ (fun _ _ => by left; show j < j + 1; omega)]
            have h1 := World.cell?_setCells_in w.heap.size [.int .i64 v] j w2.drew (fun k hk => by
              have : k = 0 := by simpa using hk
              subst this
              exact hs0 j (by omega)) 0 (by simp)
            simpa using h1
          · rw [if_neg h, if_neg h2]
            have h1 := World.cell?_setCells_in w.heap.size ((xs.map (Value.int .i64)).drop i) (i + 1) (w2.drew.setCells w.heap.size i [.int .i64 v]).drew (fun k hk => hs1 _ (by omega)) (j - (i + 1)) (by omega)
            rw [show i + 1 + (j - (i + 1)) = j by omega] at h1
            rw [h1, List.getElem_drop, List.getElem?_eq_getElem (by omega)]
            simp only [show i + (j - (i + 1)) = j - 1 by omega]
end Go.Proofs.YtignngpligicjaaGreatDoor

/- Merging in place by turns (SymMerge), plain: exchanges of stretches, turns, halves. No condition but those that stand in each theorem. -/
import Derived.Shelf.SlSortFuncK.SWK
namespace Go.Proofs.Ytlealjcllbpgkaa
open Go.Sort
section
variable {α : Type} [Inhabited α] {d d1 d2 d3 : Array α} {lt : α → α → Bool} {a b m n i j s t : Nat}
/-- Two stretches of n are exchanged. -/
structure SwrOf (d d1 : Array α) (a b n : Nat) : Prop where
  size : d1.size = d.size
  get : ∀ t, d1[t]! = if a ≤ t ∧ t < a + n then d[t - a + b]! else if b ≤ t ∧ t < b + n then d[t - b + a]! else d[t]!
theorem SwrOf.start (d : Array α) (a b : Nat) : SwrOf d d a b 0 := ⟨rfl, fun t => by rw [if_neg (by omega), if_neg (by omega)]⟩
theorem SwrOf.step (h : SwrOf d d1 a b i) (hab : a + (i + 1) ≤ b) (hb : b + i < d.size) : SwrOf d (swp d1 (a + i) (b + i)) a b (i + 1) := by
  refine ⟨by rw [size_swp]; exact h.size, fun t => ?_⟩
  rw [swp_get d1 (by rw [h.size]; omega) (by rw [h.size]; omega)]
  simp only [h.get]
  repeat' split
  all_goals first | rfl | (exfalso; omega) | (congr 1; omega)
/-- The stretches a .. m and m .. b, the second ahead of the first. -/
structure RotOf (d d1 : Array α) (a m b : Nat) : Prop where
  size : d1.size = d.size
  get : ∀ t, d1[t]! = if a ≤ t ∧ t < a + (b - m) then d[t - a + m]! else if a + (b - m) ≤ t ∧ t < b then d[t - (b - m)]! else d[t]!
theorem RotOf.none_l (d : Array α) (hb : m ≤ b) : RotOf d d m m b := ⟨rfl, fun t => by
  repeat' split
  all_goals first | rfl | (exfalso; omega) | (congr 1; omega)⟩
theorem RotOf.none_r (d : Array α) (ha : a ≤ m) : RotOf d d a m m := ⟨rfl, fun t => by
  repeat' split
  all_goals first | rfl | (exfalso; omega) | (congr 1; omega)⟩
/-- As long on both sides: one exchange. -/
theorem RotOf.same (h : SwrOf d d1 (m - i) m i) (hi : i ≤ m) : RotOf d d1 (m - i) m (m + i) := ⟨h.size, fun t => by
  rw [h.get]
  repeat' split
  all_goals first | rfl | (exfalso; omega) | (congr 1; omega)⟩
/-- The left one is longer. -/
theorem RotOf.left (h : SwrOf d d1 (m - i) m j) (hi : i ≤ m) (hji : j < i) (r : RotOf d1 d2 (m - (i - j)) m (m + j)) : RotOf d d2 (m - i) m (m + j) := ⟨r.size.trans h.size, fun t => by
  rw [r.get]
  simp only [h.get]
  repeat' split
  all_goals first | rfl | (exfalso; omega) | (congr 1; omega)⟩
/-- The right one is longer. -/
theorem RotOf.right (h : SwrOf d d1 (m - i) (m + j - i) i) (hi : i ≤ m) (hij : i < j) (r : RotOf d1 d2 (m - i) m (m + (j - i))) : RotOf d d2 (m - i) m (m + j) := ⟨r.size.trans h.size, fun t => by
  rw [r.get]
  simp only [h.get]
  repeat' split
  all_goals first | rfl | (exfalso; omega) | (congr 1; omega)⟩
theorem RotOf.stepUp (h : RotOf d d1 a (a + 1) (i + 1)) (hi : a ≤ i) (hb : i + 1 < d.size) : RotOf d (swp d1 i (i + 1)) a (a + 1) (i + 2) := by
  refine ⟨by rw [size_swp]; exact h.size, fun t => ?_⟩
  rw [swp_get d1 (by rw [h.size]; omega) (by rw [h.size]; omega)]
  simp only [h.get]
  repeat' split
  all_goals first | rfl | (exfalso; omega) | (congr 1; omega)
theorem RotOf.stepDown (h : RotOf d d1 (i + 1) m (m + 1)) (hi : i < m) (hb : m < d.size) : RotOf d (swp d1 (i + 1) i) i m (m + 1) := by
  refine ⟨by rw [size_swp]; exact h.size, fun t => ?_⟩
  rw [swp_get d1 (by rw [h.size]; omega) (by rw [h.size]; omega)]
  simp only [h.get]
  repeat' split
  all_goals first | rfl | (exfalso; omega) | (congr 1; omega)
/-- An order in which any two may be compared (unlike ones may stand level). -/
structure SwoL (lt : α → α → Bool) : Prop where
  asym : ∀ x y, lt x y = true → lt y x = false
  neg : ∀ x y z, lt x z = true → lt x y = true ∨ lt y z = true
omit [Inhabited α] in
theorem SwoL.irr (h : SwoL lt) (x : α) : lt x x = false := by
  cases e : lt x x with
  | false => rfl
  | true => rw [h.asym x x e] at e; cases e
/-- y is not ahead of x. -/
def leL (lt : α → α → Bool) (x y : α) : Prop := lt y x = false
omit [Inhabited α] in
theorem SwoL.trans (h : SwoL lt) {x y z : α} (h1 : leL lt x y) (h2 : leL lt y z) : leL lt x z := by
  unfold leL at *
  cases e : lt z x with
  | false => rfl
  | true =>
    rcases h.neg z y x e with e1 | e1
    · rw [e1] at h2; cases h2
    · rw [e1] at h1; cases h1
omit [Inhabited α] in
theorem SwoL.le_of_lt (h : SwoL lt) {x y : α} (h1 : lt x y = true) : leL lt x y := h.asym x y h1
/-- From a to b nothing stands behind what it is ahead of. -/
def SrtIn (lt : α → α → Bool) (d : Array α) (a b : Nat) : Prop := ∀ i j, a ≤ i → i < j → j < b → leL lt d[i]! d[j]!
theorem SrtIn.le (h : SrtIn lt d a b) (S : SwoL lt) {i j : Nat} (hi : a ≤ i) (hij : i ≤ j) (hj : j < b) : leL lt d[i]! d[j]! := by
  by_cases e : i = j
  · subst e; exact S.irr _
  · exact h i j hi (by omega) hj
theorem SrtIn.sub (h : SrtIn lt d a b) {a2 b2 : Nat} (ha : a ≤ a2) (hb : b2 ≤ b) : SrtIn lt d a2 b2 := fun i j hi hij hj => h i j (by omega) hij (by omega)
theorem SrtIn.one (lt : α → α → Bool) (d : Array α) (h : b ≤ a + 1) : SrtIn lt d a b := fun i j hi hij hj => by omega
/-- From a to b the same, in some order; elsewhere as it was. -/
structure MOf (d d1 : Array α) (a b : Nat) : Prop where
  size : d1.size = d.size
  out : ∀ t, ¬ (a ≤ t ∧ t < b) → d1[t]! = d[t]!
  perm : ((List.range' a (b - a)).map fun t => d1[t]!).Perm ((List.range' a (b - a)).map fun t => d[t]!)
theorem MOf.refl (d : Array α) (a b : Nat) : MOf d d a b := ⟨rfl, fun _ _ => rfl, List.Perm.refl _⟩
theorem MOf.trans (h : MOf d d1 a b) (k : MOf d1 d2 a b) : MOf d d2 a b := ⟨k.size.trans h.size, fun t ht => (k.out t ht).trans (h.out t ht), k.perm.trans h.perm⟩
theorem range_cut (a m b : Nat) (h1 : a ≤ m) (h2 : m ≤ b) : List.range' a (b - a) = List.range' a (m - a) ++ List.range' m (b - m) := by
  have h := (List.range'_append_1 (s := a) (m := m - a) (n := b - m)).symm
  rw [show a + (m - a) = m by omega, show m - a + (b - m) = b - a by omega] at h
  exact h
omit [Inhabited α] in
theorem map_out {f g : Nat → α} (h : ∀ t, a ≤ t → t < b → f t = g t) : (List.range' a (b - a)).map f = (List.range' a (b - a)).map g := List.map_congr_left fun t ht => by
  rw [List.mem_range'_1] at ht
  exact h t ht.1 (by omega)
theorem MOf.wide (h : MOf d d1 a b) {a2 b2 : Nat} (h1 : a2 ≤ a) (h0 : a ≤ b) (h2 : b ≤ b2) : MOf d d1 a2 b2 := by
  refine ⟨h.size, fun t ht => h.out t (by omega), ?_⟩
  rw [range_cut a2 a b2 h1 (by omega), range_cut a b b2 h0 h2]
  simp only [List.map_append]
  rw [map_out (f := fun t => d1[t]!) (g := fun t => d[t]!) (a := a2) (b := a) fun t ha hb => h.out t (by omega), map_out (f := fun t => d1[t]!) (g := fun t => d[t]!) (a := b) (b := b2) fun t ha hb => h.out t (by omega)]
  exact (h.perm.append_right _).append_left _
theorem MOf.mem (h : MOf d d1 a b) {t : Nat} (h1 : a ≤ t) (h2 : t < b) : ∃ u, a ≤ u ∧ u < b ∧ d1[t]! = d[u]! := by
  have hm : d1[t]! ∈ (List.range' a (b - a)).map fun t => d1[t]! := List.mem_map.2 ⟨t, by rw [List.mem_range'_1]; omega, rfl⟩
  obtain ⟨u, hu, e⟩ := List.mem_map.1 (h.perm.mem_iff.1 hm)
  rw [List.mem_range'_1] at hu
  exact ⟨u, hu.1, by omega, e.symm⟩
omit [Inhabited α] in
theorem map_shift {f g : Nat → α} {n c : Nat} (h : ∀ t, t < n → f (a + t) = g (c + t)) : (List.range' a n).map f = (List.range' c n).map g := by
  refine List.ext_getElem? fun i => ?_
  simp only [List.getElem?_map]
  by_cases hi : i < n
  · rw [List.getElem?_range' hi, List.getElem?_range' hi]
    simp [h i hi]
  · rw [List.getElem?_eq_none (by simp; omega), List.getElem?_eq_none (by simp; omega)]
    rfl
theorem RotOf.mof (h : RotOf d d1 a m b) (h1 : a ≤ m) (h2 : m ≤ b) : MOf d d1 a b := by
  refine ⟨h.size, fun t ht => by rw [h.get, if_neg (by omega), if_neg (by omega)], ?_⟩
  rw [show (List.range' a (b - a)).map (fun t => d[t]!) = (List.range' a (m - a)).map (fun t => d[t]!) ++ (List.range' m (b - m)).map (fun t => d[t]!) by rw [← List.map_append, ← range_cut a m b h1 h2]]
  rw [range_cut a (a + (b - m)) b (by omega) (by omega), List.map_append]
  rw [show (List.range' a (a + (b - m) - a)).map (fun t => d1[t]!) = (List.range' m (b - m)).map (fun t => d[t]!) by
    rw [show a + (b - m) - a = b - m by omega]
    refine map_shift fun t ht => ?_
    rw [h.get, if_pos (by omega)]
    congr 1
    omega]
  rw [show (List.range' (a + (b - m)) (b - (a + (b - m)))).map (fun t => d1[t]!) = (List.range' a (m - a)).map (fun t => d[t]!) by
    rw [show b - (a + (b - m)) = m - a by omega]
    refine map_shift fun t ht => ?_
    rw [h.get, if_neg (by omega), if_pos (by omega)]
    congr 1
    omega]
  exact List.perm_append_comm
/-- Both halves in order, and nothing of the second ahead of the first. -/
theorem sym_done {mid : Nat} (ha : a ≤ mid) (hb : mid ≤ b) (cross : ∀ i j, a ≤ i → i < mid → mid ≤ j → j < b → leL lt d1[i]! d1[j]!) (h1 : MOf d1 d2 a mid) (h2 : MOf d2 d3 mid b) (s1 : SrtIn lt d2 a mid) (s2 : SrtIn lt d3 mid b) : MOf d1 d3 a b ∧ SrtIn lt d3 a b := by
  refine ⟨(h1.wide (Nat.le_refl _) ha hb).trans (h2.wide ha hb (Nat.le_refl _)), fun i j hi hij hj => ?_⟩
  by_cases e1 : j < mid
  · rw [h2.out i (by omega), h2.out j (by omega)]
    exact s1 i j hi hij e1
  · by_cases e2 : mid ≤ i
    · exact s2 i j e2 hij hj
    · obtain ⟨u, u1, u2, e3⟩ := h2.mem (t := j) (by omega) hj
      obtain ⟨v, v1, v2, e4⟩ := h1.mem (t := i) hi (by omega)
      rw [e3, h2.out i (by omega), e4, h1.out u (by omega)]
      exact cross v u v1 v2 u1 u2
/-- Where the halves meet. -/
theorem sym_cross {mid s st r : Nat} (S : SwoL lt) (h1 : SrtIn lt d a m) (h2 : SrtIn lt d m b) (ham : a < m) (hmb : m < b) (hmid : mid = (a + b) / 2) (hst : (mid < m ∧ st = mid + m - b ∧ r = mid) ∨ (m ≤ mid ∧ st = a ∧ r = m))
    (hs : st ≤ s) (hr : s ≤ r) (p1 : s = st ∨ (st < s ∧ lt d[mid + m - 1 - (s - 1)]! d[s - 1]! = false)) (p2 : s = r ∨ lt d[mid + m - 1 - s]! d[s]! = true) (hR : RotOf d d1 s m (mid + m - s)) :
    ∀ i j, a ≤ i → i < mid → mid ≤ j → j < b → leL lt d1[i]! d1[j]! := by
  intro i j hi hi2 hj hj2
  rw [hR.get, hR.get]
  have hsm : s ≤ m := by omega
  have hsd : s ≤ mid := by omega
  have q1 : ∀ x y, a ≤ x → x < s → mid + m - s ≤ y → y < b → leL lt d[x]! d[y]! := fun x y hx hxs hy hyb => by
    rcases p1 with p1 | ⟨p0, p1⟩
    · omega
    · exact S.trans (h1.le S hx (show x ≤ s - 1 by omega) (by omega)) (S.trans p1 (h2.le S (by omega) (by omega) hyb))
  have q2 : ∀ x y, m ≤ x → x < mid + m - s → s ≤ y → y < m → leL lt d[x]! d[y]! := fun x y hx hxs hy hyb => by
    rcases p2 with p2 | p2
    · omega
    · exact S.trans (h2.le S hx (show x ≤ mid + m - 1 - s by omega) (by omega)) (S.trans (S.le_of_lt p2) (h1.le S (by omega) (by omega) hyb))
  by_cases e1 : i < s
  · rw [if_neg (by omega), if_neg (by omega)]
    by_cases e2 : j < mid + m - s
    · rw [if_neg (by omega), if_pos (by omega)]
      exact h1.le S hi (by omega) (by omega)
    · rw [if_neg (by omega), if_neg (by omega)]
      exact q1 i j hi e1 (by omega) hj2
  · rw [if_pos (by omega)]
    by_cases e2 : j < mid + m - s
    · rw [if_neg (by omega), if_pos (by omega)]
      exact q2 _ _ (by omega) (by omega) (by omega) (by omega)
    · rw [if_neg (by omega), if_neg (by omega)]
      exact h2.le S (by omega) (by omega) hj2
/-- The halves behind the turn are each two rising stretches. -/
theorem sym_parts {mid s : Nat} (h1 : SrtIn lt d a m) (h2 : SrtIn lt d m b) (hs : a ≤ s) (hsm : s ≤ m) (hsd : s ≤ mid) (he : mid + m - s ≤ b) (hR : RotOf d d1 s m (mid + m - s)) :
    SrtIn lt d1 a s ∧ SrtIn lt d1 s mid ∧ SrtIn lt d1 mid (mid + m - s) ∧ SrtIn lt d1 (mid + m - s) b := by
  refine ⟨fun i j hi hij hj => ?_, fun i j hi hij hj => ?_, fun i j hi hij hj => ?_, fun i j hi hij hj => ?_⟩
  · rw [hR.get, hR.get, if_neg (by omega), if_neg (by omega), if_neg (by omega), if_neg (by omega)]
    exact h1 i j hi hij (by omega)
  · rw [hR.get, hR.get, if_pos (by omega), if_pos (by omega)]
    exact h2 _ _ (by omega) (by omega) (by omega)
  · rw [hR.get, hR.get, if_neg (by omega), if_pos (by omega), if_neg (by omega), if_pos (by omega)]
    exact h1 _ _ (by omega) (by omega) (by omega)
  · rw [hR.get, hR.get, if_neg (by omega), if_neg (by omega), if_neg (by omega), if_neg (by omega)]
    exact h2 i j (by omega) hij hj
/-- One, ahead of a rising stretch. -/
theorem ins_left (S : SwoL lt) (h2 : SrtIn lt d (a + 1) b) (hi : a + 1 ≤ i) (hib : i ≤ b) (p1 : i = a + 1 ∨ lt d[i - 1]! d[a]! = true) (p2 : i = b ∨ lt d[i]! d[a]! = false) (hR : RotOf d d1 a (a + 1) i) : MOf d d1 a b ∧ SrtIn lt d1 a b := by
  refine ⟨(hR.mof (by omega) hi).wide (Nat.le_refl _) (by omega) hib, fun x y hx hxy hy => ?_⟩
  rw [hR.get, hR.get]
  by_cases e1 : y < i - 1
  · rw [if_pos (by omega), if_pos (by omega)]
    exact h2.le S (by omega) (by omega) (by omega)
  · by_cases e2 : y = i - 1
    · rw [if_pos (by omega), if_neg (by omega), if_pos (by omega), show y - (i - (a + 1)) = a by omega]
      rcases p1 with p1 | p1
      · omega
      · exact S.trans (h2.le S (show a + 1 ≤ x - a + (a + 1) by omega) (show _ ≤ i - 1 by omega) (by omega)) (S.le_of_lt p1)
    · rw [if_neg (c := a ≤ y ∧ y < a + (i - (a + 1))) (by omega), if_neg (c := a + (i - (a + 1)) ≤ y ∧ y < i) (by omega)]
      by_cases e3 : x < i - 1
      · rw [if_pos (by omega)]
        exact h2.le S (by omega) (by omega) hy
      · rw [if_neg (by omega)]
        by_cases e4 : x = i - 1
        · rw [if_pos (by omega), show x - (i - (a + 1)) = a by omega]
          rcases p2 with p2 | p2
          · omega
          · exact S.trans p2 (h2.le S (by omega) (by omega) hy)
        · rw [if_neg (by omega)]
          exact h2 x y (by omega) hxy hy
/-- One, behind a rising stretch. -/
theorem ins_right (S : SwoL lt) (h1 : SrtIn lt d a m) (hi : a ≤ i) (him : i ≤ m) (p1 : i = a ∨ lt d[m]! d[i - 1]! = false) (p2 : i = m ∨ lt d[m]! d[i]! = true) (hR : RotOf d d1 i m (m + 1)) : MOf d d1 a (m + 1) ∧ SrtIn lt d1 a (m + 1) := by
  refine ⟨(hR.mof him (by omega)).wide hi (by omega) (Nat.le_refl _), fun x y hx hxy hy => ?_⟩
  rw [hR.get, hR.get]
  by_cases e1 : x < i
  · rw [if_neg (c := i ≤ x ∧ x < i + (m + 1 - m)) (by omega), if_neg (c := i + (m + 1 - m) ≤ x ∧ x < m + 1) (by omega)]
    by_cases e2 : y < i
    · rw [if_neg (by omega), if_neg (by omega)]
      exact h1 x y hx hxy (by omega)
    · by_cases e3 : y = i
      · rw [if_pos (by omega), show y - i + m = m by omega]
        rcases p1 with p1 | p1
        · omega
        · exact S.trans (h1.le S hx (show x ≤ i - 1 by omega) (by omega)) p1
      · rw [if_neg (by omega), if_pos (by omega)]
        exact h1.le S hx (by omega) (by omega)
  · by_cases e3 : x = i
    · rw [if_pos (by omega), if_neg (by omega), if_pos (by omega), show x - i + m = m by omega]
      rcases p2 with p2 | p2
      · omega
      · exact S.trans (S.le_of_lt p2) (h1.le S (by omega) (by omega) (by omega))
    · rw [if_neg (c := i ≤ x ∧ x < i + (m + 1 - m)) (by omega), if_pos (by omega), if_neg (by omega), if_pos (by omega)]
      exact h1 _ _ (by omega) (by omega) (by omega)
theorem SrtIn.kept {x y : Nat} (h : SrtIn lt d x y) (hm : MOf d d1 a b) (hx : b ≤ x) : SrtIn lt d1 x y := fun i j hi hij hj => by
  rw [hm.out i (by omega), hm.out j (by omega)]
  exact h i j hi hij hj
end
end Go.Proofs.Ytlealjcllbpgkaa

/- Sets of addresses, plainly: the greatest blocks of a set; there is one list of them, rising. No condition but those that stand in each theorem. -/
import Derived.Test.YtlealjcllbpgkaaHp
namespace Go.Proofs.Ytlealjcllbpgkaa

/-- A block: its first address a multiple of its size. -/
def Val (a k : Nat) : Prop := k ≤ 32 ∧ 2 ^ k ∣ a ∧ a + 2 ^ k ≤ 4294967296
/-- All of a block is in a set. -/
def Wi (X : Nat → Prop) (a k : Nat) : Prop := ∀ x, a ≤ x → x < a + 2 ^ k → X x
/-- The block above: its first address. -/
def par (a k : Nat) : Nat := a - a % 2 ^ (k + 1)
/-- A greatest block of a set. -/
def Mx (X : Nat → Prop) (a k : Nat) : Prop := Val a k ∧ Wi X a k ∧ (k < 32 → ¬ Wi X (par a k) (k + 1))
/-- All greatest blocks of a set, rising. -/
def Canon (X : Nat → Prop) (l : List (Nat × Nat)) : Prop := l.Pairwise (fun p q => p.1 < q.1) ∧ ∀ a k, (a, k) ∈ l ↔ Mx X a k

theorem p2_pos (k : Nat) : 0 < 2 ^ k := Nat.pow_pos (by omega)
theorem p2_succ (k : Nat) : 2 ^ (k + 1) = 2 ^ k + 2 ^ k := by rw [Nat.pow_succ, Nat.mul_two]
theorem p2_dvd {j k : Nat} (h : j ≤ k) : 2 ^ j ∣ 2 ^ k := Nat.pow_dvd_pow 2 h
theorem p2_lt {j k : Nat} (h : j < k) : 2 ^ j + 2 ^ j ≤ 2 ^ k := by
  rw [← p2_succ]
  exact Nat.pow_le_pow_right (by omega) h
/-- Two multiples: what is below is below by one of them. -/
theorem mul_le {d a b : Nat} (ha : d ∣ a) (hb : d ∣ b) (h : a < b) : a + d ≤ b := by
  obtain ⟨m, rfl⟩ := ha
  obtain ⟨n, rfl⟩ := hb
  have h1 : m < n := Nat.lt_of_mul_lt_mul_left h
  have h2 := Nat.mul_le_mul_left d (show m + 1 ≤ n by omega)
  rwa [Nat.mul_add, Nat.mul_one] at h2
/-- A block that begins in a block that is no smaller is of it. -/
theorem val_in {a k g j : Nat} (h : 2 ^ k ∣ a) (h1 : 2 ^ j ∣ g) (hk : k ≤ j) (h2 : a < g + 2 ^ j) : a + 2 ^ k ≤ g + 2 ^ j :=
  mul_le h (Nat.dvd_add (Nat.dvd_trans (p2_dvd hk) h1) (p2_dvd hk)) h2
/-- The block above, in words. -/
theorem par_two {a k : Nat} (h : 2 ^ k ∣ a) : (2 ^ (k + 1) ∣ a ∧ par a k = a) ∨ (¬ 2 ^ (k + 1) ∣ a ∧ 2 ^ k ≤ a ∧ par a k = a - 2 ^ k ∧ 2 ^ (k + 1) ∣ a - 2 ^ k) := by
  unfold par
  have hp := p2_pos k
  have hs := p2_succ k
  by_cases hd : 2 ^ (k + 1) ∣ a
  · exact .inl ⟨hd, by rw [Nat.mod_eq_zero_of_dvd hd]; rfl⟩
  · obtain ⟨m, rfl⟩ := h
    have hm : m % 2 = 1 := by
      rcases Nat.mod_two_eq_zero_or_one m with h0 | h0
      · exfalso
        apply hd
        rw [Nat.pow_succ]
        exact Nat.mul_dvd_mul_left _ (Nat.dvd_of_mod_eq_zero h0)
      · exact h0
    have he : 2 ^ k * m = 2 ^ (k + 1) * (m / 2) + 2 ^ k := by
      have : m = 2 * (m / 2) + 1 := by omega
      conv => lhs; rw [this]
      rw [Nat.mul_add, Nat.mul_one, Nat.pow_succ, Nat.mul_assoc]
    refine .inr ⟨hd, by rw [he]; omega, ?_, ?_⟩
    · have : (2 ^ k * m) % 2 ^ (k + 1) = 2 ^ k := by
        rw [he, Nat.mul_add_mod, Nat.mod_eq_of_lt (by omega)]
      rw [this]
    · rw [he, Nat.add_sub_cancel]
      exact Nat.dvd_mul_right _ _
theorem par_dvd {a k : Nat} (h : 2 ^ k ∣ a) : 2 ^ (k + 1) ∣ par a k := by
  rcases par_two h with ⟨h1, h2⟩ | ⟨_, _, h2, h3⟩
  · rw [h2]; exact h1
  · rw [h2]; exact h3
theorem par_le {a k : Nat} (h : 2 ^ k ∣ a) : par a k ≤ a ∧ a + 2 ^ k ≤ par a k + 2 ^ (k + 1) := by
  have hs := p2_succ k
  rcases par_two h with ⟨h1, h2⟩ | ⟨_, _, h2, h3⟩ <;> rw [h2] <;> omega
theorem par_val {a k : Nat} (h : Val a k) (hk : k < 32) : Val (par a k) (k + 1) := by
  obtain ⟨h1, h2, h3⟩ := h
  refine ⟨hk, par_dvd h2, ?_⟩
  have hd : 2 ^ (k + 1) ∣ 4294967296 := p2_dvd (show k + 1 ≤ 32 by omega)
  have := par_le h2
  have hp := p2_pos k
  exact mul_le (par_dvd h2) hd (by omega)
/-- The block above is of each greater block in which one begins. -/
theorem par_in {a k g j : Nat} (h : 2 ^ k ∣ a) (h1 : 2 ^ j ∣ g) (hk : k < j) (h2 : g ≤ a) (h3 : a < g + 2 ^ j) : g ≤ par a k ∧ par a k + 2 ^ (k + 1) ≤ g + 2 ^ j := by
  have hl := par_le h
  refine ⟨?_, val_in (par_dvd h) h1 hk (by omega)⟩
  rcases Nat.lt_or_ge (par a k) g with hlt | hge
  · have := mul_le (par_dvd h) (Nat.dvd_trans (p2_dvd hk) h1) hlt
    have := p2_pos k
    omega
  · exact hge
/-- Greatest blocks that meet are one. -/
theorem mx_meet {X : Nat → Prop} {a k g j : Nat} (h : Mx X a k) (h1 : Mx X g j) (h2 : g ≤ a) (h3 : a < g + 2 ^ j) : a = g ∧ k = j := by
  obtain ⟨⟨hk, hd, hb⟩, hw, hm⟩ := h
  obtain ⟨⟨hk1, hd1, hb1⟩, hw1, hm1⟩ := h1
  rcases Nat.lt_trichotomy k j with hlt | rfl | hgt
  · exfalso
    refine hm (by omega) fun x hx hx2 => ?_
    have := par_in hd hd1 hlt h2 h3
    exact hw1 x (by omega) (by omega)
  · have := val_in hd hd1 (Nat.le_refl _) h3
    exact ⟨by omega, rfl⟩
  · exfalso
    have hga : g = a := by
      rcases Nat.lt_or_ge g a with hlt | hge
      · have := mul_le hd1 (Nat.dvd_trans (p2_dvd (Nat.le_of_lt hgt)) hd) hlt
        omega
      · omega
    subst hga
    have := p2_pos k
    refine hm1 (by omega) fun x hx hx2 => ?_
    have := par_in hd1 hd hgt (Nat.le_refl _) (by omega)
    exact hw x (by omega) (by omega)
/-- What is greatest blocks, rising, and has all of a set is all of them. -/
theorem canon_of {X : Nat → Prop} {l : List (Nat × Nat)} (hs : l.Pairwise (fun p q => p.1 < q.1)) (hm : ∀ p ∈ l, Mx X p.1 p.2) (hc : ∀ x, X x → x < 4294967296 → ∃ p ∈ l, p.1 ≤ x ∧ x < p.1 + 2 ^ p.2) : Canon X l := by
  refine ⟨hs, fun a k => ⟨fun h => hm _ h, fun h => ?_⟩⟩
  have hp := p2_pos k
  have ha := h.1.2.2
  obtain ⟨p, hp1, hp2, hp3⟩ := hc a (h.2.1 a (Nat.le_refl _) (by omega)) (by omega)
  obtain ⟨rfl, rfl⟩ := mx_meet h (hm p hp1) hp2 hp3
  exact hp1
theorem sorted_ext : ∀ {l m : List (Nat × Nat)}, l.Pairwise (fun p q => p.1 < q.1) → m.Pairwise (fun p q => p.1 < q.1) → (∀ p, p ∈ l ↔ p ∈ m) → l = m
  | [], [], _, _, _ => rfl
  | [], q :: m, _, _, h => absurd ((h q).2 (List.mem_cons_self ..)) (by simp)
  | p :: l, [], _, _, h => absurd ((h p).1 (List.mem_cons_self ..)) (by simp)
  | p :: l, q :: m, hl, hm, h => by
    obtain ⟨hl1, hl2⟩ := List.pairwise_cons.1 hl
    obtain ⟨hm1, hm2⟩ := List.pairwise_cons.1 hm
    have e : p = q := by
      rcases List.mem_cons.1 ((h p).1 (List.mem_cons_self ..)) with h1 | h1
      · exact h1
      · rcases List.mem_cons.1 ((h q).2 (List.mem_cons_self ..)) with h2 | h2
        · exact h2.symm
        · have := hl1 q h2
          have := hm1 p h1
          omega
    subst e
    congr 1
    refine sorted_ext hl2 hm2 fun x => ⟨fun hx => ?_, fun hx => ?_⟩
    · rcases List.mem_cons.1 ((h x).1 (List.mem_cons_of_mem _ hx)) with h1 | h1
      · subst h1; exact absurd (hl1 x hx) (Nat.lt_irrefl _)
      · exact h1
    · rcases List.mem_cons.1 ((h x).2 (List.mem_cons_of_mem _ hx)) with h1 | h1
      · subst h1; exact absurd (hm1 x hx) (Nat.lt_irrefl _)
      · exact h1
theorem canon_one {X : Nat → Prop} {l m : List (Nat × Nat)} (h : Canon X l) (h1 : Canon X m) : l = m :=
  sorted_ext h.1 h1.1 fun p => (h.2 p.1 p.2).trans (h1.2 p.1 p.2).symm
theorem wi_iff {X Y : Nat → Prop} (h : ∀ x, x < 4294967296 → (X x ↔ Y x)) {a k : Nat} (hv : Val a k) : Wi X a k ↔ Wi Y a k :=
  ⟨fun hw x h1 h2 => (h x (by have := hv.2.2; omega)).1 (hw x h1 h2), fun hw x h1 h2 => (h x (by have := hv.2.2; omega)).2 (hw x h1 h2)⟩
theorem mx_iff {X Y : Nat → Prop} (h : ∀ x, x < 4294967296 → (X x ↔ Y x)) {a k : Nat} : Mx X a k ↔ Mx Y a k :=
  ⟨fun ⟨h1, h2, h3⟩ => ⟨h1, (wi_iff h h1).1 h2, fun hk hw => h3 hk ((wi_iff h (par_val h1 hk)).2 hw)⟩, fun ⟨h1, h2, h3⟩ => ⟨h1, (wi_iff h h1).2 h2, fun hk hw => h3 hk ((wi_iff h (par_val h1 hk)).1 hw)⟩⟩
theorem Canon.iff {X Y : Nat → Prop} {l : List (Nat × Nat)} (h : ∀ x, x < 4294967296 → (X x ↔ Y x)) (hc : Canon X l) : Canon Y l :=
  ⟨hc.1, fun a k => (hc.2 a k).trans (mx_iff h)⟩

/-- From one address up to another: each time the greatest block that may be. -/
def Top (f t k : Nat) : Prop := k ≤ 32 ∧ 2 ^ k ∣ f ∧ f + 2 ^ k ≤ t ∧ ¬ (2 ^ (k + 1) ∣ f ∧ f + 2 ^ (k + 1) ≤ t)
def Gre : Nat → Nat → List (Nat × Nat) → Prop
  | f, t, [] => f = t
  | f, t, p :: l => p.1 = f ∧ Top f t p.2 ∧ Gre (f + 2 ^ p.2) t l
/-- Where the left half is there the right one is not. -/
def Inv (f g t : Nat) : Prop := ∀ k, 2 ^ k ∣ g → ¬ 2 ^ (k + 1) ∣ g → f + 2 ^ k ≤ g → t < g + 2 ^ k
theorem inv_step {f g t j : Nat} (h : Inv f g t) (ht : Top g t j) : Inv f (g + 2 ^ j) t := by
  intro k h1 h2 h3
  obtain ⟨_, t1, t2, t3⟩ := ht
  rcases Nat.lt_trichotomy k j with hlt | rfl | hgt
  · exfalso
    apply h2
    exact Nat.dvd_add (Nat.dvd_trans (p2_dvd hlt) t1) (p2_dvd hlt)
  · have hd : 2 ^ (k + 1) ∣ g := by
      rcases par_two t1 with ⟨h4, _⟩ | ⟨_, h5, _, h4⟩
      · exact h4
      · exfalso
        apply h2
        have := Nat.dvd_add h4 (Nat.dvd_refl (2 ^ (k + 1)))
        rw [p2_succ] at this
        rwa [show g - 2 ^ k + (2 ^ k + 2 ^ k) = g + 2 ^ k by omega, ← p2_succ] at this
    have := p2_succ k
    rcases Nat.lt_or_ge t (g + 2 ^ k + 2 ^ k) with h4 | h4
    · exact h4
    · exact absurd ⟨hd, by omega⟩ t3
  · exfalso
    have hn : ¬ 2 ^ (j + 1) ∣ g := by
      intro hd
      have h4 : 2 ^ (j + 1) ∣ g + 2 ^ j := Nat.dvd_trans (p2_dvd hgt) h1
      have h5 := (Nat.dvd_add_right hd).1 h4
      have := Nat.le_of_dvd (p2_pos j) h5
      have := p2_succ j
      have := p2_pos j
      omega
    have := p2_lt hgt
    have := h j t1 hn (by omega)
    omega
/-- What is taken so is greatest blocks of what is between. -/
theorem gre_mx {f t : Nat} (ht : t ≤ 4294967296) : ∀ (l : List (Nat × Nat)) (g : Nat), f ≤ g → Inv f g t → Gre g t l → ∀ p ∈ l, Mx (fun x => f ≤ x ∧ x < t) p.1 p.2
  | [], _, _, _, _, p, hp => absurd hp (by simp)
  | q :: l, g, hg, hi, hr, p, hp => by
    obtain ⟨rfl, htop, hr⟩ := hr
    rcases List.mem_cons.1 hp with rfl | hp
    · have htop' := htop
      obtain ⟨t0, t1, t2, t3⟩ := htop
      refine ⟨⟨t0, t1, by omega⟩, fun x h1 h2 => ⟨by omega, by omega⟩, fun hk hw => ?_⟩
      have hs := p2_succ p.2
      have hpos := p2_pos p.2
      rcases par_two t1 with ⟨h4, h5⟩ | ⟨h6, h7, h5, h4⟩
      · rw [h5] at hw
        have := (hw (p.1 + 2 ^ (p.2 + 1) - 1) (by omega) (by omega)).2
        exact t3 ⟨h4, by omega⟩
      · rw [h5] at hw
        have := (hw (p.1 - 2 ^ p.2) (by omega) (by omega)).1
        have := hi p.2 t1 h6 (by omega)
        omega
    · exact gre_mx ht l (q.1 + 2 ^ q.2) (Nat.le_trans hg (Nat.le_add_right _ _)) (inv_step hi htop) hr p hp
theorem gre_ge : ∀ (l : List (Nat × Nat)) (g t : Nat), Gre g t l → g ≤ t ∧ (∀ p ∈ l, g ≤ p.1 ∧ p.1 + 2 ^ p.2 ≤ t) ∧ l.Pairwise (fun p q => p.1 < q.1) ∧ (∀ x, g ≤ x → x < t → ∃ p ∈ l, p.1 ≤ x ∧ x < p.1 + 2 ^ p.2)
  | [], g, t, h => by
    have h' : g = t := h
    exact ⟨by omega, fun p hp => absurd hp (by simp), List.Pairwise.nil, fun x h1 h2 => by omega⟩
  | q :: l, g, t, h => by
    obtain ⟨rfl, htop, hr⟩ := h
    obtain ⟨h1, h2, h3, h4⟩ := gre_ge l _ t hr
    have hp := p2_pos q.2
    refine ⟨by omega, fun p hp2 => ?_, List.pairwise_cons.2 ⟨fun p hp2 => ?_, h3⟩, fun x hx hx2 => ?_⟩
    · rcases List.mem_cons.1 hp2 with rfl | hp2
      · exact ⟨Nat.le_refl _, htop.2.2.1⟩
      · have := h2 p hp2
        omega
    · have := h2 p hp2
      omega
    · rcases Nat.lt_or_ge x (q.1 + 2 ^ q.2) with hlt | hge
      · exact ⟨q, List.mem_cons_self .., hx, hlt⟩
      · obtain ⟨p, hp1, hp2⟩ := h4 x hge hx2
        exact ⟨p, List.mem_cons_of_mem _ hp1, hp2⟩

/-- Spans of addresses, rising, apart. -/
def Apart : List (Nat × Nat) → Prop
  | [] => True
  | s :: l => s.1 < s.2 ∧ s.2 ≤ 4294967296 ∧ (∀ u ∈ l, s.2 < u.1) ∧ Apart l
/-- The addresses of spans. -/
def InS (l : List (Nat × Nat)) (x : Nat) : Prop := ∃ s ∈ l, s.1 ≤ x ∧ x < s.2
/-- Each span taken by greatest blocks. -/
def Gres : List (Nat × Nat) → List (Nat × Nat) → Prop
  | [], l => l = []
  | s :: r, l => ∃ l1 l2, l = l1 ++ l2 ∧ Gre s.1 s.2 l1 ∧ Gres r l2
theorem gres_in : ∀ (r l : List (Nat × Nat)), Gres r l → ∀ p ∈ l, ∃ s ∈ r, s.1 ≤ p.1 ∧ p.1 + 2 ^ p.2 ≤ s.2
  | [], l, h, p, hp => by rw [show l = [] from h] at hp; exact absurd hp (by simp)
  | s :: r, l, h, p, hp => by
    obtain ⟨l1, l2, rfl, h1, h2⟩ := h
    rcases List.mem_append.1 hp with hp | hp
    · exact ⟨s, List.mem_cons_self .., ((gre_ge l1 _ _ h1).2.1 p hp)⟩
    · obtain ⟨u, hu, h3⟩ := gres_in r l2 h2 p hp
      exact ⟨u, List.mem_cons_of_mem _ hu, h3⟩
theorem gres_sorted : ∀ (r l : List (Nat × Nat)), Apart r → Gres r l → l.Pairwise (fun p q => p.1 < q.1)
  | [], l, _, h => by rw [show l = [] from h]; exact List.Pairwise.nil
  | s :: r, l, ha, h => by
    obtain ⟨l1, l2, rfl, h1, h2⟩ := h
    obtain ⟨_, _, a3, a4⟩ := ha
    refine List.pairwise_append.2 ⟨(gre_ge l1 _ _ h1).2.2.1, gres_sorted r l2 a4 h2, fun p hp q hq => ?_⟩
    have h3 := (gre_ge l1 _ _ h1).2.1 p hp
    obtain ⟨u, hu, h4, _⟩ := gres_in r l2 h2 q hq
    have := a3 u hu
    have := p2_pos p.2
    omega
/-- What is without a break in spans apart is in one of them. -/
theorem apart_one : ∀ (r : List (Nat × Nat)), Apart r → ∀ s ∈ r, ∀ a b g : Nat, (∀ x, a ≤ x → x < b → InS r x) → a ≤ g → g < b → s.1 ≤ g → g < s.2 → s.1 ≤ a ∧ b ≤ s.2
  | [], _, s, hs, _, _, _, _, _, _, _, _ => absurd hs (by simp)
  | t :: r, ha, s, hs, a, b, g, hx, h1, h2, h3, h4 => by
    obtain ⟨a1, a2, a3, a4⟩ := ha
    rcases List.mem_cons.1 hs with rfl | hs
    · refine ⟨?_, ?_⟩
      · rcases Nat.lt_or_ge a s.1 with hlt | hge
        · obtain ⟨u, hu, h5, h6⟩ := hx a (Nat.le_refl _) (by omega)
          rcases List.mem_cons.1 hu with rfl | hu
          · exact h5
          · have := a3 u hu; omega
        · exact hge
      · rcases Nat.lt_or_ge s.2 b with hlt | hge
        · obtain ⟨u, hu, h5, h6⟩ := hx s.2 (by omega) hlt
          rcases List.mem_cons.1 hu with rfl | hu
          · omega
          · have := a3 u hu; omega
        · exact hge
    · have hst := a3 s hs
      have hat : t.2 < a := by
        rcases Nat.lt_or_ge t.2 a with hlt | hge
        · exact hlt
        · exfalso
          obtain ⟨u, hu, h5, h6⟩ := hx t.2 hge (by omega)
          rcases List.mem_cons.1 hu with rfl | hu
          · omega
          · have := a3 u hu; omega
      refine apart_one r a4 s hs a b g (fun x h5 h6 => ?_) h1 h2 h3 h4
      obtain ⟨u, hu, h7, h8⟩ := hx x h5 h6
      rcases List.mem_cons.1 hu with rfl | hu
      · omega
      · exact ⟨u, hu, h7, h8⟩
theorem gres_mx : ∀ (r l : List (Nat × Nat)), Apart r → Gres r l → ∀ p ∈ l, ∃ s ∈ r, Mx (fun x => s.1 ≤ x ∧ x < s.2) p.1 p.2
  | [], l, _, h, p, hp => by rw [show l = [] from h] at hp; exact absurd hp (by simp)
  | s :: r, l, ha, h, p, hp => by
    obtain ⟨l1, l2, rfl, h1, h2⟩ := h
    obtain ⟨a1, a2, a3, a4⟩ := ha
    rcases List.mem_append.1 hp with hp | hp
    · refine ⟨s, List.mem_cons_self .., gre_mx a2 l1 s.1 (Nat.le_refl _) (fun k _ _ h3 => ?_) h1 p hp⟩
      have := p2_pos k
      omega
    · obtain ⟨u, hu, h3⟩ := gres_mx r l2 a4 h2 p hp
      exact ⟨u, List.mem_cons_of_mem _ hu, h3⟩
theorem gres_cover : ∀ (r l : List (Nat × Nat)), Gres r l → ∀ x, InS r x → ∃ p ∈ l, p.1 ≤ x ∧ x < p.1 + 2 ^ p.2
  | [], _, _, _, ⟨_, hs, _⟩ => absurd hs (by simp)
  | s :: r, l, h, x, ⟨u, hu, h3, h4⟩ => by
    obtain ⟨l1, l2, rfl, h1, h2⟩ := h
    rcases List.mem_cons.1 hu with rfl | hu
    · obtain ⟨p, hp, h5⟩ := (gre_ge l1 _ _ h1).2.2.2 x h3 h4
      exact ⟨p, List.mem_append.2 (.inl hp), h5⟩
    · obtain ⟨p, hp, h5⟩ := gres_cover r l2 h2 x ⟨u, hu, h3, h4⟩
      exact ⟨p, List.mem_append.2 (.inr hp), h5⟩
/-- Spans apart, each taken by greatest blocks: all greatest blocks of their addresses, rising. -/
theorem gres_canon {r l : List (Nat × Nat)} (ha : Apart r) (h : Gres r l) : Canon (InS r) l := by
  refine canon_of (gres_sorted r l ha h) (fun p hp => ?_) (fun x hx _ => gres_cover r l h x hx)
  obtain ⟨s, hs, hv, hw, hm⟩ := gres_mx r l ha h p hp
  refine ⟨hv, fun x h1 h2 => ⟨s, hs, hw x h1 h2⟩, fun hk hw2 => hm hk fun x h1 h2 => ?_⟩
  have hp1 := par_le hv.2.1
  have hpos := p2_pos p.2
  have h0 := hw p.1 (Nat.le_refl _) (by omega)
  have := apart_one r ha s hs (par p.1 p.2) (par p.1 p.2 + 2 ^ (p.2 + 1)) p.1 hw2 hp1.1 (by omega) h0.1 h0.2
  omega
end Go.Proofs.Ytlealjcllbpgkaa

namespace Go.Proofs.Ytlealjcllbpgkaa

/-- Spans joined to one that came ahead. -/
def mg : Nat × Nat → List (Nat × Nat) → List (Nat × Nat)
  | c, [] => [c]
  | c, s :: l => if s.1 ≤ c.2 then mg (c.1, max c.2 s.2) l else c :: mg s l
def mergeL : List (Nat × Nat) → List (Nat × Nat)
  | [] => []
  | s :: l => mg s l
/-- A span that may be. -/
def Spn (s : Nat × Nat) : Prop := s.1 < s.2 ∧ s.2 ≤ 4294967296
theorem mg_ok : ∀ (l : List (Nat × Nat)) (c : Nat × Nat), Spn c → (∀ s ∈ l, Spn s ∧ c.1 ≤ s.1) → l.Pairwise (fun p q => p.1 ≤ q.1) → Apart (mg c l) ∧ (∀ u ∈ mg c l, c.1 ≤ u.1) ∧ ∀ x, InS (mg c l) x ↔ InS (c :: l) x
  | [], c, hc, _, _ => ⟨⟨hc.1, hc.2, fun u hu => absurd hu (by simp), trivial⟩, fun u hu => by rw [List.mem_singleton.1 hu]; exact Nat.le_refl _, fun x => Iff.rfl⟩
  | s :: l, c, hc, hl, hs => by
    obtain ⟨hs1, hs2⟩ := List.pairwise_cons.1 hs
    obtain ⟨hss, hcs⟩ := hl s (List.mem_cons_self ..)
    unfold mg
    split
    · rename_i hle
      obtain ⟨h1, h2, h3⟩ := mg_ok l (c.1, max c.2 s.2) ⟨by have := hc.1; simp only; omega, by have := hc.2; have := hss.2; simp only; omega⟩ (fun u hu => ⟨(hl u (List.mem_cons_of_mem _ hu)).1, (hl u (List.mem_cons_of_mem _ hu)).2⟩) hs2
      refine ⟨h1, h2, fun x => (h3 x).trans ⟨fun ⟨u, hu, h4, h5⟩ => ?_, fun ⟨u, hu, h4, h5⟩ => ?_⟩⟩
      · rcases List.mem_cons.1 hu with rfl | hu
        · simp only at h4 h5
          by_cases hx : x < c.2
          · exact ⟨c, List.mem_cons_self .., h4, hx⟩
          · exact ⟨s, List.mem_cons_of_mem _ (List.mem_cons_self ..), by omega, by omega⟩
        · exact ⟨u, List.mem_cons_of_mem _ (List.mem_cons_of_mem _ hu), h4, h5⟩
      · rcases List.mem_cons.1 hu with rfl | hu
        · exact ⟨_, List.mem_cons_self .., h4, by simp only; omega⟩
        · rcases List.mem_cons.1 hu with rfl | hu
          · exact ⟨_, List.mem_cons_self .., by simp only; omega, by simp only; omega⟩
          · exact ⟨u, List.mem_cons_of_mem _ hu, h4, h5⟩
    · rename_i hgt
      obtain ⟨h1, h2, h3⟩ := mg_ok l s hss (fun u hu => ⟨(hl u (List.mem_cons_of_mem _ hu)).1, hs1 u hu⟩) hs2
      refine ⟨⟨hc.1, hc.2, fun u hu => by have := h2 u hu; omega, h1⟩, fun u hu => ?_, fun x => ⟨fun ⟨u, hu, h4⟩ => ?_, fun ⟨u, hu, h4⟩ => ?_⟩⟩
      · rcases List.mem_cons.1 hu with rfl | hu
        · exact Nat.le_refl _
        · have := h2 u hu; omega
      · rcases List.mem_cons.1 hu with rfl | hu
        · exact ⟨_, List.mem_cons_self .., h4⟩
        · obtain ⟨v, hv, h5⟩ := (h3 x).1 ⟨u, hu, h4⟩
          exact ⟨v, List.mem_cons_of_mem _ hv, h5⟩
      · rcases List.mem_cons.1 hu with rfl | hu
        · exact ⟨_, List.mem_cons_self .., h4⟩
        · obtain ⟨v, hv, h5⟩ := (h3 x).2 ⟨u, hu, h4⟩
          exact ⟨v, List.mem_cons_of_mem _ hv, h5⟩
/-- Spans by their beginnings, joined: apart, with the same addresses. -/
theorem merge_ok (l : List (Nat × Nat)) (h : ∀ s ∈ l, Spn s) (hs : l.Pairwise (fun p q => p.1 ≤ q.1)) : Apart (mergeL l) ∧ ∀ x, InS (mergeL l) x ↔ InS l x := by
  cases l with
  | nil => exact ⟨trivial, fun x => Iff.rfl⟩
  | cons s l =>
    obtain ⟨hs1, hs2⟩ := List.pairwise_cons.1 hs
    obtain ⟨h1, _, h3⟩ := mg_ok l s (h s (List.mem_cons_self ..)) (fun u hu => ⟨h u (List.mem_cons_of_mem _ hu), hs1 u hu⟩) hs2
    exact ⟨h1, h3⟩
theorem apart_spn : ∀ (l : List (Nat × Nat)), Apart l → ∀ s ∈ l, Spn s
  | [], _, s, hs => absurd hs (by simp)
  | t :: l, h, s, hs => by
    rcases List.mem_cons.1 hs with rfl | hs
    · exact ⟨h.1, h.2.1⟩
    · exact apart_spn l h.2.2.2 s hs

/-- From end to end: what is wanted, joined where it meets. -/
def tw (w : Nat → Bool) : Option (Nat × Nat) → Nat → List Nat → List (Nat × Nat)
  | o, _, [] => o.toList
  | o, e, d :: l => if w e = false ∨ e = d then tw w o d l else match o with
    | some c => if c.2 = e then tw w (some (c.1, d)) d l else c :: tw w (some (e, d)) d l
    | none => tw w (some (e, d)) d l
def twL (w : Nat → Bool) : List Nat → List (Nat × Nat)
  | [] => []
  | e :: l => tw w none e l
/-- An address between two ends, the first of which is wanted. -/
def Seg (w : Nat → Bool) : Nat → List Nat → Nat → Prop
  | _, [], _ => False
  | e, d :: l, x => (w e = true ∧ e ≤ x ∧ x < d) ∨ Seg w d l x
theorem seg_ge (w : Nat → Bool) : ∀ (l : List Nat) (e x : Nat), (e :: l).Pairwise (· ≤ ·) → Seg w e l x → e ≤ x
  | [], _, _, _, h => absurd h (by simp [Seg])
  | d :: l, e, x, hs, h => by
    obtain ⟨hs1, hs2⟩ := List.pairwise_cons.1 hs
    rcases h with h | h
    · exact h.2.1
    · have := seg_ge w l d x hs2 h
      have := hs1 d (List.mem_cons_self ..)
      omega
theorem tw_ok (w : Nat → Bool) : ∀ (l : List Nat) (o : Option (Nat × Nat)) (e : Nat), (e :: l).Pairwise (· ≤ ·) → (∀ z ∈ e :: l, z ≤ 4294967296) → (∀ c, o = some c → c.1 < c.2 ∧ c.2 ≤ e) →
    Apart (tw w o e l) ∧ (∀ u ∈ tw w o e l, (∃ c, o = some c ∧ c.1 ≤ u.1) ∨ e ≤ u.1) ∧ (∀ u ∈ tw w o e l, ∀ c, o = some c → c.1 ≤ u.1) ∧ ∀ x, InS (tw w o e l) x ↔ (∃ c, o = some c ∧ c.1 ≤ x ∧ x < c.2) ∨ Seg w e l x
  | [], none, e, _, _, _ => ⟨trivial, fun u hu => absurd hu (by simp [tw]), fun u hu => absurd hu (by simp [tw]), fun x => ⟨fun ⟨u, hu, _⟩ => absurd hu (by simp [tw]), fun h => by rcases h with ⟨c, hc, _⟩ | h <;> simp [Seg] at *⟩⟩
  | [], some c, e, _, hz, ho => by
    have hc := ho c rfl
    have he := hz e (List.mem_cons_self ..)
    have hm : ∀ u, u ∈ tw w (some c) e [] ↔ u = c := fun u => by simp [tw]
    refine ⟨⟨hc.1, by omega, fun u hu => absurd hu (by simp), trivial⟩, fun u hu => ?_, fun u hu d hd => ?_, fun x => ⟨fun ⟨u, hu, h⟩ => ?_, fun h => ?_⟩⟩
    · rw [(hm u).1 hu]; exact .inl ⟨c, rfl, Nat.le_refl _⟩
    · rw [(hm u).1 hu]; injection hd with hd; rw [hd]; exact Nat.le_refl _
    · rw [(hm u).1 hu] at h; exact .inl ⟨c, rfl, h⟩
    · rcases h with ⟨d, hd, h⟩ | h
      · injection hd with hd; subst hd; exact ⟨c, (hm c).2 rfl, h⟩
      · exact absurd h (by simp [Seg])
  | d :: l, o, e, hs, hz, ho => by
    obtain ⟨hs1, hs2⟩ := List.pairwise_cons.1 hs
    have hed := hs1 d (List.mem_cons_self ..)
    have hz2 : ∀ z ∈ d :: l, z ≤ 4294967296 := fun z h => hz z (List.mem_cons_of_mem _ h)
    unfold tw
    split
    · rename_i hn
      obtain ⟨h1, h2, h3, h4⟩ := tw_ok w l o d hs2 hz2 (fun c hc => ⟨(ho c hc).1, Nat.le_trans (ho c hc).2 hed⟩)
      refine ⟨h1, fun u hu => ?_, h3, fun x => (h4 x).trans ⟨fun h => ?_, fun h => ?_⟩⟩
      · rcases h2 u hu with h | h
        · exact .inl h
        · exact .inr (by omega)
      · rcases h with h | h
        · exact .inl h
        · exact .inr (.inr h)
      · rcases h with h | (⟨h5, h6, h7⟩ | h)
        · exact .inl h
        · rcases hn with hn | hn
          · rw [hn] at h5; cases h5
          · omega
        · exact .inr h
    · rename_i hn
      have hwe : w e = true := by
        cases hq : w e with
        | true => rfl
        | false => exact absurd (.inl hq) hn
      have hlt : e < d := by
        have : ¬ e = d := fun h => hn (.inr h)
        omega
      split
      · rename_i c
        have hc := ho c rfl
        split
        · rename_i hce
          obtain ⟨h1, h2, h3, h4⟩ := tw_ok w l (some (c.1, d)) d hs2 hz2 (fun c' hc' => by injection hc' with hc'; subst hc'; exact ⟨by simp only; omega, Nat.le_refl _⟩)
          refine ⟨h1, fun u hu => .inl ⟨c, rfl, h3 u hu (c.1, d) rfl⟩, fun u hu c' hc' => by injection hc' with hc'; subst hc'; exact h3 u hu (c.1, d) rfl, fun x => (h4 x).trans ⟨fun h => ?_, fun h => ?_⟩⟩
          · rcases h with ⟨c', hc', h5, h6⟩ | h
            · injection hc' with hc'
              subst hc'
              simp only at h5 h6
              by_cases hx : x < c.2
              · exact .inl ⟨c, rfl, h5, hx⟩
              · exact .inr (.inl ⟨hwe, by omega, h6⟩)
            · exact .inr (.inr h)
          · rcases h with ⟨c', hc', h5, h6⟩ | (⟨h5, h6, h7⟩ | h)
            · injection hc' with hc'
              subst hc'
              exact .inl ⟨_, rfl, h5, by simp only; omega⟩
            · exact .inl ⟨_, rfl, by simp only; omega, h7⟩
            · exact .inr h
        · rename_i hce
          obtain ⟨h1, h2, h3, h4⟩ := tw_ok w l (some (e, d)) d hs2 hz2 (fun c' hc' => by injection hc' with hc'; subst hc'; exact ⟨hlt, Nat.le_refl _⟩)
          have hd4 := hz d (List.mem_cons_of_mem _ (List.mem_cons_self ..))
          refine ⟨⟨hc.1, by omega, fun u hu => by have := h3 u hu _ rfl; simp only at this; omega, h1⟩, fun u hu => ?_, fun u hu c' hc' => ?_, fun x => ⟨fun ⟨u, hu, h⟩ => ?_, fun h => ?_⟩⟩
          · rcases List.mem_cons.1 hu with rfl | hu
            · exact .inl ⟨_, rfl, Nat.le_refl _⟩
            · exact .inr (h3 u hu _ rfl)
          · injection hc' with hc'
            subst hc'
            rcases List.mem_cons.1 hu with rfl | hu
            · exact Nat.le_refl _
            · have := h3 u hu _ rfl
              simp only at this
              omega
          · rcases List.mem_cons.1 hu with rfl | hu
            · exact .inl ⟨_, rfl, h⟩
            · rcases (h4 x).1 ⟨u, hu, h⟩ with ⟨c', hc', h5, h6⟩ | h5
              · injection hc' with hc'
                subst hc'
                exact .inr (.inl ⟨hwe, h5, h6⟩)
              · exact .inr (.inr h5)
          · rcases h with ⟨c', hc', h5⟩ | (⟨h5, h6, h7⟩ | h)
            · injection hc' with hc'
              subst hc'
              exact ⟨_, List.mem_cons_self .., h5⟩
            · obtain ⟨u, hu, h8⟩ := (h4 x).2 (.inl ⟨_, rfl, h6, h7⟩)
              exact ⟨u, List.mem_cons_of_mem _ hu, h8⟩
            · obtain ⟨u, hu, h8⟩ := (h4 x).2 (.inr h)
              exact ⟨u, List.mem_cons_of_mem _ hu, h8⟩
      · obtain ⟨h1, h2, h3, h4⟩ := tw_ok w l (some (e, d)) d hs2 hz2 (fun c' hc' => by injection hc' with hc'; subst hc'; exact ⟨hlt, Nat.le_refl _⟩)
        refine ⟨h1, fun u hu => .inr (h3 u hu _ rfl), fun u hu c' hc' => (by cases hc'), fun x => (h4 x).trans ⟨fun h => ?_, fun h => ?_⟩⟩
        · rcases h with ⟨c', hc', h5, h6⟩ | h
          · injection hc' with hc'
            subst hc'
            exact .inr (.inl ⟨hwe, h5, h6⟩)
          · exact .inr (.inr h)
        · rcases h with ⟨c', hc', _⟩ | (⟨h5, h6, h7⟩ | h)
          · cases hc'
          · exact .inl ⟨_, rfl, h6, h7⟩
          · exact .inr h
/-- Whether an address is in spans. -/
def inB2 (l : List (Nat × Nat)) (a : Nat) : Bool := l.any fun s => decide (s.1 ≤ a) && decide (a < s.2)
theorem inB2_iff (l : List (Nat × Nat)) (a : Nat) : inB2 l a = true ↔ InS l a := by
  unfold inB2 InS
  rw [List.any_eq_true]
  simp
/-- Between two ends nothing changes. -/
theorem inB2_same {l : List (Nat × Nat)} {e d x : Nat} (h : ∀ s ∈ l, (s.1 ≤ e ∨ d ≤ s.1) ∧ (s.2 ≤ e ∨ d ≤ s.2)) (h1 : e ≤ x) (h2 : x < d) : inB2 l x = inB2 l e := by
  rw [Bool.eq_iff_iff, inB2_iff, inB2_iff]
  constructor
  · rintro ⟨s, hs, h3, h4⟩
    obtain ⟨h5, h6⟩ := h s hs
    exact ⟨s, hs, by omega, by omega⟩
  · rintro ⟨s, hs, h3, h4⟩
    obtain ⟨h5, h6⟩ := h s hs
    exact ⟨s, hs, by omega, by omega⟩
theorem seg_iff (w : Bool → Bool → Bool) (a b : List (Nat × Nat)) (hw : w false false = false) : ∀ (l : List Nat) (e : Nat), (e :: l).Pairwise (· ≤ ·) → (∀ s, s ∈ a ∨ s ∈ b → (s.1 ≤ e ∨ s.1 ∈ l) ∧ (s.2 ≤ e ∨ s.2 ∈ l)) →
    ∀ x, e ≤ x → (Seg (fun z => w (inB2 a z) (inB2 b z)) e l x ↔ w (inB2 a x) (inB2 b x) = true)
  | [], e, _, h, x, hx => by
    have key : ∀ c : List (Nat × Nat), (∀ s ∈ c, s ∈ a ∨ s ∈ b) → inB2 c x = false := fun c hc => by
      cases hq : inB2 c x with
      | false => rfl
      | true =>
        obtain ⟨s, hs, h1, h2⟩ := (inB2_iff c x).1 hq
        have := (h s (hc s hs)).2
        simp at this
        omega
    rw [key a (fun s hs => .inl hs), key b (fun s hs => .inr hs), hw]
    simp [Seg]
  | d :: l, e, hs, h, x, hx => by
    obtain ⟨hs1, hs2⟩ := List.pairwise_cons.1 hs
    obtain ⟨hs3, _⟩ := List.pairwise_cons.1 hs2
    have hed := hs1 d (List.mem_cons_self ..)
    have up : ∀ z, z ∈ d :: l → d ≤ z := fun z hz => by
      rcases List.mem_cons.1 hz with rfl | hz
      · exact Nat.le_refl _
      · exact hs3 z hz
    have nx : ∀ z, (z ≤ e ∨ z ∈ d :: l) → z ≤ d ∨ z ∈ l := fun z hz => by
      rcases hz with hz | hz
      · exact .inl (by omega)
      · rcases List.mem_cons.1 hz with rfl | hz
        · exact .inl (Nat.le_refl _)
        · exact .inr hz
    by_cases hxd : x < d
    · have hfar : ¬ Seg (fun z => w (inB2 a z) (inB2 b z)) d l x := fun hseg => by
        have := seg_ge _ l d x hs2 hseg
        omega
      have sm : ∀ c : List (Nat × Nat), (∀ s ∈ c, s ∈ a ∨ s ∈ b) → inB2 c x = inB2 c e := fun c hc => inB2_same (fun s hs => by
        obtain ⟨h5, h6⟩ := h s (hc s hs)
        refine ⟨?_, ?_⟩
        · rcases h5 with h5 | h5
          · exact .inl h5
          · exact .inr (up _ h5)
        · rcases h6 with h6 | h6
          · exact .inl h6
          · exact .inr (up _ h6)) hx hxd
      rw [sm a (fun s hs => .inl hs), sm b (fun s hs => .inr hs)]
      constructor
      · rintro (⟨h5, _⟩ | h5)
        · exact h5
        · exact absurd h5 hfar
      · exact fun h5 => .inl ⟨h5, hx, hxd⟩
    · have ih := seg_iff w a b hw l d hs2 (fun s hs => ⟨nx _ (h s hs).1, nx _ (h s hs).2⟩) x (by omega)
      rw [← ih]
      constructor
      · rintro (⟨_, _, h5⟩ | h5)
        · omega
        · exact h5
      · exact .inr
/-- Ends in order: what of two sets is wanted, apart. -/
theorem two_ok (w : Bool → Bool → Bool) (a b : List (Nat × Nat)) (hw : w false false = false) (ha : ∀ s, s ∈ a ∨ s ∈ b → Spn s) (E : List Nat) (hE : E.Pairwise (· ≤ ·)) (hm : ∀ z, z ∈ E ↔ ∃ s, (s ∈ a ∨ s ∈ b) ∧ (z = s.1 ∨ z = s.2)) :
    Apart (twL (fun z => w (inB2 a z) (inB2 b z)) E) ∧ ∀ x, InS (twL (fun z => w (inB2 a z) (inB2 b z)) E) x ↔ w (inB2 a x) (inB2 b x) = true := by
  have hz : ∀ z ∈ E, z ≤ 4294967296 := fun z hz => by
    obtain ⟨s, hs, h⟩ := (hm z).1 hz
    have := ha s hs
    unfold Spn at this
    rcases h with rfl | rfl <;> omega
  cases E with
  | nil =>
    have no : ∀ s, ¬ (s ∈ a ∨ s ∈ b) := fun s hs => by
      have := (hm s.1).2 ⟨s, hs, .inl rfl⟩
      simp at this
    have key : ∀ (c : List (Nat × Nat)) x, (∀ s ∈ c, s ∈ a ∨ s ∈ b) → inB2 c x = false := fun c x hc => by
      cases hq : inB2 c x with
      | false => rfl
      | true =>
        obtain ⟨s, hs, _⟩ := (inB2_iff c x).1 hq
        exact absurd (hc s hs) (no s)
    refine ⟨trivial, fun x => ?_⟩
    rw [key a x (fun s hs => .inl hs), key b x (fun s hs => .inr hs), hw]
    simp [twL, InS]
  | cons e l =>
    obtain ⟨h1, _, _, h4⟩ := tw_ok (fun z => w (inB2 a z) (inB2 b z)) l none e hE hz (fun c hc => by cases hc)
    refine ⟨h1, fun x => ?_⟩
    have hmem : ∀ s, s ∈ a ∨ s ∈ b → (s.1 ≤ e ∨ s.1 ∈ l) ∧ (s.2 ≤ e ∨ s.2 ∈ l) := fun s hs => by
      have e1 := List.mem_cons.1 ((hm s.1).2 ⟨s, hs, .inl rfl⟩)
      have e2 := List.mem_cons.1 ((hm s.2).2 ⟨s, hs, .inr rfl⟩)
      refine ⟨?_, ?_⟩
      · rcases e1 with e1 | e1
        · exact .inl (by omega)
        · exact .inr e1
      · rcases e2 with e2 | e2
        · exact .inl (by omega)
        · exact .inr e2
    by_cases hx : e ≤ x
    · refine (h4 x).trans (Iff.trans ⟨fun h => ?_, .inr⟩ (seg_iff w a b hw l e hE hmem x hx))
      rcases h with ⟨c, hc, _⟩ | h
      · cases hc
      · exact h
    · have key : ∀ c : List (Nat × Nat), (∀ s ∈ c, s ∈ a ∨ s ∈ b) → inB2 c x = false := fun c hc => by
        cases hq : inB2 c x with
        | false => rfl
        | true =>
          obtain ⟨s, hs, h5, _⟩ := (inB2_iff c x).1 hq
          obtain ⟨hE1, _⟩ := List.pairwise_cons.1 hE
          have e1 := List.mem_cons.1 ((hm s.1).2 ⟨s, hc s hs, .inl rfl⟩)
          rcases e1 with e1 | e1
          · omega
          · have := hE1 _ e1; omega
      rw [key a (fun s hs => .inl hs), key b (fun s hs => .inr hs), hw]
      constructor
      · intro h
        rcases (h4 x).1 h with ⟨c, hc, _⟩ | h
        · cases hc
        · have := seg_ge _ l e x hE h
          omega
      · intro h; cases h
end Go.Proofs.Ytlealjcllbpgkaa

namespace Go.Proofs.Ytlealjcllbpgkaa

theorem apart_ext : ∀ (r q : List (Nat × Nat)), Apart r → Apart q → (∀ x, InS r x ↔ InS q x) → r = q
  | [], [], _, _, _ => rfl
  | [], t :: q, _, hq, h => by
    obtain ⟨u, hu, _⟩ := (h t.1).2 ⟨t, List.mem_cons_self .., Nat.le_refl _, hq.1⟩
    exact absurd hu (by simp)
  | s :: r, [], hr, _, h => by
    obtain ⟨u, hu, _⟩ := (h s.1).1 ⟨s, List.mem_cons_self .., Nat.le_refl _, hr.1⟩
    exact absurd hu (by simp)
  | s :: r, t :: q, hr, hq, h => by
    obtain ⟨r1, r2, r3, r4⟩ := hr
    obtain ⟨q1, q2, q3, q4⟩ := hq
    have lo : ∀ (s : Nat × Nat) (r : List (Nat × Nat)), s.1 < s.2 → (∀ u ∈ r, s.2 < u.1) → ∀ x, InS (s :: r) x → s.1 ≤ x ∧ (x < s.2 ∨ s.2 < x) := fun s r h1 h2 x ⟨u, hu, h3, h4⟩ => by
      rcases List.mem_cons.1 hu with rfl | hu
      · exact ⟨h3, .inl h4⟩
      · have := h2 u hu
        exact ⟨by omega, .inr (by omega)⟩
    have e1 : s.1 = t.1 := by
      have h1 := (lo t q q1 q3 s.1 ((h s.1).1 ⟨s, List.mem_cons_self .., Nat.le_refl _, r1⟩)).1
      have h2 := (lo s r r1 r3 t.1 ((h t.1).2 ⟨t, List.mem_cons_self .., Nat.le_refl _, q1⟩)).1
      omega
    have e2 : s.2 = t.2 := by
      rcases Nat.lt_trichotomy s.2 t.2 with hlt | he | hlt
      · have := (lo s r r1 r3 s.2 ((h s.2).2 ⟨t, List.mem_cons_self .., by omega, hlt⟩)).2
        omega
      · exact he
      · have := (lo t q q1 q3 t.2 ((h t.2).1 ⟨s, List.mem_cons_self .., by omega, hlt⟩)).2
        omega
    have e : s = t := Prod.ext e1 e2
    subst e
    congr 1
    refine apart_ext r q r4 q4 fun x => ⟨fun ⟨u, hu, h1, h2⟩ => ?_, fun ⟨u, hu, h1, h2⟩ => ?_⟩
    · obtain ⟨v, hv, h3, h4⟩ := (h x).1 ⟨u, List.mem_cons_of_mem _ hu, h1, h2⟩
      rcases List.mem_cons.1 hv with rfl | hv
      · have := r3 u hu; omega
      · exact ⟨v, hv, h3, h4⟩
    · obtain ⟨v, hv, h3, h4⟩ := (h x).2 ⟨u, List.mem_cons_of_mem _ hu, h1, h2⟩
      rcases List.mem_cons.1 hv with rfl | hv
      · have := q3 u hu; omega
      · exact ⟨v, hv, h3, h4⟩

/-- How many addresses spans have. -/
def sumS (l : List (Nat × Nat)) : Nat := (l.map fun s => s.2 - s.1).sum
theorem sumS_cons (s : Nat × Nat) (l : List (Nat × Nat)) : sumS (s :: l) = (s.2 - s.1) + sumS l := by simp [sumS]
/-- Spans that don't overlap: joining keeps how many there are. -/
theorem mg_sum : ∀ (l : List (Nat × Nat)) (c : Nat × Nat), c.1 ≤ c.2 → (∀ s ∈ l, s.1 ≤ s.2 ∧ c.2 ≤ s.1) → l.Pairwise (fun p q => p.2 ≤ q.1) → sumS (mg c l) = (c.2 - c.1) + sumS l
  | [], c, _, _, _ => by simp [mg, sumS]
  | s :: l, c, hc, hl, hs => by
    obtain ⟨hs1, hs2⟩ := List.pairwise_cons.1 hs
    obtain ⟨h1, h2⟩ := hl s (List.mem_cons_self ..)
    unfold mg
    rw [sumS_cons]
    split
    · rename_i hle
      rw [mg_sum l (c.1, max c.2 s.2) (by simp only; omega) (fun u hu => ⟨(hl u (List.mem_cons_of_mem _ hu)).1, by have := hs1 u hu; simp only; omega⟩) hs2]
      simp only
      omega
    · rw [sumS_cons, mg_sum l s h1 (fun u hu => ⟨(hl u (List.mem_cons_of_mem _ hu)).1, hs1 u hu⟩) hs2]
theorem merge_sum (l : List (Nat × Nat)) (h : ∀ s ∈ l, s.1 ≤ s.2) (hs : l.Pairwise (fun p q => p.2 ≤ q.1)) : sumS (mergeL l) = sumS l := by
  cases l with
  | nil => rfl
  | cons s l =>
    obtain ⟨hs1, hs2⟩ := List.pairwise_cons.1 hs
    rw [sumS_cons]
    exact mg_sum l s (h s (List.mem_cons_self ..)) (fun u hu => ⟨h u (List.mem_cons_of_mem _ hu), hs1 u hu⟩) hs2
theorem sumS_perm {l m : List (Nat × Nat)} (h : l.Perm m) : sumS l = sumS m := by
  unfold sumS
  exact (h.map _).sum_nat
/-- How many addresses greatest blocks have: as many as what they were taken of. -/
theorem gre_sum : ∀ (l : List (Nat × Nat)) (f t : Nat), Gre f t l → (l.map fun p => 2 ^ p.2).sum = t - f
  | [], f, t, h => by
    have h' : f = t := h
    simp [h']
  | p :: l, f, t, h => by
    obtain ⟨rfl, htop, hr⟩ := h
    have h1 := gre_sum l _ t hr
    have h2 := (gre_ge l _ t hr).1
    rw [List.map_cons, List.sum_cons, h1]
    have := p2_pos p.2
    omega
theorem gres_sum : ∀ (r l : List (Nat × Nat)), Gres r l → (l.map fun p => 2 ^ p.2).sum = sumS r
  | [], l, h => by rw [show l = [] from h]; rfl
  | s :: r, l, h => by
    obtain ⟨l1, l2, rfl, h1, h2⟩ := h
    rw [List.map_append, List.sum_append, gre_sum l1 _ _ h1, gres_sum r l2 h2, sumS_cons]

/-- The addresses of blocks. -/
def InB (l : List (Nat × Nat)) (x : Nat) : Prop := ∃ p ∈ l, p.1 ≤ x ∧ x < p.1 + 2 ^ p.2
theorem mx_over {X : Nat → Prop} : ∀ (d a k : Nat), k + d = 32 → Val a k → Wi X a k → ∃ b j, Mx X b j ∧ b ≤ a ∧ a + 2 ^ k ≤ b + 2 ^ j
  | 0, a, k, hk, hv, hw => ⟨a, k, ⟨hv, hw, fun h => by omega⟩, Nat.le_refl _, Nat.le_refl _⟩
  | d + 1, a, k, hk, hv, hw => by
    by_cases hp : Wi X (par a k) (k + 1)
    · obtain ⟨b, j, h1, h2, h3⟩ := mx_over d (par a k) (k + 1) (by omega) (par_val hv (by omega)) hp
      have := par_le hv.2.1
      exact ⟨b, j, h1, by omega, by omega⟩
    · exact ⟨a, k, ⟨hv, hw, fun _ => hp⟩, Nat.le_refl _, Nat.le_refl _⟩
/-- All of a set is in its greatest blocks, and nothing else. -/
theorem Canon.inB {X : Nat → Prop} {l : List (Nat × Nat)} (h : Canon X l) {x : Nat} (hx : x < 4294967296) : InB l x ↔ X x := by
  constructor
  · rintro ⟨p, hp, h1, h2⟩
    exact ((h.2 p.1 p.2).1 hp).2.1 x h1 h2
  · intro hX
    obtain ⟨b, j, h1, h2, h3⟩ := mx_over 32 x 0 rfl ⟨by omega, Nat.one_dvd _, by omega⟩ (fun y h1 h2 => by
      obtain rfl : y = x := by omega
      exact hX)
    exact ⟨(b, j), (h.2 b j).2 h1, h2, by simp only; omega⟩
/-- Two greatest blocks lie apart. -/
theorem mx_apart {X : Nat → Prop} {a k g j : Nat} (h : Mx X a k) (h1 : Mx X g j) (h2 : g < a) : g + 2 ^ j ≤ a := by
  rcases Nat.lt_or_ge a (g + 2 ^ j) with hlt | hge
  · have := mx_meet h h1 (by omega) hlt
    omega
  · exact hge
/-- No two of them are the halves of one. -/
theorem mx_halves {X : Nat → Prop} {a k g : Nat} (h : Mx X a k) (h1 : Mx X g k) (hk : k < 32) (h2 : a ≠ g) : par a k ≠ par g k := by
  intro e
  obtain ⟨⟨_, hd, _⟩, hw, hm⟩ := h
  obtain ⟨⟨_, hd1, _⟩, hw1, _⟩ := h1
  have hs := p2_succ k
  refine hm hk fun x hx hx2 => ?_
  rcases par_two hd with ⟨_, p1⟩ | ⟨_, p0, p1, _⟩ <;> rcases par_two hd1 with ⟨_, q1⟩ | ⟨_, q0, q1, _⟩
  · omega
  · by_cases hxa : x < a + 2 ^ k
    · exact hw x (by omega) hxa
    · exact hw1 x (by omega) (by omega)
  · by_cases hxa : x < g + 2 ^ k
    · exact hw1 x (by omega) hxa
    · exact hw x (by omega) (by omega)
  · omega
end Go.Proofs.Ytlealjcllbpgkaa

namespace Go.Proofs.Ytlealjcllbpgkaa

/-- Is a block in another one? -/
def blkIn (q p : Nat × Nat) : Bool := decide (p.1 ≤ q.1) && decide (q.1 + 2 ^ q.2 ≤ p.1 + 2 ^ p.2)
theorem blkIn_iff (q p : Nat × Nat) : blkIn q p = true ↔ p.1 ≤ q.1 ∧ q.1 + 2 ^ q.2 ≤ p.1 + 2 ^ p.2 := by
  unfold blkIn
  simp
/-- Those that are in a block, and whether one has all of it. -/
def insd (l : List (Nat × Nat)) (p : Nat × Nat) : List (Nat × Nat) × Bool := if l.any (blkIn p ·) then ([], true) else (l.filter (blkIn · p), false)
/-- What lists of blocks hold of a block, for its halves. -/
def keep (l : List (Nat × Nat)) (p : Nat × Nat) : List (Nat × Nat) := if (insd l p).2 then [p] else (insd l p).1
def full (l : List (Nat × Nat)) (p : Nat × Nat) : Bool := (insd l p).2 || (insd l p).1.isEmpty
/-- A set within a block, built half by half. -/
def bld (w : Bool → Bool → Bool) : Nat → Nat → List (Nat × Nat) → List (Nat × Nat) → List (Nat × Nat) × Bool
  | 0, A, a, b => if w (insd a (A, 0)).2 (insd b (A, 0)).2 then ([(A, 0)], true) else ([], false)
  | k + 1, A, a, b =>
    if full a (A, k + 1) && full b (A, k + 1) then (if w (insd a (A, k + 1)).2 (insd b (A, k + 1)).2 then ([(A, k + 1)], true) else ([], false)) else
    let l := bld w k A (keep a (A, k + 1)) (keep b (A, k + 1))
    let r := bld w k (A + 2 ^ k) (keep a (A, k + 1)) (keep b (A, k + 1))
    if l.2 && r.2 then ([(A, k + 1)], true) else (l.1 ++ r.1, false)
/-- Whether an address is in blocks. -/
def inK (l : List (Nat × Nat)) (x : Nat) : Bool := l.any fun p => decide (p.1 ≤ x) && decide (x < p.1 + 2 ^ p.2)
theorem inK_iff (l : List (Nat × Nat)) (x : Nat) : inK l x = true ↔ InB l x := by
  unfold inK InB
  rw [List.any_eq_true]
  simp
def Vals (l : List (Nat × Nat)) : Prop := ∀ p ∈ l, Val p.1 p.2
/-- A block of a list that meets another block has it, or is in it. -/
theorem meet_or {p q : Nat × Nat} (hp : Val p.1 p.2) (hq : Val q.1 q.2) {x : Nat} (h1 : p.1 ≤ x) (h2 : x < p.1 + 2 ^ p.2) (h3 : q.1 ≤ x) (h4 : x < q.1 + 2 ^ q.2) : blkIn p q = true ∨ blkIn q p = true := by
  rw [blkIn_iff, blkIn_iff]
  have up : ∀ (a k g j : Nat), 2 ^ k ∣ a → 2 ^ j ∣ g → k ≤ j → a ≤ x → x < a + 2 ^ k → g ≤ x → x < g + 2 ^ j → g ≤ a ∧ a + 2 ^ k ≤ g + 2 ^ j := fun a k g j d1 d2 hk e1 e2 e3 e4 => by
    refine ⟨?_, val_in d1 d2 hk (by omega)⟩
    rcases Nat.lt_or_ge a g with hlt | hge
    · have := mul_le d1 (Nat.dvd_trans (p2_dvd hk) d2) hlt
      omega
    · exact hge
  rcases Nat.le_total p.2 q.2 with hk | hk
  · exact .inl (up _ _ _ _ hp.2.1 hq.2.1 hk h1 h2 h3 h4)
  · exact .inr (up _ _ _ _ hq.2.1 hp.2.1 hk h3 h4 h1 h2)
theorem insd_yes {l : List (Nat × Nat)} {p : Nat × Nat} (h : (insd l p).2 = true) : ∃ q ∈ l, blkIn p q = true := by
  unfold insd at h
  split at h
  · rename_i hh
    rw [List.any_eq_true] at hh
    exact hh
  · cases h
theorem insd_no {l : List (Nat × Nat)} {p : Nat × Nat} (h : (insd l p).2 = false) : (∀ q ∈ l, ¬ blkIn p q = true) ∧ (insd l p).1 = l.filter (blkIn · p) := by
  unfold insd at h ⊢
  split
  · rename_i hh
    rw [if_pos hh] at h
    cases h
  · rename_i hh
    rw [List.any_eq_true] at hh
    exact ⟨fun q hq hb => hh ⟨q, hq, hb⟩, rfl⟩
theorem keep_vals {l : List (Nat × Nat)} {p : Nat × Nat} (hl : Vals l) (hp : Val p.1 p.2) : Vals (keep l p) := by
  unfold keep
  split
  · intro q hq
    rw [List.mem_singleton.1 hq]; exact hp
  · rename_i h
    have := (insd_no (show (insd l p).2 = false by simpa using h)).2
    rw [this]
    exact fun q hq => hl q (List.mem_filter.1 hq).1
/-- In the block the kept ones are as good. -/
theorem keep_in {l : List (Nat × Nat)} {p : Nat × Nat} (hl : Vals l) (hp : Val p.1 p.2) {x : Nat} (h1 : p.1 ≤ x) (h2 : x < p.1 + 2 ^ p.2) : inK (keep l p) x = inK l x := by
  rw [Bool.eq_iff_iff, inK_iff, inK_iff]
  unfold keep
  split
  · rename_i h
    obtain ⟨q, hq, hb⟩ := insd_yes h
    rw [blkIn_iff] at hb
    exact ⟨fun _ => ⟨q, hq, by omega, by omega⟩, fun _ => ⟨p, List.mem_singleton.2 rfl, h1, h2⟩⟩
  · rename_i h
    obtain ⟨h3, h4⟩ := insd_no (show (insd l p).2 = false by simpa using h)
    rw [h4]
    constructor
    · rintro ⟨q, hq, h5⟩
      exact ⟨q, (List.mem_filter.1 hq).1, h5⟩
    · rintro ⟨q, hq, h5, h6⟩
      rcases meet_or (hl q hq) hp h5 h6 h1 h2 with hb | hb
      · exact ⟨q, List.mem_filter.2 ⟨hq, hb⟩, h5, h6⟩
      · exact absurd hb (h3 q hq)
/-- Where nothing is parted, the whole block is as one. -/
theorem full_in {l : List (Nat × Nat)} {p : Nat × Nat} (hl : Vals l) (hp : Val p.1 p.2) (hf : full l p = true) {x : Nat} (h1 : p.1 ≤ x) (h2 : x < p.1 + 2 ^ p.2) : inK l x = (insd l p).2 := by
  cases h : (insd l p).2 with
  | true =>
    obtain ⟨q, hq, hb⟩ := insd_yes h
    rw [blkIn_iff] at hb
    rw [inK_iff]
    exact ⟨q, hq, by omega, by omega⟩
  | false =>
    obtain ⟨h3, h4⟩ := insd_no h
    unfold full at hf
    rw [h, h4] at hf
    have he : l.filter (blkIn · p) = [] := by simpa using hf
    cases hq : inK l x with
    | false => rfl
    | true =>
      obtain ⟨q, hq, h5, h6⟩ := (inK_iff l x).1 hq
      rcases meet_or (hl q hq) hp h5 h6 h1 h2 with hb | hb
      · have : q ∈ l.filter (blkIn · p) := List.mem_filter.2 ⟨hq, hb⟩
        rw [he] at this
        exact absurd this (by simp)
      · exact absurd hb (h3 q hq)
theorem full_zero {l : List (Nat × Nat)} {A : Nat} (hl : Vals l) : full l (A, 0) = true := by
  unfold full
  cases h : (insd l (A, 0)).2 with
  | true => rfl
  | false =>
    obtain ⟨h3, h4⟩ := insd_no h
    rw [h4]
    have he : l.filter (blkIn · (A, 0)) = [] := by
      rw [List.filter_eq_nil_iff]
      intro q hq hb
      have h5 := (blkIn_iff q (A, 0)).1 hb
      refine h3 q hq ?_
      rw [blkIn_iff]
      have := p2_pos q.2
      simp only [Nat.pow_zero] at h5 ⊢
      omega
    rw [he]
    rfl

/-- What is built within a block: greatest blocks within it, rising; all of it, if all of it is there. -/
def Part (X : Nat → Prop) (A k : Nat) (l : List (Nat × Nat)) (all : Bool) : Prop :=
  (all = true ↔ Wi X A k) ∧ l.Pairwise (fun p q => p.1 < q.1) ∧ (∀ p ∈ l, Val p.1 p.2 ∧ Wi X p.1 p.2 ∧ A ≤ p.1 ∧ p.1 + 2 ^ p.2 ≤ A + 2 ^ k ∧ (p = (A, k) ∨ (p.2 < k ∧ ¬ Wi X (par p.1 p.2) (p.2 + 1)))) ∧ (∀ x, A ≤ x → x < A + 2 ^ k → X x → InB l x)
theorem Part.iff {X Y : Nat → Prop} {A k : Nat} {l : List (Nat × Nat)} {all : Bool} (hA : 2 ^ k ∣ A) (h : ∀ x, A ≤ x → x < A + 2 ^ k → (X x ↔ Y x)) (hp : Part X A k l all) : Part Y A k l all := by
  obtain ⟨h1, h2, h3, h4⟩ := hp
  have wi : ∀ a j, A ≤ a → a + 2 ^ j ≤ A + 2 ^ k → (Wi X a j ↔ Wi Y a j) := fun a j h5 h6 =>
    ⟨fun hw x h7 h8 => (h x (by omega) (by omega)).1 (hw x h7 h8), fun hw x h7 h8 => (h x (by omega) (by omega)).2 (hw x h7 h8)⟩
  refine ⟨h1.trans (wi A k (Nat.le_refl _) (Nat.le_refl _)), h2, fun p hp => ?_, fun x h5 h6 h7 => h4 x h5 h6 ((h x h5 h6).2 h7)⟩
  obtain ⟨q1, q2, q3, q4, q5⟩ := h3 p hp
  refine ⟨q1, (wi _ _ q3 q4).1 q2, q3, q4, ?_⟩
  rcases q5 with q5 | ⟨q5, q6⟩
  · exact .inl q5
  · refine .inr ⟨q5, fun hw => q6 ((wi _ _ ?_ ?_).2 hw)⟩
    · have := p2_pos p.2
      exact (par_in q1.2.1 hA q5 q3 (by omega)).1
    · have := p2_pos p.2
      exact (par_in q1.2.1 hA q5 q3 (by omega)).2
theorem part_one {X : Nat → Prop} {A k : Nat} (hv : Val A k) (c : Bool) (h : ∀ x, A ≤ x → x < A + 2 ^ k → (X x ↔ c = true)) : Part X A k (if c then ([(A, k)], true) else ([], false)).1 (if c then ([(A, k)], true) else (([] : List (Nat × Nat)), false)).2 := by
  have hp := p2_pos k
  cases c with
  | true =>
    have hw : Wi X A k := fun x h1 h2 => (h x h1 h2).2 rfl
    refine ⟨⟨fun _ => hw, fun _ => rfl⟩, by simp, fun p hp => ?_, fun x h1 h2 _ => ⟨(A, k), List.mem_singleton.2 rfl, h1, h2⟩⟩
    rw [List.mem_singleton.1 hp]
    exact ⟨hv, hw, Nat.le_refl _, Nat.le_refl _, .inl rfl⟩
  | false =>
    refine ⟨⟨fun hf => (by cases hf), fun hw => absurd ((h A (Nat.le_refl _) (by omega)).1 (hw A (Nat.le_refl _) (by omega))) (by simp)⟩, (by simp), fun p hp => absurd hp (by simp), fun x h1 h2 h3 => absurd ((h x h1 h2).1 h3) (by simp)⟩
theorem part_join {X : Nat → Prop} {A k : Nat} (hv : Val A (k + 1)) {l r : List (Nat × Nat)} {x y : Bool} (hl : Part X A k l x) (hr : Part X (A + 2 ^ k) k r y) :
    Part X A (k + 1) (if x && y then ([(A, k + 1)], true) else (l ++ r, false)).1 (if x && y then ([(A, k + 1)], true) else (l ++ r, false)).2 := by
  obtain ⟨l1, l2, l3, l4⟩ := hl
  obtain ⟨r1, r2, r3, r4⟩ := hr
  have hs := p2_succ k
  have hp := p2_pos k
  have both : Wi X A (k + 1) ↔ Wi X A k ∧ Wi X (A + 2 ^ k) k := ⟨fun hw => ⟨fun x h1 h2 => hw x h1 (by omega), fun x h1 h2 => hw x (by omega) (by omega)⟩, fun ⟨h1, h2⟩ x h3 h4 => by
    by_cases hx : x < A + 2 ^ k
    · exact h1 x h3 hx
    · exact h2 x (by omega) (by omega)⟩
  cases hxy : x && y with
  | true =>
    have hw : Wi X A (k + 1) := both.2 ⟨l1.1 (by simp at hxy; exact hxy.1), r1.1 (by simp at hxy; exact hxy.2)⟩
    refine ⟨⟨fun _ => hw, fun _ => rfl⟩, by simp, fun p hp => ?_, fun z h1 h2 _ => ⟨(A, k + 1), List.mem_singleton.2 rfl, h1, h2⟩⟩
    rw [List.mem_singleton.1 hp]
    exact ⟨hv, hw, Nat.le_refl _, Nat.le_refl _, .inl rfl⟩
  | false =>
    have hn : ¬ Wi X A (k + 1) := fun hw => by
      obtain ⟨h1, h2⟩ := both.1 hw
      rw [l1.2 h1, r1.2 h2] at hxy
      cases hxy
    have hd : 2 ^ k ∣ A := Nat.dvd_trans (p2_dvd (by omega)) hv.2.1
    refine ⟨⟨fun hf => (by cases hf), fun hw => absurd hw hn⟩, ?_, fun p hp => ?_, fun z h1 h2 h3 => ?_⟩
    · refine List.pairwise_append.2 ⟨l2, r2, fun p hp q hq => ?_⟩
      have h1 := (l3 p hp).2.2.2.1
      have h2 := (r3 q hq).2.2.1
      have := p2_pos p.2
      omega
    · rcases List.mem_append.1 hp with hp | hp
      · obtain ⟨q1, q2, q3, q4, q5⟩ := l3 p hp
        refine ⟨q1, q2, q3, by omega, .inr ?_⟩
        rcases q5 with rfl | ⟨q5, q6⟩
        · refine ⟨by simp, ?_⟩
          rcases par_two hd with ⟨_, h5⟩ | ⟨h5, _⟩
          · rw [h5]; exact hn
          · exact absurd hv.2.1 h5
        · exact ⟨by omega, q6⟩
      · obtain ⟨q1, q2, q3, q4, q5⟩ := r3 p hp
        refine ⟨q1, q2, by omega, by omega, .inr ?_⟩
        rcases q5 with rfl | ⟨q5, q6⟩
        · refine ⟨by simp, ?_⟩
          have hd2 : 2 ^ k ∣ A + 2 ^ k := Nat.dvd_add hd (Nat.dvd_refl _)
          rcases par_two hd2 with ⟨h5, _⟩ | ⟨_, _, h5, _⟩
          · exfalso
            have h6 := (Nat.dvd_add_right hv.2.1).1 h5
            have := Nat.le_of_dvd (p2_pos k) h6
            omega
          · simp only
            rw [h5, Nat.add_sub_cancel]; exact hn
        · exact ⟨by omega, q6⟩
    · by_cases hz : z < A + 2 ^ k
      · obtain ⟨p, hp, h5⟩ := l4 z h1 hz h3
        exact ⟨p, List.mem_append.2 (.inl hp), h5⟩
      · obtain ⟨p, hp, h5⟩ := r4 z (by omega) (by omega) h3
        exact ⟨p, List.mem_append.2 (.inr hp), h5⟩
theorem bld_part (w : Bool → Bool → Bool) : ∀ (k A : Nat) (a b : List (Nat × Nat)), Val A k → Vals a → Vals b → Part (fun x => w (inK a x) (inK b x) = true) A k (bld w k A a b).1 (bld w k A a b).2
  | 0, A, a, b, hv, ha, hb => by
    unfold bld
    refine part_one hv _ fun x h1 h2 => ?_
    rw [full_in ha hv (full_zero ha) h1 h2, full_in hb hv (full_zero hb) h1 h2]
  | k + 1, A, a, b, hv, ha, hb => by
    unfold bld
    split
    · rename_i hf
      rw [Bool.and_eq_true] at hf
      refine part_one hv _ fun x h1 h2 => ?_
      rw [full_in ha hv hf.1 h1 h2, full_in hb hv hf.2 h1 h2]
    · have hs := p2_succ k
      have hp := p2_pos k
      have hd : 2 ^ k ∣ A := Nat.dvd_trans (p2_dvd (by omega)) hv.2.1
      have v1 : Val A k := ⟨by have := hv.1; omega, hd, by have := hv.2.2; omega⟩
      have v2 : Val (A + 2 ^ k) k := ⟨by have := hv.1; omega, Nat.dvd_add hd (Nat.dvd_refl _), by have := hv.2.2; omega⟩
      have ka := keep_vals (p := (A, k + 1)) ha hv
      have kb := keep_vals (p := (A, k + 1)) hb hv
      have sm : ∀ x, A ≤ x → x < A + 2 ^ (k + 1) → (w (inK (keep a (A, k + 1)) x) (inK (keep b (A, k + 1)) x) = true ↔ w (inK a x) (inK b x) = true) := fun x h1 h2 => by
        rw [keep_in (p := (A, k + 1)) ha hv h1 h2, keep_in (p := (A, k + 1)) hb hv h1 h2]
      exact part_join hv ((bld_part w k A _ _ v1 ka kb).iff v1.2.1 fun x h1 h2 => sm x h1 (by omega)) ((bld_part w k (A + 2 ^ k) _ _ v2 ka kb).iff v2.2.1 fun x h1 h2 => sm x (by omega) (by omega))
/-- The document's set of two lists of blocks: all greatest blocks of what is wanted. -/
theorem bld_canon (w : Bool → Bool → Bool) (a b : List (Nat × Nat)) (ha : Vals a) (hb : Vals b) : Canon (fun x => w (inK a x) (inK b x) = true) (bld w 32 0 a b).1 := by
  have hv : Val 0 32 := ⟨Nat.le_refl _, Nat.dvd_zero _, by decide⟩
  obtain ⟨_, h2, h3, h4⟩ := bld_part w 32 0 a b hv ha hb
  refine canon_of h2 (fun p hp => ?_) (fun x hx hlt => h4 x (Nat.zero_le _) (by simpa using hlt) hx)
  obtain ⟨q1, q2, _, _, q5⟩ := h3 p hp
  refine ⟨q1, q2, fun hk => ?_⟩
  rcases q5 with rfl | ⟨_, q6⟩
  · simp at hk
  · exact q6
end Go.Proofs.Ytlealjcllbpgkaa

namespace Go.Proofs.Ytlealjcllbpgkaa

/-- From one address to another on the way to a third. -/
def GreTo : Nat → Nat → Nat → List (Nat × Nat) → Prop
  | f, g, _, [] => f = g
  | f, g, t, p :: l => p.1 = f ∧ Top f t p.2 ∧ GreTo (f + 2 ^ p.2) g t l
theorem greTo_snoc : ∀ (l : List (Nat × Nat)) (f g t k : Nat), GreTo f g t l → Top g t k → GreTo f (g + 2 ^ k) t (l ++ [(g, k)])
  | [], f, g, t, k, h, ht => by
    have h' : f = g := h
    subst h'
    exact ⟨rfl, ht, rfl⟩
  | p :: l, f, g, t, k, h, ht => ⟨h.1, h.2.1, greTo_snoc l _ g t k h.2.2 ht⟩
theorem greTo_gre : ∀ (l : List (Nat × Nat)) (f t : Nat), GreTo f t t l → Gre f t l
  | [], _, _, h => h
  | _ :: l, _, t, h => ⟨h.1, h.2.1, greTo_gre l _ t h.2.2⟩
theorem gres_snoc : ∀ (r : List (Nat × Nat)) (l : List (Nat × Nat)) (s : Nat × Nat) (m : List (Nat × Nat)), Gres r l → Gre s.1 s.2 m → Gres (r ++ [s]) (l ++ m)
  | [], l, s, m, h, hm => by
    have h' : l = [] := h
    subst h'
    exact ⟨m, [], by simp, hm, rfl⟩
  | t :: r, l, s, m, h, hm => by
    obtain ⟨l1, l2, rfl, h1, h2⟩ := h
    exact ⟨l1, l2 ++ m, by rw [List.append_assoc], h1, gres_snoc r l2 s m h2 hm⟩
theorem apart_next : ∀ (r : List (Nat × Nat)), Apart r → ∀ (i j : Nat) (s t : Nat × Nat), r[i]? = some s → r[j]? = some t → i < j → s.2 < t.1
  | [], _, i, _, _, _, h, _, _ => absurd h (by simp)
  | u :: r, ha, 0, j, s, t, h, h1, hij => by
    obtain ⟨_, _, a3, _⟩ := ha
    injection h with h
    subst h
    obtain ⟨j, rfl⟩ : ∃ k, j = k + 1 := ⟨j - 1, by omega⟩
    exact a3 t (List.mem_of_getElem? (by simpa using h1))
  | u :: r, ha, i + 1, j, s, t, h, h1, hij => by
    obtain ⟨j, rfl⟩ : ∃ k, j = k + 1 := ⟨j - 1, by omega⟩
    exact apart_next r ha.2.2.2 i j s t (by simpa using h) (by simpa using h1) (by omega)
theorem apart_at : ∀ (r : List (Nat × Nat)), Apart r → ∀ (i : Nat) (s : Nat × Nat), r[i]? = some s → s.1 < s.2 ∧ s.2 ≤ 4294967296
  | [], _, i, _, h => absurd h (by simp)
  | u :: r, ha, 0, s, h => by
    injection h with h
    subst h
    exact ⟨ha.1, ha.2.1⟩
  | u :: r, ha, i + 1, s, h => apart_at r ha.2.2.2 i s (by simpa using h)
end Go.Proofs.Ytlealjcllbpgkaa

namespace Go.Proofs.Ytlealjcllbpgkaa

theorem gre_few : ∀ (l : List (Nat × Nat)) (g t b : Nat), Gre g t l → t < g + 2 ^ b → 2 ^ b ∣ g → l.length ≤ b
  | [], _, _, _, _, _, _ => by simp
  | (a, k) :: l, g, t, b, h, hb, hd => by
    obtain ⟨h0, ht, hr⟩ := h
    have h0 : g = a := h0.symm
    subst h0
    have ht : Top g t k := ht
    have hr : Gre (g + 2 ^ k) t l := hr
    obtain ⟨_, h2, h3, h4⟩ := ht
    have hkb : k < b := by
      rcases Nat.lt_or_ge k b with h | h
      · exact h
      · have := Nat.pow_le_pow_right (show 0 < 2 by omega) h
        omega
    have h5 : ¬ g + 2 ^ (k + 1) ≤ t := fun h => h4 ⟨Nat.dvd_trans (p2_dvd hkb) hd, h⟩
    rw [p2_succ] at h5
    have := gre_few l (g + 2 ^ k) t k hr (by omega) (Nat.dvd_add h2 (Nat.dvd_refl _))
    simp only [List.length_cons]
    omega
theorem gre_len : ∀ (l : List (Nat × Nat)) (g t a : Nat), Gre g t l → 2 ^ a ∣ g → a ≤ 33 → l.length ≤ 66 - a
  | [], _, _, _, _, _, _ => by simp
  | (g1, k) :: l, g, t, a, h, hd, ha => by
    obtain ⟨h0, ht, hr⟩ := h
    have h0 : g = g1 := h0.symm
    subst h0
    have ht : Top g t k := ht
    have hr : Gre (g + 2 ^ k) t l := hr
    obtain ⟨h1, h2, h3, h4⟩ := ht
    simp only [List.length_cons]
    by_cases hs : t < g + 2 ^ (k + 1)
    · rw [p2_succ] at hs
      have := gre_few l (g + 2 ^ k) t k hr (by omega) (Nat.dvd_add h2 (Nat.dvd_refl _))
      omega
    · have h5 : ¬ 2 ^ (k + 1) ∣ g := fun h => h4 ⟨h, by omega⟩
      have hak : a ≤ k := by
        rcases Nat.lt_or_ge k a with h | h
        · exact absurd (Nat.dvd_trans (p2_dvd h) hd) h5
        · exact h
      have h6 : 2 ^ (k + 1) ∣ g + 2 ^ k := by
        rcases par_two h2 with ⟨h, _⟩ | ⟨_, h7, _, h8⟩
        · exact absurd h h5
        · have e : g + 2 ^ k = (g - 2 ^ k) + 2 ^ (k + 1) := by rw [p2_succ]; omega
          rw [e]
          exact Nat.dvd_add h8 (Nat.dvd_refl _)
      have := gre_len l (g + 2 ^ k) t (k + 1) hr h6 (by omega)
      omega
theorem gres_len : ∀ (r l : List (Nat × Nat)), Gres r l → l.length ≤ 66 * r.length
  | [], l, h => by
    obtain rfl : l = [] := h
    simp
  | s :: r, l, h => by
    obtain ⟨l1, l2, rfl, h1, h2⟩ := h
    have e1 := gre_len l1 s.1 s.2 0 h1 (by simp) (by omega)
    have e2 := gres_len r l2 h2
    rw [List.length_append, List.length_cons]
    omega
end Go.Proofs.Ytlealjcllbpgkaa

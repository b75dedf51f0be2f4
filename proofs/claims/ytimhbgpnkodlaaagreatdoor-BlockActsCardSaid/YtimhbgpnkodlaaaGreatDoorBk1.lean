/- Who has which address, plainly: places, blocks, what is taken, what is given back; the longest prefix that has an address. No program in sight. No condition but those that stand in each theorem. -/
import Derived.Test.YtimhbgpnkodlaaaGreatDoorHp
import Derived.Test.YtimhbgpnkodlaaaGreatDoorWi0
import Derived.Test.YtimhbgpnkodlaaaGreatDoorIp2
import Derived.Test.YtimhbgpnkodlaaaGreatDoorRis
import Derived.Test.YtimhbgpnkodlaaaGreatDoorBm1
namespace Go.Proofs.YtimhbgpnkodlaaaGreatDoor

/-- Whose each place is (0: nobody's), whose each block is. -/
structure PoolC where
  T : Nat → Int
  B : Nat → Int
def updI (f : Nat → Int) (i : Nat) (v : Int) : Nat → Int := fun j => if j = i then v else f j
theorem updI_same (f : Nat → Int) (i : Nat) (v : Int) : updI f i v i = v := if_pos rfl
theorem updI_other (f : Nat → Int) {i j : Nat} (v : Int) (h : j ≠ i) : updI f i v j = f j := if_neg h

/-- The least free place in a block that is asked for. -/
def freeC (n z : Nat) (c : PoolC) (q : Int → Bool) : Option Nat := (List.range n).find? fun i => decide (c.T i = 0) && q (c.B (i / z))
def takeC (n z : Nat) (c : PoolC) (h : Int) : Option Nat × PoolC :=
  match freeC n z c (fun x => decide (x = h)) with
  | some i => (some i, ⟨updI c.T i h, c.B⟩)
  | none => match freeC n z c (fun x => decide (x = 0)) with
    | some i => (some i, ⟨updI c.T i h, updI c.B (i / z) h⟩)
    | none => match freeC n z c (fun _ => true) with
      | some i => (some i, ⟨updI c.T i h, c.B⟩)
      | none => (none, c)
/-- Is all of a block free? -/
def emptyC (z : Nat) (T : Nat → Int) (j : Nat) : Bool := (List.range z).all fun x => decide (T (j * z + x) = 0)
def giveC (z : Nat) (c : PoolC) (i : Nat) : PoolC :=
  ⟨updI c.T i 0, if emptyC z (updI c.T i 0) (i / z) then updI c.B (i / z) 0 else c.B⟩
/-- Blocks that are nobody's are free; others are not. -/
structure InvC (n z : Nat) (c : PoolC) : Prop where
  free : ∀ i, i < n → c.B (i / z) = 0 → c.T i = 0
  some_ : ∀ j, j * z < n → c.B j ≠ 0 → ∃ x, x < z ∧ c.T (j * z + x) ≠ 0
  pos : ∀ i, i < n → 0 ≤ c.T i
  posB : ∀ j, 0 ≤ c.B j
theorem find_range {n : Nat} {p : Nat → Bool} {i : Nat} (h : (List.range n).find? p = some i) : i < n ∧ p i = true ∧ ∀ k, k < i → p k = false := by
  obtain ⟨h1, l1, l2, h2, h3⟩ := List.find?_eq_some_iff_append.1 h
  have hm : i ∈ List.range n := by rw [h2]; simp
  refine ⟨List.mem_range.1 hm, h1, fun k hk => ?_⟩
  have hkm : k ∈ List.range n := List.mem_range.2 (Nat.lt_trans hk (List.mem_range.1 hm))
  have hp := List.pairwise_lt_range (n := n)
  rw [h2] at hkm hp
  rcases List.mem_append.1 hkm with hx | hx
  · have := h3 k hx
    simpa using this
  · obtain ⟨_, p2, _⟩ := List.pairwise_append.1 hp
    obtain ⟨p4, _⟩ := List.pairwise_cons.1 p2
    rcases List.mem_cons.1 hx with rfl | hx
    · omega
    · have := p4 k hx
      omega
theorem find_none {n : Nat} {p : Nat → Bool} (h : (List.range n).find? p = none) : ∀ i, i < n → p i = false := fun i hi => by
  have := List.find?_eq_none.1 h i (List.mem_range.2 hi)
  simpa using this
theorem free_some {n z : Nat} {c : PoolC} {q : Int → Bool} {i : Nat} (h : freeC n z c q = some i) : i < n ∧ c.T i = 0 ∧ q (c.B (i / z)) = true := by
  obtain ⟨h1, h2, _⟩ := find_range h
  rw [Bool.and_eq_true, decide_eq_true_eq] at h2
  exact ⟨h1, h2.1, h2.2⟩
theorem free_none {n z : Nat} {c : PoolC} {q : Int → Bool} (h : freeC n z c q = none) : ∀ i, i < n → c.T i = 0 → q (c.B (i / z)) = false := fun i hi h0 => by
  have := find_none h i hi
  rw [h0] at this
  simpa using this
/-- What taking gives, in either way. -/
theorem take_some {n z : Nat} {c c1 : PoolC} {h : Int} {i : Nat} (e : takeC n z c h = (some i, c1)) (hh : 0 < h) : i < n ∧ c.T i = 0 ∧ c1.T = updI c.T i h ∧
    ((c.B (i / z) = h ∧ c1.B = c.B) ∨ (c.B (i / z) = 0 ∧ c1.B = updI c.B (i / z) h) ∨ (c.B (i / z) ≠ 0 ∧ c1.B = c.B)) := by
  unfold takeC at e
  split at e
  · rename_i j hj
    obtain ⟨h1, h2, h3⟩ := free_some hj
    injection e with e1 e2
    injection e1 with e1
    subst e1; subst e2
    exact ⟨h1, h2, rfl, .inl ⟨of_decide_eq_true h3, rfl⟩⟩
  · split at e
    · rename_i j hj
      obtain ⟨h1, h2, h3⟩ := free_some hj
      injection e with e1 e2
      injection e1 with e1
      subst e1; subst e2
      exact ⟨h1, h2, rfl, .inr (.inl ⟨of_decide_eq_true h3, rfl⟩)⟩
    · rename_i hf
      split at e
      · rename_i j hj
        obtain ⟨h1, h2, h3⟩ := free_some hj
        injection e with e1 e2
        injection e1 with e1
        subst e1; subst e2
        have := free_none hf j h1 h2
        exact ⟨h1, h2, rfl, .inr (.inr ⟨of_decide_eq_false this, rfl⟩)⟩
      · cases e
theorem take_none {n z : Nat} {c c1 : PoolC} {h : Int} (e : takeC n z c h = (none, c1)) : c1 = c ∧ ∀ i, i < n → c.T i ≠ 0 := by
  unfold takeC at e
  split at e
  · cases e
  · split at e
    · cases e
    · split at e
      · cases e
      · rename_i hf
        injection e with _ e2
        exact ⟨e2.symm, fun i hi h0 => by have := free_none hf i hi h0; cases this⟩
theorem mod_place (i z : Nat) : i / z * z + i % z = i := by
  have := Nat.div_add_mod i z
  rw [Nat.mul_comm] at this
  exact this
theorem InvC.take {n z : Nat} {c c1 : PoolC} {h : Int} {i : Nat} (hi : InvC n z c) (e : takeC n z c h = (some i, c1)) (hh : 0 < h) (hz : 0 < z) : InvC n z c1 := by
  obtain ⟨h1, h2, h3, h4⟩ := take_some e hh
  have hB : ∀ j, c1.B j = 0 → c.B j = 0 ∧ (j = i / z → False) ∨ (j = i / z ∧ c.B j = h ∧ h = 0) := fun j hj => by
    rcases h4 with ⟨a, b⟩ | ⟨a, b⟩ | ⟨a, b⟩
    · rw [b] at hj
      by_cases hji : j = i / z
      · rw [hji, a] at hj; omega
      · exact .inl ⟨hj, hji⟩
    · rw [b] at hj
      by_cases hji : j = i / z
      · rw [hji, updI_same] at hj; omega
      · rw [updI_other _ _ hji] at hj; exact .inl ⟨hj, hji⟩
    · rw [b] at hj
      by_cases hji : j = i / z
      · rw [hji] at hj; exact absurd hj a
      · exact .inl ⟨hj, hji⟩
  refine ⟨fun k hk h0 => ?_, fun j hj h0 => ?_, fun k hk => ?_, fun j => ?_⟩
  · rcases hB _ h0 with ⟨a, b⟩ | ⟨_, _, b⟩
    · have hne : k ≠ i := fun hki => b (by rw [hki])
      rw [h3, updI_other _ _ hne]
      exact hi.free k hk a
    · omega
  · by_cases hji : j = i / z
    · refine ⟨i % z, Nat.mod_lt _ hz, ?_⟩
      rw [hji, mod_place, h3, updI_same]
      omega
    · have h5 : c.B j ≠ 0 := by
        rcases h4 with ⟨_, b⟩ | ⟨_, b⟩ | ⟨_, b⟩
        · rw [b] at h0; exact h0
        · rw [b, updI_other _ _ hji] at h0; exact h0
        · rw [b] at h0; exact h0
      obtain ⟨x, hx, hT⟩ := hi.some_ j hj h5
      refine ⟨x, hx, ?_⟩
      rw [h3]
      by_cases hki : j * z + x = i
      · rw [hki, updI_same]; omega
      · rw [updI_other _ _ hki]; exact hT
  · rw [h3]
    unfold updI
    split
    · omega
    · exact hi.pos k hk
  · rcases h4 with ⟨_, b⟩ | ⟨_, b⟩ | ⟨_, b⟩
    · rw [b]; exact hi.posB j
    · rw [b]
      unfold updI
      split
      · omega
      · exact hi.posB j
    · rw [b]; exact hi.posB j
theorem empty_iff {z : Nat} {T : Nat → Int} {j : Nat} : emptyC z T j = true ↔ ∀ x, x < z → T (j * z + x) = 0 := by
  unfold emptyC
  rw [List.all_eq_true]
  exact ⟨fun h x hx => of_decide_eq_true (h x (List.mem_range.2 hx)), fun h x hx => decide_eq_true (h x (List.mem_range.1 hx))⟩
theorem InvC.give {n z : Nat} {c : PoolC} {i : Nat} (hi : InvC n z c) (hn : i < n) (hz : 0 < z) (hd : ∀ j x, j * z < n → x < z → j * z + x < n) : InvC n z (giveC z c i) := by
  have hB : ∀ j, (giveC z c i).B j = 0 → c.B j = 0 ∨ (j = i / z ∧ emptyC z (updI c.T i 0) (i / z) = true) := fun j hj => by
    unfold giveC at hj
    dsimp only at hj
    split at hj
    · rename_i he
      by_cases hji : j = i / z
      · exact .inr ⟨hji, he⟩
      · rw [updI_other _ _ hji] at hj; exact .inl hj
    · exact .inl hj
  refine ⟨fun k hk h0 => ?_, fun j hj h0 => ?_, fun k hk => ?_, fun j => ?_⟩
  · show updI c.T i 0 k = 0
    by_cases hki : k = i
    · rw [hki, updI_same]
    · rcases hB _ h0 with a | ⟨a, b⟩
      · rw [updI_other _ _ hki]; exact hi.free k hk a
      · have := empty_iff.1 b (k % z) (Nat.mod_lt _ hz)
        rw [← a, mod_place] at this
        exact this
  · show ∃ x, x < z ∧ updI c.T i 0 (j * z + x) ≠ 0
    unfold giveC at h0
    dsimp only at h0
    by_cases hji : j = i / z
    · split at h0
      · rw [hji, updI_same] at h0; exact absurd rfl h0
      · rename_i he
        refine Classical.byContradiction fun hno => he (empty_iff.2 fun x hx => Classical.byContradiction fun h1 => hno ⟨x, hx, ?_⟩)
        rw [hji]
        exact h1
    · have h5 : c.B j ≠ 0 := by
        split at h0
        · rw [updI_other _ _ hji] at h0; exact h0
        · exact h0
      obtain ⟨x, hx, hT⟩ := hi.some_ j hj h5
      refine ⟨x, hx, ?_⟩
      have hne : j * z + x ≠ i := fun e => hji (by
        rw [← e, Nat.mul_comm, Nat.mul_add_div hz, Nat.div_eq_of_lt hx, Nat.add_zero])
      rw [updI_other _ _ hne]
      exact hT
  · show 0 ≤ updI c.T i 0 k
    unfold updI
    split
    · omega
    · exact hi.pos k hk
  · unfold giveC
    dsimp only
    split
    · unfold updI
      split
      · omega
      · exact hi.posB j
    · exact hi.posB j
theorem invC_zero (n z : Nat) : InvC n z ⟨fun _ => 0, fun _ => 0⟩ := ⟨fun _ _ _ => rfl, fun _ _ h => absurd rfl h, fun _ _ => Int.le_refl _, fun _ => Int.le_refl _⟩

/-- The longest of prefixes that have an address: (its Len, whose it is, is there another one as long?). -/
def stepW (s : Int × Int × Bool) (x : Int × Int) : Int × Int × Bool := if x.1 < s.1 then s else (x.1, x.2, decide (x.1 = s.1))
theorem foldW_less : ∀ (l : List (Int × Int)) (s : Int × Int × Bool) (m : Int), s.1 < m → (∀ x ∈ l, x.1 < m) → (l.foldl stepW s).1 < m
  | [], _, _, hs, _ => hs
  | x :: l, s, m, hs, h => by
    refine foldW_less l _ m ?_ fun y hy => h y (List.mem_cons_of_mem _ hy)
    unfold stepW
    split
    · exact hs
    · exact h x (List.mem_cons_self ..)
theorem foldW_keep : ∀ (l : List (Int × Int)) (s : Int × Int × Bool), (∀ x ∈ l, x.1 < s.1) → l.foldl stepW s = s
  | [], _, _ => rfl
  | x :: l, s, h => by
    rw [List.foldl_cons]
    have e : stepW s x = s := if_pos (h x (List.mem_cons_self ..))
    rw [e]
    exact foldW_keep l s fun y hy => h y (List.mem_cons_of_mem _ hy)
theorem foldW_one (l1 l2 : List (Int × Int)) (m h : Int) (s : Int × Int × Bool) (hs : s.1 < m) (h1 : ∀ x ∈ l1, x.1 < m) (h2 : ∀ x ∈ l2, x.1 < m) : (l1 ++ (m, h) :: l2).foldl stepW s = (m, h, false) := by
  have hl := foldW_less l1 s m hs h1
  rw [List.foldl_append, List.foldl_cons]
  have e : stepW (l1.foldl stepW s) (m, h) = (m, h, false) := by
    generalize l1.foldl stepW s = t at hl
    unfold stepW
    rw [if_neg (by dsimp only; omega), decide_eq_false (by dsimp only; omega)]
  rw [e]
  exact foldW_keep l2 _ h2
/-- Of pairs of a prefix's Len and a host, each there once: the longest, if no other one is as long. -/
theorem foldW_mem {α : Type} (f : α → Int × Int) (l : List α) (x0 : α) (s : Int × Int × Bool) (hn : l.Nodup) (hm : x0 ∈ l) (hs : s.1 < (f x0).1) (h : ∀ x ∈ l, x ≠ x0 → (f x).1 < (f x0).1) : (l.map f).foldl stepW s = ((f x0).1, (f x0).2, false) := by
  obtain ⟨l1, l2, rfl⟩ := List.append_of_mem hm
  obtain ⟨p1, p2, p3⟩ := List.nodup_append.1 hn
  obtain ⟨p4, _⟩ := List.nodup_cons.1 p2
  rw [List.map_append, List.map_cons]
  refine foldW_one _ _ _ _ s hs (fun y hy => ?_) fun y hy => ?_
  · obtain ⟨x, hx, rfl⟩ := List.mem_map.1 hy
    exact h x (by simp [hx]) fun e => p3 x hx x0 (by simp) e
  · obtain ⟨x, hx, rfl⟩ := List.mem_map.1 hy
    exact h x (by simp [hx]) fun e => p4 (e ▸ hx)
/-- Where blocks are of one place each, a block is whose its place is. -/
def OneC (n z : Nat) (c : PoolC) : Prop := z = 1 → ∀ i, i < n → c.B i ≠ 0 → c.T i = c.B i
theorem OneC.take {n z : Nat} {c c1 : PoolC} {h : Int} {i : Nat} (ho : OneC n z c) (hi : InvC n z c) (e : takeC n z c h = (some i, c1)) (hh : 0 < h) : OneC n z c1 := fun h1 k hk h0 => by
  obtain ⟨a1, a2, a3, a4⟩ := take_some e hh
  subst h1
  rw [Nat.div_one] at a4
  have hne : c.B i = 0 := Classical.byContradiction fun hb => by
    have := ho rfl i a1 hb
    rw [a2] at this
    exact hb this.symm
  rcases a4 with ⟨b, _⟩ | ⟨_, d⟩ | ⟨b, _⟩
  · rw [hne] at b; omega
  · rw [a3]
    rw [d] at h0 ⊢
    by_cases hki : k = i
    · rw [hki, updI_same, updI_same]
    · rw [updI_other _ _ hki] at h0
      rw [updI_other _ _ hki, updI_other _ _ hki]
      exact ho rfl k hk h0
  · exact absurd hne b
theorem OneC.give {n z : Nat} {c : PoolC} {i : Nat} (ho : OneC n z c) (hn : i < n) : OneC n z (giveC z c i) := fun h1 k hk h0 => by
  subst h1
  have he : emptyC 1 (updI c.T i 0) (i / 1) = true := empty_iff.2 fun x hx => by
    have : x = 0 := by omega
    subst this
    rw [Nat.div_one, Nat.mul_one, Nat.add_zero, updI_same]
  unfold giveC at h0 ⊢
  dsimp only at h0 ⊢
  rw [if_pos he, Nat.div_one] at h0
  rw [if_pos he, Nat.div_one]
  by_cases hki : k = i
  · rw [hki, updI_same] at h0; exact absurd rfl h0
  · rw [updI_other _ _ hki] at h0
    rw [updI_other _ _ hki, updI_other _ _ hki]
    exact ho rfl k hk h0
end Go.Proofs.YtimhbgpnkodlaaaGreatDoor

namespace Go.Proofs.YtimhbgpnkodlaaaGreatDoor

/-- The blocks of a host; its loose places; its ways (in no order). -/
def blocksC (m z : Nat) (a L : Int) (c : PoolC) (h : Int) : List Pf := ((List.range m).filter fun j => decide (c.B j = h)).map fun j => ⟨a + ((j * z : Nat) : Int), L⟩
def looseC (n z : Nat) (c : PoolC) (h : Int) : List Nat := (List.range n).filter fun i => decide (c.T i = h) && decide (c.B (i / z) ≠ h)
def waysC (n m z : Nat) (a L : Int) (c : PoolC) (h : Int) : List Pf := blocksC m z a L c h ++ (looseC n z c h).map fun (i : Nat) => ⟨a + (i : Int), 32⟩
theorem mem_blocksC {m z : Nat} {a L : Int} {c : PoolC} {h : Int} {w : Pf} : w ∈ blocksC m z a L c h ↔ ∃ j, j < m ∧ c.B j = h ∧ w = ⟨a + ((j * z : Nat) : Int), L⟩ := by
  unfold blocksC
  rw [List.mem_map]
  constructor
  · rintro ⟨j, hj, rfl⟩
    rw [List.mem_filter, List.mem_range, decide_eq_true_eq] at hj
    exact ⟨j, hj.1, hj.2, rfl⟩
  · rintro ⟨j, h1, h2, rfl⟩
    exact ⟨j, by rw [List.mem_filter, List.mem_range, decide_eq_true_eq]; exact ⟨h1, h2⟩, rfl⟩
theorem mem_looseC {n z : Nat} {c : PoolC} {h : Int} {i : Nat} : i ∈ looseC n z c h ↔ i < n ∧ c.T i = h ∧ c.B (i / z) ≠ h := by
  unfold looseC
  rw [List.mem_filter, List.mem_range, Bool.and_eq_true, decide_eq_true_eq, decide_eq_true_eq]
theorem mem_waysC {n m z : Nat} {a L : Int} {c : PoolC} {h : Int} {w : Pf} : w ∈ waysC n m z a L c h ↔ (∃ j, j < m ∧ c.B j = h ∧ w = ⟨a + ((j * z : Nat) : Int), L⟩) ∨ ∃ i : Nat, i < n ∧ c.T i = h ∧ c.B (i / z) ≠ h ∧ w = ⟨a + (i : Int), 32⟩ := by
  unfold waysC
  rw [List.mem_append, mem_blocksC, List.mem_map]
  refine or_congr Iff.rfl ⟨?_, ?_⟩
  · rintro ⟨i, hi, rfl⟩
    obtain ⟨h1, h2, h3⟩ := mem_looseC.1 hi
    exact ⟨i, h1, h2, h3, rfl⟩
  · rintro ⟨i, h1, h2, h3, rfl⟩
    exact ⟨i, mem_looseC.2 ⟨h1, h2, h3⟩, rfl⟩
theorem pw_filter {α : Type} {R : α → α → Prop} {l : List α} (p : α → Bool) (h : l.Pairwise R) : (l.filter p).Pairwise R := h.sublist List.filter_sublist
theorem waysC_nodup {n m z : Nat} {a L : Int} {c : PoolC} {h : Int} (hz : 0 < z) (hL : L = 32 → z = 1) : (waysC n m z a L c h).Nodup := by
  unfold waysC
  refine List.nodup_append.2 ⟨?_, ?_, fun x hx y hy e => ?_⟩
  · unfold blocksC
    refine List.Pairwise.map _ (R := fun i j => i < j) (fun i j hij e => ?_) (pw_filter _ List.pairwise_lt_range)
    have := congrArg Pf.a e
    have h2 : i * z < j * z := Nat.mul_lt_mul_of_pos_right hij hz
    dsimp only at this
    omega
  · unfold looseC
    refine List.Pairwise.map _ (R := fun i j => i < j) (fun i j hij e => ?_) (pw_filter _ List.pairwise_lt_range)
    have := congrArg Pf.a e
    dsimp only at this
    omega
  · subst e
    obtain ⟨j, _, hB, e1⟩ := mem_blocksC.1 hx
    obtain ⟨i, hi, e2⟩ := List.mem_map.1 hy
    obtain ⟨_, _, h3⟩ := mem_looseC.1 hi
    rw [e1] at e2
    have ea := congrArg Pf.a e2
    have en := congrArg Pf.n e2
    dsimp only at ea en
    have hz1 := hL en.symm
    subst hz1
    have : i = j := by omega
    rw [this, Nat.div_one] at h3
    exact h3 hB
/-- Of all prefixes of all hosts the longest with an address that is taken is its owner's. -/
theorem longest_own {n m z i : Nat} {a L : Int} {c : PoolC} {hosts : List Int} {ws : Int → List Pf} {has : Pf → Bool} (hi : InvC n z c) (ho : OneC n z c) (hz : 0 < z) (hL : L ≤ 32) (hL0 : 0 ≤ L) (hL1 : L = 32 → z = 1) (hm : ∀ k, k < n → k / z < m)
    (hn : hosts.Nodup) (hw : ∀ h ∈ hosts, (ws h).Perm (waysC n m z a L c h)) (hlt : i < n) (hT : c.T i ≠ 0) (hTh : c.T i ∈ hosts)
    (hb : ∀ j, j < m → has ⟨a + ((j * z : Nat) : Int), L⟩ = decide (j = i / z)) (hl : ∀ k : Nat, k < n → has ⟨a + (k : Int), 32⟩ = decide (k = i)) :
    ∃ f, ((hosts.flatMap fun h => ((ws h).filter has).map fun w => (w.n, h)).foldl stepW (-1, 0, false)) = (f, c.T i, false) := by
  have e : (hosts.flatMap fun h => ((ws h).filter has).map fun w => (w.n, h)) = (hosts.flatMap fun h => ((ws h).filter has).map fun w => (w, h)).map fun x : Pf × Int => (x.1.n, x.2) := by
    rw [List.map_flatMap]
    congr 1
    funext h
    rw [List.map_map]
    rfl
  have hnd : (hosts.flatMap fun h => ((ws h).filter has).map fun w => (w, h)).Nodup := by
    refine List.pairwise_flatMap.2 ⟨fun h hh => ?_, ?_⟩
    · refine List.Pairwise.map _ (R := fun x y => x ≠ y) (fun x y hxy e => hxy (congrArg Prod.fst e)) (pw_filter _ ?_)
      exact (hw h hh).nodup_iff.2 (waysC_nodup hz hL1)
    · refine List.Pairwise.imp ?_ hn
      intro h1 h2 hne x hx y hy e
      obtain ⟨_, _, rfl⟩ := List.mem_map.1 hx
      obtain ⟨_, _, rfl⟩ := List.mem_map.1 hy
      exact hne (congrArg Prod.snd e)
  have hmem : ∀ x : Pf × Int, x ∈ (hosts.flatMap fun h => ((ws h).filter has).map fun w => (w, h)) ↔ x.2 ∈ hosts ∧ x.1 ∈ waysC n m z a L c x.2 ∧ has x.1 = true := fun x => by
    rw [List.mem_flatMap]
    constructor
    · rintro ⟨h, hh, hx⟩
      obtain ⟨w, hw1, rfl⟩ := List.mem_map.1 hx
      obtain ⟨h1, h2⟩ := List.mem_filter.1 hw1
      exact ⟨hh, (hw h hh).mem_iff.1 h1, h2⟩
    · rintro ⟨h1, h2, h3⟩
      exact ⟨x.2, h1, List.mem_map.2 ⟨x.1, List.mem_filter.2 ⟨(hw x.2 h1).mem_iff.2 h2, h3⟩, rfl⟩⟩
  rw [e]
  have hB0 : c.B (i / z) ≠ 0 := fun h0 => hT (hi.free i hlt h0)
  have hone : ∀ x ∈ (hosts.flatMap fun h => ((ws h).filter has).map fun w => (w, h)), (x = (⟨a + ((i / z * z : Nat) : Int), L⟩, c.B (i / z))) ∨ (x = (⟨a + (i : Int), 32⟩, c.T i) ∧ c.B (i / z) ≠ c.T i) := fun x hx => by
    obtain ⟨h1, h2, h3⟩ := (hmem x).1 hx
    obtain ⟨w, h⟩ := x
    dsimp only at h1 h2 h3
    rcases mem_waysC.1 h2 with ⟨j, hj, hB, rfl⟩ | ⟨k, hk, hTk, hBk, rfl⟩
    · rw [hb j hj, decide_eq_true_eq] at h3
      subst h3
      rw [← hB]
      exact .inl rfl
    · rw [hl k hk, decide_eq_true_eq] at h3
      subst h3
      rw [← hTk] at hBk ⊢
      exact .inr ⟨rfl, hBk⟩
  by_cases hc : c.B (i / z) = c.T i
  · refine ⟨_, foldW_mem (fun x : Pf × Int => (x.1.n, x.2)) _ (⟨a + ((i / z * z : Nat) : Int), L⟩, c.T i) _ hnd ((hmem _).2 ⟨hTh, mem_waysC.2 (.inl ⟨i / z, hm i hlt, hc, rfl⟩), by rw [hb _ (hm i hlt), decide_eq_true rfl]⟩) (by dsimp only; omega) fun x hx hne => ?_⟩
    rcases hone x hx with h | ⟨_, h⟩
    · rw [hc] at h; exact absurd h hne
    · exact absurd hc h
  · have hL2 : L < 32 := by
      rcases Int.lt_or_eq_of_le hL with h | h
      · exact h
      · have h1 := hL1 h
        have := ho h1 i hlt (by rw [h1, Nat.div_one] at hB0; exact hB0)
        rw [h1, Nat.div_one] at hc
        exact absurd this.symm hc
    refine ⟨_, foldW_mem (fun x : Pf × Int => (x.1.n, x.2)) _ (⟨a + (i : Int), 32⟩, c.T i) _ hnd ((hmem _).2 ⟨hTh, mem_waysC.2 (.inr ⟨i, hlt, rfl, hc, rfl⟩), by rw [hl _ hlt, decide_eq_true rfl]⟩) (by dsimp only; omega) fun x hx hne => ?_⟩
    rcases hone x hx with h | ⟨h, _⟩
    · rw [h]; exact hL2
    · exact absurd h hne
end Go.Proofs.YtimhbgpnkodlaaaGreatDoor

namespace Go.Proofs.YtimhbgpnkodlaaaGreatDoor

/-- Nothing lies outside. -/
def OutC (n z : Nat) (c : PoolC) : Prop := (∀ k, n ≤ k → c.T k = 0) ∧ ∀ j, n ≤ j * z → c.B j = 0
theorem OutC.take {n z i : Nat} {c c1 : PoolC} {h : Int} (ho : OutC n z c) (e : takeC n z c h = (some i, c1)) (hh : 0 < h) : OutC n z c1 := by
  obtain ⟨h1, _, h3, h4⟩ := take_some e hh
  refine ⟨fun k hk => ?_, fun j hj => ?_⟩
  · rw [h3, updI_other _ _ (by omega)]
    exact ho.1 k hk
  · rcases h4 with ⟨_, b⟩ | ⟨_, b⟩ | ⟨_, b⟩
    · rw [b]; exact ho.2 j hj
    · have hne : j ≠ i / z := fun e => by
        have := Nat.div_mul_le_self i z
        rw [← e] at this
        omega
      rw [b, updI_other _ _ hne]
      exact ho.2 j hj
    · rw [b]; exact ho.2 j hj
theorem OutC.give {n z i : Nat} {c : PoolC} (ho : OutC n z c) : OutC n z (giveC z c i) := by
  refine ⟨fun k hk => ?_, fun j hj => ?_⟩
  · show updI c.T i 0 k = 0
    unfold updI
    split
    · rfl
    · exact ho.1 k hk
  · unfold giveC
    dsimp only
    split
    · unfold updI
      split
      · rfl
      · exact ho.2 j hj
    · exact ho.2 j hj
/-- Where nothing is taken, nobody has a block. -/
theorem zeroC_of {n z : Nat} {c : PoolC} (hi : InvC n z c) (ho : OutC n z c) (hd : ∀ j x, j * z < n → x < z → j * z + x < n) (h : ∀ k, k < n → c.T k = 0) : c = ⟨fun _ => 0, fun _ => 0⟩ := by
  have hT : c.T = fun _ => 0 := funext fun k => by
    rcases Nat.lt_or_ge k n with hk | hk
    · exact h k hk
    · exact ho.1 k hk
  have hB : c.B = fun _ => 0 := funext fun j => by
    rcases Nat.lt_or_ge (j * z) n with hj | hj
    · refine Classical.byContradiction fun hne => ?_
      obtain ⟨x, hx, h0⟩ := hi.some_ j hj hne
      exact h0 (h _ (hd j x hj hx))
    · exact ho.2 j hj
  obtain ⟨T, B⟩ := c
  dsimp only at hT hB
  rw [hT, hB]
theorem ways_zero {n m z : Nat} {a L h : Int} (hh : h ≠ 0) : waysC n m z a L ⟨fun _ => 0, fun _ => 0⟩ h = [] := by
  refine List.eq_nil_iff_forall_not_mem.2 fun w hw => ?_
  rcases mem_waysC.1 hw with ⟨_, _, hB, _⟩ | ⟨_, _, hT, _, _⟩
  · exact hh hB.symm
  · exact hh hT.symm
/-- One has all places below i, and all blocks that begin there. -/
def fullC (z i : Nat) (h : Int) : PoolC := ⟨fun k => if k < i then h else 0, fun j => if j * z < i then h else 0⟩
theorem fullC_zero (z : Nat) (h : Int) : fullC z 0 h = ⟨fun _ => 0, fun _ => 0⟩ := by
  unfold fullC
  simp
theorem find_range_of {n i : Nat} {p : Nat → Bool} (hi : i < n) (hp : p i = true) (hl : ∀ k, k < i → p k = false) : (List.range n).find? p = some i := by
  cases h : (List.range n).find? p with
  | none =>
    have := find_none h i hi
    rw [hp] at this
    cases this
  | some j =>
    obtain ⟨h1, h2, h3⟩ := find_range h
    rcases Nat.lt_trichotomy i j with hij | hij | hij
    · have := h3 i hij
      rw [hp] at this
      cases this
    · rw [hij]
    · have := hl j hij
      rw [h2] at this
      cases this
theorem find_range_no {n : Nat} {p : Nat → Bool} (hl : ∀ k, k < n → p k = false) : (List.range n).find? p = none :=
  List.find?_eq_none.2 fun k hk => by
    have := hl k (List.mem_range.1 hk)
    simp [this]
theorem take_full {n z i : Nat} {h : Int} (hh : 0 < h) (hi : i < n) (hz : 0 < z) : takeC n z (fullC z i h) h = (some i, fullC z (i + 1) h) := by
  have hT : updI (fullC z i h).T i h = (fullC z (i + 1) h).T := funext fun k => by
    unfold updI fullC
    dsimp only
    by_cases hk : k = i
    · rw [if_pos hk, if_pos (by omega)]
    · rw [if_neg hk]
      by_cases hk2 : k < i
      · rw [if_pos hk2, if_pos (by omega)]
      · rw [if_neg hk2, if_neg (by omega)]
  have hfull : ∀ k, k < i → (fullC z i h).T k ≠ 0 := fun k hk => by
    unfold fullC
    dsimp only
    rw [if_pos hk]
    omega
  have hfree : (fullC z i h).T i = 0 := by
    unfold fullC
    dsimp only
    rw [if_neg (Nat.lt_irrefl _)]
  have hd := mod_place i z
  have hlt := Nat.mod_lt i hz
  by_cases hm : i % z = 0
  · have hB0 : (fullC z i h).B (i / z) = 0 := by
      unfold fullC
      dsimp only
      rw [if_neg (by omega)]
    have hlow : ∀ k, i < k → (fullC z i h).T k = 0 → (fullC z i h).B (k / z) = 0 := fun k hk _ => by
      unfold fullC
      dsimp only
      refine if_neg fun h1 => ?_
      have h2 : i / z ≤ k / z := Nat.div_le_div_right (by omega)
      have h3 := Nat.mul_le_mul_right z h2
      omega
    have h1 : freeC n z (fullC z i h) (fun x => decide (x = h)) = none := find_range_no fun k hk => by
      rcases Nat.lt_trichotomy k i with hki | hki | hki
      · rw [decide_eq_false (hfull k hki)]; rfl
      · rw [hki, hB0]
        show (_ && decide ((0 : Int) = h)) = false
        rw [decide_eq_false (show ¬ (0 : Int) = h by omega), Bool.and_false]
      · by_cases h0 : (fullC z i h).T k = 0
        · rw [hlow k hki h0]
          show (_ && decide ((0 : Int) = h)) = false
          rw [decide_eq_false (show ¬ (0 : Int) = h by omega), Bool.and_false]
        · rw [decide_eq_false h0]; rfl
    have h2 : freeC n z (fullC z i h) (fun x => decide (x = 0)) = some i := find_range_of hi (by rw [hfree, hB0]; rfl) fun k hk => by rw [decide_eq_false (hfull k hk)]; rfl
    unfold takeC
    rw [h1]
    dsimp only
    rw [h2]
    dsimp only
    rw [hT]
    have hB : updI (fullC z i h).B (i / z) h = (fullC z (i + 1) h).B := funext fun j => by
      unfold updI fullC
      dsimp only
      by_cases hj : j = i / z
      · rw [if_pos hj, hj, if_pos (by omega)]
      · rw [if_neg hj]
        by_cases hj2 : j * z < i
        · rw [if_pos hj2, if_pos (by omega)]
        · rw [if_neg hj2, if_neg fun h3 => ?_]
          have h4 : j * z = i := by omega
          exact hj (by rw [← h4, Nat.mul_div_cancel _ hz])
    rw [hB]
  · have hBh : (fullC z i h).B (i / z) = h := by
      unfold fullC
      dsimp only
      rw [if_pos (by omega)]
    have h1 : freeC n z (fullC z i h) (fun x => decide (x = h)) = some i := find_range_of hi (by rw [hfree, hBh]; simp) fun k hk => by rw [decide_eq_false (hfull k hk)]; rfl
    unfold takeC
    rw [h1]
    dsimp only
    rw [hT]
    have hB : (fullC z i h).B = (fullC z (i + 1) h).B := funext fun j => by
      unfold fullC
      dsimp only
      by_cases hj2 : j * z < i
      · rw [if_pos hj2, if_pos (by omega)]
      · rw [if_neg hj2, if_neg fun h3 => ?_]
        have h4 : j * z = i := by omega
        exact hm (by rw [← h4]; exact Nat.mul_mod_left j z)
    rw [hB]
theorem take_over {n z : Nat} {h : Int} (hh : 0 < h) : takeC n z (fullC z n h) h = (none, fullC z n h) := by
  have hno : ∀ q : Int → Bool, freeC n z (fullC z n h) q = none := fun q => find_range_no fun k hk => by
    have : (fullC z n h).T k ≠ 0 := by
      unfold fullC
      dsimp only
      rw [if_pos hk]
      omega
    rw [decide_eq_false this]
    rfl
  unfold takeC
  rw [hno, hno, hno]
theorem loose_full {n z : Nat} {h : Int} (hz : 0 < z) : looseC n z (fullC z n h) h = [] := by
  refine List.eq_nil_iff_forall_not_mem.2 fun i hi => ?_
  obtain ⟨h1, _, h3⟩ := mem_looseC.1 hi
  refine h3 ?_
  unfold fullC
  dsimp only
  have := Nat.div_mul_le_self i z
  rw [if_pos (by omega)]
/-- All of a list given back. -/
theorem give_all {z : Nat} : ∀ (l : List Nat) (c : PoolC) (k : Nat), (l.foldl (giveC z) c).T k = if k ∈ l then 0 else c.T k
  | [], c, k => by simp
  | i :: l, c, k => by
    rw [List.foldl_cons, give_all l]
    show (if k ∈ l then 0 else updI c.T i 0 k) = _
    by_cases hk : k ∈ l
    · rw [if_pos hk, if_pos (List.mem_cons_of_mem _ hk)]
    · rw [if_neg hk]
      unfold updI
      by_cases hki : k = i
      · rw [if_pos hki, if_pos (by rw [hki]; exact List.mem_cons_self ..)]
      · rw [if_neg hki, if_neg (by rw [List.mem_cons]; exact fun h => h.elim hki hk)]
/-- The first block that is asked for and has a free place: its least one; that is the least free place of all such blocks. -/
def spotC (z : Nat) (c : PoolC) (j : Nat) : Option Nat := ((List.range z).find? fun x => decide (c.T (j * z + x) = 0)).map fun x => j * z + x
def findC (m z : Nat) (c : PoolC) (q : Int → Bool) : Option Nat := (List.range m).findSome? fun j => if q (c.B j) then spotC z c j else none
theorem findSome_of {α : Type} {f : Nat → Option α} : ∀ (m : Nat) {j : Nat} {v : α}, j < m → f j = some v → (∀ k, k < j → f k = none) → (List.range m).findSome? f = some v
  | 0, _, _, h, _, _ => absurd h (by omega)
  | m + 1, j, v, h, hv, hl => by
    rw [List.range_succ, List.findSome?_append]
    by_cases hj : j < m
    · rw [findSome_of m hj hv hl]
      rfl
    · obtain rfl : j = m := by omega
      have hn : (List.range j).findSome? f = none := List.findSome?_eq_none_iff.2 fun k hk => hl k (List.mem_range.1 hk)
      rw [hn]
      simp [hv]
theorem findSome_no {α : Type} {f : Nat → Option α} {m : Nat} (hl : ∀ k, k < m → f k = none) : (List.range m).findSome? f = none := List.findSome?_eq_none_iff.2 fun k hk => hl k (List.mem_range.1 hk)
theorem spot_some {z j i : Nat} {c : PoolC} (h : spotC z c j = some i) : ∃ x, x < z ∧ i = j * z + x ∧ c.T i = 0 ∧ ∀ y, y < x → c.T (j * z + y) ≠ 0 := by
  unfold spotC at h
  obtain ⟨x, hx, rfl⟩ := Option.map_eq_some_iff.1 h
  obtain ⟨h1, h2, h3⟩ := find_range hx
  exact ⟨x, h1, rfl, of_decide_eq_true h2, fun y hy => of_decide_eq_false (h3 y hy)⟩
theorem spot_none {z j : Nat} {c : PoolC} (h : spotC z c j = none) : ∀ x, x < z → c.T (j * z + x) ≠ 0 := fun x hx => by
  unfold spotC at h
  exact of_decide_eq_false (find_none (Option.map_eq_none_iff.1 h) x hx)
theorem find_free {m z : Nat} {c : PoolC} {q : Int → Bool} (hz : 0 < z) : findC m z c q = freeC (m * z) z c q := by
  have hdiv : ∀ j x, x < z → (j * z + x) / z = j := fun j x hx => by
    rw [Nat.mul_comm, Nat.mul_add_div hz, Nat.div_eq_of_lt hx, Nat.add_zero]
  cases h : findC m z c q with
  | none =>
    refine (find_range_no fun i hi => ?_).symm
    have hj : i / z < m := (Nat.div_lt_iff_lt_mul hz).2 hi
    have hn := List.findSome?_eq_none_iff.1 h (i / z) (List.mem_range.2 hj)
    by_cases hq : q (c.B (i / z)) = true
    · rw [if_pos hq] at hn
      have := spot_none hn (i % z) (Nat.mod_lt _ hz)
      rw [mod_place] at this
      rw [decide_eq_false this]
      rfl
    · have hq2 : q (c.B (i / z)) = false := by simpa using hq
      rw [hq2, Bool.and_false]
  | some i =>
    unfold findC at h
    have hex : ∃ j, j < m ∧ (if q (c.B j) then spotC z c j else none) = some i ∧ ∀ k, k < j → (if q (c.B k) then spotC z c k else none) = none := by
      have key : ∀ m, (List.range m).findSome? (fun j => if q (c.B j) then spotC z c j else none) = some i → ∃ j, j < m ∧ (if q (c.B j) then spotC z c j else none) = some i ∧ ∀ k, k < j → (if q (c.B k) then spotC z c k else none) = none := by
        intro m
        induction m with
        | zero => intro h; cases h
        | succ m ih =>
          intro h
          rw [List.range_succ, List.findSome?_append] at h
          cases hm : (List.range m).findSome? (fun j => if q (c.B j) then spotC z c j else none) with
          | some v =>
            rw [hm] at h
            have hv : v = i := Option.some.inj h
            subst hv
            obtain ⟨j, h1, h2, h3⟩ := ih hm
            exact ⟨j, by omega, h2, h3⟩
          | none =>
            rw [hm] at h
            refine ⟨m, Nat.lt_succ_self m, by simpa using h, fun k hk => List.findSome?_eq_none_iff.1 hm k (List.mem_range.2 hk)⟩
      exact key m h
    obtain ⟨j, hj, hv, hl⟩ := hex
    have hq : q (c.B j) = true := Classical.byContradiction fun hq => by rw [if_neg hq] at hv; cases hv
    rw [if_pos hq] at hv
    obtain ⟨x, hx, rfl, hT, hy⟩ := spot_some hv
    have hlt : j * z + x < m * z := by
      have := Nat.mul_le_mul_right z (show j + 1 ≤ m from hj)
      rw [Nat.add_mul, Nat.one_mul] at this
      omega
    refine (find_range_of hlt (by rw [hdiv j x hx, hT, hq]; rfl) fun k hk => ?_).symm
    have hkd := mod_place k z
    have hkm := Nat.mod_lt k hz
    by_cases hT2 : c.T k = 0
    · have hkj : k / z < j ∨ k / z = j := by
        have h1 : k / z ≤ (j * z + x) / z := Nat.div_le_div_right (by omega)
        rw [hdiv j x hx] at h1
        omega
      rcases hkj with hkj | hkj
      · have hn := hl (k / z) hkj
        by_cases hq2 : q (c.B (k / z)) = true
        · rw [if_pos hq2] at hn
          have := spot_none hn (k % z) hkm
          rw [mod_place] at this
          exact absurd hT2 this
        · have hq3 : q (c.B (k / z)) = false := by simpa using hq2
          rw [hq3, Bool.and_false]
      · have := hy (k % z) (by rw [← hkd, hkj] at hk; omega)
        rw [← hkj, mod_place] at this
        exact absurd hT2 this
    · rw [decide_eq_false hT2]
      rfl
end Go.Proofs.YtimhbgpnkodlaaaGreatDoor

namespace Go.Proofs.YtimhbgpnkodlaaaGreatDoor

/-- What is had, and by whom, from act to act. -/
structure LawB (n z : Nat) (c : PoolC) (have_ : List Nat) (hosts : List Int) : Prop where
  inv : InvC n z c
  one : OneC n z c
  out : OutC n z c
  nd : have_.Nodup
  mem : ∀ k, k ∈ have_ ↔ c.T k ≠ 0
  hnd : hosts.Nodup
  hin : ∀ k, c.T k ≠ 0 → c.T k ∈ hosts
  hb : ∀ h ∈ hosts, 1 ≤ h ∧ h ≤ 1000
theorem LawB.start (n z : Nat) : LawB n z ⟨fun _ => 0, fun _ => 0⟩ [] [] :=
  ⟨invC_zero n z, fun _ _ _ h => absurd rfl h, ⟨fun _ _ => rfl, fun _ _ => rfl⟩, List.nodup_nil, fun k => by simp, List.nodup_nil, fun k h => absurd rfl h, fun h hh => by simp at hh⟩
/-- Hosts, one more if it is not there. -/
def hostsW (hosts : List Int) (h : Int) : List Int := if h ∈ hosts then hosts else hosts ++ [h]
theorem LawB.take {n z i : Nat} {c c1 : PoolC} {have_ : List Nat} {hosts : List Int} {h : Int} (hl : LawB n z c have_ hosts) (e : takeC n z c h = (some i, c1)) (hh : 1 ≤ h ∧ h ≤ 1000) (hz : 0 < z) :
    LawB n z c1 (have_ ++ [i]) (hostsW hosts h) ∧ i ∉ have_ ∧ i < n ∧ c1.T i = h := by
  obtain ⟨h1, h2, h3, _⟩ := take_some e (by omega)
  have hni : i ∉ have_ := fun hm => (hl.mem i).1 hm h2
  have hmw : ∀ x, x ∈ hosts → x ∈ hostsW hosts h := fun x hx => by
    unfold hostsW
    split
    · exact hx
    · exact List.mem_append_left _ hx
  have hself : h ∈ hostsW hosts h := by
    unfold hostsW
    split
    · assumption
    · simp
  refine ⟨⟨hl.inv.take e (by omega) hz, hl.one.take hl.inv e (by omega), hl.out.take e (by omega), ?_, fun k => ?_, ?_, fun k hk => ?_, fun x hx => ?_⟩, hni, h1, by rw [h3, updI_same]⟩
  · refine List.nodup_append.2 ⟨hl.nd, by simp, fun a ha b hb e => ?_⟩
    rw [List.mem_singleton.1 hb] at e
    exact hni (e ▸ ha)
  · rw [h3, List.mem_append, List.mem_singleton]
    by_cases hki : k = i
    · rw [hki, updI_same]
      exact ⟨fun _ => by omega, fun _ => .inr rfl⟩
    · rw [updI_other _ _ hki, ← hl.mem k]
      exact ⟨fun h => h.resolve_right hki, .inl⟩
  · unfold hostsW
    split
    · exact hl.hnd
    · rename_i hno
      refine List.nodup_append.2 ⟨hl.hnd, by simp, fun a ha b hb e => ?_⟩
      rw [List.mem_singleton.1 hb] at e
      exact hno (e ▸ ha)
  · rw [h3] at hk ⊢
    by_cases hki : k = i
    · rw [hki, updI_same]
      exact hself
    · rw [updI_other _ _ hki] at hk ⊢
      exact hmw _ (hl.hin k hk)
  · unfold hostsW at hx
    split at hx
    · exact hl.hb x hx
    · rcases List.mem_append.1 hx with hx | hx
      · exact hl.hb x hx
      · rw [List.mem_singleton.1 hx]
        exact hh
theorem LawB.give {n z i j : Nat} {c : PoolC} {have_ : List Nat} {hosts : List Int} (hl : LawB n z c have_ hosts) (hi : have_[j]? = some i) (hz : 0 < z) (hd : ∀ j x, j * z < n → x < z → j * z + x < n) :
    LawB n z (giveC z c i) (have_.take j ++ have_.drop (j + 1)) hosts ∧ c.T i ≠ 0 ∧ (giveC z c i).T i = 0 ∧ i < n := by
  have hm : i ∈ have_ := List.mem_of_getElem? hi
  have hT := (hl.mem i).1 hm
  have hn : i < n := Classical.byContradiction fun h => hT (hl.out.1 i (by omega))
  have hj := (List.getElem?_eq_some_iff.1 hi).1
  have hsp : have_ = have_.take j ++ i :: have_.drop (j + 1) := by
    have e := List.drop_eq_getElem_cons hj
    rw [(List.getElem?_eq_some_iff.1 hi).2] at e
    rw [← e, List.take_append_drop]
  have hnd := hl.nd
  rw [hsp] at hnd
  obtain ⟨p1, p2, p3⟩ := List.nodup_append.1 hnd
  obtain ⟨p4, p5⟩ := List.nodup_cons.1 p2
  have hmem : ∀ k, k ∈ have_.take j ++ have_.drop (j + 1) ↔ k ∈ have_ ∧ k ≠ i := fun k => by
    constructor
    · intro hk
      rcases List.mem_append.1 hk with hk | hk
      · exact ⟨by rw [hsp]; simp [hk], fun e => p3 k hk i (by simp) e⟩
      · exact ⟨by rw [hsp]; simp [hk], fun e => p4 (e ▸ hk)⟩
    · rintro ⟨hk, hne⟩
      rw [hsp] at hk
      rcases List.mem_append.1 hk with hk | hk
      · simp [hk]
      · rcases List.mem_cons.1 hk with hk | hk
        · exact absurd hk hne
        · simp [hk]
  have hTg : ∀ k, (giveC z c i).T k = updI c.T i 0 k := fun k => rfl
  refine ⟨⟨hl.inv.give hn hz hd, hl.one.give hn, hl.out.give, ?_, fun k => ?_, hl.hnd, fun k hk => ?_, hl.hb⟩, hT, by rw [hTg, updI_same], hn⟩
  · exact List.nodup_append.2 ⟨p1, p5, fun a ha b hb => p3 a ha b (List.mem_cons_of_mem _ hb)⟩
  · rw [hmem, hTg]
    by_cases hki : k = i
    · rw [hki, updI_same]
      exact ⟨fun h => absurd rfl h.2, fun h => absurd rfl h⟩
    · rw [updI_other _ _ hki, ← hl.mem k]
      exact ⟨fun h => h.1, fun h => ⟨h, hki⟩⟩
  · rw [hTg] at hk ⊢
    by_cases hki : k = i
    · rw [hki, updI_same] at hk
      exact absurd rfl hk
    · rw [updI_other _ _ hki] at hk ⊢
      exact hl.hin k hk
end Go.Proofs.YtimhbgpnkodlaaaGreatDoor

namespace Go.Proofs.YtimhbgpnkodlaaaGreatDoor

/-- A pool's prefix, and the Len of its blocks. -/
structure PoolP (p : Pf) (L : Int) : Prop where
  ok : chk p.a p.n = 0
  lo : p.n ≤ L
  hi : L ≤ 32
def plN (p : Pf) : Nat := 2 ^ (32 - p.n.toNat)
def plZ (L : Int) : Nat := 2 ^ (32 - L.toNat)
def plM (p : Pf) (L : Int) : Nat := 2 ^ (L.toNat - p.n.toNat)
section
variable {p : Pf} {L : Int}
theorem PoolP.len (h : PoolP p L) : (0 ≤ p.n ∧ p.n ≤ 32) ∧ p.n.toNat ≤ L.toNat ∧ L.toNat ≤ 32 := by
  obtain ⟨_, h2, _⟩ := chk_zero h.ok
  have := h.lo
  have := h.hi
  omega
theorem plZ_pos (L : Int) : 0 < plZ L := Nat.pow_pos (by omega)
theorem plM_pos (p : Pf) (L : Int) : 0 < plM p L := Nat.pow_pos (by omega)
theorem PoolP.mz (h : PoolP p L) : plM p L * plZ L = plN p := by
  obtain ⟨_, h2, h3⟩ := h.len
  unfold plM plZ plN
  rw [← Nat.pow_add]
  congr 1
  omega
theorem plZ_one (h : L = 32) : plZ L = 1 := by subst h; rfl
theorem plN_le (p : Pf) : plN p ≤ 4294967296 := by
  have : 2 ^ (32 - p.n.toNat) ≤ 2 ^ 32 := Nat.pow_le_pow_right (by omega) (by omega)
  simpa [plN] using this
/-- The prefix begins at a multiple of its places, and ends below all addresses' end. -/
theorem PoolP.base (h : PoolP p L) : ∃ A q : Nat, p.a = (A : Int) ∧ A = plN p * q ∧ A + plN p ≤ 4294967296 := by
  obtain ⟨h1, h2, h3⟩ := chk_zero h.ok
  obtain ⟨A, hA⟩ : ∃ A : Nat, p.a = (A : Int) := ⟨p.a.toNat, by omega⟩
  unfold low at h3
  rw [hA, Int.toNat_natCast] at h3
  have hd : plN p ∣ A := Nat.dvd_of_mod_eq_zero h3
  have hd2 : plN p ∣ 4294967296 := by
    have : plN p * 2 ^ p.n.toNat = 4294967296 := by
      unfold plN
      rw [← Nat.pow_add, show 32 - p.n.toNat + p.n.toNat = 32 by omega]
    exact ⟨_, this.symm⟩
  obtain ⟨q, hq⟩ := hd
  obtain ⟨r, hr⟩ := hd2
  have hlt : A < 4294967296 := by omega
  refine ⟨A, q, hA, hq, ?_⟩
  rw [hq, hr] at hlt ⊢
  have hpos : 0 < plN p := Nat.pow_pos (by omega)
  have hqr : q < r := Nat.lt_of_mul_lt_mul_left hlt
  have := Nat.mul_le_mul_left (plN p) (show q + 1 ≤ r from hqr)
  rw [Nat.mul_add, Nat.mul_one] at this
  exact this
theorem PoolP.block_lt (h : PoolP p L) {j x : Nat} (hj : j < plM p L) (hx : x < plZ L) : j * plZ L + x < plN p := by
  rw [← h.mz]
  have := Nat.mul_le_mul_right (plZ L) (show j + 1 ≤ plM p L from hj)
  rw [Nat.add_mul, Nat.one_mul] at this
  omega
theorem PoolP.block_in (h : PoolP p L) {j : Nat} (hj : j * plZ L < plN p) : j < plM p L := by
  rw [← h.mz] at hj
  exact Nat.lt_of_mul_lt_mul_right hj
theorem PoolP.in_block (h : PoolP p L) {i : Nat} (hi : i < plN p) : i / plZ L < plM p L := by
  rw [← h.mz] at hi
  exact (Nat.div_lt_iff_lt_mul (plZ_pos L)).2 hi
theorem PoolP.low (h : PoolP p L) {A i : Nat} (hA : p.a = (A : Int)) : (A + i) % plZ L = i % plZ L := by
  obtain ⟨A', q, h1, h2, _⟩ := h.base
  have : A' = A := by omega
  subst this
  rw [h2, ← h.mz, Nat.mul_comm (plM p L), Nat.mul_assoc, Nat.mul_add_mod]
theorem PoolP.chk_block (h : PoolP p L) {j : Nat} (hj : j < plM p L) : chk (p.a + ((j * plZ L : Nat) : Int)) L = 0 := by
  obtain ⟨A, q, h1, h2, h3⟩ := h.base
  obtain ⟨h4, h5, h6⟩ := h.len
  have hlt := h.block_lt hj (plZ_pos L)
  have hl := h.lo
  have hh := h.hi
  unfold chk
  rw [if_pos (by omega), h1]
  have e : ((A : Int) + ((j * plZ L : Nat) : Int)).toNat = A + j * plZ L := by omega
  rw [e]
  refine if_pos ?_
  show (A + j * plZ L) % plZ L = 0
  rw [h.low h1, Nat.mul_mod_left]
theorem PoolP.has_block (h : PoolP p L) {i j : Nat} (hi : i < plN p) (hj : j < plM p L) : hasB (p.a + ((j * plZ L : Nat) : Int)) L (p.a + (i : Int)) = decide (j = i / plZ L) := by
  obtain ⟨A, q, h1, h2, h3⟩ := h.base
  have hc := h.chk_block hj
  have hl : Go.Proofs.YtimhbgpnkodlaaaGreatDoor.low (A + i) L.toNat = i % plZ L := h.low h1
  have e : ((A : Int) + (i : Int)).toNat = A + i := by omega
  unfold hasB
  rw [h1] at hc
  rw [Bool.eq_iff_iff, decide_eq_true_eq, decide_eq_true_eq, h1, e, hl]
  have hd := mod_place i (plZ L)
  constructor
  · rintro ⟨_, _, h6⟩
    have h7 : i / plZ L * plZ L = j * plZ L := by omega
    exact (Nat.eq_of_mul_eq_mul_right (plZ_pos L) h7).symm
  · intro h6
    rw [← h6] at hd
    exact ⟨hc, by omega, by omega⟩
theorem PoolP.has_one (h : PoolP p L) {i k : Nat} (hi : i < plN p) (hk : k < plN p) : hasB (p.a + (k : Int)) 32 (p.a + (i : Int)) = decide (k = i) := by
  obtain ⟨A, q, h1, h2, h3⟩ := h.base
  have hl : ∀ x : Nat, Go.Proofs.YtimhbgpnkodlaaaGreatDoor.low x (32 : Int).toNat = 0 := fun x => Nat.mod_one x
  unfold hasB
  rw [Bool.eq_iff_iff, decide_eq_true_eq, decide_eq_true_eq, h1, hl]
  constructor
  · rintro ⟨_, _, h6⟩
    omega
  · intro h6
    subst h6
    refine ⟨?_, by omega, by omega⟩
    unfold chk
    rw [if_pos (by omega), hl, if_pos rfl]
end
end Go.Proofs.YtimhbgpnkodlaaaGreatDoor

namespace Go.Proofs.YtimhbgpnkodlaaaGreatDoor

/-- A host's ways, rising. -/
def waysS (n m z : Nat) (a L : Int) (c : PoolC) (h : Int) : List Pf := ((looseC n z c h).map fun (i : Nat) => (⟨a + (i : Int), 32⟩ : Pf)).foldl dropIn (blocksC m z a L c h)
theorem blocks_rise {m z : Nat} {a L : Int} {c : PoolC} {h : Int} (hz : 0 < z) : (blocksC m z a L c h).Pairwise ltP := by
  unfold blocksC
  refine List.Pairwise.map _ (R := fun i j => i < j) (fun i j hij => ?_) (pw_filter _ List.pairwise_lt_range)
  have h2 : i * z < j * z := Nat.mul_lt_mul_of_pos_right hij hz
  exact .inl (by dsimp only; omega)
theorem dropIn_fold : ∀ (l r : List Pf), r.Pairwise ltP → (r ++ l).Nodup → (l.foldl dropIn r).Pairwise ltP ∧ (l.foldl dropIn r).Perm (r ++ l)
  | [], r, h, _ => ⟨h, by simp⟩
  | p :: l, r, h, hn => by
    have hp : p ∉ r := fun hm => by
      obtain ⟨_, _, h3⟩ := List.nodup_append.1 hn
      exact h3 p hm p (by simp) rfl
    obtain ⟨l1, l2, e1, e2, e3⟩ := dropIn_new h hp
    have hperm : (dropIn r p).Perm (r ++ [p]) := by
      rw [e2, e1]
      have h1 : (l1 ++ p :: l2).Perm (p :: (l1 ++ l2)) := List.perm_middle
      exact h1.trans (List.perm_append_singleton p (l1 ++ l2)).symm
    have h4 : (dropIn r p ++ l).Perm (r ++ p :: l) := by
      have := hperm.append_right l
      simpa using this
    have ih := dropIn_fold l (dropIn r p) (e2 ▸ e3) (h4.nodup_iff.2 hn)
    exact ⟨ih.1, ih.2.trans h4⟩
theorem waysS_rise {n m z : Nat} {a L : Int} {c : PoolC} {h : Int} (hz : 0 < z) (hL : L = 32 → z = 1) : (waysS n m z a L c h).Pairwise ltP ∧ (waysS n m z a L c h).Perm (waysC n m z a L c h) :=
  dropIn_fold _ _ (blocks_rise hz) (waysC_nodup hz hL)
/-- Two rising lists of the same prefixes are one. -/
theorem rise_one : ∀ (l r : List Pf), l.Pairwise ltP → r.Pairwise ltP → l.Perm r → l = r
  | [], r, _, _, h => (List.nil_perm.1 h).symm
  | p :: l, [], _, _, h => absurd (List.perm_nil.1 h) (by simp)
  | p :: l, q :: r, hl, hr, h => by
    obtain ⟨a1, a2⟩ := List.pairwise_cons.1 hl
    obtain ⟨b1, b2⟩ := List.pairwise_cons.1 hr
    have hpq : p = q := by
      have hp := h.mem_iff.1 (List.mem_cons_self (a := p) (l := l))
      have hq := h.mem_iff.2 (List.mem_cons_self (a := q) (l := r))
      rcases List.mem_cons.1 hp with e | hp
      · exact e
      · rcases List.mem_cons.1 hq with e | hq
        · exact e.symm
        · exact absurd rfl (ltP_ne (ltP_trans (a1 q hq) (b1 p hp)))
    subst hpq
    rw [rise_one l r a2 b2 (List.perm_cons p |>.1 h)]
end Go.Proofs.YtimhbgpnkodlaaaGreatDoor

namespace Go.Proofs.YtimhbgpnkodlaaaGreatDoor

/-- Whose an address is; whose a block is, by its first address. -/
def atT (a0 : Int) (c : PoolC) : Int → Int := fun x => if a0 ≤ x then c.T (x - a0).toNat else 0
def atB (a0 : Int) (z : Nat) (c : PoolC) : Int → Int := fun x => if a0 ≤ x ∧ (x - a0) % (z : Int) = 0 then c.B ((x - a0).toNat / z) else 0
theorem atT_place (a0 : Int) (c : PoolC) (i : Nat) : atT a0 c (a0 + (i : Int)) = c.T i := by
  unfold atT
  rw [if_pos (by omega)]
  congr 1
  omega
theorem atB_block (a0 : Int) {z : Nat} (c : PoolC) (hz : 0 < z) (j : Nat) : atB a0 z c (a0 + ((j * z : Nat) : Int)) = c.B j := by
  unfold atB
  have e : a0 + ((j * z : Nat) : Int) - a0 = ((j * z : Nat) : Int) := by omega
  rw [e, if_pos ⟨by omega, by rw [← Int.natCast_emod, Nat.mul_mod_left]; rfl⟩]
  congr 1
  show (j * z) / z = j
  exact Nat.mul_div_cancel _ hz
theorem atT_low {a0 x : Int} (c : PoolC) (h : x < a0) : atT a0 c x = 0 := if_neg (by omega)
theorem atT_out {a0 x : Int} {n z : Nat} {c : PoolC} (ho : OutC n z c) (h : x < a0 ∨ a0 + (n : Int) ≤ x) : atT a0 c x = 0 := by
  unfold atT
  split
  · exact ho.1 _ (by omega)
  · rfl
/-- An address that is taken is a place of the prefix. -/
theorem atT_in {a0 x : Int} {n z : Nat} {c : PoolC} (ho : OutC n z c) (h : atT a0 c x ≠ 0) : ∃ i : Nat, i < n ∧ x = a0 + (i : Int) ∧ c.T i ≠ 0 := by
  unfold atT at h
  split at h
  · exact ⟨(x - a0).toNat, Classical.byContradiction fun hn => h (ho.1 _ (by omega)), by omega, h⟩
  · exact absurd rfl h
theorem atT_upd (a0 : Int) (T B B' : Nat → Int) (i : Nat) (v : Int) : atT a0 ⟨updI T i v, B'⟩ = updZ (atT a0 ⟨T, B⟩) (a0 + (i : Int)) v := by
  funext x
  unfold atT updZ
  by_cases hx : x = a0 + (i : Int)
  · subst hx
    rw [if_pos (by omega), if_pos rfl]
    show updI T i v _ = v
    rw [show (a0 + (i : Int) - a0).toNat = i by omega, updI_same]
  · rw [if_neg hx]
    by_cases hc : a0 ≤ x
    · simp only [if_pos hc]
      exact updI_other _ _ (by omega)
    · simp only [if_neg hc]
theorem atT_same (a0 : Int) (T B B' : Nat → Int) : atT a0 ⟨T, B⟩ = atT a0 ⟨T, B'⟩ := rfl
theorem atB_same (a0 : Int) (z : Nat) (T T' B : Nat → Int) : atB a0 z ⟨T, B⟩ = atB a0 z ⟨T', B⟩ := rfl
theorem atB_upd (a0 : Int) {z : Nat} (T T' B : Nat → Int) (hz : 0 < z) (j : Nat) (v : Int) : atB a0 z ⟨T', updI B j v⟩ = updZ (atB a0 z ⟨T, B⟩) (a0 + ((j * z : Nat) : Int)) v := by
  funext x
  by_cases hx : x = a0 + ((j * z : Nat) : Int)
  · subst hx
    rw [atB_block _ _ hz]
    unfold updZ
    rw [if_pos rfl]
    exact updI_same _ _ _
  · unfold updZ
    rw [if_neg hx]
    unfold atB
    by_cases hc : a0 ≤ x ∧ (x - a0) % (z : Int) = 0
    · rw [if_pos hc, if_pos hc]
      show updI B j v _ = B _
      refine updI_other _ _ fun e => hx ?_
      obtain ⟨h1, h2⟩ := hc
      have h3 : (x - a0) = (((x - a0).toNat : Nat) : Int) := by omega
      have h4 : (x - a0).toNat % z = 0 := by
        rw [h3] at h2
        exact_mod_cast h2
      have h5 := Nat.div_add_mod (x - a0).toNat z
      rw [e, h4, Nat.mul_comm] at h5
      omega
    · rw [if_neg hc, if_neg hc]
theorem atB_zero (a0 : Int) (z : Nat) : atB a0 z ⟨fun _ => 0, fun _ => 0⟩ = fun _ => 0 := by
  funext x
  unfold atB
  split <;> rfl
theorem atT_zero (a0 : Int) : atT a0 ⟨fun _ => 0, fun _ => 0⟩ = fun _ => 0 := by
  funext x
  unfold atT
  split <;> rfl

/-- How many are taken. -/
def cntC (n : Nat) (T : Nat → Int) : Nat := (List.range n).countP fun i => decide (T i ≠ 0)
theorem cntC_zero (n : Nat) : cntC n (fun _ => 0) = 0 := List.countP_eq_zero.2 fun i _ => by simp
theorem cntC_succ (n : Nat) (T : Nat → Int) : cntC (n + 1) T = cntC n T + if T n ≠ 0 then 1 else 0 := by
  unfold cntC
  rw [List.range_succ, List.countP_append, List.countP_singleton]
  by_cases h : T n = 0 <;> simp [h]
theorem cntC_upd : ∀ (n : Nat) (T : Nat → Int) (i : Nat) (v : Int), i < n → cntC n (updI T i v) + (if T i ≠ 0 then 1 else 0) = cntC n T + if v ≠ 0 then 1 else 0
  | 0, _, _, _, h => absurd h (by omega)
  | n + 1, T, i, v, h => by
    rw [cntC_succ, cntC_succ]
    by_cases hi : i = n
    · subst hi
      have e : cntC i (updI T i v) = cntC i T := by
        unfold cntC
        refine List.countP_congr fun k hk => ?_
        rw [updI_other _ _ (by have := List.mem_range.1 hk; omega)]
      rw [e, updI_same]
      omega
    · have h1 := cntC_upd n T i v (by omega)
      rw [updI_other _ _ (show n ≠ i by omega)]
      omega
theorem cntC_le (n : Nat) (T : Nat → Int) : cntC n T ≤ n := by
  unfold cntC
  exact Nat.le_trans List.countP_le_length (Nat.le_of_eq List.length_range)
/-- Just those that are had. -/
theorem cntC_had {n : Nat} {T : Nat → Int} {l : List Nat} (hn : l.Nodup) (hm : ∀ k, k ∈ l ↔ T k ≠ 0) (ho : ∀ k, n ≤ k → T k = 0) : cntC n T = l.length := by
  unfold cntC
  rw [List.countP_eq_length_filter]
  refine List.Perm.length_eq ((List.perm_ext_iff_of_nodup ?_ hn).2 fun k => ?_)
  · exact pw_filter _ List.nodup_range
  · rw [List.mem_filter, List.mem_range, decide_eq_true_iff, hm]
    exact ⟨fun h => h.2, fun h => ⟨Classical.byContradiction fun hk => h (ho k (by omega)), h⟩⟩
theorem cntC_full (n z : Nat) {h : Int} (hh : h ≠ 0) : cntC n (fullC z n h).T = n := by
  unfold cntC
  rw [List.countP_eq_length_filter, List.filter_eq_self.2, List.length_range]
  intro k hk
  have := List.mem_range.1 hk
  show decide ((if k < n then h else 0) ≠ 0) = true
  rw [if_pos this]
  exact decide_eq_true hh
end Go.Proofs.YtimhbgpnkodlaaaGreatDoor

namespace Go.Proofs.YtimhbgpnkodlaaaGreatDoor

/-- The loose addresses of a host, rising. -/
def looseZ (n z : Nat) (a0 : Int) (c : PoolC) (h : Int) : List Int := (looseC n z c h).map fun (i : Nat) => a0 + (i : Int)
theorem looseZ_rise (n z : Nat) (a0 : Int) (c : PoolC) (h : Int) : (looseZ n z a0 c h).Pairwise (· < ·) := by
  refine List.Pairwise.map _ (R := fun i j => i < j) (fun i j hij => ?_) (pw_filter _ List.pairwise_lt_range)
  show a0 + (i : Int) < a0 + (j : Int)
  omega
theorem ints_oneZ : ∀ (l r : List Int), l.Pairwise (· ≤ ·) → r.Pairwise (· ≤ ·) → l.Perm r → l = r
  | [], r, _, _, h => (List.nil_perm.1 h).symm
  | p :: l, [], _, _, h => absurd (List.perm_nil.1 h) (by simp)
  | p :: l, q :: r, hl, hr, h => by
    obtain ⟨a1, a2⟩ := List.pairwise_cons.1 hl
    obtain ⟨b1, b2⟩ := List.pairwise_cons.1 hr
    have hpq : p = q := by
      have hp := h.mem_iff.1 (List.mem_cons_self (a := p) (l := l))
      have hq := h.mem_iff.2 (List.mem_cons_self (a := q) (l := r))
      rcases List.mem_cons.1 hp with e | hp
      · exact e
      · rcases List.mem_cons.1 hq with e | hq
        · exact e.symm
        · have := a1 q hq
          have := b1 p hp
          omega
    subst hpq
    rw [ints_oneZ l r a2 b2 (List.perm_cons p |>.1 h)]
/-- Where the block of an address begins. -/
def beginZ (a0 : Int) (z : Nat) (x : Int) : Int := x - (x - a0).tmod (z : Int)
theorem begin_place (a0 : Int) (z i : Nat) : beginZ a0 z (a0 + (i : Int)) = a0 + ((i / z * z : Nat) : Int) := by
  unfold beginZ
  have e : a0 + (i : Int) - a0 = (i : Int) := by omega
  have e2 : (i : Int).tmod (z : Int) = ((i % z : Nat) : Int) := rfl
  rw [e, e2]
  have := mod_place i z
  omega
theorem block_of (a0 : Int) {z : Nat} (c : PoolC) (hz : 0 < z) (i : Nat) : atB a0 z c (beginZ a0 z (a0 + (i : Int))) = c.B (i / z) := by
  rw [begin_place, atB_block a0 c hz]
/-- What a range over all that is taken has met, of what is still to come nothing. -/
structure Met (f : Int → Int) (g : Int → Bool) (left : Int → Bool) (out : List Int) : Prop where
  nd : out.Nodup
  mem : ∀ x, x ∈ out ↔ f x ≠ 0 ∧ left x = false ∧ g x = true
theorem Met.start (f : Int → Int) (g : Int → Bool) : Met f g (fun x => decide (f x ≠ 0)) [] :=
  ⟨List.nodup_nil, fun x => ⟨fun h => by simp at h, fun h => absurd h.1 (of_decide_eq_false h.2.1)⟩⟩
theorem Met.no {f : Int → Int} {g left : Int → Bool} {out : List Int} {x : Int} (h : Met f g left out) (hx : g x = false) : Met f g (fun z => left z && decide (z ≠ x)) out :=
  ⟨h.nd, fun y => by
    rw [h.mem]
    by_cases hy : y = x
    · subst hy
      simp [hx]
    · simp [hy]⟩
theorem Met.yes {f : Int → Int} {g left : Int → Bool} {out : List Int} {x : Int} (h : Met f g left out) (hx : g x = true) (hl : left x = true) (hf : f x ≠ 0) : Met f g (fun z => left z && decide (z ≠ x)) (out ++ [x]) := by
  have hno : x ∉ out := fun hm => by
    have := ((h.mem x).1 hm).2.1
    rw [hl] at this
    cases this
  refine ⟨List.nodup_append.2 ⟨h.nd, by simp, fun a ha b hb e => hno (by rw [List.mem_singleton.1 hb] at e; exact e ▸ ha)⟩, fun y => ?_⟩
  rw [List.mem_append, List.mem_singleton, h.mem]
  by_cases hy : y = x
  · subst hy
    simp [hx, hf]
  · simp [hy]
/-- All met and sorted: the loose ones. -/
theorem Met.loose {n z : Nat} {a0 h : Int} {c : PoolC} {left : Int → Bool} {out : List Int} (hz : 0 < z) (ho : OutC n z c)
    (hm : Met (atT a0 c) (fun x => decide (atT a0 c x = h) && decide (atB a0 z c (beginZ a0 z x) ≠ h)) left out) (hl : ∀ x, left x = false) (h0 : h ≠ 0) : out.Perm (looseZ n z a0 c h) := by
  refine (List.perm_ext_iff_of_nodup hm.nd ((looseZ_rise n z a0 c h).imp fun hab => Int.ne_of_lt hab)).2 fun x => ?_
  rw [hm.mem, looseZ, List.mem_map]
  constructor
  · rintro ⟨h1, _, h3⟩
    obtain ⟨i, hi, rfl, hT⟩ := atT_in ho h1
    rw [Bool.and_eq_true, decide_eq_true_iff, decide_eq_true_iff, atT_place, block_of a0 c hz] at h3
    exact ⟨i, mem_looseC.2 ⟨hi, h3.1, h3.2⟩, rfl⟩
  · rintro ⟨i, hi, rfl⟩
    obtain ⟨h1, h2, h3⟩ := mem_looseC.1 hi
    refine ⟨?_, hl _, ?_⟩
    · rw [atT_place, h2]
      exact h0
    · rw [Bool.and_eq_true, decide_eq_true_iff, decide_eq_true_iff, atT_place, block_of a0 c hz]
      exact ⟨h2, h3⟩
/-- Nobody has nothing loose. -/
theorem Met.none_ {a0 : Int} {c : PoolC} {z : Nat} {left : Int → Bool} {out : List Int} (hm : Met (atT a0 c) (fun x => decide (atT a0 c x = 0) && decide (atB a0 z c (beginZ a0 z x) ≠ 0)) left out) : out = [] := by
  cases out with
  | nil => rfl
  | cons x out =>
    obtain ⟨h1, _, h3⟩ := (hm.mem x).1 (List.mem_cons_self ..)
    rw [Bool.and_eq_true, decide_eq_true_iff] at h3
    exact absurd h3.1 h1
theorem loose_sorted {n z : Nat} {a0 h : Int} {c : PoolC} {l l1 : List Int} (hp : l1.Perm l) (hs : l1.Pairwise (· ≤ ·)) (hl : l.Perm (looseZ n z a0 c h)) : l1 = looseZ n z a0 c h :=
  ints_oneZ _ _ hs ((looseZ_rise n z a0 c h).imp fun hab => Int.le_of_lt hab) (hp.trans hl)
end Go.Proofs.YtimhbgpnkodlaaaGreatDoor

namespace Go.Proofs.YtimhbgpnkodlaaaGreatDoor

def oneP (a : Int) : Pf := ⟨a, 32⟩
theorem waysC_loose (n m z : Nat) (a0 L : Int) (c : PoolC) (h : Int) : waysC n m z a0 L c h = blocksC m z a0 L c h ++ (looseZ n z a0 c h).map oneP := by
  unfold waysC looseZ
  rw [List.map_map]
  rfl
theorem waysS_loose (n m z : Nat) (a0 L : Int) (c : PoolC) (h : Int) : waysS n m z a0 L c h = ((looseZ n z a0 c h).map oneP).foldl dropIn (blocksC m z a0 L c h) := by
  unfold waysS looseZ
  rw [List.map_map]
  rfl
/-- Whatever has just a host's ways, sorted, is that. -/
theorem ways_sorted {n m z : Nat} {a0 L h : Int} {c : PoolC} {l : List Pf} (hz : 0 < z) (hL : L = 32 → z = 1) (hp : l.Perm (blocksC m z a0 L c h ++ (looseZ n z a0 c h).map oneP)) (hs : l.Pairwise fun p q => ¬ ltP q p) : l = waysS n m z a0 L c h := by
  rw [← waysC_loose] at hp
  obtain ⟨h1, h2⟩ := waysS_rise (n := n) (m := m) (a := a0) (c := c) (h := h) hz hL
  have hn : l.Nodup := hp.nodup_iff.2 (waysC_nodup hz hL)
  refine rise_one l _ ?_ h1 (hp.trans h2.symm)
  have hb : l.Pairwise fun p q => ¬ ltP q p ∧ p ≠ q := List.pairwise_and_iff.2 ⟨hs, hn⟩
  exact hb.imp fun hab => tri hab.1 fun e => hab.2 e.symm
/-- BlockAgain: what the first acts have, and who. -/
structure LawA (n z : Nat) (c : PoolC) (have_ : List Nat) (hosts : List Int) : Prop where
  inv : InvC n z c
  out : OutC n z c
  mem : ∀ k, c.T k ≠ 0 → k ∈ have_
  lt : ∀ k ∈ have_, k < n
  had : ∀ k ∈ have_, c.T k ≠ 0
  nd : have_.Nodup
  hb : ∀ h ∈ hosts, 1 ≤ h ∧ h ≤ 1000
theorem LawA.start (n z : Nat) : LawA n z ⟨fun _ => 0, fun _ => 0⟩ [] [] :=
  ⟨invC_zero n z, ⟨fun _ _ => rfl, fun _ _ => rfl⟩, fun k h => absurd rfl h, fun k h => by simp at h, fun k h => by simp at h, List.nodup_nil, fun h hh => by simp at hh⟩
theorem LawA.take {n z i : Nat} {c c1 : PoolC} {have_ : List Nat} {hosts : List Int} {h : Int} (hl : LawA n z c have_ hosts) (e : takeC n z c h = (some i, c1)) (hh : 1 ≤ h ∧ h ≤ 1000) (hz : 0 < z) :
    LawA n z c1 (have_ ++ [i]) (hosts ++ [h]) ∧ i < n := by
  obtain ⟨h1, h2, h3, _⟩ := take_some e (by omega)
  have hni : i ∉ have_ := fun hm => hl.had i hm h2
  refine ⟨⟨hl.inv.take e (by omega) hz, hl.out.take e (by omega), fun k hk => ?_, fun k hk => ?_, fun k hk => ?_, ?_, fun x hx => ?_⟩, h1⟩
  · rw [h3] at hk
    by_cases hki : k = i
    · exact List.mem_append_right _ (List.mem_singleton.2 hki)
    · rw [updI_other _ _ hki] at hk
      exact List.mem_append_left _ (hl.mem k hk)
  · rcases List.mem_append.1 hk with hk | hk
    · exact hl.lt k hk
    · rw [List.mem_singleton.1 hk]
      exact h1
  · rw [h3]
    by_cases hki : k = i
    · rw [hki, updI_same]
      omega
    · rw [updI_other _ _ hki]
      rcases List.mem_append.1 hk with hk | hk
      · exact hl.had k hk
      · exact absurd (List.mem_singleton.1 hk) hki
  · refine List.nodup_append.2 ⟨hl.nd, by simp, fun a ha b hb e => ?_⟩
    rw [List.mem_singleton.1 hb] at e
    exact hni (e ▸ ha)
  · rcases List.mem_append.1 hx with hx | hx
    · exact hl.hb x hx
    · rw [List.mem_singleton.1 hx]
      exact hh
/-- The last of what is had goes back. -/
theorem LawA.back {n z i : Nat} {c : PoolC} {have_ : List Nat} {hosts : List Int} (hl : LawA n z c (have_ ++ [i]) hosts) (hz : 0 < z) (hd : ∀ j x, j * z < n → x < z → j * z + x < n) :
    LawA n z (giveC z c i) have_ hosts ∧ c.T i ≠ 0 ∧ i < n := by
  have hin : i ∈ have_ ++ [i] := by simp
  obtain ⟨n1, n2, n3⟩ := List.nodup_append.1 hl.nd
  have hTg : ∀ k, (giveC z c i).T k = updI c.T i 0 k := fun k => rfl
  refine ⟨⟨hl.inv.give (hl.lt i hin) hz hd, hl.out.give, fun k hk => ?_, fun k hk => hl.lt k (List.mem_append_left _ hk), fun k hk => ?_, n1, hl.hb⟩, hl.had i hin, hl.lt i hin⟩
  · rw [hTg] at hk
    by_cases hki : k = i
    · rw [hki, updI_same] at hk
      exact absurd rfl hk
    · rw [updI_other _ _ hki] at hk
      rcases List.mem_append.1 (hl.mem k hk) with h | h
      · exact h
      · exact absurd (List.mem_singleton.1 h) hki
  · have hki : k ≠ i := n3 k hk i (by simp)
    rw [hTg, updI_other _ _ hki]
    exact hl.had k (List.mem_append_left _ hk)
/-- All given back: nobody has anything. -/
theorem LawA.zero {n z : Nat} {c : PoolC} {hosts : List Int} (hl : LawA n z c [] hosts) (hd : ∀ j x, j * z < n → x < z → j * z + x < n) : c = ⟨fun _ => 0, fun _ => 0⟩ :=
  zeroC_of hl.inv hl.out hd fun k _ => Classical.byContradiction fun h => absurd (hl.mem k h) (by simp)
end Go.Proofs.YtimhbgpnkodlaaaGreatDoor

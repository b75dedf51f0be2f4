/- Three tables side by side. No condition but those that stand in each theorem. -/
import Derived.Test.YtkljanjapcpbdaaDoorFib7
namespace Go.Proofs.YtkljanjapcpbdaaDoor
open Go.RowKit

/-- A table somewhere from block B on: its number of ways, its ways. -/
structure TabB (B : Nat) (w : World) (t : Nat) (ms n : Int) (V : Fm.VM) (F : Nat → Prop) : Prop where
  ex : ∃ r N, TabAt w t ms n r N V ∧ F = inT t N
  from_ : ∀ k, F k → B ≤ k

theorem TabAt.inT_lt {w : World} {t r : Nat} {ms n : Int} {N : Nat → Nat → Option Nat} {V : Fm.VM} (h : TabAt w t ms n r N V) {k : Nat} (hk : inT t N k) : k < w.heap.size := by
  rcases hk with rfl | ⟨i, v, hb⟩
  · exact h.tab.lt
  · exact h.nodes.lt hb

theorem TabB.lt {B : Nat} {w : World} {t : Nat} {ms n : Int} {V : Fm.VM} {F : Nat → Prop} (h : TabB B w t ms n V F) {k : Nat} (hk : F k) : k < w.heap.size := by
  obtain ⟨r, N, hT, rfl⟩ := h.ex
  exact hT.inT_lt hk
theorem TabB.upd {B : Nat} {S : Nat → Prop} {w w1 : World} {t : Nat} {ms n : Int} {V : Fm.VM} {F : Nat → Prop} (h : TabB B w t ms n V F) (hu : Upd S w w1) (hs : ∀ k, F k → ¬ S k) : TabB B w1 t ms n V F := by
  obtain ⟨r, N, hT, rfl⟩ := h.ex
  exact ⟨⟨r, N, hT.upd hu hs, rfl⟩, h.from_⟩
theorem TabB.new {B : Nat} {w w1 : World} {t : Nat} {ms n : Int} {V : Fm.VM} {F : Nat → Prop} (h : TabB B w t ms n V F) (hu : New w w1) : TabB B w1 t ms n V F :=
  h.upd hu fun _ _ x => x

def V0 : Fm.VM := fun _ _ => none
def N0 (r : Nat) : Nat → Nat → Option Nat := fun i v => if i = 0 ∧ v = 0 then some r else none

theorem nodes_init {w : World} {r : Nat} (h : Blk w r TN #[.pointer none, .pointer none, .bool false, .int .i64 0]) : Nodes w r (N0 r) V0 := by
  refine ⟨by simp [N0], ?_, ?_, ?_, ?_⟩
  · intro i v b hb
    by_cases he : i = 0 ∧ v = 0
    · obtain ⟨rfl, rfl⟩ := he
      simp [N0] at hb
      subst hb
      simpa [N0, V0, ptr] using h
    · simp [N0, he] at hb
  · intro i v j u b h1 h2
    by_cases he : i = 0 ∧ v = 0 <;> by_cases hf : j = 0 ∧ u = 0
    · exact ⟨by omega, by omega⟩
    · simp [N0, hf] at h2
    · simp [N0, he] at h1
    · simp [N0, he] at h1
  · intro i v _
    simp [N0]
  · intro i v _; rfl

/-- A new table. -/
theorem new_tab (B : Nat) (m : Int) (w : World) (hB : B ≤ w.heap.size) :
    Calls Tryd.prog 22 #[.int .i64 m] w fun e w1 => ∃ t F, e = .returned (.pointer (some ⟨t, 0, none⟩)) ∧ TabB B w1 t (min (max m 0) 60) 0 V0 F ∧ (∀ k, F k → w.heap.size ≤ k) ∧ New w w1 := by
  refine (new_any m w).mono ?_
  rintro e w1 ⟨rfl, h1, h2, hu⟩
  have hF : ∀ k, inT (w.heap.size + 1) (N0 w.heap.size) k → w.heap.size ≤ k := by
    rintro k (rfl | ⟨i, v, hb⟩)
    · omega
    · by_cases he : i = 0 ∧ v = 0
      · simp [N0, he] at hb; omega
      · simp [N0, he] at hb
  exact ⟨_, _, rfl, ⟨⟨_, _, ⟨h2, nodes_init h1⟩, rfl⟩, fun k hk => Nat.le_trans hB (hF k hk)⟩, hF, hu⟩

/-- Put where it is not there yet. -/
theorem put_tab (B : Nat) (a n hop ms cn : Int) (t : Nat) (V : Fm.VM) (F : Nat → Prop) (E : Nat → Addr) (w : World) (h2 : Sen w gBound (E 2)) (h3 : Sen w gShape (E 3)) (h : chk a n = 0)
    (hT : TabB B w t ms cn V F) (hv : at1 V a n = none) (hfull : cn < ms) (hcn : 0 ≤ cn) (hms : ms ≤ 60) (hB : B ≤ w.heap.size) :
    Calls Tryd.prog 25 #[.pointer (some ⟨t, 0, none⟩), .agg #[.int .i64 a, .int .i64 n], .int .i64 hop] w fun e w1 =>
      ∃ G, e = .returned .nilIface ∧ TabB B w1 t ms (cn + 1) (put1 V a n (some hop)) G ∧ (∀ k, G k → F k ∨ w.heap.size ≤ k) ∧ Upd F w w1 := by
  obtain ⟨r, N, hT1, rfl⟩ := hT.ex
  refine (put_new a n hop ms cn t r N V E w h2 h3 h hT1 hv hfull hcn hms).mono ?_
  rintro e w1 ⟨M, rfl, hM, hm, hu⟩
  have hG : ∀ k, inT t M k → inT t N k ∨ w.heap.size ≤ k := by
    rintro k (rfl | ⟨i, v, hb⟩)
    · exact .inl (.inl rfl)
    · rcases hm.new _ _ _ hb with h | h
      · exact .inl (.inr ⟨i, v, h⟩)
      · exact .inr h
  exact ⟨_, rfl, ⟨⟨r, M, hM, rfl⟩, fun k hk => (hG k hk).elim (hT.from_ k) fun h => Nat.le_trans hB h⟩, hG, hu⟩

theorem drop_tab (B : Nat) (a n ms cn x : Int) (t : Nat) (V : Fm.VM) (F : Nat → Prop) (E : Nat → Addr) (w : World) (h2 : Sen w gBound (E 2)) (h3 : Sen w gShape (E 3)) (h : chk a n = 0)
    (hT : TabB B w t ms cn V F) (hv : at1 V a n = some x) (hc0 : 0 < cn) (hc1 : cn ≤ 60) :
    Calls Tryd.prog 27 #[.pointer (some ⟨t, 0, none⟩), .agg #[.int .i64 a, .int .i64 n]] w fun e w1 =>
      e = .returned .nilIface ∧ TabB B w1 t ms (cn - 1) (put1 V a n none) F ∧ Upd F w w1 := by
  obtain ⟨r, N, hT1, rfl⟩ := hT.ex
  refine (drop_yes a n ms cn x t r N V E w h2 h3 h hT1 hv hc0 hc1).mono ?_
  rintro e w1 ⟨rfl, hM, hu⟩
  exact ⟨rfl, ⟨⟨r, N, hM, rfl⟩, hT.from_⟩, hu⟩

theorem find_tab (B : Nat) (a ms cn : Int) (t : Nat) (V : Fm.VM) (F : Nat → Prop) (E : Nat → Addr) (w : World) (h2 : Sen w gBound (E 2)) (hT : TabB B w t ms cn V F) :
    Calls Tryd.prog 33 #[.pointer (some ⟨t, 0, none⟩), .int .i64 a] w fun e w1 => e = .returned (.tuple (foundR a (found V a))) ∧ New w w1 := by
  obtain ⟨r, N, hT1, rfl⟩ := hT.ex
  by_cases ha : 0 ≤ a ∧ a < 4294967296
  · exact find_yes a ms cn t r N V w ha hT1
  · exact find_no a t E V w h2 ha

theorem count_tab (B : Nat) (ms cn : Int) (t : Nat) (V : Fm.VM) (F : Nat → Prop) (w : World) (hT : TabB B w t ms cn V F) :
    Calls Tryd.prog 35 #[.pointer (some ⟨t, 0, none⟩)] w fun e w1 => e = .returned (.int .i64 cn) ∧ w = w1 := by
  obtain ⟨r, N, hT1, rfl⟩ := hT.ex
  exact count_any ms cn t r N V w hT1

/-- No block of both. -/
def Dis (F G : Nat → Prop) : Prop := ∀ k, F k → ¬ G k
theorem Dis.symm {F G : Nat → Prop} (h : Dis F G) : Dis G F := fun k hk hx => h k hx hk
theorem Dis.grow {F G F1 : Nat → Prop} {z : Nat} (h : Dis F G) (hG : ∀ k, G k → k < z) (hF : ∀ k, F1 k → F k ∨ z ≤ k) : Dis F1 G := fun k hk hx => by
  rcases hF k hk with h1 | h1
  · exact h k h1 hx
  · have := hG k hx; omega

set_option maxHeartbeats 2000000 in
theorem tabled_any (E : Nat → Addr) (w : World) (h2 : Sen w gBound (E 2)) (h3 : Sen w gShape (E 3)) :
    Calls Tryd.prog 20 #[] w fun e w1 => e = .returned (.bool true) ∧ New w w1 := by
  have H2 := hide h2
  have H3 := hide h3
  have hB := h2.lt
  clear h2 h3 hB
  go_enter Tryd.func20, Tryd.ntmps20
  go_wp2_with fail
  refine (new_tab w.heap.size 5 w (Nat.le_refl _)).mono ?_
  rintro e w1 ⟨t, F, rfl, hT, _, hu⟩
  have HT := hide hT
  clear hT
  go_wp2_with fail
  refine (put_tab w.heap.size 0 0 1 _ 0 t V0 F E w1 (H2.out.new hu) (H3.out.new hu) (by decide) HT.out rfl (by decide) (by decide) (by decide) hu.size).mono ?_
  rintro e w2 ⟨F2, rfl, hT2, hF2, hu2⟩
  have u2 : New w w2 := hu.trans hu2 fun k hk hx => absurd (HT.out.from_ k hx) (by omega)
  have HT2 := hide hT2
  clear hT2
  go_wp2_with fail
  refine (put_tab w.heap.size 256 24 2 _ 1 t _ F2 E w2 (H2.out.new u2) (H3.out.new u2) (by decide) HT2.out (by decide) (by decide) (by decide) (by decide) u2.size).mono ?_
  rintro e w3 ⟨F3, rfl, hT3, hF3, hu3⟩
  have u3 : New w w3 := u2.trans hu3 fun k hk hx => absurd (HT2.out.from_ k hx) (by omega)
  have HT3 := hide hT3
  clear hT3
  go_wp2_with fail
  refine (find_tab w.heap.size 300 _ _ t _ F3 E w3 (H2.out.new u3) HT3.out).mono ?_
  rintro e w4 ⟨rfl, hu4⟩
  have e300 : found (put1 (put1 V0 0 0 (some 1)) 256 24 (some 2)) 300 = some (24, 2) := by decide
  rw [e300]
  simp only [foundR]
  clear e300
  go_wp2_with fail
  have u4 : New w (w4.alloc (.cells #[.int .i64 (300 - (low 300 24 : Int)), .int .i64 24] TP)) := (u3.trans_new hu4).alloc _
  refine (find_tab w.heap.size 7 _ _ t _ F3 E _ (H2.out.new u4) (HT3.out.new (hu4.alloc _))).mono ?_
  rintro e w5 ⟨rfl, hu5⟩
  have e7 : found (put1 (put1 V0 0 0 (some 1)) 256 24 (some 2)) 7 = some (0, 1) := by decide
  rw [e7]
  simp only [foundR]
  have b4 := (Blk.new w4 TP #[.int .i64 (300 - (low 300 24 : Int)), .int .i64 24]).new_ hu5
  have c1 := b4.cell 1
  have zb := b4.lt
  simp only [List.getElem?_toArray, List.getElem?_cons_zero, List.getElem?_cons_succ] at c1
  clear e7 b4
  go_wp2_with fail
  go_ret
  exact ⟨rfl, (u4.trans_new hu5).alloc _⟩
end Go.Proofs.YtkljanjapcpbdaaDoor

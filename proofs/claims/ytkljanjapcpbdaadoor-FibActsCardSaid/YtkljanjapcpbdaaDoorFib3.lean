/- Package fib: a trie grows. No condition but those that stand in each theorem. -/
import Derived.Test.YtkljanjapcpbdaaDoorFib2
namespace Go.Proofs.YtkljanjapcpbdaaDoor
open Go.RowKit

def upN (N : Nat → Nat → Option Nat) (k v b : Nat) : Nat → Nat → Option Nat := fun i u => if i = k ∧ u = v then some b else N i u

theorem upN_same (N : Nat → Nat → Option Nat) (k v b : Nat) : upN N k v b k v = some b := by simp [upN]
theorem upN_other (N : Nat → Nat → Option Nat) {k v b i u : Nat} (h : ¬ (i = k ∧ u = v)) : upN N k v b i u = N i u := by simp [upN, h]

theorem Nodes.lt {w : World} {r : Nat} {N : Nat → Nat → Option Nat} {V : Fm.VM} (h : Nodes w r N V) {i v b : Nat} (hb : N i v = some b) : b < w.heap.size := (h.blk i v b hb).lt

theorem Nodes.grow {w : World} {r : Nat} {N : Nat → Nat → Option Nat} {V : Fm.VM} (h : Nodes w r N V) {k v b d : Nat} (hb : N k v = some b) (hd : d < 2) (hn : N (k + 1) (2 * v + d) = none) :
    Nodes ((w.alloc (.cells #[.pointer none, .pointer none, .bool false, .int .i64 0] TN)).setCell ⟨b, d, none⟩ (.pointer (some ⟨w.heap.size, 0, none⟩))) r (upN N (k + 1) (2 * v + d) w.heap.size) V := by
  have hbl := h.lt hb
  refine ⟨?_, ?_, ?_, ?_, ?_⟩
  · rw [upN_other _ (by omega)]; exact h.root
  · intro i u c hc
    by_cases he : i = k + 1 ∧ u = 2 * v + d
    · obtain ⟨rfl, rfl⟩ := he
      rw [upN_same] at hc
      injection hc with hc
      subst hc
      have g := h.gone _ _ hn
      rw [upN_other _ (by omega), upN_other _ (by omega), g.1, g.2, h.said _ _ hn]
      exact (Blk.new _ _ _).far (p := ⟨b, d, none⟩) (by show w.heap.size ≠ b; omega) _
    · rw [upN_other _ he] at hc
      have hcl := h.lt hc
      by_cases hcb : c = b
      · subst hcb
        obtain ⟨rfl, rfl⟩ := h.inj _ _ _ _ _ hc hb
        have hh := ((h.blk _ _ _ hc).alloc (.cells #[.pointer none, .pointer none, .bool false, .int .i64 0] TN)).set_ d (.pointer (some ⟨w.heap.size, 0, none⟩))
        rcases (by omega : d = 0 ∨ d = 1) with rfl | rfl
        · rw [show 2 * u + 0 = 2 * u from rfl, upN_same, upN_other _ (by omega)]
          simpa [ptr] using hh
        · rw [upN_same, upN_other _ (by omega)]
          simpa [ptr] using hh
      · rw [upN_other, upN_other]
        · exact ((h.blk _ _ _ hc).alloc _).far (p := ⟨b, d, none⟩) hcb _
        · rintro ⟨h1, h2⟩
          have : i = k := by omega
          subst this
          have : u = v := by omega
          subst this
          rw [hb] at hc; injection hc with hc; exact hcb hc.symm
        · rintro ⟨h1, h2⟩
          have : i = k := by omega
          subst this
          have : u = v := by omega
          subst this
          rw [hb] at hc; injection hc with hc; exact hcb hc.symm
  · intro i u j x c h1 h2
    by_cases e1 : i = k + 1 ∧ u = 2 * v + d <;> by_cases e2 : j = k + 1 ∧ x = 2 * v + d
    · exact ⟨by omega, by omega⟩
    · obtain ⟨rfl, rfl⟩ := e1
      rw [upN_same] at h1; injection h1 with h1; subst h1
      rw [upN_other _ e2] at h2
      have := h.lt h2; omega
    · obtain ⟨rfl, rfl⟩ := e2
      rw [upN_same] at h2; injection h2 with h2; subst h2
      rw [upN_other _ e1] at h1
      have := h.lt h1; omega
    · rw [upN_other _ e1] at h1
      rw [upN_other _ e2] at h2
      exact h.inj _ _ _ _ _ h1 h2
  · intro i u hiu
    by_cases he : i = k + 1 ∧ u = 2 * v + d
    · obtain ⟨rfl, rfl⟩ := he
      rw [upN_same] at hiu; cases hiu
    · rw [upN_other _ he] at hiu
      have g := h.gone _ _ hiu
      constructor
      · rw [upN_other]
        · exact g.1
        · rintro ⟨h1, h2⟩
          have : i = k := by omega
          subst this
          have : u = v := by omega
          subst this
          rw [hb] at hiu; cases hiu
      · rw [upN_other]
        · exact g.2
        · rintro ⟨h1, h2⟩
          have : i = k := by omega
          subst this
          have : u = v := by omega
          subst this
          rw [hb] at hiu; cases hiu
  · intro i u hiu
    by_cases he : i = k + 1 ∧ u = 2 * v + d
    · obtain ⟨rfl, rfl⟩ := he
      rw [upN_same] at hiu; cases hiu
    · rw [upN_other _ he] at hiu
      exact h.said _ _ hiu

theorem Nodes.drewN {w : World} {r : Nat} {N : Nat → Nat → Option Nat} {V : Fm.VM} (h : Nodes w r N V) (n : Nat) : Nodes (w.drewN n) r N V :=
  ⟨h.root, fun i v b hb => (h.blk i v b hb).drewN n, h.inj, h.gone, h.said⟩

/-- The blocks of a trie. -/
def inN (N : Nat → Nat → Option Nat) (k : Nat) : Prop := ∃ i v, N i v = some k

/-- A trie that has more nodes, all new. -/
structure More (B : Nat) (N M : Nat → Nat → Option Nat) : Prop where
  old : ∀ i v b, N i v = some b → M i v = some b
  new : ∀ i v b, M i v = some b → N i v = some b ∨ B ≤ b

theorem More.refl (B : Nat) (N : Nat → Nat → Option Nat) : More B N N := ⟨fun _ _ _ h => h, fun _ _ _ h => .inl h⟩
theorem More.up {B : Nat} {N M : Nat → Nat → Option Nat} (h : More B N M) {k v b : Nat} (hn : M k v = none) (hb : B ≤ b) : More B N (upN M k v b) := by
  constructor
  · intro i u c hc
    rw [upN_other]
    · exact h.old i u c hc
    · rintro ⟨rfl, rfl⟩
      rw [h.old _ _ _ hc] at hn; cases hn
  · intro i u c hc
    by_cases he : i = k ∧ u = v
    · obtain ⟨rfl, rfl⟩ := he
      rw [upN_same] at hc; injection hc with hc
      exact .inr (by omega)
    · rw [upN_other _ he] at hc
      exact h.new i u c hc

set_option maxHeartbeats 1000000 in
theorem at_make (a n : Int) (t r : Nat) (ms cn : Value) (N : Nat → Nat → Option Nat) (V : Fm.VM) (hp : chk a n = 0) (w : World)
    (ht : Blk w t TT #[.pointer (some ⟨r, 0, none⟩), ms, cn]) (hN : Nodes w r N V) :
    Calls Tryd.prog 75 #[.pointer (some ⟨t, 0, none⟩), .agg #[.int .i64 a, .int .i64 n], .bool true] w fun e w1 =>
      ∃ (b : Nat) (M : Nat → Nat → Option Nat), e = .returned (.pointer (some ⟨b, 0, none⟩)) ∧ M n.toNat (Fm.top a.toNat n.toNat) = some b ∧ Nodes w1 r M V ∧ More w.heap.size N M ∧ Upd (inN N) w w1 := by
  obtain ⟨ha, hn, _⟩ := chk_zero hp
  obtain ⟨n, rfl⟩ := Int.eq_ofNat_of_zero_le hn.1
  have hn2 : n ≤ 32 := by omega
  have Ha := hide ha
  have ct := ht.cell 0
  simp only [List.getElem?_toArray, List.getElem?_cons_zero] at ct
  have zt : t < w.heap.size := ht.lt
  clear hp hn
  go_enter Tryd.func75, Tryd.ntmps75
  go_wp2
  go_loopw [7, 16] (fun v i wr => ∃ (k b : Nat) (M : Nat → Nat → Option Nat), k ≤ n ∧ i = .int .i64 k ∧ v = .pointer (some ⟨b, 0, none⟩) ∧ M k (Fm.top a.toNat k) = some b ∧ Nodes wr r M V ∧ More w.heap.size N M ∧ Upd (inN N) w wr ∧ Blk wr w.heap.size TP #[.int .i64 a, .int .i64 n]) (fun _ i _ => n - (intOf i).toNat)
  case atStart => exact ⟨0, r, N, by omega, rfl, rfl, by rw [top_zero a ha]; exact hN.root, hN.new ((Upd.refl _ _).alloc _), More.refl _ _, (Upd.refl _ _).alloc _, Blk.new _ _ _⟩
  case round =>
    obtain ⟨k, b, M, hk, rfl, rfl, hb, hN1, hm, hu, hbox⟩ := hrel
    by_cases hlt : k < n
    · have hkid := hN1.kid a k b (by omega) hb
      have htb := top_bt a k (by omega)
      have hne := (hN1.blk _ _ _ hb).ne_ hbox (by decide)
      have Hb := hide hb
      have Hbit := hide (bit_q a k Ha.out ⟨by omega, by omega⟩)
      have hd := bt_lt a k
      have ca := hbox.cell 0
      have zb := hbox.lt
      have zb2 := (hN1.blk _ _ _ hb).lt
      have fz0 := (hN1.blk _ _ _ hb).frozen (bt a k)
      simp only [List.getElem?_toArray, List.getElem?_cons_zero] at ca
      obtain ⟨c, hc⟩ : ∃ c, c = M (k + 1) (Fm.top a.toNat (k + 1)) := ⟨_, rfl⟩
      rw [← hc] at hkid
      have Hc := hide hc
      generalize bt a k = d at *
      have Htb := hide htb
      have HN := hide hN
      have HN1 := hide hN1
      have Hne := hide hne
      clear hb hc ha hN hN1 ht htb hne
      cases c with
      | none =>
        simp only [ptr] at hkid
        go_wp2
        go_quiet ((go_at_call 81; exact Calls.quiet_of_same (Hbit.out _)))
        go_wp2
        have e := Hc.out.symm
        rw [Htb.out] at e
        have ecom := World.setCell_alloc_past (w := wr) (.cells #[.pointer none, .pointer none, .bool false, .int .i64 0] TN) b d (.pointer (some ⟨wr.heap.size, 0, none⟩)) zb2
        have g := HN1.out.grow Hb.out hd e
        have hin : inN N b ∨ w.heap.size ≤ b := by
          rcases hm.new _ _ _ Hb.out with h | h
          · exact .inl ⟨_, _, h⟩
          · exact .inr h
        have hu2 := (hu.alloc (.cells #[.pointer none, .pointer none, .bool false, .int .i64 0] TN)).setCell (p := ⟨b, d, none⟩) hin (.pointer (some ⟨wr.heap.size, 0, none⟩))
        have hb2 := (hbox.alloc (.cells #[.pointer none, .pointer none, .bool false, .int .i64 0] TN)).far (p := ⟨b, d, none⟩) (Ne.symm Hne.out) (.pointer (some ⟨wr.heap.size, 0, none⟩))
        rw [ecom] at g hu2 hb2
        exact ⟨⟨k + 1, wr.heap.size, upN M (k + 1) (2 * Fm.top a.toNat k + d) wr.heap.size, by omega, by go_num, rfl, by rw [Htb.out]; exact upN_same _ _ _ _, g.drewN _, hm.up e hu.size, hu2.drewN _, hb2.drewN _⟩, by simp [intOf]; omega⟩
      | some b1 =>
        simp only [ptr] at hkid
        go_wp2
        go_quiet ((go_at_call 81; exact Calls.quiet_of_same (Hbit.out _)))
        go_wp2
        exact ⟨⟨k + 1, b1, M, by omega, by go_num, rfl, Hc.out.symm, HN1.out.drewN _, hm, hu.drewN _, hbox.drewN _⟩, by simp [intOf]; omega⟩
    · have hkn : k = n := by omega
      have Hb := hide hb
      have Hkn := hide hkn
      clear hb hkn
      go_wp2
      go_ret
      have h := Hb.out
      rw [Hkn.out] at h
      exact ⟨b, M, rfl, by rw [Int.toNat_natCast]; exact h, hN1, hm, hu⟩
end Go.Proofs.YtkljanjapcpbdaaDoor

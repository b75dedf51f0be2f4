/- Package fib: the small calls. No condition but those that stand in each theorem. -/
import Derived.Test.YtkljanjapcpbdaaDoorIp1
import Derived.Test.YtkljanjapcpbdaaDoorFm
namespace Go.Proofs.YtkljanjapcpbdaaDoor
open Go.RowKit

def bt (a i : Int) : Nat := a.toNat / 2 ^ (31 - i.toNat) % 2

set_option maxHeartbeats 400000 in
theorem bit_any (a i : Int) (ha : 0 ≤ a ∧ a < 4294967296) (hi : 0 ≤ i ∧ i ≤ 31) (w : World) :
    Calls Tryd.prog 81 #[.int .i64 a, .int .i64 i] w fun e w1 => e = .returned (.int .i64 (bt a i : Int)) ∧ w = w1 := by
  have Ha := hide ha
  have ha2 : a ≤ 9223372036854775807 := by omega
  obtain ⟨ha0, ha1⟩ := ha
  obtain ⟨hi0, hi1⟩ := hi
  clear ha1
  go_enter Tryd.func81, Tryd.ntmps81
  go_wp2
  go_ret
  refine ⟨?_, rfl⟩
  obtain ⟨a, rfl⟩ := Int.eq_ofNat_of_zero_le ha0
  obtain ⟨i, rfl⟩ := Int.eq_ofNat_of_zero_le hi0
  have e : ((31 : Int) - (i : Int)).toNat = 31 - i := by omega
  have e2 : (a : Int) / 2 ^ (31 - i) = ((a / 2 ^ (31 - i) : Nat) : Int) := by push_cast; rfl
  have hle : a / 2 ^ (31 - i) ≤ a := Nat.div_le_self _ _
  have h2 := Ha.out.2
  show Ending.returned (.int .i64 (bits .and .i64 ((a : Int) / 2 ^ ((31 : Int) - (i : Int)).toNat) 1)) = _
  rw [e, e2, and_one _ (by omega)]
  rfl

set_option maxHeartbeats 400000 in
theorem new_any (m : Int) (w : World) :
    Calls Tryd.prog 22 #[.int .i64 m] w fun e w1 => e = .returned (.pointer (some ⟨w.heap.size + 1, 0, none⟩)) ∧ Blk w1 w.heap.size 124 #[.pointer none, .pointer none, .bool false, .int .i64 0] ∧
      Blk w1 (w.heap.size + 1) 126 #[.pointer (some ⟨w.heap.size, 0, none⟩), .int .i64 (min (max m 0) 60), .int .i64 0] ∧ New w w1 := by
  go_enter Tryd.func22, Tryd.ntmps22
  go_wp2
  all_goals go_ret
  all_goals refine ⟨rfl, (Blk.new _ _ _).alloc _, ?_, ((Upd.refl _ _).alloc _).alloc _⟩
  · rw [show min (max m 0) 60 = 0 by omega]; exact Blk.at_ _ _ _ _ (by simp)
  · rw [show min (max m 0) 60 = 60 by omega]; exact Blk.at_ _ _ _ _ (by simp)
  · rw [show min (max m 0) 60 = m by omega]; exact Blk.at_ _ _ _ _ (by simp)

def ptr : Option Nat → Value
  | none => .pointer none
  | some b => .pointer (some ⟨b, 0, none⟩)

abbrev TN : TypeId := 124
abbrev TT : TypeId := 126
abbrev TP : TypeId := 51

/-- The nodes of a trie, by depth and first bits; what is said there. -/
structure Nodes (w : World) (r : Nat) (N : Nat → Nat → Option Nat) (V : Fm.VM) : Prop where
  root : N 0 0 = some r
  blk : ∀ i v b, N i v = some b → Blk w b TN #[ptr (N (i + 1) (2 * v)), ptr (N (i + 1) (2 * v + 1)), .bool (V i v).isSome, .int .i64 ((V i v).getD 0)]
  inj : ∀ i v j u b, N i v = some b → N j u = some b → i = j ∧ v = u
  gone : ∀ i v, N i v = none → N (i + 1) (2 * v) = none ∧ N (i + 1) (2 * v + 1) = none
  said : ∀ i v, N i v = none → V i v = none

theorem Nodes.upd {S : Nat → Prop} {w w1 : World} {r : Nat} {N : Nat → Nat → Option Nat} {V : Fm.VM} (h : Nodes w r N V) (hu : Upd S w w1) (hn : ∀ i v b, N i v = some b → ¬ S b) : Nodes w1 r N V :=
  ⟨h.root, fun i v b hb => (h.blk i v b hb).upd hu (hn i v b hb), h.inj, h.gone, h.said⟩
theorem Nodes.new {w w1 : World} {r : Nat} {N : Nat → Nat → Option Nat} {V : Fm.VM} (h : Nodes w r N V) (hu : New w w1) : Nodes w1 r N V :=
  h.upd hu fun _ _ _ _ hx => hx

theorem bt_lt (a i : Int) : bt a i < 2 := Nat.mod_lt _ (by omega)
theorem top_bt (a : Int) (k : Nat) (hk : k < 32) : Fm.top a.toNat (k + 1) = 2 * Fm.top a.toNat k + bt a k := by
  rw [Fm.top_succ _ _ hk]
  unfold bt
  simp

theorem Nodes.gone_all {w : World} {r : Nat} {N : Nat → Nat → Option Nat} {V : Fm.VM} (h : Nodes w r N V) (a : Int) (k : Nat) (hk : N k (Fm.top a.toNat k) = none) :
    ∀ n, k ≤ n → n ≤ 32 → N n (Fm.top a.toNat n) = none := by
  intro n hkn
  induction n with
  | zero => intro _; have : k = 0 := by omega
            subst this; exact hk
  | succ n ih =>
    intro hn
    by_cases hh : k ≤ n
    · have := h.gone n _ (ih hh (by omega))
      rw [top_bt a n (by omega)]
      have hb := bt_lt a n
      rcases (by omega : bt a n = 0 ∨ bt a n = 1) with e | e
      · rw [e]; exact this.1
      · rw [e]; exact this.2
    · have : k = n + 1 := by omega
      subst this; exact hk

/-- The cell of a kid. -/
theorem Nodes.kid {w : World} {r : Nat} {N : Nat → Nat → Option Nat} {V : Fm.VM} (h : Nodes w r N V) (a : Int) (k b : Nat) (hk : k < 32) (hb : N k (Fm.top a.toNat k) = some b) :
    w.cell? ⟨b, bt a k, none⟩ = some (ptr (N (k + 1) (Fm.top a.toNat (k + 1)))) := by
  rw [(h.blk _ _ _ hb).cell, top_bt a k hk]
  have hb := bt_lt a k
  rcases (by omega : bt a k = 0 ∨ bt a k = 1) with e | e
  · rw [e]; rfl
  · rw [e]; rfl
end Go.Proofs.YtkljanjapcpbdaaDoor

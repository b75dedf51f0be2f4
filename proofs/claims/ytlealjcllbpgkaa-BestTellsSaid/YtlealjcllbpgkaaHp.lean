/- Frames of the heap: which blocks a call may turn; blocks that are known whole. No condition. -/
import Derived.WalkKit
import Derived.Lib.Hide
import Derived.Deep.Draws
namespace Go.Proofs.Ytlealjcllbpgkaa
open Go.RowKit

theorem hide {p : Prop} (h : p) : Hid p := h

theorem alloc_drewN (w : World) (n : Nat) (o : Obj) : (w.drewN n).alloc o = (w.alloc o).drewN n := rfl
theorem setCell_drewN (w : World) (n : Nat) (p : Addr) (v : Value) : (w.drewN n).setCell p v = (w.setCell p v).drewN n := rfl
attribute [go_sem] alloc_drewN setCell_drewN

/-- w1 is w, but for blocks of S, and new ones. -/
structure Upd (S : Nat → Prop) (w w1 : World) : Prop where
  os : w1.os = w.os
  tape : w1.tape = w.tape
  output : w1.output = w.output
  size : w.heap.size ≤ w1.heap.size
  block : ∀ k, k < w.heap.size → ¬ S k → w1.heap[k]? = w.heap[k]?

/-- Nothing that was there is turned. -/
abbrev New (w w1 : World) : Prop := Upd (fun _ => False) w w1

section
variable {S T : Nat → Prop} {a w w1 w2 : World}
theorem Upd.refl (S : Nat → Prop) (w : World) : Upd S w w := ⟨rfl, rfl, rfl, Nat.le_refl _, fun _ _ _ => rfl⟩
theorem Upd.mono (h : Upd S w w1) (hs : ∀ k, k < w.heap.size → S k → T k) : Upd T w w1 :=
  ⟨h.os, h.tape, h.output, h.size, fun k hk hn => h.block k hk fun hx => hn (hs k hk hx)⟩
theorem Upd.trans (h : Upd S w w1) (k : Upd T w1 w2) (hs : ∀ k, k < w.heap.size → T k → S k) : Upd S w w2 :=
  ⟨k.os.trans h.os, k.tape.trans h.tape, k.output.trans h.output, Nat.le_trans h.size k.size, fun i hi hn => (k.block i (Nat.lt_of_lt_of_le hi h.size) fun hx => hn (hs i hi hx)).trans (h.block i hi hn)⟩
theorem Upd.trans' (h : Upd S w w1) (k : Upd S w1 w2) : Upd S w w2 := h.trans k fun _ _ hx => hx
theorem Upd.trans_new (h : Upd S w w1) (k : New w1 w2) : Upd S w w2 := h.trans k fun _ _ hx => hx.elim
theorem Upd.of_new (h : New w w1) : Upd S w w1 := h.mono fun _ _ hx => hx.elim
theorem Upd.drew (h : Upd S a w) : Upd S a w.drew := ⟨h.os, h.tape, h.output, h.size, h.block⟩
theorem Upd.drewN (h : Upd S a w) (n : Nat) : Upd S a (w.drewN n) := ⟨h.os, h.tape, h.output, h.size, h.block⟩
theorem Upd.alloc (h : Upd S a w) (o : Obj) : Upd S a (w.alloc o) :=
  h.trans ⟨rfl, rfl, rfl, by simp, fun k hk _ => Below.heap_alloc _ _ _ hk⟩ (T := fun _ => False) fun _ _ hx => hx.elim
theorem Upd.setCell (h : Upd S a w) {p : Addr} (hp : S p.block ∨ a.heap.size ≤ p.block) (u : Value) : Upd S a (w.setCell p u) :=
  ⟨h.os, h.tape, h.output, by simpa [World.setCell] using h.size, fun k hk hn => (Below.heap_setCell w p u k (by
    rintro rfl
    rcases hp with hp | hp
    · exact hn hp
    · omega)).trans (h.block k hk hn)⟩
theorem Upd.of_below {B : Nat} (h : Below B w w1) (hB : ∀ k, k < w.heap.size → ¬ S k → k < B) : Upd S w w1 :=
  ⟨h.os, h.tape, h.output, h.size, fun k hk hn => h.block k (hB k hk hn)⟩
theorem New.of_below (h : Below w.heap.size w w1) : New w w1 := Upd.of_below h fun _ hk _ => hk
theorem Upd.below {B : Nat} (h : Upd S w w1) (hB : B ≤ w.heap.size) (hs : ∀ k, k < B → ¬ S k) : Below B w w1 :=
  ⟨h.os, h.tape, h.output, h.size, fun k hk => h.block k (Nat.lt_of_lt_of_le hk hB) (hs k hk)⟩
theorem New.below (h : New w w1) : Below w.heap.size w w1 := Upd.below h (Nat.le_refl _) fun _ _ hx => hx
theorem Upd.of_grown {row : Option Nat} (h : w.grownBy w1 row) (hr : ∀ k, k < w.heap.size → row = some k → S k) : Upd S w w1 :=
  ⟨h.os, h.tape, h.output, h.size, fun k hk hn => h.block k hk fun e => hn (hr k hk e.symm)⟩
theorem Upd.cell (h : Upd S w w1) {b o : Nat} (hb : b < w.heap.size) (hn : ¬ S b) : w1.cell? ⟨b, o, none⟩ = w.cell? ⟨b, o, none⟩ :=
  World.cell?_of_block (w := w) (a := ⟨b, o, none⟩) (h.block b hb hn)
theorem Upd.frozen (h : Upd S w w1) {b o : Nat} (hb : b < w.heap.size) (hn : ¬ S b) : w1.frozen? ⟨b, o, none⟩ = w.frozen? ⟨b, o, none⟩ :=
  World.frozen?_of_block (w := w) (a := ⟨b, o, none⟩) (h.block b hb hn)
theorem Upd.cellA (h : Upd S w w1) {p : Addr} (hb : p.block < w.heap.size) (hn : ¬ S p.block) : w1.cell? p = w.cell? p :=
  World.cell?_of_block (w := w) (h.block p.block hb hn)
theorem Upd.frozenA (h : Upd S w w1) {p : Addr} (hb : p.block < w.heap.size) (hn : ¬ S p.block) : w1.frozen? p = w.frozen? p :=
  World.frozen?_of_block (w := w) (h.block p.block hb hn)
end

/-- Block g is just these cells, of this element type, none frozen. -/
def Blk (w : World) (g : Nat) (t : TypeId) (cs : Array Value) : Prop := w.heap[g]? = some (.cells cs t (0, 0))

section
variable {w w1 : World} {g : Nat} {t : TypeId} {cs : Array Value}
theorem Blk.lt (h : Blk w g t cs) : g < w.heap.size := by
  rcases Nat.lt_or_ge g w.heap.size with hlt | hge
  · exact hlt
  · unfold Blk at h; rw [Array.getElem?_eq_none hge] at h; cases h
theorem Blk.cell (h : Blk w g t cs) (i : Nat) : w.cell? ⟨g, i, none⟩ = cs[i]? := by
  unfold Blk at h; simp [World.cell?, h]
theorem Blk.frozen (h : Blk w g t cs) (i : Nat) : w.frozen? ⟨g, i, none⟩ = false := by
  unfold Blk at h
  simp [World.frozen?, h]
theorem Blk.new (w : World) (t : TypeId) (cs : Array Value) : Blk (w.alloc (.cells cs t)) w.heap.size t cs := by
  show (w.heap.push _)[w.heap.size]? = _
  simp
theorem Blk.at_ (w : World) (t : TypeId) (cs : Array Value) (g : Nat) (hg : g = w.heap.size) : Blk (w.alloc (.cells cs t)) g t cs := by
  subst hg; exact Blk.new w t cs
theorem Blk.drew (h : Blk w g t cs) : Blk w.drew g t cs := h
theorem Blk.drewN (h : Blk w g t cs) (n : Nat) : Blk (w.drewN n) g t cs := h
theorem Blk.alloc (h : Blk w g t cs) (o : Obj) : Blk (w.alloc o) g t cs := (Below.heap_alloc w o g h.lt).trans h
theorem Blk.set_ (h : Blk w g t cs) (i : Nat) (u : Value) : Blk (w.setCell ⟨g, i, none⟩ u) g t (cs.setIfInBounds i u) := by
  unfold Blk at h ⊢
  simp [World.setCell, Array.getElem?_modify, h]
theorem Blk.far (h : Blk w g t cs) {p : Addr} (hp : g ≠ p.block) (u : Value) : Blk (w.setCell p u) g t cs := (Below.heap_setCell w p u g hp).trans h
theorem Blk.below {B : Nat} (h : Blk w g t cs) (hb : Below B w w1) (hg : g < B) : Blk w1 g t cs := (hb.block g hg).trans h
theorem Blk.upd {S : Nat → Prop} (h : Blk w g t cs) (hb : Upd S w w1) (hg : ¬ S g) : Blk w1 g t cs := (hb.block g h.lt hg).trans h
theorem Blk.new_ (h : Blk w g t cs) (hb : New w w1) : Blk w1 g t cs := (hb.block g h.lt (fun x => x)).trans h
theorem Blk.ne_ {g1 : Nat} {t1 : TypeId} {cs1 : Array Value} (h : Blk w g t cs) (h1 : Blk w g1 t1 cs1) (hne : t ≠ t1) : g ≠ g1 := by
  rintro rfl
  unfold Blk at h h1
  rw [h] at h1
  injection h1 with h1
  injection h1 with _ ht
  exact hne ht
end
end Go.Proofs.Ytlealjcllbpgkaa

namespace Go.Proofs.Ytlealjcllbpgkaa
open Go.RowKit

theorem pow_le32 (k : Nat) (hk : k ≤ 32) : 2 ^ k ≤ 4294967296 := by
  have : 2 ^ k ≤ 2 ^ 32 := Nat.pow_le_pow_right (by omega) hk
  simpa using this
theorem pow_pos2 (k : Nat) : 0 < 2 ^ k := Nat.pow_pos (by omega)
theorem ofInt_i64 (a : Nat) (ha : a < 9223372036854775808) : (BitVec.ofInt 64 (a : Int)).toNat = a := by
  rw [BitVec.ofInt_natCast, BitVec.toNat_ofNat]; exact Nat.mod_eq_of_lt (by omega)
theorem i64_and_nat (a b : Nat) (ha : a < 9223372036854775808) (hb : b < 9223372036854775808) : bits .and .i64 (a : Int) (b : Int) = ((a &&& b : Nat) : Int) := by
  have hx : a &&& b < 2 ^ 63 := Nat.and_lt_two_pow _ (by omega)
  show IntKind.i64.wrap ((BitVec.ofInt 64 (a : Int) &&& BitVec.ofInt 64 (b : Int)).toNat : Int) = _
  rw [BitVec.toNat_and, ofInt_i64 a ha, ofInt_i64 b hb, IntKind.wrap_i64]
  omega
theorem i64_or_nat (a b : Nat) (ha : a < 9223372036854775808) (hb : b < 9223372036854775808) : bits .or .i64 (a : Int) (b : Int) = ((a ||| b : Nat) : Int) := by
  have hx : a ||| b < 2 ^ 63 := Nat.or_lt_two_pow (by omega) (by omega)
  show IntKind.i64.wrap ((BitVec.ofInt 64 (a : Int) ||| BitVec.ofInt 64 (b : Int)).toNat : Int) = _
  rw [BitVec.toNat_or, ofInt_i64 a ha, ofInt_i64 b hb, IntKind.wrap_i64]
  omega
theorem and_mask (a k : Nat) : a &&& (2 ^ k - 1) = a % 2 ^ k := Nat.and_two_pow_sub_one_eq_mod a k
theorem w64_pow (k : Nat) (hk : k ≤ 32) : wrap64 (2 ^ k) = ((2 ^ k : Nat) : Int) := by
  have h1 := pow_le32 k hk
  have h2 : ((2 : Int) ^ k) = ((2 ^ k : Nat) : Int) := by push_cast; rfl
  rw [h2]
  generalize 2 ^ k = m at h1
  exact IntWalk.wrap64_in _ ⟨by omega, by omega⟩
theorem w64_mask (k : Nat) (hk : k ≤ 32) : wrap64 (wrap64 (2 ^ k) - 1) = ((2 ^ k - 1 : Nat) : Int) := by
  have h1 := pow_le32 k hk
  have h0 := pow_pos2 k
  rw [w64_pow k hk]
  generalize 2 ^ k = m at h0 h1
  rw [show ((m : Int) - 1) = ((m - 1 : Nat) : Int) by omega]
  exact IntWalk.wrap64_in _ ⟨by omega, by omega⟩
theorem mask_i64 (a k : Nat) (hk : k ≤ 32) (ha : a < 4294967296) : bits .and .i64 (a : Int) (wrap64 (wrap64 (2 ^ k) - 1)) = ((a % 2 ^ k : Nat) : Int) := by
  have h1 := pow_le32 k hk
  rw [w64_mask k hk, i64_and_nat a _ (by omega) (by omega), and_mask]
theorem and_one (a : Nat) (ha : a < 9223372036854775808) : bits .and .i64 (a : Int) 1 = ((a % 2 : Nat) : Int) := by
  have := i64_and_nat a 1 ha (by omega)
  rw [Nat.and_one_is_mod] at this
  exact this
end Go.Proofs.Ytlealjcllbpgkaa

/- The greatest block that begins at an address; numbers of a call's own sorted; bit counts. No condition but those that stand in each theorem. -/
import Derived.Test.YtignngpligicjaaDoorSt1
import Derived.Lib.TrailingZeros
import Derived.Lib.ItoaNum
import Derived.Shelf.Slices.In.SortNone
namespace Go.Proofs.YtignngpligicjaaDoor
open Go.RowKit

/-- The exponent of the greatest block from f on, up to t. -/
def topK (f t : Nat) : Nat := min (Lib.ctz 64 (f + 4294967296)) (Lib.bitLen (t - f) - 1)
theorem topK_ok {f t : Nat} (hf : f < t) (ht : t ≤ 4294967296) : Top f t (topK f t) ∧ Lib.ctz 64 (f + 4294967296) ≤ 32 ∧ 1 ≤ Lib.bitLen (t - f) ∧ Lib.bitLen (t - f) ≤ 33 := by
  have hb := Lib.bitLenAux_bounds 64 (t - f) (by omega) (by omega)
  have hb33 := Lib.bitLen_le (t - f) 33 (by omega) (by omega)
  obtain ⟨b1, b2, b3⟩ := hb
  change 1 ≤ Lib.bitLen (t - f) at b1
  change 2 ^ (Lib.bitLen (t - f) - 1) ≤ t - f at b2
  change t - f < 2 ^ Lib.bitLen (t - f) at b3
  obtain ⟨m, hm, hc⟩ := Lib.ctzFrom_spec 64 (f + 4294967296) (by omega) (by omega)
  have hce : Lib.ctz 64 (f + 4294967296) = Lib.ctzFrom 64 (f + 4294967296) := by unfold Lib.ctz; rw [if_neg (by omega)]
  rw [← hce] at hm hc
  unfold topK
  generalize Lib.ctz 64 (f + 4294967296) = c at *
  generalize Lib.bitLen (t - f) = L at *
  have hdc : 2 ^ c ∣ f + 4294967296 := ⟨2 * m + 1, hm⟩
  have hc32 : c ≤ 32 := by
    rcases Nat.lt_or_ge 32 c with h | h
    · exfalso
      have h1 := Nat.le_of_dvd (by omega) hdc
      have h2 : 2 ^ 33 ≤ 2 ^ c := Nat.pow_le_pow_right (by omega) h
      omega
    · exact h
  have h32 : ∀ k, k ≤ 32 → 2 ^ k ∣ 4294967296 := fun k hk => p2_dvd (show k ≤ 32 from hk)
  have hdf : ∀ k, k ≤ 32 → (2 ^ k ∣ f + 4294967296 ↔ 2 ^ k ∣ f) := fun k hk => ⟨fun h => (Nat.dvd_add_left (h32 k hk)).1 h, fun h => Nat.dvd_add h (h32 k hk)⟩
  refine ⟨⟨by omega, ?_, ?_, ?_⟩, hc32, b1, hb33⟩
  · exact (hdf _ (by omega)).1 (Nat.dvd_trans (p2_dvd (Nat.min_le_left _ _)) hdc)
  · have h1 : 2 ^ min c (L - 1) ≤ 2 ^ (L - 1) := Nat.pow_le_pow_right (by omega) (Nat.min_le_right _ _)
    omega
  · rintro ⟨h1, h2⟩
    by_cases hle : c ≤ L - 1
    · rw [Nat.min_eq_left hle] at h1 h2
      have hk : c + 1 ≤ 32 := by
        rcases Nat.lt_or_ge 32 (c + 1) with h | h
        · exfalso
          have h3 : 2 ^ 33 ≤ 2 ^ (c + 1) := Nat.pow_le_pow_right (by omega) h
          omega
        · exact h
      have h3 := (hdf _ hk).2 h1
      rw [hm, Nat.pow_succ] at h3
      have h4 := Nat.dvd_of_mul_dvd_mul_left (p2_pos c) h3
      omega
    · rw [Nat.min_eq_right (by omega), show L - 1 + 1 = L by omega] at h2
      omega
theorem ofInt_u64 (a : Nat) (ha : a < 18446744073709551616) : (BitVec.ofInt 64 (a : Int)).toNat = a := by
  rw [BitVec.ofInt_natCast, BitVec.toNat_ofNat]; exact Nat.mod_eq_of_lt (by omega)
theorem or_high (f : Nat) (hf : f < 4294967296) : bits .or .u64 (f : Int) 4294967296 = ((f + 4294967296 : Nat) : Int) := by
  have h := Nat.two_pow_add_eq_or_of_lt (i := 32) (b := f) (by simpa using hf) 1
  have h1 : f ||| 4294967296 = f + 4294967296 := by
    rw [Nat.or_comm]
    have h2 : 2 ^ 32 * 1 = 4294967296 := by decide
    rw [h2] at h
    omega
  show IntKind.u64.wrap ((BitVec.ofInt 64 (f : Int) ||| BitVec.ofInt 64 ((4294967296 : Nat) : Int)).toNat : Int) = _
  rw [BitVec.toNat_or, ofInt_u64 f (by omega), ofInt_u64 4294967296 (by omega), h1]
  have : ∀ n : Nat, n < 18446744073709551616 → IntKind.u64.wrap (n : Int) = (n : Int) := fun n hn => by
    simp [IntKind.wrap, IntKind.bits, IntKind.signed]; omega
  exact this _ (by omega)
/-- The table that counts of zeros are read in. -/
def TzOk (w : World) : Prop := Go.Proofs.TabAt 6 Lib.deBruijn64tab w
theorem TzOk.new {w w1 : World} (h : TzOk w) (hu : New w w1) : TzOk w1 := fun j hj => by
  have h1 := h j hj
  exact (hu.cell (World.block_lt_of_cell? w _ h1) (fun x => x)).trans h1
theorem TzOk.upd {S : Nat → Prop} {w w1 : World} (h : TzOk w) (hu : Upd S w w1) (hn : ¬ S 6) : TzOk w1 := fun j hj => by
  have h1 := h j hj
  exact (hu.cell (World.block_lt_of_cell? w _ h1) hn).trans h1
theorem tz_any (x : Nat) (hx : x < 18446744073709551616) (w : World) (h : TzOk w) :
    Calls Tryd.prog 59 #[.int .u64 x] w fun e w1 => e = .returned (.int .i64 (Lib.ctz 64 x)) ∧ w = w1 :=
  (Go.Proofs.Any7.bits_TrailingZeros64 (P := Tryd.prog) (ρ := sy_lays729_ren) sy_lays729 x hx w (fun _ => h) : Calls Tryd.prog 59 _ _ _).mono fun _ _ ⟨he, hw⟩ => ⟨he, hw.symm⟩
theorem bitlen_any (x : Nat) (hx : x < 18446744073709551616) (w : World) :
    Calls Tryd.prog 60 #[.int .u64 x] w fun e w1 => e = .returned (.int .i64 (Lib.bitLen x)) ∧ w = w1 :=
  (Go.Proofs.Any.bits_Len (P := Tryd.prog) (ρ := sy_lays125_ren) sy_lays125 x w (by omega) (by omega) : Calls Tryd.prog 60 _ _ _).mono fun _ _ ⟨he, hw⟩ => ⟨by simpa using he, hw.symm⟩

/-- A slice of the call's own that holds these numbers. -/
def OwnI (w : World) (base : Nat) (v : Value) (l : List Int) : Prop := w.ownsRow base 3 1 v l.length (l.map (.int .i64))
/-- slices.Sort of numbers of the call's own. -/
theorem sortInts_any (v : Value) (l : List Int) (base : Nat) (w : World) (ho : OwnI w base v l) (hl : l.length ≤ 1000000) :
    Calls Tryd.prog 62 #[v] w fun e w1 => e = .returned (.tuple #[]) ∧ ∃ l', l'.Perm l ∧ l'.Pairwise (· ≤ ·) ∧ OwnI w1 base v l' ∧ w.grownBy w1 v.ownBlock := by
  rcases ho.2 with ⟨rfl, h0⟩ | ⟨g, cap, cur, rfl, hb, hh, hn, hm, hcs, ht⟩
  · obtain rfl : l = [] := List.eq_nil_of_length_eq_zero h0
    refine (Go.Proofs.Any.slices_Sort_int_none (P := Tryd.prog) (ρ := sy_lays189_ren) sy_lays189 none 0 w : Calls Tryd.prog 62 _ _ _).mono ?_
    rintro e w1 ⟨rfl, rfl⟩
    exact ⟨rfl, [], List.Perm.refl _, List.Pairwise.nil, ho, grown_refl _ _⟩
  · have hlt : g < w.heap.size := Blk.lt (t := 3) (cs := cur) hh
    have hH : Go.Sort.Holds (Value.int .i64) w g 0 l.toArray := holds_of_blockI hh (by rw [Nat.mul_one] at ht; exact ht)
    refine (Go.Proofs.Any.slices_Sort_int (P := Tryd.prog) (ρ := sy_lays189_ren) sy_lays189 g 0 cap l w hH hlt (by omega) : Calls Tryd.prog 62 _ _ _).mono ?_
    rintro e w1 ⟨rfl, n, os, rfl⟩
    have hlen : (l.mergeSort fun x y => decide (x ≤ y)).length = l.length := by simp
    refine ⟨rfl, l.mergeSort fun x y => decide (x ≤ y), List.mergeSort_perm _ _, ?_, ?_, grownBy_sortedI _⟩
    · have := List.pairwise_mergeSort (le := fun x y : Int => decide (x ≤ y)) (fun a b c h1 h2 => by simp at *; omega) (fun a b => by simp; omega) l
      exact this.imp (fun h => by simpa using h)
    · unfold OwnI
      rw [hlen]
      exact ownsRow_sortedI hlen hb hh hn hm hcs
end Go.Proofs.YtignngpligicjaaDoor

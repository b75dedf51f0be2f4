/- The law IpHalves, in plain words: halves part a prefix; the one above holds it; right prefixes lie one in the other or apart. No condition but those that stand in each theorem. -/
import Derived.Test.YtlealjcllbpgkaaIo1
namespace Go.Proofs.Ytlealjcllbpgkaa
open Go.RowKit

theorem Rp.top {a n : Int} {A S : Nat} (h : Rp a n A S) : A + S ≤ 4294967296 := by
  have hA := h.addr
  obtain ⟨⟨_, h1⟩, _⟩ := chk_zero h.ok
  have hd : S ∣ 4294967296 := by
    rw [h.size]
    exact Nat.pow_dvd_pow 2 (show 32 - n.toNat ≤ 32 by omega)
  obtain ⟨t, ht⟩ := hd
  obtain ⟨s, hs⟩ := Nat.dvd_of_mod_eq_zero h.al
  have hS := h.pos
  have hst : s < t := by
    rcases Nat.lt_or_ge s t with h3 | h3
    · exact h3
    · have := Nat.mul_le_mul_left S h3
      omega
  have := Nat.mul_le_mul_left S (show s + 1 ≤ t by omega)
  rw [Nat.mul_add, Nat.mul_one] at this
  omega
theorem Rp.make {a n : Int} {A S : Nat} (ha : a = A) (hA : A < 4294967296) (hn : 0 ≤ n ∧ n ≤ 32) (hS : S = 2 ^ (32 - n.toNat)) (hal : A % S = 0) : Rp a n A S := by
  refine ⟨?_, ha, hS, hn, hal⟩
  unfold chk
  rw [if_pos (by omega), if_pos]
  unfold low
  rw [← hS, ha, Int.toNat_natCast]
  exact hal
/-- An address of a right prefix is one from its beginning on, and no more than its size. -/
theorem Rp.hasB {a n : Int} {A S : Nat} (h : Rp a n A S) (x : Int) : hasB a n x = decide ((A : Int) ≤ x ∧ x < A + S) := by
  have hA := h.addr
  have ht := h.top
  have hS := h.pos
  unfold Go.Proofs.Ytlealjcllbpgkaa.hasB
  rw [Bool.eq_iff_iff]
  simp only [decide_eq_true_iff]
  have h3 : low x.toNat n.toNat = x.toNat % S := by rw [h.size]; rfl
  rw [h3]
  have h4 := Nat.mod_le x.toNat S
  have h5 := Nat.mod_lt x.toNat hS
  constructor
  · rintro ⟨_, ⟨h6, h7⟩, h8⟩
    omega
  · rintro ⟨h6, h7⟩
    refine ⟨h.ok, ⟨by omega, by omega⟩, ?_⟩
    obtain ⟨q, hq⟩ := Nat.dvd_of_mod_eq_zero h.al
    have h8 : x.toNat = (x.toNat - A) + S * q := by omega
    have h9 : ((x.toNat - A) + S * q) % S = (x.toNat - A) % S := Nat.add_mul_mod_self_left _ _ _
    rw [← h8, Nat.mod_eq_of_lt (show x.toNat - A < S by omega)] at h9
    omega
/-- The halves. -/
theorem Rp.half {a n : Int} {A S : Nat} (h : Rp a n A S) (hn : n < 32) : ∃ T, T = 2 ^ (31 - n.toNat) ∧ S = T + T ∧ Rp a (n + 1) A T ∧ Rp (a + (T : Int)) (n + 1) (A + T) T := by
  have hl := h.len
  have hA := h.addr
  have ht := h.top
  have e1 : (n + 1).toNat = n.toNat + 1 := by omega
  have e2 : 32 - (n.toNat + 1) = 31 - n.toNat := by omega
  have e3 : S = 2 ^ (31 - n.toNat) + 2 ^ (31 - n.toNat) := by
    rw [h.size, show 32 - n.toNat = (31 - n.toNat) + 1 by omega, Nat.pow_succ, Nat.mul_two]
  have hp : 0 < 2 ^ (31 - n.toNat) := Nat.pow_pos (by omega)
  have e4 : 2 ^ (31 - n.toNat) = 2 ^ (32 - (n + 1).toNat) := by rw [e1, e2]
  refine ⟨2 ^ (31 - n.toNat), rfl, e3, ?_⟩
  generalize 2 ^ (31 - n.toNat) = T at *
  obtain ⟨q, hq⟩ := Nat.dvd_of_mod_eq_zero h.al
  have hq2 : A = T * (2 * q) := by rw [hq, e3, ← Nat.two_mul, Nat.mul_comm 2 T, Nat.mul_assoc]
  have hx : A % T = 0 := by rw [hq2]; exact Nat.mul_mod_right _ _
  have hy : (A + T) % T = 0 := by rw [Nat.add_mod_right]; exact hx
  exact ⟨Rp.make hA (by omega) ⟨by omega, by omega⟩ e4 hx, Rp.make (by omega) (by omega) ⟨by omega, by omega⟩ e4 hy⟩

section
variable {a n b m : Int}
theorem ih_chk (h : chk a n = 0) (hn : n < 32) : chk a (n + 1) = 0 ∧ chk (a + ((2 ^ (31 - n.toNat) : Nat) : Int)) (n + 1) = 0 := by
  obtain ⟨A, S, k⟩ := Rp.of h
  obtain ⟨T, rfl, _, hx, hy⟩ := k.half hn
  exact ⟨hx.ok, hy.ok⟩
/-- An address of a prefix is in just one of its halves. -/
theorem ih_has (h : chk a n = 0) (hn : n < 32) (x : Int) : (hasB a n x = false ∧ hasB a (n + 1) x = false ∧ hasB (a + ((2 ^ (31 - n.toNat) : Nat) : Int)) (n + 1) x = false) ∨
    (hasB a n x = true ∧ hasB a (n + 1) x = true ∧ hasB (a + ((2 ^ (31 - n.toNat) : Nat) : Int)) (n + 1) x = false) ∨
    (hasB a n x = true ∧ hasB a (n + 1) x = false ∧ hasB (a + ((2 ^ (31 - n.toNat) : Nat) : Int)) (n + 1) x = true) := by
  obtain ⟨A, S, k⟩ := Rp.of h
  obtain ⟨T, rfl, hs, hx, hy⟩ := k.half hn
  rw [k.hasB x, hx.hasB x, hy.hasB x]
  generalize 2 ^ (31 - n.toNat) = T at *
  simp only [decide_eq_false_iff_not, decide_eq_true_iff]
  omega
theorem ih_less (h : chk a n = 0) (hn : n < 32) : lessB a (n + 1) (a + ((2 ^ (31 - n.toNat) : Nat) : Int)) (n + 1) = true := by
  obtain ⟨A, S, k⟩ := Rp.of h
  obtain ⟨T, rfl, hs, hx, hy⟩ := k.half hn
  rw [hx.lessB hy]
  have := hx.pos
  exact decide_eq_true (.inl (by omega))
/-- What is above a half. -/
theorem ih_low (h : chk a n = 0) (hn : n < 32) : a - (low a.toNat n.toNat : Int) = a ∧
    a + ((2 ^ (31 - n.toNat) : Nat) : Int) - (low (a + ((2 ^ (31 - n.toNat) : Nat) : Int)).toNat n.toNat : Int) = a := by
  obtain ⟨A, S, k⟩ := Rp.of h
  obtain ⟨_, _, h0⟩ := chk_zero h
  obtain ⟨T, rfl, hs, hx, hy⟩ := k.half hn
  refine ⟨by rw [h0]; omega, ?_⟩
  have hA := k.addr
  unfold low
  rw [← k.size]
  have hp := hx.pos
  generalize 2 ^ (31 - n.toNat) = T at *
  have e : (a + (T : Int)).toNat = T + A := by omega
  obtain ⟨q, hq⟩ := Nat.dvd_of_mod_eq_zero k.al
  have h9 : (T + S * q) % S = T % S := Nat.add_mul_mod_self_left _ _ _
  rw [← hq, Nat.mod_eq_of_lt (show T < S by omega)] at h9
  rw [e, h9]
  omega
theorem ih_size (h : chk a n = 0) (hn : n < 32) : (2 ^ (32 - (n + 1).toNat) : Nat) + (2 ^ (32 - (n + 1).toNat) : Nat) = (2 ^ (32 - n.toNat) : Nat) := by
  obtain ⟨h1, h2, _⟩ := chk_zero h
  rw [show 32 - n.toNat = (32 - (n + 1).toNat) + 1 by omega, Nat.pow_succ, Nat.mul_two]
/-- The one above. -/
theorem ih_up (h : chk a n = 0) (hn : 0 < n) : inB a n (a - (low a.toNat (n - 1).toNat : Int)) (n - 1) = true := by
  obtain ⟨A, S, k⟩ := Rp.of h
  have hl := k.len
  have hA := k.addr
  obtain ⟨⟨h1, h2⟩, _⟩ := chk_zero h
  have hlow : low a.toNat (n - 1).toNat = A % (S + S) := by
    unfold low
    rw [k.size, show a.toNat = A by omega, show 32 - (n - 1).toNat = (32 - n.toNat) + 1 by omega, Nat.pow_succ, Nat.mul_two]
  rw [hlow]
  have hp := k.pos
  have hle := Nat.mod_le A (S + S)
  have hlt := Nat.mod_lt A (show 0 < S + S by omega)
  have hal : (A - A % (S + S)) % (S + S) = 0 := by
    have := Nat.div_add_mod A (S + S)
    have e : A - A % (S + S) = (S + S) * (A / (S + S)) := by omega
    rw [e]
    exact Nat.mul_mod_right _ _
  have hS2 : S + S = 2 ^ (32 - (n - 1).toNat) := by rw [k.size, show 32 - (n - 1).toNat = (32 - n.toNat) + 1 by omega, Nat.pow_succ, Nat.mul_two]
  have u : Rp (a - ((A % (S + S) : Nat) : Int)) (n - 1) (A - A % (S + S)) (S + S) := Rp.make (by omega) (by omega) ⟨by omega, by omega⟩ hS2 hal
  rw [u.inB k]
  have hd : S ∣ S + S := ⟨2, by omega⟩
  have hr : A % (S + S) % S = 0 := by rw [Nat.mod_mod_of_dvd A hd]; exact k.al
  generalize A % (S + S) = r at *
  have h5 : r = 0 ∨ r = S := by
    obtain ⟨s, hs⟩ := Nat.dvd_of_mod_eq_zero hr
    have : s < 2 := by
      rcases Nat.lt_or_ge s 2 with h6 | h6
      · exact h6
      · have := Nat.mul_le_mul_left S h6
        omega
    rcases s with _ | _ | s
    · left; omega
    · right; omega
    · omega
  exact decide_eq_true (by omega)
/-- Two with one address: one is in the other. -/
theorem ih_both (h : chk a n = 0) (hq : chk b m = 0) (x : Int) (h1 : hasB a n x = true) (h2 : hasB b m x = true) : inB a n b m = true ∨ inB b m a n = true := by
  obtain ⟨A, S, k⟩ := Rp.of h
  obtain ⟨B, T, l⟩ := Rp.of hq
  rw [k.hasB] at h1
  rw [l.hasB] at h2
  have h3 := of_decide_eq_true h1
  have h4 := of_decide_eq_true h2
  rw [l.inB k, k.inB l]
  have n1 := k.nest l
  have n2 := l.nest k
  by_cases h5 : A < B ∨ (A = B ∧ T < S)
  · have := n1 h5 (by omega)
    exact .inr (decide_eq_true (by omega))
  · by_cases h6 : B < A ∨ (B = A ∧ S < T)
    · have := n2 h6 (by omega)
      exact .inl (decide_eq_true (by omega))
    · exact .inl (decide_eq_true (by omega))
theorem ih_cut (h : chk a n = 0) (x : Int) (hx : 0 ≤ x ∧ x < 4294967296) : hasB a n x = decide (x - (low x.toNat n.toNat : Int) = a) := by
  unfold hasB
  rw [Bool.eq_iff_iff]
  simp only [decide_eq_true_iff]
  exact ⟨fun h1 => h1.2.2, fun h1 => ⟨h, hx, h1⟩⟩
theorem ih_eq (h : chk a n = 0) (hq : chk b m = 0) (h1 : inB a n b m = true) (h2 : inB b m a n = true) : a = b ∧ n = m := by
  obtain ⟨A, S, k⟩ := Rp.of h
  obtain ⟨B, T, l⟩ := Rp.of hq
  rw [l.inB k] at h1
  rw [k.inB l] at h2
  have h3 := of_decide_eq_true h1
  have h4 := of_decide_eq_true h2
  exact (k.eq l).2 (by omega)
end
end Go.Proofs.Ytlealjcllbpgkaa

/- The law IpOrder, in plain words: right prefixes lie one in the other or apart, and their order keeps to it. No condition but those that stand in each theorem. -/
import Derived.Test.YtlealjcllbpgkaaIp2
namespace Go.Proofs.Ytlealjcllbpgkaa
open Go.RowKit

theorem io_in_nat (a b n m : Nat) (hn : n ≤ 32) (hm : m ≤ 32) (ha : a % 2 ^ (32 - n) = 0) (hb : b % 2 ^ (32 - m) = 0) :
    (a ≤ b ∧ b + 2 ^ (32 - m) ≤ a + 2 ^ (32 - n)) ↔ (b - b % 2 ^ (32 - n) = a ∧ n ≤ m) := by
  have hM : 0 < 2 ^ (32 - m) := Nat.pow_pos (by omega)
  have hN : 0 < 2 ^ (32 - n) := Nat.pow_pos (by omega)
  constructor
  · rintro ⟨h1, h2⟩
    have hbm : b % 2 ^ (32 - n) = b - a := by
      obtain ⟨q, hq⟩ := Nat.dvd_of_mod_eq_zero ha
      have h3 : b = (b - a) + 2 ^ (32 - n) * q := by omega
      have h4 : ((b - a) + 2 ^ (32 - n) * q) % 2 ^ (32 - n) = (b - a) % 2 ^ (32 - n) := Nat.add_mul_mod_self_left _ _ _
      rw [← h3] at h4
      rw [h4, Nat.mod_eq_of_lt (by omega)]
    refine ⟨by omega, ?_⟩
    rcases Nat.lt_or_ge m n with h | h
    · have := Nat.pow_lt_pow_right (show 1 < 2 by omega) (show 32 - n < 32 - m by omega)
      omega
    · exact h
  · rintro ⟨h1, h2⟩
    have hr := Nat.mod_lt b hN
    have hle := Nat.mod_le b (2 ^ (32 - n))
    have hd : 2 ^ (32 - m) ∣ 2 ^ (32 - n) := Nat.pow_dvd_pow 2 (by omega)
    have h3 : b % 2 ^ (32 - n) % 2 ^ (32 - m) = 0 := by rw [Nat.mod_mod_of_dvd b hd]; exact hb
    refine ⟨by omega, ?_⟩
    generalize b % 2 ^ (32 - n) = r at *
    generalize 2 ^ (32 - n) = N at *
    generalize 2 ^ (32 - m) = M at *
    obtain ⟨s, hs⟩ := Nat.dvd_of_mod_eq_zero h3
    obtain ⟨t, ht⟩ := hd
    have hst : s < t := by
      rcases Nat.lt_or_ge s t with h | h
      · exact h
      · have := Nat.mul_le_mul_left M h
        omega
    have := Nat.mul_le_mul_left M (show s + 1 ≤ t by omega)
    rw [Nat.mul_add, Nat.mul_one] at this
    omega

/-- A right prefix: from where, how much. -/
structure Rp (a n : Int) (A S : Nat) : Prop where
  ok : chk a n = 0
  addr : a = A
  size : S = 2 ^ (32 - n.toNat)
  len : 0 ≤ n ∧ n ≤ 32
  al : A % S = 0
theorem Rp.of {a n : Int} (h : chk a n = 0) : ∃ A S, Rp a n A S := by
  obtain ⟨h1, h2, h3⟩ := chk_zero h
  exact ⟨a.toNat, 2 ^ (32 - n.toNat), h, by omega, rfl, h2, h3⟩
theorem Rp.pos {a n : Int} {A S : Nat} (h : Rp a n A S) : 0 < S := by rw [h.size]; exact Nat.pow_pos (by omega)
theorem Rp.lt {a n b m : Int} {A S B T : Nat} (h : Rp a n A S) (k : Rp b m B T) : n < m ↔ T < S := by
  have h1 := h.len
  have h2 := k.len
  rw [h.size, k.size]
  constructor
  · intro h3
    exact Nat.pow_lt_pow_right (by omega) (by omega)
  · intro h3
    rcases Int.lt_or_le n m with h4 | h4
    · exact h4
    · have := Nat.pow_le_pow_right (show 0 < 2 by omega) (show 32 - n.toNat ≤ 32 - m.toNat by omega)
      omega
theorem Rp.dvd {a n b m : Int} {A S B T : Nat} (h : Rp a n A S) (k : Rp b m B T) (hm : n ≤ m) : T ∣ S := by
  rw [h.size, k.size]
  exact Nat.pow_dvd_pow 2 (by omega)
theorem Rp.inB {a n b m : Int} {A S B T : Nat} (h : Rp a n A S) (k : Rp b m B T) : inB b m a n = decide (A ≤ B ∧ B + T ≤ A + S) := by
  have h1 := h.len
  have h2 := k.len
  have hq := io_in_nat A B n.toNat m.toNat (by omega) (by omega) (by rw [← h.size]; exact h.al) (by rw [← k.size]; exact k.al)
  rw [← h.size, ← k.size] at hq
  obtain ⟨⟨b1, b2⟩, _⟩ := chk_zero k.ok
  have hA := h.addr
  have hB := k.addr
  unfold Go.Proofs.Ytlealjcllbpgkaa.inB hasB
  rw [Bool.eq_iff_iff]
  simp only [decide_eq_true_iff]
  have h3 : low b.toNat n.toNat = B % S := by rw [h.size]; unfold low; rw [show b.toNat = B by omega]
  have h4 := Nat.mod_le B S
  rw [h3]
  constructor
  · rintro ⟨_, ⟨_, _, h5⟩, h6⟩
    exact hq.2 ⟨by omega, by omega⟩
  · intro h5
    have := hq.1 h5
    exact ⟨k.ok, ⟨h.ok, ⟨b1, b2⟩, by omega⟩, by omega⟩
theorem cmp_lt {a n b m : Int} : cmpP a n b m < 0 ↔ a < b ∨ (a = b ∧ n < m) := by
  unfold cmpP
  simp only [firstNZ, sgn]
  by_cases h1 : a < b
  · simp [h1]
  · by_cases h2 : b < a
    · simp [h1, h2]; omega
    · have h3 : a = b := by omega
      subst h3
      by_cases h4 : n < m
      · simp [h4]
      · by_cases h5 : m < n
        · simp [h4, h5]
        · simp [h4, h5]
theorem Rp.lessB {a n b m : Int} {A S B T : Nat} (h : Rp a n A S) (k : Rp b m B T) : lessB a n b m = decide (A < B ∨ (A = B ∧ T < S)) := by
  have hl := h.lt k
  have hA := h.addr
  have hB := k.addr
  unfold Go.Proofs.Ytlealjcllbpgkaa.lessB
  rw [Bool.eq_iff_iff]
  simp only [decide_eq_true_iff]
  rw [cmp_lt]
  constructor
  · rintro ⟨_, _, h3 | ⟨h3, h4⟩⟩
    · exact .inl (by omega)
    · exact .inr ⟨by omega, hl.1 h4⟩
  · rintro (h3 | ⟨h3, h4⟩)
    · exact ⟨h.ok, k.ok, .inl (by omega)⟩
    · exact ⟨h.ok, k.ok, .inr ⟨by omega, hl.2 h4⟩⟩
theorem Rp.eq {a n b m : Int} {A S B T : Nat} (h : Rp a n A S) (k : Rp b m B T) : (a = b ∧ n = m) ↔ (A = B ∧ S = T) := by
  have h1 := h.lt k
  have h2 := k.lt h
  have hA := h.addr
  have hB := k.addr
  constructor
  · rintro ⟨h3, h4⟩
    refine ⟨by omega, ?_⟩
    rw [h.size, k.size, h4]
  · rintro ⟨h3, h4⟩
    refine ⟨by omega, ?_⟩
    rcases Int.lt_or_le n m with h5 | h5
    · have := h1.1 h5; omega
    · rcases Int.lt_or_le m n with h6 | h6
      · have := h2.1 h6; omega
      · omega
/-- What begins in a right one, and is not ahead of it, lies in it. -/
theorem Rp.nest {a n b m : Int} {A S B T : Nat} (h : Rp a n A S) (k : Rp b m B T) (h1 : A < B ∨ (A = B ∧ T < S)) (h2 : B < A + S) : B + T ≤ A + S := by
  have hS := h.pos
  have hT := k.pos
  have hA := h.al
  have hB := k.al
  rcases Int.lt_or_le m n with hm | hm
  · have hTS := (k.lt h).1 hm
    obtain ⟨y, hy⟩ := k.dvd h (Int.le_of_lt hm)
    obtain ⟨x, hx⟩ := Nat.dvd_of_mod_eq_zero hA
    obtain ⟨z, hz⟩ := Nat.dvd_of_mod_eq_zero hB
    have h3 : B = S * (y * z) := by rw [hz, hy, Nat.mul_assoc]
    have h4 : A ≤ B := by omega
    have h5 : x ≤ y * z := by
      rcases Nat.lt_or_ge (y * z) x with h6 | h6
      · have := Nat.mul_lt_mul_of_pos_left h6 hS
        omega
      · exact h6
    have h6 : y * z < x + 1 := by
      rcases Nat.lt_or_ge (y * z) (x + 1) with h7 | h7
      · exact h7
      · have := Nat.mul_le_mul_left S h7
        rw [Nat.mul_add, Nat.mul_one] at this
        omega
    have h7 : y * z = x := by omega
    rw [h7] at h3
    omega
  · obtain ⟨y, hy⟩ := h.dvd k hm
    obtain ⟨x, hx⟩ := Nat.dvd_of_mod_eq_zero hA
    obtain ⟨z, hz⟩ := Nat.dvd_of_mod_eq_zero hB
    have h3 : A + S = T * (y * x + y) := by rw [hx, Nat.mul_add, ← Nat.mul_assoc, ← hy]
    have h4 : z < y * x + y := by
      rcases Nat.lt_or_ge z (y * x + y) with h5 | h5
      · exact h5
      · have := Nat.mul_le_mul_left T h5
        omega
    have h5 := Nat.mul_le_mul_left T (show z + 1 ≤ y * x + y by omega)
    rw [Nat.mul_add, Nat.mul_one] at h5
    omega

section
variable {a n b m c o : Int}
/-- One is ahead, or they are one. -/
theorem io_flip (hp : chk a n = 0) (hq : chk b m = 0) (hne : ¬ (a = b ∧ n = m)) : lessB b m a n = !lessB a n b m := by
  obtain ⟨A, S, h⟩ := Rp.of hp
  obtain ⟨B, T, k⟩ := Rp.of hq
  rw [h.eq k] at hne
  rw [h.lessB k, k.lessB h, ← decide_not, decide_eq_decide]
  omega
theorem io_self (hp : chk a n = 0) : lessB a n a n = false ∧ inB a n a n = true := by
  obtain ⟨A, S, h⟩ := Rp.of hp
  rw [h.lessB h, h.inB h]
  exact ⟨decide_eq_false (by omega), decide_eq_true (by omega)⟩
/-- What is in one is behind it. -/
theorem io_in (hp : chk a n = 0) (hq : chk b m = 0) (hne : ¬ (a = b ∧ n = m)) (h1 : lessB a n b m = true) : inB a n b m = false := by
  obtain ⟨A, S, h⟩ := Rp.of hp
  obtain ⟨B, T, k⟩ := Rp.of hq
  rw [h.eq k] at hne
  rw [h.lessB k] at h1
  have h2 := of_decide_eq_true h1
  rw [k.inB h]
  exact decide_eq_false (by omega)
theorem io_less (hp : chk a n = 0) (hq : chk b m = 0) (hs : chk c o = 0) (h1 : lessB a n b m = true) (h2 : lessB b m c o = true) : lessB a n c o = true := by
  obtain ⟨A, S, h⟩ := Rp.of hp
  obtain ⟨B, T, k⟩ := Rp.of hq
  obtain ⟨C, U, l⟩ := Rp.of hs
  rw [h.lessB k] at h1
  rw [k.lessB l] at h2
  rw [h.lessB l]
  have h3 := of_decide_eq_true h1
  have h4 := of_decide_eq_true h2
  exact decide_eq_true (by omega)
/-- Between one and what is in it stands nothing apart from it. -/
theorem io_mid (hp : chk a n = 0) (hq : chk b m = 0) (hs : chk c o = 0) (h1 : lessB a n b m = true) (h2 : lessB b m c o = true) (h3 : inB c o a n = true) : inB b m a n = true := by
  obtain ⟨A, S, h⟩ := Rp.of hp
  obtain ⟨B, T, k⟩ := Rp.of hq
  obtain ⟨C, U, l⟩ := Rp.of hs
  rw [h.lessB k] at h1
  rw [k.lessB l] at h2
  rw [h.inB l] at h3
  rw [h.inB k]
  have h4 := of_decide_eq_true h1
  have h5 := of_decide_eq_true h2
  have h6 := of_decide_eq_true h3
  have hU := l.pos
  have := h.nest k h4 (by omega)
  exact decide_eq_true (by omega)
theorem io_inin (hp : chk a n = 0) (hq : chk b m = 0) (hs : chk c o = 0) (h1 : inB a n b m = true) (h2 : inB b m c o = true) : inB a n c o = true := by
  obtain ⟨A, S, h⟩ := Rp.of hp
  obtain ⟨B, T, k⟩ := Rp.of hq
  obtain ⟨C, U, l⟩ := Rp.of hs
  rw [k.inB h] at h1
  rw [l.inB k] at h2
  rw [l.inB h]
  have h3 := of_decide_eq_true h1
  have h4 := of_decide_eq_true h2
  exact decide_eq_true (by omega)
end
end Go.Proofs.Ytlealjcllbpgkaa

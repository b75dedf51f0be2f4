/- Texts cut by a byte, plainly: the document's cutting is the library's. No condition but those that stand in each theorem. -/
import Derived.Test.YtjgecmkfgeajiaaGreatDoorIh1
import Derived.Test.YtjgecmkfgeajiaaGreatDoorTx1
import Derived.Lib.ItoaNum
namespace Go.Proofs.YtjgecmkfgeajiaaGreatDoor
open Go.RowKit

/-- The document's cutting of a text by a byte. -/
def cutR (c : UInt8) : List UInt8 → List (List UInt8)
  | [] => [[]]
  | b :: l => if b = c then [] :: cutR c l else match cutR c l with
    | p :: ps => (b :: p) :: ps
    | [] => [[b]]
theorem cutR_ne (c : UInt8) : ∀ l, cutR c l ≠ []
  | [] => by simp [cutR]
  | b :: l => by
    unfold cutR
    split
    · simp
    · split <;> simp
theorem cutR_no (c : UInt8) : ∀ l, ∀ p ∈ cutR c l, c ∉ p
  | [], p, h => by
    unfold cutR at h
    rw [List.mem_singleton.1 h]; simp
  | b :: l, p, h => by
    unfold cutR at h
    have ih := cutR_no c l
    split at h
    · rcases List.mem_cons.1 h with rfl | h
      · simp
      · exact ih p h
    · rename_i hb
      split at h
      · rename_i q qs hq
        rcases List.mem_cons.1 h with rfl | h
        · rw [List.mem_cons]
          rintro (e | e)
          · exact hb e.symm
          · exact ih q (by rw [hq]; exact List.mem_cons_self ..) e
        · exact ih p (by rw [hq]; exact List.mem_cons_of_mem _ h)
      · rw [List.mem_singleton.1 h, List.mem_singleton]
        exact fun e => hb e.symm
theorem cutR_join (c : UInt8) : ∀ l, joinC c (cutR c l) = l
  | [] => rfl
  | b :: l => by
    have ih := cutR_join c l
    have hn := cutR_ne c l
    unfold cutR
    cases hq : cutR c l with
    | nil => exact absurd hq hn
    | cons q qs =>
      rw [hq] at ih
      by_cases hb : b = c
      · rw [if_pos hb, ← hb]
        show [] ++ b :: joinC b (q :: qs) = _
        rw [hb, ih]; rfl
      · rw [if_neg hb]
        show joinC c ((b :: q) :: qs) = b :: l
        rw [← ih]
        cases qs with
        | nil => rfl
        | cons r rs => rfl
theorem cutR_self (c : UInt8) : ∀ p : List UInt8, c ∉ p → cutR c p = [p]
  | [], _ => rfl
  | b :: l, h => by
    have ih := cutR_self c l (fun hm => h (List.mem_cons_of_mem _ hm))
    unfold cutR
    rw [if_neg (fun e => h (by rw [e]; exact List.mem_cons_self ..)), ih]
theorem cutR_app (c : UInt8) (r : List UInt8) : ∀ p : List UInt8, c ∉ p → cutR c (p ++ c :: r) = p :: cutR c r
  | [], _ => by
    show cutR c (c :: r) = _
    unfold cutR
    rw [if_pos rfl]
    cases r <;> rfl
  | b :: l, h => by
    have ih := cutR_app c r l (fun hm => h (List.mem_cons_of_mem _ hm))
    show cutR c (b :: (l ++ c :: r)) = _
    rw [cutR, if_neg (fun e => h (by rw [e]; exact List.mem_cons_self ..)), ih]
theorem cutR_len (c : UInt8) (l : List UInt8) : (cutR c l).length ≤ l.length + 1 := by
  induction l with
  | nil => simp [cutR]
  | cons b l ih =>
    unfold cutR
    split
    · simp; omega
    · split
      · rename_i q qs hq
        rw [hq] at ih
        simp at ih ⊢; omega
      · simp
theorem cutR_piece (c : UInt8) : ∀ l, ∀ p ∈ cutR c l, p.length ≤ l.length
  | [], p, h => by
    unfold cutR at h
    rw [List.mem_singleton.1 h]; simp
  | b :: l, p, h => by
    have ih := cutR_piece c l
    unfold cutR at h
    split at h
    · rcases List.mem_cons.1 h with rfl | h
      · simp
      · have := ih p h; simp; omega
    · split at h
      · rename_i q qs hq
        rcases List.mem_cons.1 h with rfl | h
        · have := ih q (by rw [hq]; exact List.mem_cons_self ..); simp; omega
        · have := ih p (by rw [hq]; exact List.mem_cons_of_mem _ h); simp; omega
      · rw [List.mem_singleton.1 h]; simp
/-- The library's cutting by one byte. -/
theorem splitB_cutR (c : UInt8) (s : ByteArray) : Lib.splitB ⟨#[c]⟩ 0 (Lib.countB s ⟨#[c]⟩) s = (cutR c s.data.toList).map fun p => ⟨p.toArray⟩ := by
  have h := splitB_join c (cutR c s.data.toList) (cutR_ne c _) (cutR_no c _)
  rw [cutR_join, ba_eta] at h
  exact h
/-- The library's cutting in two, at the first such byte. -/
theorem cut_cutR (c : UInt8) (l : List UInt8) : Lib.cut l [c] = match cutR c l with
    | [] => (l, [], false)
    | [p] => (p, [], false)
    | p :: q :: r => (p, joinC c (q :: r), true) := by
  have hj := cutR_join c l
  have hn := cutR_no c l
  cases hq : cutR c l with
  | nil => exact absurd hq (cutR_ne c l)
  | cons p r =>
    rw [hq] at hj hn
    have hp := hn p (List.mem_cons_self ..)
    cases r with
    | nil =>
      have hj' : p = l := hj
      rw [← hj']
      exact cut_none c p hp
    | cons q r =>
      have hj' : p ++ c :: joinC c (q :: r) = l := hj
      rw [← hj']
      exact cut_at c p _ hp
end Go.Proofs.YtjgecmkfgeajiaaGreatDoor

namespace Go.Proofs.YtjgecmkfgeajiaaGreatDoor
open Go.RowKit

/-- Digits, from the left; -1: one is none. -/
def digR : List UInt8 → Nat → Int
  | [], acc => (acc : Int)
  | c :: r, acc => if 48 ≤ c.toNat ∧ c.toNat ≤ 57 then digR r (10 * acc + (c.toNat - 48)) else -1
/-- The document's number of a text. -/
def numR (l : List UInt8) : Int := if l.length < 1 ∨ 9 < l.length ∨ (1 < l.length ∧ l.head? = some 48) then -1 else digR l 0

theorem dig_byte (d : Nat) (h : d < 10) : (UInt8.ofNat (48 + d)).toNat = 48 + d := by
  rw [UInt8.toNat_ofNat']; omega
theorem digR_app : ∀ (l r : List UInt8) (acc : Nat), (∀ c ∈ l, 48 ≤ c.toNat ∧ c.toNat ≤ 57) → ∃ b : Nat, digR l acc = (b : Int) ∧ digR (l ++ r) acc = digR r b
  | [], r, acc, _ => ⟨acc, rfl, rfl⟩
  | c :: l, r, acc, h => by
    have hc := h c (List.mem_cons_self ..)
    obtain ⟨b, h1, h2⟩ := digR_app l r (10 * acc + (c.toNat - 48)) (fun x hx => h x (List.mem_cons_of_mem _ hx))
    refine ⟨b, ?_, ?_⟩
    · unfold digR; rw [if_pos hc]; exact h1
    · show (if 48 ≤ c.toNat ∧ c.toNat ≤ 57 then digR (l ++ r) (10 * acc + (c.toNat - 48)) else -1) = _
      rw [if_pos hc]; exact h2
theorem digR_all : ∀ (l : List UInt8) (acc : Nat), 0 ≤ digR l acc → ∀ c ∈ l, 48 ≤ c.toNat ∧ c.toNat ≤ 57
  | [], _, _, c, h => absurd h (by simp)
  | d :: l, acc, h, c, hc => by
    unfold digR at h
    split at h
    · rename_i hd
      rcases List.mem_cons.1 hc with rfl | hc
      · exact hd
      · exact digR_all l _ h c hc
    · omega
theorem dec_all : ∀ (u : Nat), ∀ c ∈ Lib.decDigits u, 48 ≤ c.toNat ∧ c.toNat ≤ 57 := by
  intro u
  induction u using Nat.strongRecOn with
  | _ u ih =>
    intro c hc
    rw [Lib.decDigits] at hc
    by_cases h : u < 10
    · rw [dif_pos h, List.mem_singleton] at hc
      subst hc
      rw [dig_byte u h]; omega
    · rw [dif_neg h, List.mem_append, List.mem_singleton] at hc
      rcases hc with hc | hc
      · exact ih (u / 10) (by omega) c hc
      · subst hc
        rw [dig_byte _ (Nat.mod_lt _ (by omega))]
        have := Nat.mod_lt u (show 0 < 10 by omega)
        omega
theorem digR_dec : ∀ (u : Nat), digR (Lib.decDigits u) 0 = (u : Int) := by
  intro u
  induction u using Nat.strongRecOn with
  | _ u ih =>
    rw [Lib.decDigits]
    by_cases h : u < 10
    · rw [dif_pos h]
      have e := dig_byte u h
      unfold digR
      rw [if_pos (by omega), e]
      unfold digR
      omega
    · rw [dif_neg h]
      obtain ⟨b, h1, h2⟩ := digR_app (Lib.decDigits (u / 10)) [UInt8.ofNat (48 + u % 10)] 0 (dec_all _)
      rw [ih (u / 10) (by omega)] at h1
      obtain rfl : u / 10 = b := by omega
      rw [h2]
      have hm := Nat.mod_lt u (show 0 < 10 by omega)
      have e := dig_byte (u % 10) hm
      unfold digR
      rw [if_pos (by omega), e]
      unfold digR
      omega
theorem dec_step (q d : Nat) (hq : 1 ≤ q) (hd : d < 10) : Lib.decDigits (10 * q + d) = Lib.decDigits q ++ [UInt8.ofNat (48 + d)] := by
  rw [Lib.decDigits, dif_neg (by omega), show (10 * q + d) / 10 = q by omega, show (10 * q + d) % 10 = d by omega]
/-- Digits without a needless zero are the number's own. -/
theorem dec_of : ∀ (n : Nat) (l : List UInt8), l.length = n + 1 → (∀ c ∈ l, 48 ≤ c.toNat ∧ c.toNat ≤ 57) → (1 < l.length → l.head? ≠ some 48) → ∃ u : Nat, digR l 0 = (u : Int) ∧ Lib.decDigits u = l ∧ (l.head? ≠ some 48 → 1 ≤ u)
  | 0, l, hl, ha, _ => by
    match l, hl with
    | [c], _ =>
      have hc := ha c (List.mem_cons_self ..)
      refine ⟨c.toNat - 48, ?_, ?_, fun h => ?_⟩
      · unfold digR; rw [if_pos hc]; unfold digR; omega
      · rw [Lib.decDigits_one (by omega), show 48 + (c.toNat - 48) = c.toNat by omega]
        congr 1
        exact UInt8.ofNat_toNat
      · have h2 : c ≠ 48 := fun e => h (by rw [e]; rfl)
        have h3 : c.toNat ≠ 48 := fun e => h2 (UInt8.toNat_inj.1 e)
        omega
  | n + 1, l, hl, ha, hz => by
    obtain ⟨l', c, rfl⟩ : ∃ l' c, l = l' ++ [c] := ⟨l.dropLast, l.getLast (by intro e; rw [e] at hl; simp at hl), (List.dropLast_concat_getLast _).symm⟩
    have hl' : l'.length = n + 1 := by simpa using hl
    have hne : l' ≠ [] := by intro e; rw [e] at hl'; simp at hl'
    have hhead : (l' ++ [c]).head? = l'.head? := by
      cases l' with
      | nil => exact absurd rfl hne
      | cons x y => rfl
    have hz' : l'.head? ≠ some 48 := by rw [← hhead]; exact hz (by rw [hl]; omega)
    obtain ⟨u, h1, h2, h3⟩ := dec_of n l' hl' (fun x hx => ha x (List.mem_append.2 (.inl hx))) (fun _ => hz')
    have hc := ha c (List.mem_append.2 (.inr (List.mem_singleton.2 rfl)))
    obtain ⟨b, k1, k2⟩ := digR_app l' [c] 0 (fun x hx => ha x (List.mem_append.2 (.inl hx)))
    obtain rfl : u = b := by rw [h1] at k1; omega
    refine ⟨10 * u + (c.toNat - 48), ?_, ?_, fun _ => by have := h3 hz'; omega⟩
    · rw [k2]; unfold digR; rw [if_pos hc]; unfold digR; omega
    · rw [dec_step u _ (h3 hz') (by omega), h2, show 48 + (c.toNat - 48) = c.toNat by omega]
      congr 2
      exact UInt8.ofNat_toNat
theorem dec_head (u : Nat) (h : 10 ≤ u) : (Lib.decDigits u).head? ≠ some 48 := by
  induction u using Nat.strongRecOn with
  | _ u ih =>
    rw [Lib.decDigits, dif_neg (by omega)]
    have hne : Lib.decDigits (u / 10) ≠ [] := by
      intro e
      have := Lib.decDigits_length (u / 10)
      have := Lib.nDigits_pos (u / 10)
      rw [e] at *
      simp at *
      omega
    have hhead : (Lib.decDigits (u / 10) ++ [UInt8.ofNat (48 + u % 10)]).head? = (Lib.decDigits (u / 10)).head? := by
      cases hx : Lib.decDigits (u / 10) with
      | nil => exact absurd hx hne
      | cons x y => rfl
    rw [hhead]
    by_cases h2 : 10 ≤ u / 10
    · exact ih (u / 10) (by omega) h2
    · rw [Lib.decDigits_one (by omega)]
      intro e
      have e2 : UInt8.ofNat (48 + u / 10) = 48 := by simpa using e
      have e3 := congrArg UInt8.toNat e2
      rw [dig_byte _ (by omega)] at e3
      have : (48 : UInt8).toNat = 48 := rfl
      omega
theorem nDigits_9 (u : Nat) : Lib.nDigits u ≤ 9 ↔ u < 1000000000 := by
  constructor
  · intro h
    have h1 := Lib.lt_pow_nDigits u
    have h2 : 10 ^ Lib.nDigits u ≤ 10 ^ 9 := Nat.pow_le_pow_right (by omega) h
    omega
  · intro h
    rcases Nat.lt_or_ge 9 (Lib.nDigits u) with h1 | h1
    · exfalso
      have key : ∀ (k u : Nat), k < Lib.nDigits u → 1 ≤ k → 10 ^ k ≤ u := by
        intro k
        induction k with
        | zero => intro u _ h; omega
        | succ k ih =>
          intro u hu _
          by_cases hs : u < 10
          · rw [Lib.nDigits_small hs] at hu; omega
          · rw [Lib.nDigits_big hs] at hu
            rcases Nat.eq_zero_or_pos k with rfl | hk
            · omega
            · have := ih (u / 10) (by omega) hk
              rw [Nat.pow_succ]; omega
      have := key 9 u h1 (by omega)
      omega
    · exact h1

/-- The document's number of a text is v, just if the text is v's own and has nine digits at most. -/
theorem numR_dec (u : Nat) (h : u < 1000000000) : numR (Lib.decDigits u) = (u : Int) := by
  unfold numR
  have h1 := Lib.decDigits_length u
  have h2 := Lib.nDigits_pos u
  have h3 := (nDigits_9 u).2 h
  rw [if_neg]
  · exact digR_dec u
  · rintro (h4 | h4 | ⟨h4, h5⟩)
    · omega
    · omega
    · by_cases h6 : 10 ≤ u
      · exact dec_head u h6 h5
      · rw [h1, Lib.nDigits_small (by omega)] at h4; omega
theorem numR_ok {l : List UInt8} (h : 0 ≤ numR l) : ∃ u : Nat, numR l = (u : Int) ∧ u < 1000000000 ∧ Lib.decDigits u = l := by
  unfold numR at h ⊢
  split at h
  · omega
  · rename_i hc
    rw [if_neg hc]
    simp only [not_or] at hc
    obtain ⟨u, h1, h2, _⟩ := dec_of (l.length - 1) l (by omega) (digR_all l 0 h) (fun hh e => hc.2.2 ⟨hh, e⟩)
    refine ⟨u, h1, ?_, h2⟩
    rw [← nDigits_9, ← Lib.decDigits_length, h2]
    omega
theorem parse_dec : ∀ (l : List UInt8) (acc : Nat), acc < 1000000000 → (∀ c ∈ l, 48 ≤ c.toNat ∧ c.toNat ≤ 57) → ∀ u : Nat, digR l acc = (u : Int) → u < 1000000000 → Lib.parseUint10 acc l = .ok u
  | [], acc, _, _, u, h, _ => by
    unfold digR at h
    unfold Lib.parseUint10
    congr 1
    omega
  | c :: l, acc, hacc, ha, u, h, hu => by
    have hc := ha c (List.mem_cons_self ..)
    unfold digR at h
    rw [if_pos hc] at h
    have hmono : ∀ (l : List UInt8) (a : Nat), (∀ c ∈ l, 48 ≤ c.toNat ∧ c.toNat ≤ 57) → (a : Int) ≤ digR l a := by
      intro l
      induction l with
      | nil => intro a _; exact Int.le_refl _
      | cons d l ih =>
        intro a hd
        unfold digR
        rw [if_pos (hd d (List.mem_cons_self ..))]
        have := ih (10 * a + (d.toNat - 48)) (fun x hx => hd x (List.mem_cons_of_mem _ hx))
        omega
    have hle := hmono l (10 * acc + (c.toNat - 48)) (fun x hx => ha x (List.mem_cons_of_mem _ hx))
    unfold Lib.parseUint10
    rw [if_pos hc, if_neg (by omega), if_neg (by omega)]
    have e : acc * 10 + (c.toNat - 48) = 10 * acc + (c.toNat - 48) := by omega
    rw [e]
    exact parse_dec l _ (by omega) (fun x hx => ha x (List.mem_cons_of_mem _ hx)) u h hu
theorem atoi_dec (u : Nat) (h : u < 1000000000) : Lib.atoiAll (Lib.decDigits u) = .ok (u : Int) := by
  have h1 := parse_dec (Lib.decDigits u) 0 (by omega) (dec_all u) u (digR_dec u) h
  have h2 := Lib.decDigits_length u
  have h3 := Lib.nDigits_pos u
  have ha := dec_all u
  cases hx : Lib.decDigits u with
  | nil => rw [hx] at h2; simp at h2; omega
  | cons c r =>
    have hc := ha c (by rw [hx]; exact List.mem_cons_self ..)
    rw [hx] at h1
    unfold Lib.atoiAll Lib.parseMag
    simp only [if_neg (show ¬ (c.toNat = 43 ∨ c.toNat = 45) by omega), if_neg (show ¬ ((c :: r) = []) by simp), h1]
    rw [if_neg (by omega), if_neg (by omega), if_neg (by omega)]
/-- The program's reading of a number, by the document's. -/
theorem numV_numR (l : List UInt8) (most : Int) (hm : most ≤ 999999999) : numV l most = if 0 ≤ numR l ∧ numR l ≤ most then some (numR l) else none := by
  by_cases h : 0 ≤ numR l
  · obtain ⟨u, h1, h2, h3⟩ := numR_ok h
    have h4 := atoi_dec u h2
    rw [h3] at h4
    rw [numV_ok h4, h1]
    have h5 : Lib.itoa (u : Int) = l := by rw [← h3]; unfold Lib.itoa; rw [if_neg (by omega)]; simp
    rw [h5]
    simp
  · rw [if_neg (fun hh => h hh.1)]
    cases hx : numV l most with
    | none => rfl
    | some v =>
      exfalso
      apply h
      unfold numV at hx
      split at hx
      · rename_i v' hv
        split at hx
        · rename_i hh
          obtain ⟨h0, h1, h2⟩ := hh
          have h3 : l = Lib.decDigits v'.toNat := by rw [← h2]; unfold Lib.itoa; rw [if_neg (by omega)]
          rw [h3, numR_dec _ (by omega)]
          omega
        · cases hx
      · cases hx
end Go.Proofs.YtjgecmkfgeajiaaGreatDoor

namespace Go.Proofs.YtjgecmkfgeajiaaGreatDoor
open Go.RowKit

theorem numR_lt (l : List UInt8) : numR l ≤ 999999999 ∧ -1 ≤ numR l := by
  by_cases h : 0 ≤ numR l
  · obtain ⟨u, h1, h2, _⟩ := numR_ok h
    omega
  · refine ⟨by omega, ?_⟩
    unfold numR at h ⊢
    split
    · omega
    · have key : ∀ (l : List UInt8) (acc : Nat), -1 ≤ digR l acc := by
        intro l
        induction l with
        | nil => intro acc; unfold digR; omega
        | cons c r ih => intro acc; unfold digR; split <;> first | exact ih _ | omega
      exact key l 0
theorem numV_digits {l : List UInt8} {most v : Int} (hm : most ≤ 999999999) (h : numV l most = some v) : ∀ c ∈ l, 48 ≤ c.toNat ∧ c.toNat ≤ 57 := by
  rw [numV_numR l most hm] at h
  split at h
  · rename_i hh
    obtain ⟨u, _, _, h3⟩ := numR_ok hh.1
    rw [← h3]
    exact dec_all u
  · cases h
theorem readParts_cutR (s : ByteArray) : readParts s = (cutR 46 s.data.toList).map fun p => ⟨p.toArray⟩ := splitB_cutR 46 s
theorem readA_four {s : ByteArray} (h : ¬ (cutR 46 s.data.toList).length = 4) : readA s = none := by
  unfold readA
  rw [readParts_cutR, if_neg (by simpa using h)]
theorem readA_parts {s : ByteArray} (h : (cutR 46 s.data.toList).length = 4) : readA s = partsV ((cutR 46 s.data.toList).map fun p => ⟨p.toArray⟩) 0 := by
  unfold readA
  rw [readParts_cutR, if_pos (by simpa using h)]
theorem parts_some {p : List UInt8} {ps : List ByteArray} {acc : Nat} (h0 : 0 ≤ numR p) (h1 : numR p ≤ 255) : partsV (⟨p.toArray⟩ :: ps) acc = partsV ps (acc * 256 + (numR p).toNat) :=
  partsV_some (by show numV p 255 = _; rw [numV_numR p 255 (by omega), if_pos ⟨h0, h1⟩])
theorem parts_none {p : List UInt8} {ps : List ByteArray} {acc : Nat} (h : ¬ (0 ≤ numR p ∧ numR p ≤ 255)) : partsV (⟨p.toArray⟩ :: ps) acc = none :=
  partsV_none (by show numV p 255 = _; rw [numV_numR p 255 (by omega), if_neg h])
/-- A text in two parts. -/
theorem readP_two {s : ByteArray} {p q : List UInt8} (h : cutR 47 s.data.toList = [p, q]) :
    (readA ⟨p.toArray⟩ = none → readP s = (1, 0, 0)) ∧ (numR q < 0 → readP s = (1, 0, 0)) ∧
    (∀ a, readA ⟨p.toArray⟩ = some a → 0 ≤ numR q → readP s = if chk a (numR q) = 0 then (0, (a : Int), numR q) else (chk a (numR q), 0, 0)) := by
  have hc : Lib.cut s.data.toList [47] = (p, q, true) := by rw [cut_cutR, h]; rfl
  refine ⟨fun ha => readP_a (by rw [hc]; exact ha), fun hn => readP_n ?_, fun a ha hn => readP_ok s a (numR q) (by rw [hc]) (by rw [hc]; exact ha) ?_⟩
  · rw [hc]
    show numV q 999999999 = none
    rw [numV_numR q _ (by omega), if_neg (by omega)]
  · rw [hc]
    show numV q 999999999 = _
    have := numR_lt q
    rw [numV_numR q _ (by omega), if_pos (by omega)]
/-- A text in fewer or more. -/
theorem readP_not {s : ByteArray} (h : ¬ (cutR 47 s.data.toList).length = 2) : readP s = (1, 0, 0) := by
  cases hq : cutR 47 s.data.toList with
  | nil => exact absurd hq (cutR_ne _ _)
  | cons p r =>
    cases r with
    | nil =>
      refine readP_is ?_
      rw [cut_cutR, hq]
    | cons q r =>
      cases r with
      | nil => rw [hq] at h; exact absurd rfl h
      | cons x r =>
        refine readP_n ?_
        rw [cut_cutR, hq]
        show numV (q ++ 47 :: joinC 47 (x :: r)) 999999999 = none
        cases hv : numV (q ++ 47 :: joinC 47 (x :: r)) 999999999 with
        | none => rfl
        | some v =>
          have := numV_digits (by omega) hv 47 (by simp)
          simp at this
end Go.Proofs.YtjgecmkfgeajiaaGreatDoor

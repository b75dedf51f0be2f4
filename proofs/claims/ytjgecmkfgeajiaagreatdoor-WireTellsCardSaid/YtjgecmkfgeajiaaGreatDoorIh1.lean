/- Texts, plainly: what is joined by a byte is cut there again; a prefix's text is read as that prefix. No condition but those that stand in each theorem. -/
import Derived.Test.YtjgecmkfgeajiaaGreatDoorTx1
import Derived.Lib.CountLaws
import Derived.Lib.Split
namespace Go.Proofs.YtjgecmkfgeajiaaGreatDoor
open Go.RowKit

theorem ix_none (c : UInt8) : ∀ (p : List UInt8), c ∉ p → Lib.index p [c] = -1
  | [], _ => rfl
  | b :: l, h => by
    have hb : (c == b) = false := by
      rw [beq_eq_false_iff_ne]
      intro e; exact h (by rw [e]; exact List.mem_cons_self ..)
    have ih := ix_none c l (fun hm => h (List.mem_cons_of_mem _ hm))
    unfold Lib.index
    rw [ih]
    simp [List.isPrefixOf, hb]
theorem ix_at (c : UInt8) (r : List UInt8) : ∀ (p : List UInt8), c ∉ p → Lib.index (p ++ c :: r) [c] = (p.length : Int)
  | [], _ => by
    show Lib.index (c :: r) [c] = 0
    unfold Lib.index
    simp [List.isPrefixOf]
  | b :: l, h => by
    have hb : (c == b) = false := by
      rw [beq_eq_false_iff_ne]
      intro e; exact h (by rw [e]; exact List.mem_cons_self ..)
    have ih := ix_at c r l (fun hm => h (List.mem_cons_of_mem _ hm))
    show Lib.index (b :: (l ++ c :: r)) [c] = _
    unfold Lib.index
    rw [ih]
    have h1 : ((l.length : Int) == -1) = false := by rw [beq_eq_false_iff_ne]; omega
    simp [List.isPrefixOf, hb, h1]

/-- Cut at the first such byte. -/
theorem cut_none (c : UInt8) (p : List UInt8) (h : c ∉ p) : Lib.cut p [c] = (p, [], false) := by
  unfold Lib.cut
  rw [ix_none c p h, if_neg (by omega)]
theorem cut_at (c : UInt8) (p r : List UInt8) (h : c ∉ p) : Lib.cut (p ++ c :: r) [c] = (p, r, true) := by
  unfold Lib.cut
  rw [ix_at c r p h, if_pos (by omega)]
  simp

/-- Pieces joined by a byte. -/
def joinC (c : UInt8) : List (List UInt8) → List UInt8
  | [] => []
  | [p] => p
  | p :: q :: l => p ++ c :: joinC c (q :: l)
theorem splitK_join (c : UInt8) : ∀ (l : List (List UInt8)), l ≠ [] → (∀ p ∈ l, c ∉ p) → Lib.count (joinC c l) [c] = l.length - 1 ∧ Lib.splitK [c] 0 (l.length - 1) (joinC c l) = l
  | [], h, _ => absurd rfl h
  | [p], _, h => by
    have h1 := ix_none c p (h p (List.mem_cons_self ..))
    exact ⟨Lib.count_miss h1, rfl⟩
  | p :: q :: l, _, h => by
    have h1 := ix_at c (joinC c (q :: l)) p (h p (List.mem_cons_self ..))
    obtain ⟨h2, h3⟩ := splitK_join c (q :: l) (by simp) (fun x hx => h x (List.mem_cons_of_mem _ hx))
    have e : (p :: q :: l).length - 1 = ((q :: l).length - 1) + 1 := by simp
    have hd : (p ++ c :: joinC c (q :: l)).drop (p.length + 1) = joinC c (q :: l) := by
      rw [List.drop_append]
      simp
    constructor
    · show Lib.count (p ++ c :: joinC c (q :: l)) [c] = _
      rw [Lib.count_hit (i := p.length) (by simp) h1, e]
      rw [show ([c] : List UInt8).length = 1 from rfl, hd, h2]
      omega
    · rw [e]
      show Lib.splitK [c] 0 _ (p ++ c :: joinC c (q :: l)) = _
      unfold Lib.splitK
      have hm : (((p.length : Nat) : Int) == -1) = false := by rw [beq_eq_false_iff_ne]; omega
      rw [h1, if_neg (by rw [hm]; simp)]
      rw [show ((p.length : Nat) : Int).toNat = p.length from rfl, show ([c] : List UInt8).length = 1 from rfl, hd, h3]
      congr 1
      simp
theorem ba_eta (x : ByteArray) : (⟨x.data.toList.toArray⟩ : ByteArray) = x := by cases x; simp
theorem splitB_join (c : UInt8) (l : List (List UInt8)) (hl : l ≠ []) (h : ∀ p ∈ l, c ∉ p) :
    Lib.splitB ⟨#[c]⟩ 0 (Lib.countB ⟨(joinC c l).toArray⟩ ⟨#[c]⟩) ⟨(joinC c l).toArray⟩ = l.map fun p => ⟨p.toArray⟩ := by
  obtain ⟨h1, h2⟩ := splitK_join c l hl h
  have h3 := Lib.splitB_data ⟨#[c]⟩ 0 (Lib.countB ⟨(joinC c l).toArray⟩ ⟨#[c]⟩) ⟨(joinC c l).toArray⟩
  have h4 : Lib.countB ⟨(joinC c l).toArray⟩ ⟨#[c]⟩ = l.length - 1 := h1
  rw [h4] at h3 ⊢
  have h5 : (Lib.splitB ⟨#[c]⟩ 0 (l.length - 1) ⟨(joinC c l).toArray⟩).map (·.data.toList) = l := h3.trans h2
  have h6 := congrArg (List.map fun p : List UInt8 => (⟨p.toArray⟩ : ByteArray)) h5
  rw [List.map_map] at h6
  rw [← h6]
  conv => lhs; rw [← List.map_id (Lib.splitB _ _ _ _)]
  exact List.map_congr_left fun x _ => (ba_eta x).symm

theorem itoa_byte : ∀ u : Fin 256, numV (Lib.itoa (u.val : Int)) 255 = some (u.val : Int) ∧ (46 : UInt8) ∉ Lib.itoa (u.val : Int) ∧ (47 : UInt8) ∉ Lib.itoa (u.val : Int) ∧ (32 : UInt8) ∉ Lib.itoa (u.val : Int) := by decide +kernel
theorem itoa_len32 : ∀ u : Fin 33, numV (Lib.itoa (u.val : Int)) 999999999 = some (u.val : Int) := by decide +kernel

/-- An address's four numbers. -/
def quad (a : Nat) : List (List UInt8) := [Lib.itoa ((a / 16777216 % 256 : Nat) : Int), Lib.itoa ((a / 65536 % 256 : Nat) : Int), Lib.itoa ((a / 256 % 256 : Nat) : Int), Lib.itoa ((a % 256 : Nat) : Int)]
theorem addr_joined (a : Nat) : (textK a 4).drop 1 = joinC 46 (quad a) := by
  unfold quad
  have e0 : a / 2 ^ (24 - 8 * 0) = a / 16777216 := congrArg (a / ·) (by decide)
  have e1 : a / 2 ^ (24 - 8 * 1) = a / 65536 := congrArg (a / ·) (by decide)
  have e2 : a / 2 ^ (24 - 8 * 2) = a / 256 := congrArg (a / ·) (by decide)
  have e3 : a / 2 ^ (24 - 8 * 3) = a := Nat.div_one a
  simp only [textK, joinC, e0, e1, e2, e3]
  simp
theorem quad_no (a : Nat) (c : UInt8) (hc : c = 46 ∨ c = 47 ∨ c = 32) : ∀ p ∈ quad a, c ∉ p := by
  have key : ∀ x : Nat, x < 256 → c ∉ Lib.itoa (x : Int) := fun x hx => by
    obtain ⟨_, h1, h2, h3⟩ := itoa_byte ⟨x, hx⟩
    rcases hc with rfl | rfl | rfl
    · exact h1
    · exact h2
    · exact h3
  intro p hp
  unfold quad at hp
  simp only [List.mem_cons, List.not_mem_nil, or_false] at hp
  rcases hp with rfl | rfl | rfl | rfl <;> exact key _ (Nat.mod_lt _ (by omega))
theorem joinC_no (c d : UInt8) (hd : d ≠ c) : ∀ (l : List (List UInt8)), (∀ p ∈ l, d ∉ p) → d ∉ joinC c l
  | [], _ => by simp [joinC]
  | [p], h => h p (List.mem_cons_self ..)
  | p :: q :: l, h => by
    show d ∉ p ++ c :: joinC c (q :: l)
    rw [List.mem_append, List.mem_cons]
    rintro (h1 | h1 | h1)
    · exact h p (List.mem_cons_self ..) h1
    · exact hd h1
    · exact joinC_no c d hd (q :: l) (fun x hx => h x (List.mem_cons_of_mem _ hx)) h1

theorem readA_addr (a : Nat) (ha : a < 4294967296) : readA ⟨((textK a 4).drop 1).toArray⟩ = some a := by
  have h1 : readParts ⟨((textK a 4).drop 1).toArray⟩ = (quad a).map fun p => ⟨p.toArray⟩ := by
    rw [addr_joined]
    exact splitB_join 46 (quad a) (by unfold quad; simp) (quad_no a 46 (.inl rfl))
  unfold readA
  rw [h1, if_pos (by unfold quad; rfl)]
  unfold quad
  simp only [List.map_cons, List.map_nil]
  have key : ∀ x : Nat, x < 256 → numV (Lib.itoa (x : Int)) 255 = some (x : Int) := fun x hx => (itoa_byte ⟨x, hx⟩).1
  rw [partsV_some (v := ((a / 16777216 % 256 : Nat) : Int)) (key _ (Nat.mod_lt _ (by omega))),
    partsV_some (v := ((a / 65536 % 256 : Nat) : Int)) (key _ (Nat.mod_lt _ (by omega))),
    partsV_some (v := ((a / 256 % 256 : Nat) : Int)) (key _ (Nat.mod_lt _ (by omega))),
    partsV_some (v := ((a % 256 : Nat) : Int)) (key _ (Nat.mod_lt _ (by omega)))]
  show some _ = some _
  congr 1
  simp only [Int.toNat_natCast]
  omega
theorem addrT_no (a : Int) (c : UInt8) (hc : c = 47 ∨ c = 32) : c ∉ addrT a := by
  unfold addrT
  split
  · rw [addr_joined]
    exact joinC_no 46 c (by rcases hc with rfl | rfl <;> decide) _ (quad_no _ c (.inr hc))
  · simp
theorem readA_addrT (a : Int) (ha : 0 ≤ a ∧ a < 4294967296) : readA ⟨(addrT a).toArray⟩ = some a.toNat := by
  unfold addrT
  rw [if_pos ha]
  exact readA_addr _ (by omega)
/-- A right prefix's text is read as that prefix. -/
theorem readP_text (a n : Int) (h : chk a n = 0) : readP ⟨(prefT a n).toArray⟩ = (0, a, n) := by
  obtain ⟨h1, h2, _⟩ := chk_zero h
  have hc : Lib.cut (⟨(prefT a n).toArray⟩ : ByteArray).data.toList [47] = (addrT a, Lib.itoa n, true) := by
    show Lib.cut (prefT a n) [47] = _
    unfold prefT
    rw [if_pos h]
    exact cut_at 47 _ _ (addrT_no a 47 (.inl rfl))
  have h3 := itoa_len32 ⟨n.toNat, by omega⟩
  have e : ((n.toNat : Nat) : Int) = n := by omega
  rw [readP_ok _ a.toNat n (by rw [hc]) (by rw [hc]; exact readA_addrT a h1) (by rw [hc]; simpa [e] using h3)]
  rw [show ((a.toNat : Nat) : Int) = a by omega, if_pos h]
theorem prefT_len (a n : Int) (h : chk a n = 0) : (prefT a n).length ≤ 20 := by
  obtain ⟨_, h2, _⟩ := chk_zero h
  unfold prefT
  rw [if_pos h, List.length_append, List.length_cons]
  have h3 := addrT_len a
  have h4 := itoa_len n.toNat (by omega)
  rw [show ((n.toNat : Nat) : Int) = n by omega] at h4
  omega
end Go.Proofs.YtjgecmkfgeajiaaGreatDoor

/- Package ip: what is held against what. No condition but those that stand in each theorem. -/
import Derived.Test.YtlealjcllbpgkaaIp1
import Derived.Deep.RegionHeld3
import Derived.Test.YtlealjcllbpgkaaRg
import Derived.Deep.Cut
namespace Go.Proofs.Ytlealjcllbpgkaa
open Go.RowKit

/-- cmp.Compare of two ints. -/
def sgn (a b : Int) : Int := if a < b then -1 else if b < a then 1 else 0

set_option maxHeartbeats 400000 in
theorem isnan_any (a : Int) (w : World) : Calls Try.prog 32 #[.int .i64 a] w fun e w1 => e = .returned (.bool false) ∧ w = w1 := by
  have h : (a != a) = false := by simp
  go_enter Try.func32, Try.ntmps32
  go_wp2
  go_ret
  exact ⟨rfl, rfl⟩

set_option maxHeartbeats 400000 in
theorem compare_any (a b : Int) (w : World) : Calls Try.prog 24 #[.int .i64 a, .int .i64 b] w fun e w1 => e = .returned (.int .i64 (sgn a b)) ∧ w = w1 := by
  by_cases h1 : a < b
  · have e : sgn a b = -1 := by unfold sgn; rw [if_pos h1]
    have He := hide e
    clear e
    go_enter Try.func24, Try.ntmps24
    go_wp2_with (go_at_call 32; refine (isnan_any _ _).mono ?_; rintro e w' ⟨rfl, rfl⟩)
    go_ret
    exact ⟨by rw [He.out]; rfl, rfl⟩
  · by_cases h2 : b < a
    · have e : sgn a b = 1 := by unfold sgn; rw [if_neg h1, if_pos h2]
      have He := hide e
      clear e
      go_enter Try.func24, Try.ntmps24
      go_wp2_with (go_at_call 32; refine (isnan_any _ _).mono ?_; rintro e w' ⟨rfl, rfl⟩)
      go_ret
      exact ⟨by rw [He.out]; rfl, rfl⟩
    · have e : sgn a b = 0 := by unfold sgn; rw [if_neg h1, if_neg h2]
      have He := hide e
      clear e
      go_enter Try.func24, Try.ntmps24
      go_wp2_with (go_at_call 32; refine (isnan_any _ _).mono ?_; rintro e w' ⟨rfl, rfl⟩)
      go_ret
      exact ⟨by rw [He.out]; rfl, rfl⟩

/-- The first that is not 0. -/
def firstNZ : List Int → Int
  | [] => 0
  | x :: l => if x = 0 then firstNZ l else x

theorem firstNZ_skip : ∀ (l : List Int) (k : Nat), (∀ j x, j < k → l[j]? = some x → x = 0) → firstNZ l = firstNZ (l.drop k) := by
  intro l k
  induction k generalizing l with
  | zero => intro _; rfl
  | succ k ih =>
    intro h
    cases l with
    | nil => rfl
    | cons x l =>
      have hx : x = 0 := h 0 x (by omega) rfl
      rw [firstNZ, if_pos hx, List.drop_succ_cons]
      exact ih l fun j y hj hy => h (j + 1) y (by omega) (by simpa using hy)

set_option maxHeartbeats 400000 in
theorem or_any (b o c : Nat) (zs : List Int) (w : World) (hc : ∀ i x, zs[i]? = some x → w.cell? ⟨b, o + i, none⟩ = some (.int .i64 x)) (hl : zs.length ≤ 1000) :
    Calls Try.prog 33 #[.slice (some ⟨b, o, none⟩) zs.length c] w fun e w1 => e = .returned (.int .i64 (firstNZ zs)) ∧ w = w1 := by
  have Hc := hide hc
  generalize hlen : zs.length = len at *
  have Hlen := hide hlen
  clear hc hlen
  go_enter Try.func33, Try.ntmps33
  go_wp2_with fail
  go_loop [8] (fun i => ∃ k : Nat, k ≤ len ∧ i = .int .i64 k ∧ ∀ j x, j < k → zs[j]? = some x → x = 0) (fun i => len - (intOf i).toNat)
  case atStart => exact ⟨0, by omega, rfl, fun j x h => absurd h (by omega)⟩
  case round =>
    obtain ⟨k, hk, rfl, hz⟩ := hrel
    have Hz := hide hz
    clear hz
    by_cases hlt : k < len
    · obtain ⟨x, hx⟩ : ∃ x, zs[k]? = some x := ⟨_, List.getElem?_eq_getElem (by have := Hlen.out; omega)⟩
      have hcell := Hc.out k x hx
      have Hx := hide hx
      clear hx
      have i1 : (k : Int) < (len : Int) := by omega
      by_cases hx0 : x = 0
      · have hb : (x != 0) = false := by simpa using hx0
        have Hx0 := hide hx0
        clear hx0
        go_wp2_with fail
        exact ⟨⟨k + 1, by omega, by go_num, fun j y hj hy => by
          by_cases hjk : j < k
          · exact Hz.out j y hjk hy
          · have : j = k := by omega
            subst this
            rw [Hx.out] at hy; injection hy with hy; subst hy; exact Hx0.out⟩, by simp [intOf]; omega⟩
      · have hb : (x != 0) = true := by simpa using hx0
        have Hx0 := hide hx0
        clear hx0
        go_wp2_with fail
        go_ret
        refine ⟨?_, rfl⟩
        rw [firstNZ_skip zs k Hz.out]
        have hd : zs.drop k = x :: zs.drop (k + 1) := by
          have hkl : k < zs.length := (List.getElem?_eq_some_iff.1 Hx.out).1
          rw [List.drop_eq_getElem_cons hkl]
          have := Hx.out
          rw [List.getElem?_eq_getElem hkl] at this
          injection this with this
          rw [this]
        rw [hd, firstNZ, if_neg Hx0.out]
        rfl
    · have hkl : k = len := by omega
      have Hkl := hide hkl
      clear hkl
      go_wp2_with fail
      go_ret
      refine ⟨?_, rfl⟩
      rw [firstNZ_skip zs k Hz.out, List.drop_eq_nil_of_le (by have := Hlen.out; have := Hkl.out; omega)]
      rfl

theorem or2_cells (W : World) (t : TypeId) (x y : Int) : ∀ (i : Nat) (z : Int), [x, y][i]? = some z → (W.alloc (.cells #[.int .i64 x, .int .i64 y] t)).cell? ⟨W.heap.size, 0 + i, none⟩ = some (.int .i64 z) := by
  intro i z hz
  have h := (Blk.new W t #[.int .i64 x, .int .i64 y]).cell i
  rw [Nat.zero_add, h]
  match i, hz with
  | 0, hz => simp at hz; simp [hz]
  | 1, hz => simp at hz; simp [hz]
  | k + 2, hz => simp at hz

/-- By address, then by length. -/
def cmpP (a n b m : Int) : Int := firstNZ [sgn a b, sgn n m]

set_option maxHeartbeats 1000000 in
theorem compareP_any (a n b m : Int) (w : World) :
    Calls Try.prog 26 #[.agg #[.int .i64 a, .int .i64 n], .agg #[.int .i64 b, .int .i64 m]] w fun e w1 => e = .returned (.int .i64 (cmpP a n b m)) ∧ New w w1 := by
  have b0 := (Blk.new w 26 #[.int .i64 a, .int .i64 n]).alloc (.cells #[.int .i64 b, .int .i64 m] 26)
  have b1 := Blk.at_ (w.alloc (.cells #[.int .i64 a, .int .i64 n] 26)) 26 #[.int .i64 b, .int .i64 m] (w.heap.size + 1) (by simp)
  have u := ((Upd.refl (fun _ => False) w).alloc (.cells #[.int .i64 a, .int .i64 n] 26)).alloc (.cells #[.int .i64 b, .int .i64 m] 26)
  have Hb0 := hide b0
  have Hb1 := hide b1
  have Hu := hide u
  clear b0 b1 u
  go_enter Try.func26, Try.ntmps26
  go_wp2_with fail
  generalize ((w.alloc (.cells #[.int .i64 a, .int .i64 n] 26)).alloc (.cells #[.int .i64 b, .int .i64 m] 26)) = W at *
  have c00 := Hb0.out.cell 0
  have c01 := Hb0.out.cell 1
  have c10 := Hb1.out.cell 0
  have c11 := Hb1.out.cell 1
  have z0 := Hb0.out.lt
  have z1 := Hb1.out.lt
  simp only [List.getElem?_toArray, List.getElem?_cons_zero, List.getElem?_cons_succ] at c00 c01 c10 c11
  go_region_held3 (fun w' => w'.cell? ⟨w.heap.size, 0, none⟩ = some (.int .i64 a) ∧ w'.cell? ⟨w.heap.size, 1, none⟩ = some (.int .i64 n) ∧ w'.cell? ⟨w.heap.size + 1, 0, none⟩ = some (.int .i64 b) ∧ w'.cell? ⟨w.heap.size + 1, 1, none⟩ = some (.int .i64 m))
    (first | go_keep | skip)
    (first
      | (go_at_call 24; refine (compare_any _ _ _).mono ?_; rintro e w' ⟨rfl, rfl⟩)
      | (go_at_call 33; refine (or_any _ 0 _ [sgn a b, sgn n m] _ (by exact or2_cells _ _ _ _) (by simp)).mono ?_; rintro e w' ⟨rfl, rfl⟩))
  go_wp2_with fail
  go_ret
  exact ⟨rfl, (Hu.out.alloc _).drew⟩

/-- Is one right range ahead of another one? -/
def lessB (a n b m : Int) : Bool := decide (chk a n = 0 ∧ chk b m = 0 ∧ cmpP a n b m < 0)

end Go.Proofs.Ytlealjcllbpgkaa

namespace Go.Proofs.Ytlealjcllbpgkaa
open Go.RowKit

/-- Has a right range an address? -/
def hasB (a n x : Int) : Bool := decide (chk a n = 0 ∧ (0 ≤ x ∧ x < 4294967296) ∧ x - (low x.toNat n.toNat : Int) = a)
/-- Is one in another one? -/
def inB (b m a n : Int) : Bool := decide (chk b m = 0 ∧ hasB a n b = true ∧ n ≤ m)

theorem blk2 {w : World} {g : Nat} {t : TypeId} {x y : Value} (h : Blk w g t #[x, y]) : w.cell? ⟨g, 0, none⟩ = some x ∧ w.cell? ⟨g, 1, none⟩ = some y :=
  ⟨h.cell 0, h.cell 1⟩
theorem low_le (a n : Nat) : low a n ≤ a := Nat.mod_le _ _

end Go.Proofs.Ytlealjcllbpgkaa

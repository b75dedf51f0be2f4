/- Package ip: what is held against what. No condition but those that stand in each theorem. -/
import Derived.Test.YtimhbgpnkodlaaaGreatDoorIp1
import Derived.Deep.RegionHeld3
import Derived.Test.YtimhbgpnkodlaaaGreatDoorRg
import Derived.Deep.Cut
namespace Go.Proofs.YtimhbgpnkodlaaaGreatDoor
open Go.RowKit

/-- cmp.Compare of two ints. -/
def sgn (a b : Int) : Int := if a < b then -1 else if b < a then 1 else 0

set_option maxHeartbeats 400000 in
theorem isnan_any (a : Int) (w : World) : Calls Tryz.prog 82 #[.int .i64 a] w fun e w1 => e = .returned (.bool false) ∧ w = w1 := by
  have h : (a != a) = false := by simp
  go_enter Tryz.func82, Tryz.ntmps82
  go_wp2
  go_ret
  exact ⟨rfl, rfl⟩

set_option maxHeartbeats 400000 in
theorem compare_any (a b : Int) (w : World) : Calls Tryz.prog 55 #[.int .i64 a, .int .i64 b] w fun e w1 => e = .returned (.int .i64 (sgn a b)) ∧ w = w1 := by
  by_cases h1 : a < b
  · have e : sgn a b = -1 := by unfold sgn; rw [if_pos h1]
    have He := hide e
    clear e
    go_enter Tryz.func55, Tryz.ntmps55
    go_wp2_with (go_at_call 82; refine (isnan_any _ _).mono ?_; rintro e w' ⟨rfl, rfl⟩)
    go_ret
    exact ⟨by rw [He.out]; rfl, rfl⟩
  · by_cases h2 : b < a
    · have e : sgn a b = 1 := by unfold sgn; rw [if_neg h1, if_pos h2]
      have He := hide e
      clear e
      go_enter Tryz.func55, Tryz.ntmps55
      go_wp2_with (go_at_call 82; refine (isnan_any _ _).mono ?_; rintro e w' ⟨rfl, rfl⟩)
      go_ret
      exact ⟨by rw [He.out]; rfl, rfl⟩
    · have e : sgn a b = 0 := by unfold sgn; rw [if_neg h1, if_neg h2]
      have He := hide e
      clear e
      go_enter Tryz.func55, Tryz.ntmps55
      go_wp2_with (go_at_call 82; refine (isnan_any _ _).mono ?_; rintro e w' ⟨rfl, rfl⟩)
      go_ret
      exact ⟨by rw [He.out]; rfl, rfl⟩

/-- The first that is not 0. -/
def firstNZ : List Int → Int
  | [] => 0
  | x :: l => if x = 0 then firstNZ l else x

theorem firstNZ_skip : ∀ (l : List Int) (k : Nat), (∀ j x, j < k → l[j]? = some x → x = 0) → firstNZ l = firstNZ (l.drop k) := by
  intro l k
  induction k generalizing l with
  | zero => intro _; rfl
  | succ k ih =>
    intro h
    cases l with
    | nil => rfl
    | cons x l =>
      have hx : x = 0 := h 0 x (by omega) rfl
      rw [firstNZ, if_pos hx, List.drop_succ_cons]
      exact ih l fun j y hj hy => h (j + 1) y (by omega) (by simpa using hy)

set_option maxHeartbeats 400000 in
theorem or_any (b o c : Nat) (zs : List Int) (w : World) (hc : ∀ i x, zs[i]? = some x → w.cell? ⟨b, o + i, none⟩ = some (.int .i64 x)) (hl : zs.length ≤ 1000) :
    Calls Tryz.prog 54 #[.slice (some ⟨b, o, none⟩) zs.length c] w fun e w1 => e = .returned (.int .i64 (firstNZ zs)) ∧ w = w1 := by
  have Hc := hide hc
  generalize hlen : zs.length = len at *
  have Hlen := hide hlen
  clear hc hlen
  go_enter Tryz.func54, Tryz.ntmps54
  go_wp2_with fail
  go_loop [8] (fun i => ∃ k : Nat, k ≤ len ∧ i = .int .i64 k ∧ ∀ j x, j < k → zs[j]? = some x → x = 0) (fun i => len - (intOf i).toNat)
  case atStart => exact ⟨0, by omega, rfl, fun j x h => absurd h (by omega)⟩
  case round =>
    obtain ⟨k, hk, rfl, hz⟩ := hrel
    have Hz := hide hz
    clear hz
    by_cases hlt : k < len
    · obtain ⟨x, hx⟩ : ∃ x, zs[k]? = some x := ⟨_, List.getElem?_eq_getElem (by have := Hlen.out; omega)⟩
      have hcell := Hc.out k x hx
      have Hx := hide hx
      clear hx
      have i1 : (k : Int) < (len : Int) := by omega
      by_cases hx0 : x = 0
      · have hb : (x != 0) = false := by simpa using hx0
        have Hx0 := hide hx0
        clear hx0
        go_wp2_with fail
        exact ⟨⟨k + 1, by omega, by go_num, fun j y hj hy => by
          by_cases hjk : j < k
          · exact Hz.out j y hjk hy
          · have : j = k := by omega
            subst this
            rw [Hx.out] at hy; injection hy with hy; subst hy; exact Hx0.out⟩, by simp [intOf]; omega⟩
      · have hb : (x != 0) = true := by simpa using hx0
        have Hx0 := hide hx0
        clear hx0
        go_wp2_with fail
        go_ret
        refine ⟨?_, rfl⟩
        rw [firstNZ_skip zs k Hz.out]
        have hd : zs.drop k = x :: zs.drop (k + 1) := by
          have hkl : k < zs.length := (List.getElem?_eq_some_iff.1 Hx.out).1
          rw [List.drop_eq_getElem_cons hkl]
          have := Hx.out
          rw [List.getElem?_eq_getElem hkl] at this
          injection this with this
          rw [this]
        rw [hd, firstNZ, if_neg Hx0.out]
        rfl
    · have hkl : k = len := by omega
      have Hkl := hide hkl
      clear hkl
      go_wp2_with fail
      go_ret
      refine ⟨?_, rfl⟩
      rw [firstNZ_skip zs k Hz.out, List.drop_eq_nil_of_le (by have := Hlen.out; have := Hkl.out; omega)]
      rfl

theorem or2_cells (W : World) (t : TypeId) (x y : Int) : ∀ (i : Nat) (z : Int), [x, y][i]? = some z → (W.alloc (.cells #[.int .i64 x, .int .i64 y] t)).cell? ⟨W.heap.size, 0 + i, none⟩ = some (.int .i64 z) := by
  intro i z hz
  have h := (Blk.new W t #[.int .i64 x, .int .i64 y]).cell i
  rw [Nat.zero_add, h]
  match i, hz with
  | 0, hz => simp at hz; simp [hz]
  | 1, hz => simp at hz; simp [hz]
  | k + 2, hz => simp at hz

/-- By address, then by length. -/
def cmpP (a n b m : Int) : Int := firstNZ [sgn a b, sgn n m]

set_option maxHeartbeats 1000000 in
theorem compareP_any (a n b m : Int) (w : World) :
    Calls Tryz.prog 41 #[.agg #[.int .i64 a, .int .i64 n], .agg #[.int .i64 b, .int .i64 m]] w fun e w1 => e = .returned (.int .i64 (cmpP a n b m)) ∧ New w w1 := by
  have b0 := (Blk.new w 23 #[.int .i64 a, .int .i64 n]).alloc (.cells #[.int .i64 b, .int .i64 m] 23)
  have b1 := Blk.at_ (w.alloc (.cells #[.int .i64 a, .int .i64 n] 23)) 23 #[.int .i64 b, .int .i64 m] (w.heap.size + 1) (by simp)
  have u := ((Upd.refl (fun _ => False) w).alloc (.cells #[.int .i64 a, .int .i64 n] 23)).alloc (.cells #[.int .i64 b, .int .i64 m] 23)
  have Hb0 := hide b0
  have Hb1 := hide b1
  have Hu := hide u
  clear b0 b1 u
  go_enter Tryz.func41, Tryz.ntmps41
  go_wp2_with fail
  generalize ((w.alloc (.cells #[.int .i64 a, .int .i64 n] 23)).alloc (.cells #[.int .i64 b, .int .i64 m] 23)) = W at *
  have c00 := Hb0.out.cell 0
  have c01 := Hb0.out.cell 1
  have c10 := Hb1.out.cell 0
  have c11 := Hb1.out.cell 1
  have z0 := Hb0.out.lt
  have z1 := Hb1.out.lt
  simp only [List.getElem?_toArray, List.getElem?_cons_zero, List.getElem?_cons_succ] at c00 c01 c10 c11
  go_region_held3 (fun w' => w'.cell? ⟨w.heap.size, 0, none⟩ = some (.int .i64 a) ∧ w'.cell? ⟨w.heap.size, 1, none⟩ = some (.int .i64 n) ∧ w'.cell? ⟨w.heap.size + 1, 0, none⟩ = some (.int .i64 b) ∧ w'.cell? ⟨w.heap.size + 1, 1, none⟩ = some (.int .i64 m))
    (first | go_keep | skip)
    (first
      | (go_at_call 55; refine (compare_any _ _ _).mono ?_; rintro e w' ⟨rfl, rfl⟩)
      | (go_at_call 54; refine (or_any _ 0 _ [sgn a b, sgn n m] _ (by exact or2_cells _ _ _ _) (by simp)).mono ?_; rintro e w' ⟨rfl, rfl⟩))
  go_wp2_with fail
  go_ret
  exact ⟨rfl, (Hu.out.alloc _).drew⟩

/-- Is one right range ahead of another one? -/
def lessB (a n b m : Int) : Bool := decide (chk a n = 0 ∧ chk b m = 0 ∧ cmpP a n b m < 0)

theorem errc_nil (E : Nat → Addr) : errc E 0 = .nilIface := rfl
theorem errc_err (E : Nat → Addr) {c : Nat} (h : c ≠ 0) : errc E c = .iface 142 (.pointer (some (E c))) := by unfold errc; rw [if_neg h]; rfl

end Go.Proofs.YtimhbgpnkodlaaaGreatDoor

namespace Go.Proofs.YtimhbgpnkodlaaaGreatDoor
open Go.RowKit

/-- Has a right range an address? -/
def hasB (a n x : Int) : Bool := decide (chk a n = 0 ∧ (0 ≤ x ∧ x < 4294967296) ∧ x - (low x.toNat n.toNat : Int) = a)
/-- Is one in another one? -/
def inB (b m a n : Int) : Bool := decide (chk b m = 0 ∧ hasB a n b = true ∧ n ≤ m)

theorem blk2 {w : World} {g : Nat} {t : TypeId} {x y : Value} (h : Blk w g t #[x, y]) : w.cell? ⟨g, 0, none⟩ = some x ∧ w.cell? ⟨g, 1, none⟩ = some y :=
  ⟨h.cell 0, h.cell 1⟩
theorem Sen.drew {w : World} {g : Nat} {p : Addr} (h : Sen w g p) : Sen w.drew g p := h
theorem check_no2 (a n : Int) (E : Nat → Addr) (w : World) (h2 : Sen w gBound (E 2)) (h3 : Sen w gShape (E 3)) (h : chk a n ≠ 0) :
    Calls Tryz.prog 25 #[.agg #[.int .i64 a, .int .i64 n]] w fun e w1 => e = .returned (.iface 142 (.pointer (some (E (chk a n))))) ∧ New w w1 :=
  check_no a n E w h2 h3 h
theorem low_le (a n : Nat) : low a n ≤ a := Nat.mod_le _ _

set_option maxHeartbeats 1000000 in
theorem size_any (a n : Int) (E : Nat → Addr) (w : World) (h2 : Sen w gBound (E 2)) (h3 : Sen w gShape (E 3)) :
    Calls Tryz.prog 50 #[.agg #[.int .i64 a, .int .i64 n]] w fun e w1 => e = .returned (.int .i64 (if chk a n = 0 then ((2 ^ (32 - n.toNat) : Nat) : Int) else 0)) ∧ New w w1 := by
  have b0 := Blk.new w 23 #[.int .i64 a, .int .i64 n]
  have u := (Upd.refl (fun _ => False) w).alloc (.cells #[.int .i64 a, .int .i64 n] 23)
  have Hb0 := hide b0
  have Hu := hide u
  have H2 := hide (h2.new u)
  have H3 := hide (h3.new u)
  clear b0 u h2 h3
  by_cases k1 : chk a n = 0
  · rw [if_pos k1]
    have hn := (chk_zero k1).2.1
    have hw : wrap64 (2 ^ (32 - n).toNat) = ((2 ^ (32 - n.toNat) : Nat) : Int) := by
      rw [show (32 - n).toNat = 32 - n.toNat by omega]
      exact w64_pow _ (by omega)
    have Hw := hide hw
    obtain ⟨n0, n1⟩ := hn
    have Hc := hide (check_yes a n E _ H2.out H3.out k1)
    clear k1 hw
    go_enter Tryz.func50, Tryz.ntmps50
    go_wp2_with fail
    refine Hc.out.mono ?_
    rintro e w1 ⟨rfl, hu1⟩
    have b1 := Hb0.out.new_ hu1
    have c00 := b1.cell 0
    have c01 := b1.cell 1
    have z1 := b1.lt
    simp only [List.getElem?_toArray, List.getElem?_cons_zero, List.getElem?_cons_succ] at c00 c01
    clear b1
    go_wp2_with fail
    go_ret
    refine ⟨?_, Hu.out.trans_new hu1⟩
    rw [← Hw.out]
    rfl
  · rw [if_neg k1]
    have Hc := hide (check_no a n E _ H2.out H3.out k1)
    clear k1
    go_enter Tryz.func50, Tryz.ntmps50
    go_wp2_with fail
    refine Hc.out.mono ?_
    unfold errv
    rintro e w1 ⟨rfl, hu1⟩
    go_wp2_with fail
    go_ret
    exact ⟨rfl, Hu.out.trans_new hu1⟩
end Go.Proofs.YtimhbgpnkodlaaaGreatDoor

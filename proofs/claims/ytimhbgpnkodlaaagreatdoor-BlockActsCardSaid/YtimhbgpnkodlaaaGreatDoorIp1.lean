/- The leaves of package ip: what each call answers. No condition but those that stand in each theorem. -/
import Derived.Test.YtimhbgpnkodlaaaGreatDoorProg
import Derived.Test.YtimhbgpnkodlaaaGreatDoorHp
import Derived.Deep.QuietTactic
import Derived.BigQuiet
import Derived.WalkLawsBesides
import Derived.WalkSpells
namespace Go.Proofs.YtimhbgpnkodlaaaGreatDoor
open Go.RowKit

set_option maxHeartbeats 400000 in
theorem address_any (a : Int) (w : World) :
    Calls Tryz.prog 43 #[.int .i64 a] w fun e w1 => e = .returned (.bool (decide (0 ≤ a ∧ a < 4294967296))) ∧ w = w1 := by
  go_enter Tryz.func43, Tryz.ntmps43
  go_wp2
  all_goals go_ret
  · rename_i h
    exact ⟨by simp [h], rfl⟩
  · rename_i h
    exact ⟨by simp; omega, rfl⟩

theorem address_yes (a : Int) (ha : 0 ≤ a ∧ a < 4294967296) (w : World) :
    Calls Tryz.prog 43 #[.int .i64 a] w fun e w1 => e = .returned (.bool true) ∧ w = w1 :=
  (address_any a w).mono fun _ _ ⟨he, hw⟩ => ⟨by rw [he, decide_eq_true ha], hw⟩

/-- What lies behind the first n bits. -/
def low (a n : Nat) : Nat := a % 2 ^ (32 - n)

set_option maxHeartbeats 400000 in
theorem behind_nat (a n : Nat) (ha : a < 4294967296) (hn : n ≤ 32) (w : World) :
    Calls Tryz.prog 44 #[.int .i64 a, .int .i64 n] w fun e w1 => e = .returned (.int .i64 (low a n : Int)) ∧ w = w1 := by
  go_enter Tryz.func44, Tryz.ntmps44
  go_wp2
  go_ret
  exact ⟨by simp [mask_i64 a (32 - n) (by omega) ha, low], rfl⟩
theorem behind_any (a n : Int) (ha : 0 ≤ a ∧ a < 4294967296) (hn : 0 ≤ n ∧ n ≤ 32) (w : World) :
    Calls Tryz.prog 44 #[.int .i64 a, .int .i64 n] w fun e w1 => e = .returned (.int .i64 (low a.toNat n.toNat : Int)) ∧ w = w1 := by
  obtain ⟨a, rfl⟩ := Int.eq_ofNat_of_zero_le ha.1
  obtain ⟨n, rfl⟩ := Int.eq_ofNat_of_zero_le hn.1
  exact behind_nat a n (by omega) (by omega) w

/-- The number of an error, by its name: its variable holds it. -/
def errv (p : Addr) : Value := .iface 142 (.pointer (some p))

/-- 0: right; 2: bound; 3: shape. -/
def chk (a n : Int) : Nat := if 0 ≤ a ∧ a < 4294967296 ∧ 0 ≤ n ∧ n ≤ 32 then (if low a.toNat n.toNat = 0 then 0 else 3) else 2

/-- The value of an error of package api, by its number. -/
def errc (E : Nat → Addr) (c : Nat) : Value := if c = 0 then .nilIface else errv (E c)

/-- What a variable of package api holds. -/
def Sen (w : World) (g : Nat) (p : Addr) : Prop := w.cell? ⟨g, 0, none⟩ = some (errv p)
abbrev TES : TypeId := 142
abbrev TFP : TypeId := 70
abbrev TF : TypeId := 74
abbrev gBound : Nat := 0
abbrev gShape : Nat := 3

theorem Sen.lt {w : World} {g : Nat} {p : Addr} (h : Sen w g p) : g < w.heap.size := World.block_lt_of_cell? w ⟨g, 0, none⟩ h
theorem Sen.upd {S : Nat → Prop} {w w1 : World} {g : Nat} {p : Addr} (h : Sen w g p) (hu : Upd S w w1) (hn : ¬ S g) : Sen w1 g p := (hu.cell h.lt hn).trans h
theorem Sen.new {w w1 : World} {g : Nat} {p : Addr} (h : Sen w g p) (hu : New w w1) : Sen w1 g p := h.upd hu fun x => x
theorem chk_bound {a n : Int} (h : ¬ (0 ≤ a ∧ a < 4294967296 ∧ 0 ≤ n ∧ n ≤ 32)) : chk a n = 2 := by unfold chk; rw [if_neg h]
theorem chk_right {a n : Int} (ha : 0 ≤ a ∧ a < 4294967296) (hn : 0 ≤ n ∧ n ≤ 32) : chk a n = if low a.toNat n.toNat = 0 then 0 else 3 := by
  unfold chk
  rw [if_pos ⟨ha.1, ha.2, hn.1, hn.2⟩]

set_option maxHeartbeats 1000000 in
theorem check_any (a n : Int) (E : Nat → Addr) (w : World) (h2 : Sen w gBound (E 2)) (h3 : Sen w gShape (E 3)) :
    Calls Tryz.prog 25 #[.agg #[.int .i64 a, .int .i64 n]] w fun e w1 => e = .returned (errc E (chk a n)) ∧ New w w1 := by
  have z2 : 0 < w.heap.size := h2.lt
  have z3 : 3 < w.heap.size := h3.lt
  have c2 : w.cell? ⟨0, 0, none⟩ = some (errv (E 2)) := h2
  have c3 : w.cell? ⟨3, 0, none⟩ = some (errv (E 3)) := h3
  clear h2 h3
  by_cases h : 0 ≤ a ∧ a < 4294967296 ∧ 0 ≤ n ∧ n ≤ 32
  · obtain ⟨ha0, ha1, hn0, hn1⟩ := h
    have H := hide (chk_right ⟨ha0, ha1⟩ ⟨hn0, hn1⟩)
    have Ha := hide (And.intro ha0 ha1)
    clear ha0 ha1
    go_enter Tryz.func25, Tryz.ntmps25
    go_wp2_with (first
      | (go_at_call 43; refine (address_yes _ Ha.out _).mono ?_; rintro e w' ⟨rfl, rfl⟩)
      | (go_at_call 44; refine (behind_any _ _ Ha.out ⟨hn0, hn1⟩ _).mono ?_; rintro e w' ⟨rfl, rfl⟩))
    all_goals go_ret
    · rename_i h
      exact ⟨by rw [H.out, if_neg (by simpa using h)]; rfl, (Upd.refl _ _).alloc _⟩
    · rename_i h
      exact ⟨by rw [H.out, if_pos (by simpa using h)]; rfl, (Upd.refl _ _).alloc _⟩
  · have H := hide (chk_bound h)
    have h' : ¬ (0 ≤ a ∧ a < 4294967296) ∨ n < 0 ∨ 32 < n := by omega
    clear h
    go_enter Tryz.func25, Tryz.ntmps25
    go_wp2_with (first
      | (go_at_call 43; refine (address_any _ _).mono ?_; rintro e w' ⟨rfl, rfl⟩)
      | fail)
    all_goals go_ret
    all_goals exact ⟨by rw [H.out]; rfl, (Upd.refl _ _).alloc _⟩

theorem check_yes (a n : Int) (E : Nat → Addr) (w : World) (h2 : Sen w gBound (E 2)) (h3 : Sen w gShape (E 3)) (h : chk a n = 0) :
    Calls Tryz.prog 25 #[.agg #[.int .i64 a, .int .i64 n]] w fun e w1 => e = .returned .nilIface ∧ New w w1 :=
  (check_any a n E w h2 h3).mono fun _ _ ⟨he, hw⟩ => ⟨by rw [he, h]; rfl, hw⟩
theorem check_no (a n : Int) (E : Nat → Addr) (w : World) (h2 : Sen w gBound (E 2)) (h3 : Sen w gShape (E 3)) (h : chk a n ≠ 0) :
    Calls Tryz.prog 25 #[.agg #[.int .i64 a, .int .i64 n]] w fun e w1 => e = .returned (errv (E (chk a n))) ∧ New w w1 :=
  (check_any a n E w h2 h3).mono fun _ _ ⟨he, hw⟩ => ⟨by rw [he, errc, if_neg h], hw⟩

theorem chk_zero {a n : Int} (h : chk a n = 0) : (0 ≤ a ∧ a < 4294967296) ∧ (0 ≤ n ∧ n ≤ 32) ∧ low a.toNat n.toNat = 0 := by
  unfold chk at h
  split at h
  · rename_i hh
    split at h
    · rename_i h0; exact ⟨⟨hh.1, hh.2.1⟩, ⟨hh.2.2.1, hh.2.2.2⟩, h0⟩
    · omega
  · omega

/-- A prefix. -/
def pfx (a n : Int) : Value := .agg #[.int .i64 a, .int .i64 n]

end Go.Proofs.YtimhbgpnkodlaaaGreatDoor

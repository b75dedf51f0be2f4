/- Sessions, plainly: what every call keeps. No program in sight. No condition but those that stand in each theorem. -/
import Derived.Test.YtkljanjapcpbdaaDoorLv5
import Derived.Test.YtkljanjapcpbdaaDoorLv6
namespace Go.Proofs.YtkljanjapcpbdaaDoor
open Go.RowKit

def kStart : ByteArray := ⟨#[115, 116, 97, 114, 116]⟩
def kStop : ByteArray := ⟨#[115, 116, 111, 112]⟩
def kTick : ByteArray := ⟨#[116, 105, 99, 107]⟩
/-- An event's kind by its number; 0: a message is heard. -/
def evK (s : ByteArray) : Nat := if strEq s kStart then 1 else if strEq s kStop then 2 else if strEq s kTick then 3 else 0
theorem tSa : kStart.toList = [115, 116, 97, 114, 116] := by kernel_rfl
theorem tSo : kStop.toList = [115, 116, 111, 112] := by kernel_rfl
theorem tTi : kTick.toList = [116, 105, 99, 107] := by kernel_rfl
theorem evK_text (s : ByteArray) : (evK s = 1 ∧ s.toList = [115, 116, 97, 114, 116]) ∨ (evK s = 2 ∧ s.toList = [115, 116, 111, 112]) ∨ (evK s = 3 ∧ s.toList = [116, 105, 99, 107]) ∨
    (evK s = 0 ∧ ¬ s.toList = [115, 116, 97, 114, 116] ∧ ¬ s.toList = [115, 116, 111, 112] ∧ ¬ s.toList = [116, 105, 99, 107]) := by
  have h1 : strEq s kStart = decide (s.toList = [115, 116, 97, 114, 116]) := by unfold strEq; rw [tSa]; by_cases h : s.toList = [115, 116, 97, 114, 116] <;> simp [h]
  have h2 : strEq s kStop = decide (s.toList = [115, 116, 111, 112]) := by unfold strEq; rw [tSo]; by_cases h : s.toList = [115, 116, 111, 112] <;> simp [h]
  have h3 : strEq s kTick = decide (s.toList = [116, 105, 99, 107]) := by unfold strEq; rw [tTi]; by_cases h : s.toList = [116, 105, 99, 107] <;> simp [h]
  unfold evK
  rw [h1, h2, h3]
  by_cases a : s.toList = [115, 116, 97, 114, 116]
  · exact .inl ⟨by simp [a], a⟩
  · by_cases b : s.toList = [115, 116, 111, 112]
    · exact .inr (.inl ⟨by simp [b], b⟩)
    · by_cases c : s.toList = [116, 105, 99, 107]
      · exact .inr (.inr (.inl ⟨by simp [c], c⟩))
      · exact .inr (.inr (.inr ⟨by simp [a, b, c], a, b, c⟩))

/-- What every session keeps. -/
structure LvInv (s : LS) : Prop where
  st : s.st ≤ 2
  t0 : 0 ≤ s.ticks
  t3 : s.ticks ≤ 3
  pr : s.st ≠ 2 → s.peer = 0
/-- What is sent is right. -/
def OutOk (l : List (ByteArray × Int)) : Prop := ∀ p, p ∈ l → checkC (plainMsg p.1 p.2) = (0, -1)

theorem inv_idle (c : Int) : LvInv (idleS c).1 := ⟨by simp [idleS], by simp [idleS], by simp [idleS], fun _ => rfl⟩
theorem out_idle {c : Int} (h : 0 ≤ c ∧ c ≤ 1000) : OutOk (idleS c).2 := by
  intro p hp
  simp only [idleS, List.mem_singleton] at hp
  subst hp
  exact check_note h
theorem out_nil : OutOk [] := fun _ h => by cases h

theorem inv_start {ya : Int} {s : LS} (h : LvInv s) : LvInv (startS ya s).1 := by
  unfold startS
  split
  · rename_i h0; exact ⟨by simp, by simp, by simp, fun _ => h.pr (by omega)⟩
  · exact h
theorem out_start {ya : Int} {s : LS} (hy : 1 ≤ ya ∧ ya ≤ 1000) : OutOk (startS ya s).2 := by
  unfold startS
  split
  · intro p hp; simp only [List.mem_singleton] at hp; subst hp; exact check_open hy
  · exact out_nil
theorem up_start {ya : Int} {s : LS} (h : (startS ya s).1.st = 2) : s.st = 2 := by
  unfold startS at h
  split at h
  · simp at h
  · exact h
theorem inv_stop {s : LS} (h : LvInv s) : LvInv (stopS s).1 := by
  unfold stopS
  split
  · exact h
  · exact inv_idle _
theorem out_stop {s : LS} : OutOk (stopS s).2 := by
  unfold stopS
  split
  · exact out_nil
  · exact out_idle (by omega)
theorem up_stop {s : LS} (h : (stopS s).1.st = 2) : s.st = 2 := by
  unfold stopS at h
  split at h
  · exact h
  · simp [idleS] at h
theorem inv_tick {s : LS} (h : LvInv s) : LvInv (tickS s).1 := by
  unfold tickS
  split
  · exact h
  · split
    · exact inv_idle _
    · rename_i h3; exact ⟨h.st, by have := h.t0; simp only; omega, by simp only; omega, h.pr⟩
theorem out_tick {s : LS} : OutOk (tickS s).2 := by
  unfold tickS
  split
  · exact out_nil
  · split
    · exact out_idle (by omega)
    · simp only
      split
      · intro p hp; simp only [List.mem_singleton] at hp; subst hp; exact check_keep
      · exact out_nil
theorem up_tick {s : LS} (h : (tickS s).1.st = 2) : s.st = 2 := by
  unfold tickS at h
  split at h
  · exact h
  · split at h
    · simp [idleS] at h
    · exact h
theorem inv_hear {ya : Int} {s : LS} {m : MsgR} (h : LvInv s) : LvInv (hearS ya s m).1 := by
  unfold hearS
  split
  · exact h
  · split
    · exact inv_idle _
    · split
      · exact ⟨by simp, by simp, by simp, fun _ => rfl⟩
      · split
        · exact ⟨by simp, by simp, by simp, fun h => absurd rfl h⟩
        · split
          · exact inv_idle _
          · split
            · exact inv_idle _
            · exact ⟨by simp, by simp, by simp, fun h => absurd rfl h⟩
theorem out_hear {ya : Int} {s : LS} {m : MsgR} : OutOk (hearS ya s m).2 := by
  unfold hearS
  split
  · exact out_nil
  · split
    · exact out_idle (by omega)
    · split
      · exact out_nil
      · split
        · exact out_nil
        · split
          · exact out_idle (by omega)
          · split
            · exact out_idle (by omega)
            · intro p hp; simp only [List.mem_singleton] at hp; subst hp; exact check_keep
/-- Up comes by an open of another one alone, and its peer is that one. -/
theorem up_hear {ya : Int} {s : LS} {m : MsgR} (hs : s.st ≤ 2) (h : (hearS ya s m).1.st = 2) (h1 : s.st ≠ 2) : s.st = 1 ∧ kindN m.kind = 1 ∧ m.n ≠ ya ∧ (hearS ya s m).1.peer = m.n := by
  unfold hearS at h ⊢
  by_cases a0 : s.st = 0
  · rw [if_pos a0] at h; exact absurd h h1
  · rw [if_neg a0] at h ⊢
    by_cases a1 : (checkC m).1 ≠ 0
    · rw [if_pos a1] at h; simp [idleS] at h
    · rw [if_neg a1] at h ⊢
      by_cases a2 : kindN m.kind = 4
      · rw [if_pos a2] at h; simp at h
      · rw [if_neg a2] at h ⊢
        rw [if_neg (by simp [h1])] at h ⊢
        by_cases a3 : s.st = 2 ∨ kindN m.kind ≠ 1
        · rw [if_pos a3] at h; simp [idleS] at h
        · rw [if_neg a3] at h ⊢
          by_cases a4 : m.n = ya
          · rw [if_pos a4] at h; simp [idleS] at h
          · rw [if_neg a4]
            exact ⟨by omega, by omega, a4, rfl⟩

/-- Four ticks make every session idle. -/
theorem four_ticks {s : LS} (h : LvInv s) : (tickS (tickS (tickS (tickS s).1).1).1).1.st = 0 := by
  have key : ∀ s : LS, LvInv s → (tickS s).1.st = 0 ∨ ((tickS s).1.ticks = s.ticks + 1 ∧ s.ticks + 1 ≤ 3) := by
    intro s h
    unfold tickS
    split
    · exact .inl ‹_›
    · split
      · exact .inl rfl
      · exact .inr ⟨rfl, by omega⟩
  have zero : ∀ s : LS, s.st = 0 → (tickS s).1.st = 0 := by
    intro s h
    unfold tickS
    rw [if_pos h]; exact h
  have h1 := key s h
  have i1 := inv_tick h
  have h2 := key _ i1
  have i2 := inv_tick i1
  have h3 := key _ i2
  have i3 := inv_tick i2
  have h4 := key _ i3
  have := h.t0
  rcases h1 with h1 | h1
  · exact zero _ (zero _ (zero _ h1))
  · rcases h2 with h2 | h2
    · exact zero _ (zero _ h2)
    · rcases h3 with h3 | h3
      · exact zero _ h3
      · rcases h4 with h4 | h4
        · exact h4
        · omega
theorem stB_idle {s : LS} (h : s.st = 0) : stB s.st = stI := by rw [h]; rfl
theorem stB_up (n : Nat) (h : n ≤ 2) : (n = 2 ∧ (stB n).toList = [117, 112]) ∨ (n ≠ 2 ∧ ¬ (stB n).toList = [117, 112]) := by
  match n, h with
  | 0, _ => exact .inr ⟨by omega, of_decide_eq_false (by kernel_rfl)⟩
  | 1, _ => exact .inr ⟨by omega, of_decide_eq_false (by kernel_rfl)⟩
  | 2, _ => exact .inl ⟨rfl, by kernel_rfl⟩
end Go.Proofs.YtkljanjapcpbdaaDoor

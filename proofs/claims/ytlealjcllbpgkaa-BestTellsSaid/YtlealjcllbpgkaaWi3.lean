/- Package wire: news, Check. No condition but those that stand in each theorem. -/
import Derived.Test.YtlealjcllbpgkaaWi1
import Derived.KernelRfl
namespace Go.Proofs.Ytlealjcllbpgkaa
open Go.RowKit

/-- Is the prefix of a route among the drops? -/
def dropped (m : MsgR) (r : RouteR) : Bool := m.drops.any (samePf (rtPf r))

def dropsC (m : MsgR) : Nat × Int := firstC (riseC (dropF m) (dropM m)) m.drops.length 0
def addsC (m : MsgR) : Nat × Int := firstC (riseC (addF m) (addM m)) m.adds.length 0
/-- What is wrong with news. -/
def newsC (m : MsgR) : Nat × Int :=
  if 60 < m.drops.length ∨ 60 < m.adds.length then (7, -1) else if (dropsC m).1 ≠ 0 then dropsC m else if (addsC m).1 ≠ 0 then addsC m
  else if 0 ≤ idxB (dropped m) m.adds then (6, idxB (dropped m) m.adds) else (0, -1)

/-- Its routes are told shortly. -/
def Short (m : MsgR) : Prop := ∀ (i : Nat) (r : RouteR), m.adds[i]? = some r → r.at_.path.length ≤ 1000 ∧ r.at_.tags.length ≤ 1000

end Go.Proofs.Ytlealjcllbpgkaa

namespace Go.Proofs.Ytlealjcllbpgkaa
open Go.RowKit

def sOpen : ByteArray := ⟨#[111, 112, 101, 110]⟩
def sKeep : ByteArray := ⟨#[107, 101, 101, 112]⟩
def sNews : ByteArray := ⟨#[110, 101, 119, 115]⟩
def sNote : ByteArray := ⟨#[110, 111, 116, 101]⟩

/-- A message's kind by its number; 0: none. -/
def kindN (s : ByteArray) : Nat := if strEq s sOpen then 1 else if strEq s sKeep then 2 else if strEq s sNews then 3 else if strEq s sNote then 4 else 0
theorem strEq_of {s t u : ByteArray} (h : strEq s t = true) : strEq s u = strEq t u := by
  unfold strEq at *
  rw [beq_iff_eq.1 h]
theorem oK : strEq sOpen sKeep = false := by kernel_rfl
theorem oW : strEq sOpen sNews = false := by kernel_rfl
theorem oN : strEq sOpen sNote = false := by kernel_rfl
theorem kW : strEq sKeep sNews = false := by kernel_rfl
theorem kN : strEq sKeep sNote = false := by kernel_rfl
theorem wN : strEq sNews sNote = false := by kernel_rfl
theorem kind_facts (s : ByteArray) : strEq s sOpen = decide (kindN s = 1) ∧ strEq s sKeep = decide (kindN s = 2) ∧ strEq s sNews = decide (kindN s = 3) ∧ strEq s sNote = decide (kindN s = 4) := by
  unfold kindN
  cases h1 : strEq s sOpen with
  | true => simp [strEq_of h1, oK, oW, oN]
  | false =>
    cases h2 : strEq s sKeep with
    | true => simp [strEq_of h2, kW, kN]
    | false =>
      cases h3 : strEq s sNews with
      | true => simp [strEq_of h3, wN]
      | false => cases h4 : strEq s sNote <;> simp
theorem kindN_le (s : ByteArray) : kindN s ≤ 4 := by unfold kindN; split; omega; split; omega; split; omega; split <;> omega

/-- What is wrong with a message. -/
def checkC (m : MsgR) : Nat × Int :=
  if kindN m.kind = 0 then (4, -1)
  else if (kindN m.kind = 1 ∧ (m.n < 1 ∨ 1000 < m.n)) ∨ (kindN m.kind = 4 ∧ (m.n < 0 ∨ 1000 < m.n)) then (2, -1)
  else if (kindN m.kind = 2 ∨ kindN m.kind = 3) ∧ m.n ≠ 0 then (3, -1)
  else if kindN m.kind ≠ 3 ∧ 0 < m.drops.length + m.adds.length then (3, -1)
  else if kindN m.kind = 3 then newsC m else (0, -1)

def fourKinds : List ByteArray := [sOpen, sKeep, sNews, sNote]
theorem four_any (s : ByteArray) : (fourKinds.any fun t => strEq s t) = decide (kindN s ≠ 0) := by
  obtain ⟨h1, h2, h3, h4⟩ := kind_facts s
  have hl := kindN_le s
  simp only [fourKinds, List.any_cons, List.any_nil, h1, h2, h3, h4]
  generalize kindN s = k at *
  match k, hl with
  | 0, _ => rfl
  | 1, _ => rfl
  | 2, _ => rfl
  | 3, _ => rfl
  | 4, _ => rfl

theorem tO : sOpen.toList = [111, 112, 101, 110] := by kernel_rfl
theorem tK : sKeep.toList = [107, 101, 101, 112] := by kernel_rfl
theorem tW : sNews.toList = [110, 101, 119, 115] := by kernel_rfl
theorem tN : sNote.toList = [110, 111, 116, 101] := by kernel_rfl
theorem kind_text {s : ByteArray} : (kindN s = 1 → s.toList = [111, 112, 101, 110]) ∧ (kindN s = 2 → s.toList = [107, 101, 101, 112]) ∧ (kindN s = 3 → s.toList = [110, 101, 119, 115]) ∧ (kindN s = 4 → s.toList = [110, 111, 116, 101]) := by
  obtain ⟨h1, h2, h3, h4⟩ := kind_facts s
  refine ⟨fun h => ?_, fun h => ?_, fun h => ?_, fun h => ?_⟩
  · rw [h] at h1; rw [← tO]; exact beq_iff_eq.1 h1
  · rw [h] at h2; rw [← tK]; exact beq_iff_eq.1 h2
  · rw [h] at h3; rw [← tW]; exact beq_iff_eq.1 h3
  · rw [h] at h4; rw [← tN]; exact beq_iff_eq.1 h4

end Go.Proofs.Ytlealjcllbpgkaa

/- Package attr: Bare; Contains over strings and prefixes. No condition but those that stand in each theorem. -/
import Derived.Test.YtlealjcllbpgkaaWi0
import Derived.Test.YtlealjcllbpgkaaAt2
import Derived.Test.YtlealjcllbpgkaaEq
import Derived.WalkLawsBesides
import Derived.WalkSpells
import Derived.Test.YtlealjcllbpgkaaIp2
import Derived.Test.YtlealjcllbpgkaaPfo
namespace Go.Proofs.Ytlealjcllbpgkaa
open Go.RowKit

/-- The same text. -/
def strEq (s t : ByteArray) : Bool := s.toList == t.toList

/-- The same prefix. -/
def samePf (p q : Pf) : Bool := p.a == q.a && p.n == q.n

end Go.Proofs.Ytlealjcllbpgkaa

namespace Go.Proofs.Ytlealjcllbpgkaa
open Go.RowKit

/-- What is wrong at the i-th: by a check, by their order, by more. -/
def riseC (f : Nat → Pf) (more : Nat → Nat) (i : Nat) : Nat :=
  if chk (f i).a (f i).n ≠ 0 then chk (f i).a (f i).n else if 0 < i ∧ lessB (f (i - 1)).a (f (i - 1)).n (f i).a (f i).n = false then 8 else more i
theorem riseC_chk {f : Nat → Pf} {more : Nat → Nat} {i : Nat} (h : chk (f i).a (f i).n ≠ 0) : riseC f more i = chk (f i).a (f i).n := by unfold riseC; rw [if_pos h]
theorem riseC_low {f : Nat → Pf} {more : Nat → Nat} {i : Nat} (h : chk (f i).a (f i).n = 0) (h1 : 0 < i) (h2 : lessB (f (i - 1)).a (f (i - 1)).n (f i).a (f i).n = false) : riseC f more i = 8 := by unfold riseC; rw [if_neg (by simp [h]), if_pos ⟨h1, h2⟩]
theorem riseC_more {f : Nat → Pf} {more : Nat → Nat} {i : Nat} (h : chk (f i).a (f i).n = 0) (h1 : 0 < i → lessB (f (i - 1)).a (f (i - 1)).n (f i).a (f i).n = true) : riseC f more i = more i := by
  unfold riseC; rw [if_neg (by simp [h]), if_neg]
  rintro ⟨h2, h3⟩; rw [h1 h2] at h3; cases h3
theorem chk_le (a n : Int) : chk a n ≤ 3 := by unfold chk; split <;> (try split) <;> omega

def pfAt (l : List Pf) (i : Nat) : Pf := l.getD i ⟨0, 0⟩
def rtAt (l : List RouteR) (i : Nat) : RouteR := l.getD i ⟨0, 0, ⟨none, 0, [], 0, 0, 0, none, 0, []⟩, 0⟩
theorem pfAt_some {l : List Pf} {i : Nat} {p : Pf} (h : l[i]? = some p) : pfAt l i = p := by unfold pfAt; rw [List.getD_eq_getElem?_getD, h]; rfl
theorem rtAt_some {l : List RouteR} {i : Nat} {p : RouteR} (h : l[i]? = some p) : rtAt l i = p := by unfold rtAt; rw [List.getD_eq_getElem?_getD, h]; rfl
/-- What is wrong with a route of a message, beside its prefix. -/
def addC (r : RouteR) : Nat := if (attrC r.at_).1 ≠ 0 then (attrC r.at_).1 else if r.frm ≠ 0 then 3 else 0
def rtPf (r : RouteR) : Pf := ⟨r.a, r.n⟩
def dropF (m : MsgR) (i : Nat) : Pf := pfAt m.drops i
def dropM (_ : MsgR) (_ : Nat) : Nat := 0
def addF (m : MsgR) (i : Nat) : Pf := rtPf (rtAt m.adds i)
def addM (m : MsgR) (i : Nat) : Nat := addC (rtAt m.adds i)

theorem attrC_le (a : AttrR) : (attrC a).1 ≤ 8 := by
  unfold attrC
  have : ∀ (l : List Int) (p i : Int), (tagC p l i).1 ≤ 8 := by
    intro l
    induction l with
    | nil => intro p i; simp [tagC]
    | cons t l ih => intro p i; unfold tagC; split; · simp
                     · split; · simp
                       · exact ih _ _
  split; · simp
  · split; · simp
    · split; · simp
      · exact this _ _ _
theorem addC_le (r : RouteR) : addC r ≤ 8 := by
  unfold addC
  split
  · exact attrC_le _
  · split <;> omega

theorem dropM_le (m : MsgR) (k : Nat) : dropM m k ≤ 9 := Nat.zero_le _
theorem addM_le (m : MsgR) (k : Nat) : addM m k ≤ 9 := Nat.le_succ_of_le (addC_le _)

end Go.Proofs.Ytlealjcllbpgkaa

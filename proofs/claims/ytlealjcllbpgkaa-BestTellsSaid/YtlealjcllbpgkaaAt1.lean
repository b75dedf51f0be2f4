/- Package attr: what is told of a route, in memory; in; IndexFunc over ints. No condition but those that stand in each theorem. -/
import Derived.Test.YtlealjcllbpgkaaSl
import Derived.Test.YtlealjcllbpgkaaLs
import Derived.Test.YtlealjcllbpgkaaEv
import Derived.BigQuiet
namespace Go.Proofs.Ytlealjcllbpgkaa
open Go.RowKit

/-- What is told of a route, and where its two rows lie. -/
structure AttrR where
  P : Option Addr
  pc : Nat
  path : List Int
  pref : Int
  med : Int
  origin : Int
  T : Option Addr
  tc : Nat
  tags : List Int

def AttrR.cells (a : AttrR) : Array Value := #[.slice a.P a.path.length a.pc, .int .i64 a.pref, .int .i64 a.med, .int .i64 a.origin, .slice a.T a.tags.length a.tc]
/-- Its rows read as they should. -/
structure AttrOk (w : World) (a : AttrR) : Prop where
  path : Ints w a.P a.path
  tags : Ints w a.T a.tags
  pl : a.path.length ≤ a.pc
  tl : a.tags.length ≤ a.tc
theorem AttrOk.new_ {w w1 : World} {a : AttrR} (h : AttrOk w a) (hu : New w w1) : AttrOk w1 a := ⟨h.path.new_ hu, h.tags.new_ hu, h.pl, h.tl⟩

def inR (n lo hi : Int) : Bool := decide (lo ≤ n ∧ n ≤ hi)

/-- No system's number. -/
def badAS (n : Int) : Bool := !inR n 1 1000

/-- What is wrong with what is told: a code, a place. -/
def tagC : Int → List Int → Int → Nat × Int
  | _, [], _ => (0, -1)
  | prev, t :: l, i => if inR t 1 9999 = false then (2, i) else if 0 < i ∧ t ≤ prev then (8, i) else tagC t l (i + 1)
def attrC (a : AttrR) : Nat × Int :=
  if 12 < a.path.length ∨ 8 < a.tags.length then (7, -1)
  else if 0 ≤ idxB badAS a.path then (2, idxB badAS a.path)
  else if inR a.pref 0 1000 = false ∨ inR a.med 0 1000 = false ∨ inR a.origin 0 2 = false then (2, -1)
  else tagC 0 a.tags 0
end Go.Proofs.Ytlealjcllbpgkaa

/- The reference's sameness: of prefixes, of what is told, of routes. No condition but those that stand in each theorem. -/
import Derived.Test.YtignngpligicjaaDoorWi1
import Derived.Test.YtignngpligicjaaDoorEq
import Derived.Deep.Cut
namespace Go.Proofs.YtignngpligicjaaDoor
open Go.RowKit

/-- What a route's attributes say, wherever they lie. -/
structure AtC where
  path : List Int
  pref : Int
  med : Int
  origin : Int
  tags : List Int
deriving DecidableEq
def AttrR.con (a : AttrR) : AtC := ⟨a.path, a.pref, a.med, a.origin, a.tags⟩
/-- What a route says. -/
structure RtC where
  a : Int
  n : Int
  at_ : AtC
  frm : Int
deriving DecidableEq
def RouteR.con (r : RouteR) : RtC := ⟨r.a, r.n, r.at_.con, r.frm⟩

theorem con_pref {a b : AttrR} (h : ¬ a.pref = b.pref) : decide (a.con = b.con) = false := decide_eq_false fun e => h (by have := congrArg AtC.pref e; exact this)
theorem con_med {a b : AttrR} (h : ¬ a.med = b.med) : decide (a.con = b.con) = false := decide_eq_false fun e => h (by have := congrArg AtC.med e; exact this)
theorem con_origin {a b : AttrR} (h : ¬ a.origin = b.origin) : decide (a.con = b.con) = false := decide_eq_false fun e => h (by have := congrArg AtC.origin e; exact this)
theorem con_path {a b : AttrR} (h : ¬ a.path = b.path) : decide (a.con = b.con) = false := decide_eq_false fun e => h (by have := congrArg AtC.path e; exact this)
theorem con_tags {a b : AttrR} (h1 : a.pref = b.pref) (h2 : a.med = b.med) (h3 : a.origin = b.origin) (h4 : a.path = b.path) : decide (a.con = b.con) = decide (a.tags = b.tags) := by
  unfold AttrR.con
  rw [h1, h2, h3, h4]
  simp

end Go.Proofs.YtignngpligicjaaDoor

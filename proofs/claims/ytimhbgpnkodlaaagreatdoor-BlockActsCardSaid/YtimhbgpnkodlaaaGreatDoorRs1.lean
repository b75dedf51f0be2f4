/- The reference's sameness: of prefixes, of what is told, of routes. No condition but those that stand in each theorem. -/
import Derived.Test.YtimhbgpnkodlaaaGreatDoorWi1
import Derived.Test.YtimhbgpnkodlaaaGreatDoorEq
import Derived.Deep.Cut
namespace Go.Proofs.YtimhbgpnkodlaaaGreatDoor
open Go.RowKit

/-- What a route's attributes say, wherever they lie. -/
structure AtC where
  path : List Int
  pref : Int
  med : Int
  origin : Int
  tags : List Int
deriving DecidableEq
def AttrR.con (a : AttrR) : AtC := ⟨a.path, a.pref, a.med, a.origin, a.tags⟩
/-- What a route says. -/
structure RtC where
  a : Int
  n : Int
  at_ : AtC
  frm : Int
deriving DecidableEq
def RouteR.con (r : RouteR) : RtC := ⟨r.a, r.n, r.at_.con, r.frm⟩

theorem con_pref {a b : AttrR} (h : ¬ a.pref = b.pref) : decide (a.con = b.con) = false := decide_eq_false fun e => h (by have := congrArg AtC.pref e; exact this)
theorem con_med {a b : AttrR} (h : ¬ a.med = b.med) : decide (a.con = b.con) = false := decide_eq_false fun e => h (by have := congrArg AtC.med e; exact this)
theorem con_origin {a b : AttrR} (h : ¬ a.origin = b.origin) : decide (a.con = b.con) = false := decide_eq_false fun e => h (by have := congrArg AtC.origin e; exact this)
theorem con_path {a b : AttrR} (h : ¬ a.path = b.path) : decide (a.con = b.con) = false := decide_eq_false fun e => h (by have := congrArg AtC.path e; exact this)
theorem con_tags {a b : AttrR} (h1 : a.pref = b.pref) (h2 : a.med = b.med) (h3 : a.origin = b.origin) (h4 : a.path = b.path) : decide (a.con = b.con) = decide (a.tags = b.tags) := by
  unfold AttrR.con
  rw [h1, h2, h3, h4]
  simp

end Go.Proofs.YtimhbgpnkodlaaaGreatDoor

namespace Go.Proofs.YtimhbgpnkodlaaaGreatDoor
open Go.RowKit

theorem con_ne {r s : RouteR} (h : ¬ ((r.a == s.a && r.n == s.n) = true ∧ r.frm = s.frm ∧ r.at_.con = s.at_.con)) : r.con ≠ s.con := fun e => h (by
  have e1 := congrArg RtC.a e
  have e2 := congrArg RtC.n e
  have e3 := congrArg RtC.frm e
  have e4 := congrArg RtC.at_ e
  refine ⟨?_, e3, e4⟩
  simp only [Bool.and_eq_true, beq_iff_eq]
  exact ⟨e1, e2⟩)
theorem con_eq {r s : RouteR} (h1 : (r.a == s.a && r.n == s.n) = true) (h2 : r.frm = s.frm) (h3 : r.at_.con = s.at_.con) : r.con = s.con := by
  simp only [Bool.and_eq_true, beq_iff_eq] at h1
  unfold RouteR.con
  rw [h1.1, h1.2, h2, h3]
theorem cons_ne {rs ss : List RouteR} {j : Nat} {r s : RouteR} (hr : rs[j]? = some r) (hs : ss[j]? = some s) (h : r.con ≠ s.con) : decide (rs.map RouteR.con = ss.map RouteR.con) = false := decide_eq_false fun e => h (by
  have e1 : (rs.map RouteR.con)[j]? = (ss.map RouteR.con)[j]? := by rw [e]
  rw [List.getElem?_map, List.getElem?_map, hr, hs] at e1
  simpa using e1)
theorem cons_eq {rs ss : List RouteR} (hl : rs.length = ss.length) (h : ∀ (i : Nat) r s, i < rs.length → rs[i]? = some r → ss[i]? = some s → r.con = s.con) : decide (rs.map RouteR.con = ss.map RouteR.con) = true := decide_eq_true (by
  apply List.ext_getElem?
  intro i
  by_cases hi : i < rs.length
  · have h1 : rs[i]? = some rs[i] := List.getElem?_eq_getElem hi
    have h2 : ss[i]? = some (ss[i]'(by omega)) := List.getElem?_eq_getElem (by omega)
    rw [List.getElem?_map, List.getElem?_map, h1, h2]
    simpa using h i _ _ hi h1 h2
  · rw [List.getElem?_map, List.getElem?_map, List.getElem?_eq_none (by omega), List.getElem?_eq_none (by omega)])

set_option maxHeartbeats 1000000 in
theorem samePrefixes_nil (c d : Nat) (w : World) : Calls Tryz.prog 17 #[.slice none 0 c, .slice none 0 d] w fun e w1 => e = .returned (.bool true) ∧ New w w1 := by
  go_enter Tryz.func17, Tryz.ntmps17
  go_wp2_with fail
  refine wp_loop_rounds 1 ?_
  rw [rounds_succ]
  go_wp2_with fail
  go_ret
  exact ⟨rfl, Upd.refl _ _⟩
end Go.Proofs.YtimhbgpnkodlaaaGreatDoor

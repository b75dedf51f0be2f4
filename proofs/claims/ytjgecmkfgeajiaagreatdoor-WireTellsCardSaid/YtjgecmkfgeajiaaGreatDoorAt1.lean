/- Package attr: what is told of a route, in memory; in; IndexFunc over ints. No condition but those that stand in each theorem. -/
import Derived.Test.YtjgecmkfgeajiaaGreatDoorSl
import Derived.Test.YtjgecmkfgeajiaaGreatDoorLs
import Derived.Test.YtjgecmkfgeajiaaGreatDoorEv
import Derived.BigQuiet
namespace Go.Proofs.YtjgecmkfgeajiaaGreatDoor
open Go.RowKit

/-- What is told of a route, and where its two rows lie. -/
structure AttrR where
  P : Option Addr
  pc : Nat
  path : List Int
  pref : Int
  med : Int
  origin : Int
  T : Option Addr
  tc : Nat
  tags : List Int

def AttrR.cells (a : AttrR) : Array Value := #[.slice a.P a.path.length a.pc, .int .i64 a.pref, .int .i64 a.med, .int .i64 a.origin, .slice a.T a.tags.length a.tc]
/-- Its rows read as they should. -/
structure AttrOk (w : World) (a : AttrR) : Prop where
  path : Ints w a.P a.path
  tags : Ints w a.T a.tags
  pl : a.path.length ≤ a.pc
  tl : a.tags.length ≤ a.tc
theorem AttrOk.new_ {w w1 : World} {a : AttrR} (h : AttrOk w a) (hu : New w w1) : AttrOk w1 a := ⟨h.path.new_ hu, h.tags.new_ hu, h.pl, h.tl⟩

def inR (n lo hi : Int) : Bool := decide (lo ≤ n ∧ n ≤ hi)

set_option maxHeartbeats 400000 in
theorem attrIn_any (n lo hi : Int) (w : World) : Calls Tryz.prog 70 #[.int .i64 n, .int .i64 lo, .int .i64 hi] w fun e w1 => e = .returned (.bool (inR n lo hi)) ∧ w = w1 := by
  by_cases h1 : lo ≤ n
  · by_cases h2 : n ≤ hi
    · have e : inR n lo hi = true := decide_eq_true ⟨h1, h2⟩
      have He := hide e
      clear e
      go_enter Tryz.func70, Tryz.ntmps70
      go_wp2
      go_ret
      exact ⟨ret_bool He.out.symm, rfl⟩
    · have e : inR n lo hi = false := decide_eq_false fun h => h2 h.2
      have He := hide e
      clear e
      go_enter Tryz.func70, Tryz.ntmps70
      go_wp2
      go_ret
      exact ⟨ret_bool He.out.symm, rfl⟩
  · have e : inR n lo hi = false := decide_eq_false fun h => h1 h.1
    have He := hide e
    clear e
    go_enter Tryz.func70, Tryz.ntmps70
    go_wp2
    go_ret
    exact ⟨ret_bool He.out.symm, rfl⟩

/-- No system's number. -/
def badAS (n : Int) : Bool := !inR n 1 1000

set_option maxHeartbeats 400000 in
theorem attrCheck1_any (n : Int) (w : World) : Calls Tryz.prog 69 #[.int .i64 n] w fun e w1 => e = .returned (.bool (badAS n)) ∧ w = w1 := by
  have H := hide (attrIn_any n 1 1000 w)
  go_enter Tryz.func69, Tryz.ntmps69
  go_wp2_with fail
  refine H.out.mono ?_
  rintro e w1 ⟨rfl, rfl⟩
  go_wp2_with fail
  go_ret
  exact ⟨rfl, rfl⟩

set_option maxHeartbeats 1000000 in
/-- The first place of a number that is no system's. -/
theorem idxBad_any (A : Option Addr) (n c : Nat) (xs : List Int) (w : World) (hx : Ints w A xs) (hn : xs.length = n) (hl : n ≤ 1000000) :
    Calls Tryz.prog 68 #[.slice A n c, .func (.func 69) #[] #[]] w fun e w1 => e = .returned (.int .i64 (idxB badAS xs)) ∧ New w w1 := by
  have Hx := hide hx
  have Hn := hide hn
  clear hx hn
  go_enter Tryz.func68, Tryz.ntmps68
  go_wp2_with fail
  go_loopw [8] (fun i wr => ∃ k : Nat, k ≤ n ∧ i = .int .i64 k ∧ New w wr ∧ ∀ (j : Nat) x, j < k → xs[j]? = some x → badAS x = false) (fun i _ => n - (intOf i).toNat)
  case atStart => exact ⟨0, by omega, rfl, Upd.refl _ _, fun j x h => absurd h (by omega)⟩
  case round =>
    obtain ⟨k, hk, rfl, hnew, hz⟩ := hrel
    have Hz := hide hz
    clear hz
    by_cases hlt : k < n
    · obtain ⟨b, o, x, rfl, hb, hxk, hcx⟩ := (Hx.out.new_ hnew).at_ (k := k) (by have := Hn.out; omega)
      have Hxk := hide hxk
      clear hxk
      have i1 : (k : Int) < (n : Int) := by omega
      have hc := attrCheck1_any x wr
      cases hp : badAS x with
      | true =>
        rw [hp] at hc
        have Hc := hide hc
        have Hp := hide hp
        clear hc hp
        go_wp2_with fail
        refine Hc.out.mono ?_
        rintro e w2 ⟨rfl, rfl⟩
        go_wp2_with fail
        go_ret
        exact ⟨ret_int (idxB_at badAS xs k x Hxk.out Hp.out Hz.out).symm, hnew⟩
      | false =>
        rw [hp] at hc
        have Hc := hide hc
        have Hp := hide hp
        clear hc hp
        go_wp2_with fail
        refine Hc.out.mono ?_
        rintro e w2 ⟨rfl, rfl⟩
        go_wp2_with fail
        refine ⟨⟨k + 1, by omega, by go_num, hnew, fun j y hj hy => ?_⟩, by simp [intOf]; omega⟩
        by_cases hjk : j < k
        · exact Hz.out j y hjk hy
        · obtain rfl : j = k := by omega
          rw [Hxk.out] at hy; injection hy with hy; subst hy; exact Hp.out
    · have hkn : k = n := by omega
      subst hkn
      go_wp2_with fail
      go_ret
      exact ⟨ret_int (idxB_no badAS xs fun j y hy => Hz.out j y (by have := (List.getElem?_eq_some_iff.1 hy).1; have := Hn.out; omega) hy).symm, hnew⟩

/-- What is wrong with what is told: a code, a place. -/
def tagC : Int → List Int → Int → Nat × Int
  | _, [], _ => (0, -1)
  | prev, t :: l, i => if inR t 1 9999 = false then (2, i) else if 0 < i ∧ t ≤ prev then (8, i) else tagC t l (i + 1)
def attrC (a : AttrR) : Nat × Int :=
  if 12 < a.path.length ∨ 8 < a.tags.length then (7, -1)
  else if 0 ≤ idxB badAS a.path then (2, idxB badAS a.path)
  else if inR a.pref 0 1000 = false ∨ inR a.med 0 1000 = false ∨ inR a.origin 0 2 = false then (2, -1)
  else tagC 0 a.tags 0
end Go.Proofs.YtjgecmkfgeajiaaGreatDoor

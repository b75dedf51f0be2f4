/- Package attr: Bare; Contains over strings and prefixes. No condition but those that stand in each theorem. -/
import Derived.Test.YtignngpligicjaaDoorWi0
import Derived.Test.YtignngpligicjaaDoorAt2
import Derived.Test.YtignngpligicjaaDoorEq
import Derived.WalkLawsBesides
import Derived.WalkSpells
namespace Go.Proofs.YtignngpligicjaaDoor
open Go.RowKit

theorem assertNil (xT : TypeId) (w : World) : (Instr.typeAssert .nilIface xT TFP true).run Tryd.prog w = .ok (.tuple #[.pointer none, .bool false]) w := by kernel_rfl
theorem assertSent (v : Value) (xT : TypeId) (w : World) : (Instr.typeAssert (.iface TES v) xT TFP true).run Tryd.prog w = .ok (.tuple #[.pointer none, .bool false]) w := by kernel_rfl
theorem assertFault (v : Value) (xT : TypeId) (w : World) : (Instr.typeAssert (.iface TFP v) xT TFP true).run Tryd.prog w = .ok (.tuple #[v, .bool true]) w := by kernel_rfl

set_option maxRecDepth 8000 in
set_option maxHeartbeats 400000 in
/-- What Bare gives is the error alone. -/
theorem bare_any (v : Value) (k : Nat) (i : Int) (w : World) (E : Nat → Addr) (hv : ErrV w E v k i) :
    Calls Tryd.prog 49 #[v] w fun e w1 => e = .returned (errc E k) ∧ w = w1 := by
  have a1 := assertNil
  have a2 := assertSent
  have a3 := assertFault
  rcases hv with ⟨rfl, rfl, rfl⟩ | ⟨h1, h9, rfl, rfl⟩ | ⟨h1, h9, p, rfl, hb⟩
  · go_enter Tryd.func49, Tryd.ntmps49
    go_wp2
    go_ret
    exact ⟨rfl, rfl⟩
  · have e : errc E k = errv (E k) := by unfold errc; rw [if_neg (by omega)]
    have He := hide e
    clear e
    unfold errv
    go_enter Tryd.func49, Tryd.ntmps49
    go_wp2
    go_ret
    exact ⟨by rw [He.out]; rfl, rfl⟩
  · have e : errc E k = errv (E k) := by unfold errc; rw [if_neg (by omega)]
    have He := hide e
    have c1 := hb.cell 1
    have zb := hb.lt
    simp only [List.getElem?_toArray, List.getElem?_cons_zero, List.getElem?_cons_succ] at c1
    clear e hb
    unfold errv at c1
    go_enter Tryd.func49, Tryd.ntmps49
    go_wp2
    go_ret
    exact ⟨by rw [He.out]; rfl, rfl⟩

/-- The same text. -/
def strEq (s t : ByteArray) : Bool := s.toList == t.toList

/-- The same prefix. -/
def samePf (p q : Pf) : Bool := p.a == q.a && p.n == q.n

end Go.Proofs.YtignngpligicjaaDoor

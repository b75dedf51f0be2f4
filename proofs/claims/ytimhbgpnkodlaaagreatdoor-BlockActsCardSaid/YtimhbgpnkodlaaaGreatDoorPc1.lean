/- Package errors: Is and As, at a sentinel and at an *api.Fault. No condition but those that stand in each theorem. -/
import Derived.Test.YtimhbgpnkodlaaaGreatDoorIp1
import Derived.LaidEql
import Derived.Stop.Asserts
import Derived.RowKitTokens
import Derived.Test.YtimhbgpnkodlaaaGreatDoorEv
import Derived.Test.YtimhbgpnkodlaaaGreatDoorSl
namespace Go.Proofs.YtimhbgpnkodlaaaGreatDoor
open Go.RowKit Go.Extern.Stop Go.Stop Go.Extern


theorem isTypeOf (v : Value) (w : World) : (Extern.ReflectliteType.typeOf #[.iface TES v]).run Tryz.prog w = .ok (.iface 117 (.agg #[.pointer (some ⟨10, TES, none⟩)])) w := by kernel_rfl
def cmpEntry : Array Value → Sem Value := Extern.ReflectliteType.method fun t => do Go.Extern.Rtype.noPackHeld "Comparable" t; pure (.bool (← typeInfo t).comparable)
theorem isComparable (w : World) : (cmpEntry #[.agg #[.pointer (some ⟨10, TES, none⟩)]]).run Tryz.prog w = .ok (.bool true) w := by kernel_rfl
theorem isMethodComparable (v : Value) (w : World) : (Go.method 274 117 v "Comparable").run Tryz.prog w = .ok (119, v) w := by kernel_rfl
theorem isComp : (Tryz.prog.info? TES).map (·.comparable) = some true := by kernel_rfl
theorem isSize : (Tryz.prog.info? 162).map (·.size) = some 1 := by kernel_rfl
theorem noIsE (v : Value) (xT : TypeId) (w : World) : (Instr.typeAssert (.iface TES v) xT 128 true).run Tryz.prog w = .ok (.tuple #[.nilIface, .bool false]) w := run_typeAssert_lacksB Tryz.underlying128 (by kernel_rfl) (by kernel_rfl) v xT w
theorem noAsE (v : Value) (xT : TypeId) (w : World) : (Instr.typeAssert (.iface TES v) xT 121 true).run Tryz.prog w = .ok (.tuple #[.nilIface, .bool false]) w := run_typeAssert_lacksB Tryz.underlying121 (by kernel_rfl) (by kernel_rfl) v xT w
theorem noUnwrapE (v : Value) (xT : TypeId) (w : World) : (Instr.typeAssert (.iface TES v) xT 124 true).run Tryz.prog w = .ok (.tuple #[.nilIface, .bool false]) w := run_typeAssert_lacksB Tryz.underlying124 (by kernel_rfl) (by kernel_rfl) v xT w
theorem noUnwrapsE (v : Value) (xT : TypeId) (w : World) : (Instr.typeAssert (.iface TES v) xT 126 true).run Tryz.prog w = .ok (.tuple #[.nilIface, .bool false]) w := run_typeAssert_lacksB Tryz.underlying126 (by kernel_rfl) (by kernel_rfl) v xT w
theorem noIsF (v : Value) (xT : TypeId) (w : World) : (Instr.typeAssert (.iface TFP v) xT 128 true).run Tryz.prog w = .ok (.tuple #[.nilIface, .bool false]) w := run_typeAssert_lacksB Tryz.underlying128 (by kernel_rfl) (by kernel_rfl) v xT w
theorem hasUnwrapF (v : Value) (xT : TypeId) (w : World) : (Instr.typeAssert (.iface TFP v) xT 124 true).run Tryz.prog w = .ok (.tuple #[.iface TFP v, .bool true]) w := run_typeAssert_hasB Tryz.underlying124 (by kernel_rfl) v xT w
theorem methodUnwrapF (v : Value) (w : World) : (Go.method 274 TFP v "Unwrap").run Tryz.prog w = .ok (113, v) w := by kernel_rfl

/-- Is x what x is. -/
theorem is_same (a : Addr) (w : World) :
    Calls Tryz.prog 47 #[.iface TES (.pointer (some a)), .iface TES (.pointer (some a))] w fun e w1 => e = .returned (.bool true) ∧ w = w1 := by
  obtain ⟨i, hi, hcmp⟩ := Option.map_eq_some_iff.1 isComp
  obtain ⟨j, hj, hjs⟩ := Option.map_eq_some_iff.1 isSize
  have h8 := @run_callFunc_extern Tryz.prog 61 _ Extern.ReflectliteType.typeOf Tryz.func61 (by kernel_rfl) (by kernel_rfl) (by kernel_rfl) (by kernel_rfl)
  have h32 := @run_callFunc_extern Tryz.prog 119 _ cmpEntry Tryz.func119 (by kernel_rfl) (by kernel_rfl) (by kernel_rfl) (by kernel_rfl)
  have tT := isTypeOf
  have cT := isComparable
  have mR := isMethodComparable
  have heq := run_eql_iface_ptr_same (P := Tryz.prog) w a Tryz.underlying28 Tryz.underlying142 hi hcmp hj
  go_enter Tryz.func47, Tryz.ntmps47
  go_wp2
  refine wp_loop_rounds 1 ?_
  rw [rounds_succ]
  go_wp2
  go_ret
  exact ⟨rfl, rfl⟩

theorem is_other (a b : Addr) (ca cb : Array Value) (ta tb : TypeId) (w : World) (hne : a ≠ b) (ha : w.heap[a.block]? = some (.cells ca ta (0, 0))) (hb : w.heap[b.block]? = some (.cells cb tb (0, 0))) :
    Calls Tryz.prog 47 #[.iface TES (.pointer (some a)), .iface TES (.pointer (some b))] w fun e w1 => e = .returned (.bool false) ∧ w = w1 := by
  obtain ⟨i, hi, hcmp⟩ := Option.map_eq_some_iff.1 isComp
  obtain ⟨j, hj, hjs⟩ := Option.map_eq_some_iff.1 isSize
  have h8 := @run_callFunc_extern Tryz.prog 61 _ Extern.ReflectliteType.typeOf Tryz.func61 (by kernel_rfl) (by kernel_rfl) (by kernel_rfl) (by kernel_rfl)
  have h32 := @run_callFunc_extern Tryz.prog 119 _ cmpEntry Tryz.func119 (by kernel_rfl) (by kernel_rfl) (by kernel_rfl) (by kernel_rfl)
  have tT := isTypeOf
  have cT := isComparable
  have mR := isMethodComparable
  have nE := noIsE
  have uE := noUnwrapE
  have vE := noUnwrapsE
  have heq := run_eql_iface_ptr_other (P := Tryz.prog) w Tryz.underlying28 Tryz.underlying142 hi hcmp hj (by rw [hjs]; decide) hne ha hb
  go_enter Tryz.func47, Tryz.ntmps47
  go_wp2
  refine wp_loop_rounds 1 ?_
  rw [rounds_succ]
  go_wp2
  go_ret
  exact ⟨rfl, rfl⟩

theorem is_fault_same (p : Nat) (b : Addr) (w : World) (h1 : w.cell? ⟨p, 1, none⟩ = some (.iface TES (.pointer (some b)))) :
    Calls Tryz.prog 47 #[.iface TFP (.pointer (some ⟨p, 0, none⟩)), .iface TES (.pointer (some b))] w fun e w1 => e = .returned (.bool true) ∧ w = w1 := by
  obtain ⟨i, hi, hcmp⟩ := Option.map_eq_some_iff.1 isComp
  obtain ⟨j, hj, hjs⟩ := Option.map_eq_some_iff.1 isSize
  have h8 := @run_callFunc_extern Tryz.prog 61 _ Extern.ReflectliteType.typeOf Tryz.func61 (by kernel_rfl) (by kernel_rfl) (by kernel_rfl) (by kernel_rfl)
  have h32 := @run_callFunc_extern Tryz.prog 119 _ cmpEntry Tryz.func119 (by kernel_rfl) (by kernel_rfl) (by kernel_rfl) (by kernel_rfl)
  have tT := isTypeOf
  have cT := isComparable
  have mR := isMethodComparable
  have nE := noIsE
  have uE := noUnwrapE
  have vE := noUnwrapsE
  have nW := noIsF
  have uW := hasUnwrapF
  have mU := methodUnwrapF
  have heq := run_eql_iface_ptr_same (P := Tryz.prog) w b Tryz.underlying28 Tryz.underlying142 hi hcmp hj
  have hty := run_eql_iface_types (P := Tryz.prog) TFP TES (.pointer (some ⟨p, 0, none⟩)) (.pointer (some b)) Tryz.underlying28 (by decide) w
  go_enter Tryz.func47, Tryz.ntmps47
  go_wp2
  refine wp_loop_rounds 2 ?_
  rw [rounds_succ]
  go_wp2
  rw [rounds_succ]
  go_wp2
  go_ret
  exact ⟨rfl, rfl⟩

theorem is_fault_other (p : Nat) (b a : Addr) (ca cb : Array Value) (ta tb : TypeId) (w : World) (h1 : w.cell? ⟨p, 1, none⟩ = some (.iface TES (.pointer (some a)))) (hne : a ≠ b) (ha : w.heap[a.block]? = some (.cells ca ta (0, 0))) (hb : w.heap[b.block]? = some (.cells cb tb (0, 0))) :
    Calls Tryz.prog 47 #[.iface TFP (.pointer (some ⟨p, 0, none⟩)), .iface TES (.pointer (some b))] w fun e w1 => e = .returned (.bool false) ∧ w = w1 := by
  obtain ⟨i, hi, hcmp⟩ := Option.map_eq_some_iff.1 isComp
  obtain ⟨j, hj, hjs⟩ := Option.map_eq_some_iff.1 isSize
  have h8 := @run_callFunc_extern Tryz.prog 61 _ Extern.ReflectliteType.typeOf Tryz.func61 (by kernel_rfl) (by kernel_rfl) (by kernel_rfl) (by kernel_rfl)
  have h32 := @run_callFunc_extern Tryz.prog 119 _ cmpEntry Tryz.func119 (by kernel_rfl) (by kernel_rfl) (by kernel_rfl) (by kernel_rfl)
  have tT := isTypeOf
  have cT := isComparable
  have mR := isMethodComparable
  have nE := noIsE
  have uE := noUnwrapE
  have vE := noUnwrapsE
  have nW := noIsF
  have uW := hasUnwrapF
  have mU := methodUnwrapF
  have heq := run_eql_iface_ptr_other (P := Tryz.prog) w Tryz.underlying28 Tryz.underlying142 hi hcmp hj (by rw [hjs]; decide) hne ha hb
  have hty := run_eql_iface_types (P := Tryz.prog) TFP TES (.pointer (some ⟨p, 0, none⟩)) (.pointer (some b)) Tryz.underlying28 (by decide) w
  go_enter Tryz.func47, Tryz.ntmps47
  go_wp2
  refine wp_loop_rounds 2 ?_
  rw [rounds_succ]
  go_wp2
  rw [rounds_succ]
  go_wp2
  go_ret
  exact ⟨rfl, rfl⟩
end Go.Proofs.YtimhbgpnkodlaaaGreatDoor

namespace Go.Proofs.YtimhbgpnkodlaaaGreatDoor
open Go.RowKit Go.Extern.Stop Go.Stop Go.Extern

abbrev TFPP : TypeId := 72
abbrev TRT : TypeId := 117
abbrev TRV : TypeId := 88
/-- What errors.errorType holds. -/
def errType (w : World) : Prop := w.cell? ⟨9, 0, none⟩ = some (.iface 117 (.agg #[.pointer (some ⟨10, 28, none⟩)]))

theorem asValueOfPP (t : Addr) (w : World) : (ReflectliteValue.unpack (.iface TFPP (.pointer (some t)))).run Tryz.prog w
    = .ok (.agg #[.pointer (some ⟨10, TFPP, none⟩), .pointer (some ⟨w.heap.size, 0, none⟩), .int .u64 150]) (w.alloc (.cells #[.pointer (some t)] TFPP)) := by kernel_rfl
theorem asTypePP (a : Addr) (w : World) : (ReflectliteValue.methodAny (ReflectliteValue.valueError "reflectlite.Value.Type" 0) (fun t _ _ _ => ReflectliteType.toType t) #[.agg #[.pointer (some ⟨10, TFPP, none⟩), .pointer (some a), .int .u64 150]]).run Tryz.prog w
    = .ok (.iface TRT (.agg #[.pointer (some ⟨10, TFPP, none⟩)])) w := by kernel_rfl
theorem asMethodKind (h : Value) (w : World) : (Go.method 274 TRT (.agg #[h]) "Kind").run Tryz.prog w = .ok (109, h) w := by kernel_rfl
theorem asKindPP (w : World) : ((ReflectliteType.abiMethod fun t => (fun a : Nat => Value.int IntKind.u8 (a : Int)) <$> Rtype.kind t) #[.pointer (some ⟨10, TFPP, none⟩)]).run Tryz.prog w = .ok (.int .u8 22) w := by kernel_rfl
theorem asKindP (w : World) : ((ReflectliteType.abiMethod fun t => (fun a : Nat => Value.int IntKind.u8 (a : Int)) <$> Rtype.kind t) #[.pointer (some ⟨10, TFP, none⟩)]).run Tryz.prog w = .ok (.int .u8 22) w := by kernel_rfl

theorem rlm (z : Sem Value) (f : TypeId → Addr → Nat → Nat → Sem Value) (v : Value) :
    ReflectliteValue.method z f #[v] = (do match ← ReflectliteValue.parts v with | none => z | some (t, a, fl) => f t a fl (fl % 32)) := rfl
theorem asPartsPP (a : Addr) (w : World) : (ReflectliteValue.parts (.agg #[.pointer (some ⟨10, TFPP, none⟩), .pointer (some a), .int .u64 150])).run Tryz.prog w = .ok (some (TFPP, a, 150)) w := by kernel_rfl
theorem asIsNilPP (a p : Addr) (W : World) (ha : W.cell? a = some (.pointer (some p))) :
    (ReflectliteValue.method (ReflectliteValue.valueError "reflectlite.Value.IsNil" 0) ReflectliteValue.isNil #[.agg #[.pointer (some ⟨10, TFPP, none⟩), .pointer (some a), .int .u64 150]]).run Tryz.prog W = .ok (.bool false) W := by
  rw [rlm]
  simp only [Sem.run_bind, asPartsPP, Result.andThen]
  simp [ReflectliteValue.isNil, loadVar, isAgg, underlying, Tryz.underlying72, ha, Result.andThen]

theorem asMethodElem (h : Value) (w : World) : (Go.method 274 TRT (.agg #[h]) "Elem").run Tryz.prog w = .ok (120, .agg #[h]) w := by kernel_rfl
theorem asMethodImplements (h : Value) (w : World) : (Go.method 274 TRT (.agg #[h]) "Implements").run Tryz.prog w = .ok (121, .agg #[h]) w := by kernel_rfl
theorem asMethodAssignableTo (h : Value) (w : World) : (Go.method 274 TRT (.agg #[h]) "AssignableTo").run Tryz.prog w = .ok (118, .agg #[h]) w := by kernel_rfl
theorem asElemPP (w : World) : (ReflectliteType.method ReflectliteType.elem #[.agg #[.pointer (some ⟨10, TFPP, none⟩)]]).run Tryz.prog w = .ok (.iface TRT (.agg #[.pointer (some ⟨10, TFP, none⟩)])) w := by kernel_rfl
theorem asImplementsP (w : World) : (ReflectliteType.relation "Implements" ReflectliteType.implements_ #[.agg #[.pointer (some ⟨10, TFP, none⟩)], .iface TRT (.agg #[.pointer (some ⟨10, 28, none⟩)])]).run Tryz.prog w = .ok (.bool true) w := by kernel_rfl
theorem asTypeOfP (v : Value) (w : World) : (ReflectliteType.typeOf #[.iface TFP v]).run Tryz.prog w = .ok (.iface TRT (.agg #[.pointer (some ⟨10, TFP, none⟩)])) w := by kernel_rfl
theorem asTypeOfE (v : Value) (w : World) : (ReflectliteType.typeOf #[.iface TES v]).run Tryz.prog w = .ok (.iface TRT (.agg #[.pointer (some ⟨10, TES, none⟩)])) w := by kernel_rfl
theorem asAssignableP (w : World) : (ReflectliteType.relation "AssignableTo" ReflectliteType.assignableTo #[.agg #[.pointer (some ⟨10, TFP, none⟩)], .iface TRT (.agg #[.pointer (some ⟨10, TFP, none⟩)])]).run Tryz.prog w = .ok (.bool true) w := by kernel_rfl
theorem asAssignableE (w : World) : (ReflectliteType.relation "AssignableTo" ReflectliteType.assignableTo #[.agg #[.pointer (some ⟨10, TES, none⟩)], .iface TRT (.agg #[.pointer (some ⟨10, TFP, none⟩)])]).run Tryz.prog w = .ok (.bool false) w := by kernel_rfl
theorem asValueOfP (e : Addr) (w : World) : (ReflectliteValue.unpack (.iface TFP (.pointer (some e)))).run Tryz.prog w
    = .ok (.agg #[.pointer (some ⟨10, TFP, none⟩), .pointer (some ⟨w.heap.size, 0, none⟩), .int .u64 150]) (w.alloc (.cells #[.pointer (some e)] TFP)) := by kernel_rfl
theorem asElemOfPP (w : World) : (Rtype.elem? TFPP).run Tryz.prog w = .ok (some TFP) w := by kernel_rfl
theorem asMkP (p : Addr) (w : World) : (ReflectliteValue.mk TFP p ReflectliteValue.flagAddr).run Tryz.prog w = .ok (.agg #[.pointer (some ⟨10, TFP, none⟩), .pointer (some p), .int .u64 406]) w := by kernel_rfl
theorem asElemVPP (a p : Addr) (W : World) (ha : W.cell? a = some (.pointer (some p))) :
    (ReflectliteValue.method (ReflectliteValue.valueError "reflectlite.Value.Elem" 0) ReflectliteValue.elem #[.agg #[.pointer (some ⟨10, TFPP, none⟩), .pointer (some a), .int .u64 150]]).run Tryz.prog W
      = .ok (.agg #[.pointer (some ⟨10, TFP, none⟩), .pointer (some p), .int .u64 406]) W := by
  rw [rlm]
  simp only [Sem.run_bind, asPartsPP, Result.andThen]
  simp [ReflectliteValue.elem, loadVar, isAgg, underlying, Tryz.underlying72, ha, Result.andThen, asElemOfPP, asMkP]
theorem rls (v x : Value) : ReflectliteValue.set #[v, x] = (do
    let (some (dst, a, fl), some (src, b, _)) := (← ReflectliteValue.parts v, ← ReflectliteValue.parts x)
      | unsupported (.noEntry "extern/(internal/reflectlite.Value).Set.zeroValue")
    if fl / ReflectliteValue.flagAddr % 2 == 0 then unsupported (.noEntry "extern/(internal/reflectlite.Value).Set.unaddressable")
    let val ← loadVar src b
    if ← Rtype.directlyAssignable dst src then storeVar dst a val
    else if ← Rtype.implements dst src then
      if (← Rtype.kind src) == 20 then
        match val with
        | .nilIface => unsupported (.noEntry "extern/reflectlite: a nil value of one interface type handed on as a value of another")
        | _ => storeVar dst a val
      else storeVar dst a (.iface src val)
    else panicString ("reflectlite.Set: value of type " ++ (← Rtype.spelt src) ++ " is not assignable to type " ++ (← Rtype.spelt dst))
    pure (.tuple #[])) := rfl
theorem asPartsPa (a : Addr) (w : World) : (ReflectliteValue.parts (.agg #[.pointer (some ⟨10, TFP, none⟩), .pointer (some a), .int .u64 406])).run Tryz.prog w = .ok (some (TFP, a, 406)) w := by kernel_rfl
theorem asPartsP (a : Addr) (w : World) : (ReflectliteValue.parts (.agg #[.pointer (some ⟨10, TFP, none⟩), .pointer (some a), .int .u64 150])).run Tryz.prog w = .ok (some (TFP, a, 150)) w := by kernel_rfl
theorem asDirectP (w : World) : (Rtype.directlyAssignable TFP TFP).run Tryz.prog w = .ok true w := by kernel_rfl
theorem asSetP (ta b e : Addr) (old : Value) (W : World) (hb : W.cell? b = some (.pointer (some e))) (ht : W.cell? ta = some old) (hf : W.frozen? ta = false) :
    (ReflectliteValue.set #[.agg #[.pointer (some ⟨10, TFP, none⟩), .pointer (some ta), .int .u64 406], .agg #[.pointer (some ⟨10, TFP, none⟩), .pointer (some b), .int .u64 150]]).run Tryz.prog W
      = .ok (.tuple #[]) (W.setCell ta (.pointer (some e))) := by
  rw [rls]
  simp only [Sem.run_bind, asPartsPa, asPartsP, Result.andThen]
  simp [ReflectliteValue.flagAddr, loadVar, isAgg, underlying, Tryz.underlying70, hb, Result.andThen, asDirectP, storeVar, Value.cells, storeCells, Addr.add]
  rw [run_store Tryz.prog W ta _ _ (by rfl)]
  simp [ht, hf]

set_option maxHeartbeats 4000000 in
/-- A fault is found, and laid into the target. -/
theorem as_fault (p t : Nat) (w : World) (hg : errType w) (hb : Blk w t TFP #[.pointer none]) :
    Calls Tryz.prog 46 #[.iface TFP (.pointer (some ⟨p, 0, none⟩)), .iface TFPP (.pointer (some ⟨t, 0, none⟩))] w fun e w1 => e = .returned (.bool true) ∧ Upd (fun k => k = t) w w1 ∧ Blk w1 t TFP #[.pointer (some ⟨p, 0, none⟩)] := by
  have hres : ∀ w1, w1 = ((((w.alloc (.cells #[.pointer (some ⟨t, 0, none⟩)] TFPP)).alloc (.cells #[.pointer (some ⟨10, TFPP, none⟩), .pointer (some ⟨w.heap.size, 0, none⟩), .int .u64 150] TRV)).alloc (.cells #[.pointer (some ⟨10, TFPP, none⟩), .pointer (some ⟨w.heap.size, 0, none⟩), .int .u64 150] TRV)).alloc (.cells #[.pointer (some ⟨p, 0, none⟩)] TFP)).setCell ⟨t, 0, none⟩ (.pointer (some ⟨p, 0, none⟩)) → Upd (fun k => k = t) w w1 ∧ Blk w1 t TFP #[.pointer (some ⟨p, 0, none⟩)] := by
    rintro w1 rfl
    exact ⟨(((((Upd.refl (fun k => k = t) w).alloc _).alloc _).alloc _).alloc _).setCell (p := ⟨t, 0, none⟩) (.inl rfl) _, by simpa using ((((hb.alloc _).alloc _).alloc _).alloc _).set_ 0 (.pointer (some ⟨p, 0, none⟩))⟩
  have Hres := hide hres
  clear hres
  have ht0 := hb.cell 0
  have hf0 := hb.frozen 0
  have htl := hb.lt
  simp only [List.getElem?_toArray, List.getElem?_cons_zero] at ht0
  unfold errType at hg
  have h6 := @run_callFunc_extern Tryz.prog 57 _ (fun args => ReflectliteValue.unpack (args.getD 0 (.tuple #[]))) Tryz.func57 (by kernel_rfl) (by kernel_rfl) (by kernel_rfl) (by kernel_rfl)
  have h7 := @run_callFunc_extern Tryz.prog 58 _ (ReflectliteValue.methodAny (ReflectliteValue.valueError "reflectlite.Value.Type" 0) (fun t _ _ _ => ReflectliteType.toType t)) Tryz.func58 (by kernel_rfl) (by kernel_rfl) (by kernel_rfl) (by kernel_rfl)
  have h8 := @run_callFunc_extern Tryz.prog 59 _ (ReflectliteValue.method (ReflectliteValue.valueError "reflectlite.Value.IsNil" 0) ReflectliteValue.isNil) Tryz.func59 (by kernel_rfl) (by kernel_rfl) (by kernel_rfl) (by kernel_rfl)
  have h27 := @run_callFunc_extern Tryz.prog 109 _ (ReflectliteType.abiMethod fun t => do pure (.int .u8 (← Rtype.kind t))) Tryz.func109 (by kernel_rfl) (by kernel_rfl) (by kernel_rfl) (by kernel_rfl)
  have h37 := @run_callFunc_extern Tryz.prog 120 _ (ReflectliteType.method ReflectliteType.elem) Tryz.func120 (by kernel_rfl) (by kernel_rfl) (by kernel_rfl) (by kernel_rfl)
  have h38 := @run_callFunc_extern Tryz.prog 121 _ (ReflectliteType.relation "Implements" ReflectliteType.implements_) Tryz.func121 (by kernel_rfl) (by kernel_rfl) (by kernel_rfl) (by kernel_rfl)
  have h10 := @run_callFunc_extern Tryz.prog 61 _ ReflectliteType.typeOf Tryz.func61 (by kernel_rfl) (by kernel_rfl) (by kernel_rfl) (by kernel_rfl)
  have h35 := @run_callFunc_extern Tryz.prog 118 _ (ReflectliteType.relation "AssignableTo" ReflectliteType.assignableTo) Tryz.func118 (by kernel_rfl) (by kernel_rfl) (by kernel_rfl) (by kernel_rfl)
  have h11 := @run_callFunc_extern Tryz.prog 83 _ (ReflectliteValue.method (ReflectliteValue.valueError "reflectlite.Value.Elem" 0) ReflectliteValue.elem) Tryz.func83 (by kernel_rfl) (by kernel_rfl) (by kernel_rfl) (by kernel_rfl)
  have h12 := @run_callFunc_extern Tryz.prog 84 _ ReflectliteValue.set Tryz.func84 (by kernel_rfl) (by kernel_rfl) (by kernel_rfl) (by kernel_rfl)
  have tO := asTypeOfP
  have mA := asMethodAssignableTo
  have a25 := asAssignableP
  have v25 := asValueOfP
  have f6 := asValueOfPP
  have f7 := asTypePP
  have mK := asMethodKind
  have mE := asMethodElem
  have mI := asMethodImplements
  have k27 := asKindPP
  have k25 := asKindP
  have e27 := asElemPP
  have i25 := asImplementsP
  have n8 := asIsNilPP ⟨w.heap.size, 0, none⟩ ⟨t, 0, none⟩ ((w.alloc (.cells #[.pointer (some ⟨t, 0, none⟩)] TFPP)).alloc (.cells #[.pointer (some ⟨10, TFPP, none⟩), .pointer (some ⟨w.heap.size, 0, none⟩), .int .u64 150] TRV)) (by simp)
  have hlt : 9 < w.heap.size := by
    rcases Nat.lt_or_ge 9 w.heap.size with h | h
    · exact h
    · simp [World.cell?, Array.getElem?_eq_none h] at hg
  have hg2 : ((w.alloc (.cells #[.pointer (some ⟨t, 0, none⟩)] TFPP)).alloc (.cells #[.pointer (some ⟨10, TFPP, none⟩), .pointer (some ⟨w.heap.size, 0, none⟩), .int .u64 150] TRV)).cell? ⟨9, 0, none⟩ = some (.iface TRT (.agg #[.pointer (some ⟨10, 28, none⟩)])) := by
    rw [World.cell?_alloc_lt _ _ ⟨9, 0, none⟩ (by simp; omega), World.cell?_alloc_lt _ _ ⟨9, 0, none⟩ hlt]; exact hg
  have el := asElemVPP ⟨w.heap.size, 0, none⟩ ⟨t, 0, none⟩ (((w.alloc (.cells #[.pointer (some ⟨t, 0, none⟩)] TFPP)).alloc (.cells #[.pointer (some ⟨10, TFPP, none⟩), .pointer (some ⟨w.heap.size, 0, none⟩), .int .u64 150] TRV)).alloc (.cells #[.pointer (some ⟨10, TFPP, none⟩), .pointer (some ⟨w.heap.size, 0, none⟩), .int .u64 150] TRV)) (by rw [World.cell?_alloc_lt _ _ ⟨w.heap.size, 0, none⟩ (by simp; omega)]; simp)
  have st := asSetP ⟨t, 0, none⟩ ⟨w.heap.size + 1 + 1 + 1, 0, none⟩ ⟨p, 0, none⟩ (.pointer none) ((((w.alloc (.cells #[.pointer (some ⟨t, 0, none⟩)] TFPP)).alloc (.cells #[.pointer (some ⟨10, TFPP, none⟩), .pointer (some ⟨w.heap.size, 0, none⟩), .int .u64 150] TRV)).alloc (.cells #[.pointer (some ⟨10, TFPP, none⟩), .pointer (some ⟨w.heap.size, 0, none⟩), .int .u64 150] TRV)).alloc (.cells #[.pointer (some ⟨p, 0, none⟩)] TFP))
    (by rw [World.cell?_alloc_at _ _ _ _ (by simp)]; rfl)
    (by have := ((((hb.alloc (.cells #[.pointer (some ⟨t, 0, none⟩)] TFPP)).alloc (.cells #[.pointer (some ⟨10, TFPP, none⟩), .pointer (some ⟨w.heap.size, 0, none⟩), .int .u64 150] TRV)).alloc (.cells #[.pointer (some ⟨10, TFPP, none⟩), .pointer (some ⟨w.heap.size, 0, none⟩), .int .u64 150] TRV)).alloc (.cells #[.pointer (some ⟨p, 0, none⟩)] TFP)).cell 0; simpa using this)
    (by have := ((((hb.alloc (.cells #[.pointer (some ⟨t, 0, none⟩)] TFPP)).alloc (.cells #[.pointer (some ⟨10, TFPP, none⟩), .pointer (some ⟨w.heap.size, 0, none⟩), .int .u64 150] TRV)).alloc (.cells #[.pointer (some ⟨10, TFPP, none⟩), .pointer (some ⟨w.heap.size, 0, none⟩), .int .u64 150] TRV)).alloc (.cells #[.pointer (some ⟨p, 0, none⟩)] TFP)).frozen 0; simpa using this)
  clear hb
  go_enter Tryz.func46, Tryz.ntmps46
  go_wp2
  refine wp_loop_rounds 1 ?_
  rw [rounds_succ]
  go_wp2
  go_ret
  exact ⟨rfl, Hres.out _ rfl⟩

set_option maxHeartbeats 4000000 in
/-- A sentinel is no fault. -/
theorem as_sent (a : Addr) (t : Nat) (w : World) (hg : errType w) :
    Calls Tryz.prog 46 #[.iface TES (.pointer (some a)), .iface TFPP (.pointer (some ⟨t, 0, none⟩))] w fun e w1 => e = .returned (.bool false) ∧ New w w1 := by
  have hres : ∀ w1, w1 = (((w.alloc (.cells #[.pointer (some ⟨t, 0, none⟩)] TFPP)).alloc (.cells #[.pointer (some ⟨10, TFPP, none⟩), .pointer (some ⟨w.heap.size, 0, none⟩), .int .u64 150] TRV)).alloc (.cells #[.pointer (some ⟨10, TFPP, none⟩), .pointer (some ⟨w.heap.size, 0, none⟩), .int .u64 150] TRV)) → New w w1 := by
    rintro w1 rfl
    exact (((Upd.refl _ w).alloc _).alloc _).alloc _
  have Hres := hide hres
  clear hres
  unfold errType at hg
  have h6 := @run_callFunc_extern Tryz.prog 57 _ (fun args => ReflectliteValue.unpack (args.getD 0 (.tuple #[]))) Tryz.func57 (by kernel_rfl) (by kernel_rfl) (by kernel_rfl) (by kernel_rfl)
  have h7 := @run_callFunc_extern Tryz.prog 58 _ (ReflectliteValue.methodAny (ReflectliteValue.valueError "reflectlite.Value.Type" 0) (fun t _ _ _ => ReflectliteType.toType t)) Tryz.func58 (by kernel_rfl) (by kernel_rfl) (by kernel_rfl) (by kernel_rfl)
  have h8 := @run_callFunc_extern Tryz.prog 59 _ (ReflectliteValue.method (ReflectliteValue.valueError "reflectlite.Value.IsNil" 0) ReflectliteValue.isNil) Tryz.func59 (by kernel_rfl) (by kernel_rfl) (by kernel_rfl) (by kernel_rfl)
  have h27 := @run_callFunc_extern Tryz.prog 109 _ (ReflectliteType.abiMethod fun t => do pure (.int .u8 (← Rtype.kind t))) Tryz.func109 (by kernel_rfl) (by kernel_rfl) (by kernel_rfl) (by kernel_rfl)
  have h37 := @run_callFunc_extern Tryz.prog 120 _ (ReflectliteType.method ReflectliteType.elem) Tryz.func120 (by kernel_rfl) (by kernel_rfl) (by kernel_rfl) (by kernel_rfl)
  have h38 := @run_callFunc_extern Tryz.prog 121 _ (ReflectliteType.relation "Implements" ReflectliteType.implements_) Tryz.func121 (by kernel_rfl) (by kernel_rfl) (by kernel_rfl) (by kernel_rfl)
  have h10 := @run_callFunc_extern Tryz.prog 61 _ ReflectliteType.typeOf Tryz.func61 (by kernel_rfl) (by kernel_rfl) (by kernel_rfl) (by kernel_rfl)
  have h35 := @run_callFunc_extern Tryz.prog 118 _ (ReflectliteType.relation "AssignableTo" ReflectliteType.assignableTo) Tryz.func118 (by kernel_rfl) (by kernel_rfl) (by kernel_rfl) (by kernel_rfl)
  have tO := asTypeOfE
  have mA := asMethodAssignableTo
  have a25 := asAssignableE
  have nE := noAsE
  have uE := noUnwrapE
  have vE := noUnwrapsE
  have f6 := asValueOfPP
  have f7 := asTypePP
  have mK := asMethodKind
  have mE := asMethodElem
  have mI := asMethodImplements
  have k27 := asKindPP
  have k25 := asKindP
  have e27 := asElemPP
  have i25 := asImplementsP
  have n8 := asIsNilPP ⟨w.heap.size, 0, none⟩ ⟨t, 0, none⟩ ((w.alloc (.cells #[.pointer (some ⟨t, 0, none⟩)] TFPP)).alloc (.cells #[.pointer (some ⟨10, TFPP, none⟩), .pointer (some ⟨w.heap.size, 0, none⟩), .int .u64 150] TRV)) (by simp)
  have hlt : 9 < w.heap.size := by
    rcases Nat.lt_or_ge 9 w.heap.size with h | h
    · exact h
    · simp [World.cell?, Array.getElem?_eq_none h] at hg
  have hg2 : ((w.alloc (.cells #[.pointer (some ⟨t, 0, none⟩)] TFPP)).alloc (.cells #[.pointer (some ⟨10, TFPP, none⟩), .pointer (some ⟨w.heap.size, 0, none⟩), .int .u64 150] TRV)).cell? ⟨9, 0, none⟩ = some (.iface TRT (.agg #[.pointer (some ⟨10, 28, none⟩)])) := by
    rw [World.cell?_alloc_lt _ _ ⟨9, 0, none⟩ (by simp; omega), World.cell?_alloc_lt _ _ ⟨9, 0, none⟩ hlt]; exact hg
  go_enter Tryz.func46, Tryz.ntmps46
  go_wp2
  refine wp_loop_rounds 1 ?_
  rw [rounds_succ]
  go_wp2
  go_ret
  exact ⟨rfl, Hres.out _ rfl⟩
end Go.Proofs.YtimhbgpnkodlaaaGreatDoor

namespace Go.Proofs.YtimhbgpnkodlaaaGreatDoor
open Go.RowKit

abbrev TErr : TypeId := 28

/-- What the nine errors of package api hold, and errors.errorType. -/
structure Errs (w : World) (E : Nat → Addr) : Prop where
  s1 : Sen w 4 (E 1)
  s2 : Sen w 0 (E 2)
  s3 : Sen w 3 (E 3)
  s4 : Sen w 5 (E 4)
  s5 : Sen w 2 (E 5)
  s6 : Sen w 6 (E 6)
  s7 : Sen w 1 (E 7)
  s8 : Sen w 7 (E 8)
  s9 : Sen w 8 (E 9)
  ty : errType w
  row : ∀ k, 1 ≤ k → k ≤ 9 → ∃ c t, w.heap[(E k).block]? = some (.cells c t (0, 0))
  ne : ∀ j k, 1 ≤ j → j ≤ 9 → 1 ≤ k → k ≤ 9 → j ≠ k → E j ≠ E k

theorem errType_new {w w1 : World} (h : errType w) (hu : New w w1) : errType w1 := by
  unfold errType at *
  have hlt : 9 < w.heap.size := World.block_lt_of_cell? w ⟨9, 0, none⟩ h
  exact (hu.cell hlt (fun x => x)).trans h

theorem Errs.new {w w1 : World} {E : Nat → Addr} (h : Errs w E) (hu : New w w1) : Errs w1 E :=
  ⟨h.s1.new hu, h.s2.new hu, h.s3.new hu, h.s4.new hu, h.s5.new hu, h.s6.new hu, h.s7.new hu, h.s8.new hu, h.s9.new hu, errType_new h.ty hu,
    fun k h1 h9 => by
      obtain ⟨c, t, hr⟩ := h.row k h1 h9
      exact ⟨c, t, (hu.block _ (block_lt_of_row hr) (fun x => x)).trans hr⟩, h.ne⟩

/-- errors.Is answers at v: is it the k-th? -/
def IsAt (w : World) (E : Nat → Addr) (v : Value) (k : Nat) : Prop :=
  ∀ j, 1 ≤ j → j ≤ 9 → ∀ w1, New w w1 → Calls Tryz.prog 47 #[v, .iface TES (.pointer (some (E j)))] w1 fun e w2 => e = .returned (.bool (decide (j = k))) ∧ w1 = w2

theorem isAt_sent {w : World} {E : Nat → Addr} (h : Errs w E) (k : Nat) (h1 : 1 ≤ k) (h9 : k ≤ 9) : IsAt w E (errv (E k)) k := by
  intro j j1 j9 w1 hu
  by_cases hjk : j = k
  · subst hjk
    rw [decide_eq_true rfl]
    exact is_same (E j) w1
  · rw [decide_eq_false hjk]
    obtain ⟨c, t, hr⟩ := (h.new hu).row k h1 h9
    obtain ⟨d, u, hs⟩ := (h.new hu).row j j1 j9
    exact is_other (E k) (E j) c d t u w1 (h.ne _ _ h1 h9 j1 j9 (by omega)) hr hs
theorem isAt_fault {w : World} {E : Nat → Addr} (h : Errs w E) (k p : Nat) (i : Int) (h1 : 1 ≤ k) (h9 : k ≤ 9) (hb : Blk w p TF #[.int .i64 i, errv (E k)]) : IsAt w E (.iface TFP (.pointer (some ⟨p, 0, none⟩))) k := by
  intro j j1 j9 w1 hu
  have hc := (hb.new_ hu).cell 1
  simp only [List.getElem?_toArray, List.getElem?_cons_zero, List.getElem?_cons_succ] at hc
  by_cases hjk : j = k
  · subst hjk
    rw [decide_eq_true rfl]
    exact is_fault_same p (E j) w1 hc
  · rw [decide_eq_false hjk]
    obtain ⟨c, t, hr⟩ := (h.new hu).row k h1 h9
    obtain ⟨d, u, hs⟩ := (h.new hu).row j j1 j9
    exact is_fault_other p (E j) (E k) c d t u w1 hc (h.ne _ _ h1 h9 j1 j9 (by omega)) hr hs
theorem isAt_other {w : World} {E : Nat → Addr} (h : Errs w E) (a : Addr) (c : Array Value) (t : TypeId) (hr : w.heap[a.block]? = some (.cells c t (0, 0))) (hne : ∀ j, 1 ≤ j → j ≤ 9 → a ≠ E j) : IsAt w E (errv a) 10 := by
  intro j j1 j9 w1 hu
  rw [decide_eq_false (by omega)]
  obtain ⟨d, u, hs⟩ := (h.new hu).row j j1 j9
  exact is_other a (E j) c d t u w1 (hne j j1 j9) ((hu.block _ (block_lt_of_row hr) (fun x => x)).trans hr) hs

def nine (E : Nat → Addr) : Array Value := #[errv (E 1), errv (E 2), errv (E 3), errv (E 4), errv (E 5), errv (E 6), errv (E 7), errv (E 8), errv (E 9)]
theorem nine_at (E : Nat → Addr) (n : Nat) (h : n < 9) : (nine E)[n]? = some (errv (E (n + 1))) := by
  match n, h with
  | 0, _ => rfl
  | 1, _ => rfl
  | 2, _ => rfl
  | 3, _ => rfl
  | 4, _ => rfl
  | 5, _ => rfl
  | 6, _ => rfl
  | 7, _ => rfl
  | 8, _ => rfl

/-- What Code tells. -/
def codeV (k : Nat) : Int := if k ≤ 9 then k else -1

theorem code_nil (w : World) : Calls Tryz.prog 28 #[.nilIface] w fun e w1 => e = .returned (.tuple #[.int .i64 0, .int .i64 (-1)]) ∧ w = w1 := by
  go_enter Tryz.func28, Tryz.ntmps28
  go_wp2
  go_ret2
  exact ⟨rfl, rfl⟩

set_option maxHeartbeats 2000000 in
theorem code_sent (a : Addr) (k : Nat) (w : World) (E : Nat → Addr) (h : Errs w E) (h1 : 1 ≤ k) (hI : IsAt w E (errv a) k) :
    Calls Tryz.prog 28 #[errv a] w fun e w1 => e = .returned (.tuple #[.int .i64 (codeV k), .int .i64 (-1)]) ∧ New w w1 := by
  have u := (Upd.refl (fun _ => False) w).alloc (.cells #[.pointer none] TFP)
  have Ha := hide (as_sent a w.heap.size (w.alloc (.cells #[.pointer none] TFP)) (errType_new h.ty u))
  have Hu := hide u
  have H := hide h
  have HI := hide hI
  clear u h hI
  unfold errv
  go_enter Tryz.func28, Tryz.ntmps28
  go_wp2_with fail
  refine Ha.out.mono ?_
  rintro e w1 ⟨rfl, hu1⟩
  have n1 : New w w1 := Hu.out.trans_new hu1
  have He := H.out.new n1
  have c1 : w1.cell? ⟨4, 0, none⟩ = some (.iface TES (.pointer (some (E 1)))) := He.s1
  have c2 : w1.cell? ⟨0, 0, none⟩ = some (.iface TES (.pointer (some (E 2)))) := He.s2
  have c3 : w1.cell? ⟨3, 0, none⟩ = some (.iface TES (.pointer (some (E 3)))) := He.s3
  have c4 : w1.cell? ⟨5, 0, none⟩ = some (.iface TES (.pointer (some (E 4)))) := He.s4
  have c5 : w1.cell? ⟨2, 0, none⟩ = some (.iface TES (.pointer (some (E 5)))) := He.s5
  have c6 : w1.cell? ⟨6, 0, none⟩ = some (.iface TES (.pointer (some (E 6)))) := He.s6
  have c7 : w1.cell? ⟨1, 0, none⟩ = some (.iface TES (.pointer (some (E 7)))) := He.s7
  have c8 : w1.cell? ⟨7, 0, none⟩ = some (.iface TES (.pointer (some (E 8)))) := He.s8
  have c9 : w1.cell? ⟨8, 0, none⟩ = some (.iface TES (.pointer (some (E 9)))) := He.s9
  clear He
  have b9 : Blk (w1.alloc (.cells #[.iface TES (.pointer (some (E 1))), .iface TES (.pointer (some (E 2))), .iface TES (.pointer (some (E 3))), .iface TES (.pointer (some (E 4))), .iface TES (.pointer (some (E 5))), .iface TES (.pointer (some (E 6))), .iface TES (.pointer (some (E 7))), .iface TES (.pointer (some (E 8))), .iface TES (.pointer (some (E 9)))] TErr)) w1.heap.size TErr (nine E) := Blk.new _ _ _
  have n2 : New w (w1.alloc (.cells #[.iface TES (.pointer (some (E 1))), .iface TES (.pointer (some (E 2))), .iface TES (.pointer (some (E 3))), .iface TES (.pointer (some (E 4))), .iface TES (.pointer (some (E 5))), .iface TES (.pointer (some (E 6))), .iface TES (.pointer (some (E 7))), .iface TES (.pointer (some (E 8))), .iface TES (.pointer (some (E 9)))] TErr)) := n1.alloc _
  have B9 := hide b9
  have N2 := hide n2
  clear b9 n2
  go_wp2_with fail
  clear c1 c2 c3 c4 c5 c6 c7 c8 c9
  generalize (w1.alloc (.cells #[.iface TES (.pointer (some (E 1))), .iface TES (.pointer (some (E 2))), .iface TES (.pointer (some (E 3))), .iface TES (.pointer (some (E 4))), .iface TES (.pointer (some (E 5))), .iface TES (.pointer (some (E 6))), .iface TES (.pointer (some (E 7))), .iface TES (.pointer (some (E 8))), .iface TES (.pointer (some (E 9)))] TErr)) = w2 at *
  go_loop [3, 27] (fun u i => ∃ n : Nat, n ≤ 9 ∧ i = .int .i64 n ∧ u = .int .i64 (-1) ∧ n < k) (fun _ i => 9 - (intOf i).toNat)
  case atStart => exact ⟨0, by omega, rfl, rfl, by omega⟩
  case round =>
    obtain ⟨n, hn, rfl, rfl, hnk⟩ := hrel
    by_cases hlt : n < 9
    · have i1 : (n : Int) < 9 := by omega
      have cn := B9.out.cell n
      rw [nine_at E n hlt] at cn
      unfold errv at cn
      have z2 := B9.out.lt
      by_cases hk : n + 1 = k
      · have Hc := HI.out (n + 1) (by omega) (by omega) w2 N2.out
        rw [decide_eq_true hk] at Hc
        have Hc1 := hide Hc
        have Hk := hide hk
        clear Hc hk
        go_wp2_with fail
        refine Hc1.out.mono ?_
        rintro e w3 ⟨rfl, rfl⟩
        go_wp2_with fail
        go_ret2
        exact ⟨by have := Hk.out; unfold codeV; rw [if_pos (by omega), ← this]; push_cast; rfl, N2.out⟩
      · have Hc := HI.out (n + 1) (by omega) (by omega) w2 N2.out
        rw [decide_eq_false hk] at Hc
        have Hc1 := hide Hc
        clear Hc
        go_wp2_with fail
        refine Hc1.out.mono ?_
        rintro e w3 ⟨rfl, rfl⟩
        go_wp2_with fail
        exact ⟨⟨n + 1, by omega, by go_num, rfl, by omega⟩, by simp [intOf]; omega⟩
    · have h9 : n = 9 := by omega
      subst h9
      go_wp2_with fail
      go_ret2
      have hcv : codeV k = -1 := by unfold codeV; rw [if_neg (by omega)]
      exact ⟨by rw [hcv]; rfl, N2.out⟩

set_option maxHeartbeats 2000000 in
theorem code_fault (p k : Nat) (i : Int) (w : World) (E : Nat → Addr) (h : Errs w E) (h1 : 1 ≤ k) (hb : Blk w p TF #[.int .i64 i, errv (E k)]) (hI : IsAt w E (.iface TFP (.pointer (some ⟨p, 0, none⟩))) k) :
    Calls Tryz.prog 28 #[.iface TFP (.pointer (some ⟨p, 0, none⟩))] w fun e w1 => e = .returned (.tuple #[.int .i64 (codeV k), .int .i64 i]) ∧ New w w1 := by
  have u := (Upd.refl (fun _ => False) w).alloc (.cells #[.pointer none] TFP)
  have Ha := hide (as_fault p w.heap.size (w.alloc (.cells #[.pointer none] TFP)) (errType_new h.ty u) (Blk.new _ _ _))
  have Hu := hide u
  have H := hide h
  have HI := hide hI
  have Hb := hide hb
  clear u h hI hb
  go_enter Tryz.func28, Tryz.ntmps28
  go_wp2_with fail
  refine Ha.out.mono ?_
  rintro e w1 ⟨rfl, hu1, hb1⟩
  have n1 : New w w1 := Hu.out.trans hu1 fun k hk hx => by omega
  have cf := hb1.cell 0
  have zf := hb1.lt
  have cp := (Hb.out.new_ n1).cell 0
  simp only [List.getElem?_toArray, List.getElem?_cons_zero] at cf cp
  have He := H.out.new n1
  have c1 : w1.cell? ⟨4, 0, none⟩ = some (.iface TES (.pointer (some (E 1)))) := He.s1
  have c2 : w1.cell? ⟨0, 0, none⟩ = some (.iface TES (.pointer (some (E 2)))) := He.s2
  have c3 : w1.cell? ⟨3, 0, none⟩ = some (.iface TES (.pointer (some (E 3)))) := He.s3
  have c4 : w1.cell? ⟨5, 0, none⟩ = some (.iface TES (.pointer (some (E 4)))) := He.s4
  have c5 : w1.cell? ⟨2, 0, none⟩ = some (.iface TES (.pointer (some (E 5)))) := He.s5
  have c6 : w1.cell? ⟨6, 0, none⟩ = some (.iface TES (.pointer (some (E 6)))) := He.s6
  have c7 : w1.cell? ⟨1, 0, none⟩ = some (.iface TES (.pointer (some (E 7)))) := He.s7
  have c8 : w1.cell? ⟨7, 0, none⟩ = some (.iface TES (.pointer (some (E 8)))) := He.s8
  have c9 : w1.cell? ⟨8, 0, none⟩ = some (.iface TES (.pointer (some (E 9)))) := He.s9
  clear He hb1
  have b9 : Blk (w1.alloc (.cells #[.iface TES (.pointer (some (E 1))), .iface TES (.pointer (some (E 2))), .iface TES (.pointer (some (E 3))), .iface TES (.pointer (some (E 4))), .iface TES (.pointer (some (E 5))), .iface TES (.pointer (some (E 6))), .iface TES (.pointer (some (E 7))), .iface TES (.pointer (some (E 8))), .iface TES (.pointer (some (E 9)))] TErr)) w1.heap.size TErr (nine E) := Blk.new _ _ _
  have n2 : New w (w1.alloc (.cells #[.iface TES (.pointer (some (E 1))), .iface TES (.pointer (some (E 2))), .iface TES (.pointer (some (E 3))), .iface TES (.pointer (some (E 4))), .iface TES (.pointer (some (E 5))), .iface TES (.pointer (some (E 6))), .iface TES (.pointer (some (E 7))), .iface TES (.pointer (some (E 8))), .iface TES (.pointer (some (E 9)))] TErr)) := n1.alloc _
  have B9 := hide b9
  have N2 := hide n2
  clear b9 n2
  go_wp2_with fail
  clear c1 c2 c3 c4 c5 c6 c7 c8 c9 cf cp
  generalize (w1.alloc (.cells #[.iface TES (.pointer (some (E 1))), .iface TES (.pointer (some (E 2))), .iface TES (.pointer (some (E 3))), .iface TES (.pointer (some (E 4))), .iface TES (.pointer (some (E 5))), .iface TES (.pointer (some (E 6))), .iface TES (.pointer (some (E 7))), .iface TES (.pointer (some (E 8))), .iface TES (.pointer (some (E 9)))] TErr)) = w2 at *
  go_loop [3, 27] (fun u j => ∃ n : Nat, n ≤ 9 ∧ j = .int .i64 n ∧ u = .int .i64 i ∧ n < k) (fun _ j => 9 - (intOf j).toNat)
  case atStart => exact ⟨0, by omega, rfl, rfl, by omega⟩
  case round =>
    obtain ⟨n, hn, rfl, rfl, hnk⟩ := hrel
    by_cases hlt : n < 9
    · have i1 : (n : Int) < 9 := by omega
      have cn := B9.out.cell n
      rw [nine_at E n hlt] at cn
      unfold errv at cn
      have z2 := B9.out.lt
      by_cases hk : n + 1 = k
      · have Hc := HI.out (n + 1) (by omega) (by omega) w2 N2.out
        rw [decide_eq_true hk] at Hc
        have Hc1 := hide Hc
        have Hk := hide hk
        clear Hc hk
        go_wp2_with fail
        refine Hc1.out.mono ?_
        rintro e w3 ⟨rfl, rfl⟩
        go_wp2_with fail
        go_ret2
        exact ⟨by have := Hk.out; unfold codeV; rw [if_pos (by omega), ← this]; push_cast; rfl, N2.out⟩
      · have Hc := HI.out (n + 1) (by omega) (by omega) w2 N2.out
        rw [decide_eq_false hk] at Hc
        have Hc1 := hide Hc
        clear Hc
        go_wp2_with fail
        refine Hc1.out.mono ?_
        rintro e w3 ⟨rfl, rfl⟩
        go_wp2_with fail
        exact ⟨⟨n + 1, by omega, by go_num, rfl, by omega⟩, by simp [intOf]; omega⟩
    · have h9 : n = 9 := by omega
      subst h9
      go_wp2_with fail
      go_ret2
      have hcv : codeV k = -1 := by unfold codeV; rw [if_neg (by omega)]
      exact ⟨by rw [hcv]; rfl, N2.out⟩

theorem codeV_le {k : Nat} (h : k ≤ 9) : codeV k = k := by unfold codeV; rw [if_pos h]

/-- Code at an error of the package's. -/
theorem code_any (v : Value) (k : Nat) (i : Int) (w : World) (E : Nat → Addr) (h : Errs w E) (hv : ErrV w E v k i) :
    Calls Tryz.prog 28 #[v] w fun e w1 => e = .returned (.tuple #[.int .i64 k, .int .i64 i]) ∧ New w w1 := by
  rcases hv with ⟨rfl, rfl, rfl⟩ | ⟨h1, h9, rfl, rfl⟩ | ⟨h1, h9, p, rfl, hb⟩
  · exact (code_nil w).mono fun _ _ ⟨he, hw⟩ => ⟨he, hw ▸ Upd.refl _ _⟩
  · exact (code_sent (E k) k w E h h1 (isAt_sent h k h1 h9)).mono fun _ _ ⟨he, hw⟩ => ⟨by rw [he, codeV_le h9], hw⟩
  · exact (code_fault p k i w E h h1 hb (isAt_fault h k p i h1 h9 hb)).mono fun _ _ ⟨he, hw⟩ => ⟨by rw [he, codeV_le h9], hw⟩
end Go.Proofs.YtimhbgpnkodlaaaGreatDoor

namespace Go.Proofs.YtimhbgpnkodlaaaGreatDoor
open Go.RowKit

end Go.Proofs.YtimhbgpnkodlaaaGreatDoor

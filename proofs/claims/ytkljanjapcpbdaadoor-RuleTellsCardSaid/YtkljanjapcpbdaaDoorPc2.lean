/- Package errors: As, the target an *api.Fault's variable. No condition but those that stand in each theorem. -/
import Derived.Test.YtkljanjapcpbdaaDoorPc1
namespace Go.Proofs.YtkljanjapcpbdaaDoor
open Go.RowKit Go.Extern.Stop Go.Stop Go.Extern

abbrev TFPP : TypeId := 176
abbrev TRT : TypeId := 216
abbrev TRV : TypeId := 197
/-- What errors.errorType holds. -/
def errType (w : World) : Prop := w.cell? ⟨9, 0, none⟩ = some (.iface 216 (.agg #[.pointer (some ⟨18, 27, none⟩)]))

theorem asValueOfPP (t : Addr) (w : World) : (ReflectliteValue.unpack (.iface TFPP (.pointer (some t)))).run Tryd.prog w
    = .ok (.agg #[.pointer (some ⟨18, TFPP, none⟩), .pointer (some ⟨w.heap.size, 0, none⟩), .int .u64 150]) (w.alloc (.cells #[.pointer (some t)] TFPP)) := by kernel_rfl
theorem asTypePP (a : Addr) (w : World) : (ReflectliteValue.methodAny (ReflectliteValue.valueError "reflectlite.Value.Type" 0) (fun t _ _ _ => ReflectliteType.toType t) #[.agg #[.pointer (some ⟨18, TFPP, none⟩), .pointer (some a), .int .u64 150]]).run Tryd.prog w
    = .ok (.iface TRT (.agg #[.pointer (some ⟨18, TFPP, none⟩)])) w := by kernel_rfl
theorem asMethodKind (h : Value) (w : World) : (Go.method 408 TRT (.agg #[h]) "Kind").run Tryd.prog w = .ok (221, h) w := by kernel_rfl
theorem asKindPP (w : World) : ((ReflectliteType.abiMethod fun t => (fun a : Nat => Value.int IntKind.u8 (a : Int)) <$> Rtype.kind t) #[.pointer (some ⟨18, TFPP, none⟩)]).run Tryd.prog w = .ok (.int .u8 22) w := by kernel_rfl
theorem asKindP (w : World) : ((ReflectliteType.abiMethod fun t => (fun a : Nat => Value.int IntKind.u8 (a : Int)) <$> Rtype.kind t) #[.pointer (some ⟨18, TFP, none⟩)]).run Tryd.prog w = .ok (.int .u8 22) w := by kernel_rfl

theorem rlm (z : Sem Value) (f : TypeId → Addr → Nat → Nat → Sem Value) (v : Value) :
    ReflectliteValue.method z f #[v] = (do match ← ReflectliteValue.parts v with | none => z | some (t, a, fl) => f t a fl (fl % 32)) := rfl
theorem asPartsPP (a : Addr) (w : World) : (ReflectliteValue.parts (.agg #[.pointer (some ⟨18, TFPP, none⟩), .pointer (some a), .int .u64 150])).run Tryd.prog w = .ok (some (TFPP, a, 150)) w := by kernel_rfl
theorem asIsNilPP (a p : Addr) (W : World) (ha : W.cell? a = some (.pointer (some p))) :
    (ReflectliteValue.method (ReflectliteValue.valueError "reflectlite.Value.IsNil" 0) ReflectliteValue.isNil #[.agg #[.pointer (some ⟨18, TFPP, none⟩), .pointer (some a), .int .u64 150]]).run Tryd.prog W = .ok (.bool false) W := by
  rw [rlm]
  simp only [Sem.run_bind, asPartsPP, Result.andThen]
  simp [ReflectliteValue.isNil, loadVar, isAgg, underlying, Tryd.underlying176, ha, Result.andThen]

theorem asMethodElem (h : Value) (w : World) : (Go.method 408 TRT (.agg #[h]) "Elem").run Tryd.prog w = .ok (232, .agg #[h]) w := by kernel_rfl
theorem asMethodImplements (h : Value) (w : World) : (Go.method 408 TRT (.agg #[h]) "Implements").run Tryd.prog w = .ok (233, .agg #[h]) w := by kernel_rfl
theorem asMethodAssignableTo (h : Value) (w : World) : (Go.method 408 TRT (.agg #[h]) "AssignableTo").run Tryd.prog w = .ok (230, .agg #[h]) w := by kernel_rfl
theorem asElemPP (w : World) : (ReflectliteType.method ReflectliteType.elem #[.agg #[.pointer (some ⟨18, TFPP, none⟩)]]).run Tryd.prog w = .ok (.iface TRT (.agg #[.pointer (some ⟨18, TFP, none⟩)])) w := by kernel_rfl
theorem asImplementsP (w : World) : (ReflectliteType.relation "Implements" ReflectliteType.implements_ #[.agg #[.pointer (some ⟨18, TFP, none⟩)], .iface TRT (.agg #[.pointer (some ⟨18, 27, none⟩)])]).run Tryd.prog w = .ok (.bool true) w := by kernel_rfl
theorem asTypeOfP (v : Value) (w : World) : (ReflectliteType.typeOf #[.iface TFP v]).run Tryd.prog w = .ok (.iface TRT (.agg #[.pointer (some ⟨18, TFP, none⟩)])) w := by kernel_rfl
theorem asTypeOfE (v : Value) (w : World) : (ReflectliteType.typeOf #[.iface TES v]).run Tryd.prog w = .ok (.iface TRT (.agg #[.pointer (some ⟨18, TES, none⟩)])) w := by kernel_rfl
theorem asAssignableP (w : World) : (ReflectliteType.relation "AssignableTo" ReflectliteType.assignableTo #[.agg #[.pointer (some ⟨18, TFP, none⟩)], .iface TRT (.agg #[.pointer (some ⟨18, TFP, none⟩)])]).run Tryd.prog w = .ok (.bool true) w := by kernel_rfl
theorem asAssignableE (w : World) : (ReflectliteType.relation "AssignableTo" ReflectliteType.assignableTo #[.agg #[.pointer (some ⟨18, TES, none⟩)], .iface TRT (.agg #[.pointer (some ⟨18, TFP, none⟩)])]).run Tryd.prog w = .ok (.bool false) w := by kernel_rfl
theorem asValueOfP (e : Addr) (w : World) : (ReflectliteValue.unpack (.iface TFP (.pointer (some e)))).run Tryd.prog w
    = .ok (.agg #[.pointer (some ⟨18, TFP, none⟩), .pointer (some ⟨w.heap.size, 0, none⟩), .int .u64 150]) (w.alloc (.cells #[.pointer (some e)] TFP)) := by kernel_rfl
theorem asElemOfPP (w : World) : (Rtype.elem? TFPP).run Tryd.prog w = .ok (some TFP) w := by kernel_rfl
theorem asMkP (p : Addr) (w : World) : (ReflectliteValue.mk TFP p ReflectliteValue.flagAddr).run Tryd.prog w = .ok (.agg #[.pointer (some ⟨18, TFP, none⟩), .pointer (some p), .int .u64 406]) w := by kernel_rfl
theorem asElemVPP (a p : Addr) (W : World) (ha : W.cell? a = some (.pointer (some p))) :
    (ReflectliteValue.method (ReflectliteValue.valueError "reflectlite.Value.Elem" 0) ReflectliteValue.elem #[.agg #[.pointer (some ⟨18, TFPP, none⟩), .pointer (some a), .int .u64 150]]).run Tryd.prog W
      = .ok (.agg #[.pointer (some ⟨18, TFP, none⟩), .pointer (some p), .int .u64 406]) W := by
  rw [rlm]
  simp only [Sem.run_bind, asPartsPP, Result.andThen]
  simp [ReflectliteValue.elem, loadVar, isAgg, underlying, Tryd.underlying176, ha, Result.andThen, asElemOfPP, asMkP]
theorem rls (v x : Value) : ReflectliteValue.set #[v, x] = (do
    let (some (dst, a, fl), some (src, b, _)) := (← ReflectliteValue.parts v, ← ReflectliteValue.parts x)
      | unsupported (.noEntry "extern/(internal/reflectlite.Value).Set.zeroValue")
    if fl / ReflectliteValue.flagAddr % 2 == 0 then unsupported (.noEntry "extern/(internal/reflectlite.Value).Set.unaddressable")
    let val ← loadVar src b
    if ← Rtype.directlyAssignable dst src then storeVar dst a val
    else if ← Rtype.implements dst src then
      if (← Rtype.kind src) == 20 then
        match val with
        | .nilIface => unsupported (.noEntry "extern/reflectlite: a nil value of one interface type handed on as a value of another")
        | _ => storeVar dst a val
      else storeVar dst a (.iface src val)
    else panicString ("reflectlite.Set: value of type " ++ (← Rtype.spelt src) ++ " is not assignable to type " ++ (← Rtype.spelt dst))
    pure (.tuple #[])) := rfl
theorem asPartsPa (a : Addr) (w : World) : (ReflectliteValue.parts (.agg #[.pointer (some ⟨18, TFP, none⟩), .pointer (some a), .int .u64 406])).run Tryd.prog w = .ok (some (TFP, a, 406)) w := by kernel_rfl
theorem asPartsP (a : Addr) (w : World) : (ReflectliteValue.parts (.agg #[.pointer (some ⟨18, TFP, none⟩), .pointer (some a), .int .u64 150])).run Tryd.prog w = .ok (some (TFP, a, 150)) w := by kernel_rfl
theorem asDirectP (w : World) : (Rtype.directlyAssignable TFP TFP).run Tryd.prog w = .ok true w := by kernel_rfl
theorem asSetP (ta b e : Addr) (old : Value) (W : World) (hb : W.cell? b = some (.pointer (some e))) (ht : W.cell? ta = some old) (hf : W.frozen? ta = false) :
    (ReflectliteValue.set #[.agg #[.pointer (some ⟨18, TFP, none⟩), .pointer (some ta), .int .u64 406], .agg #[.pointer (some ⟨18, TFP, none⟩), .pointer (some b), .int .u64 150]]).run Tryd.prog W
      = .ok (.tuple #[]) (W.setCell ta (.pointer (some e))) := by
  rw [rls]
  simp only [Sem.run_bind, asPartsPa, asPartsP, Result.andThen]
  simp [ReflectliteValue.flagAddr, loadVar, isAgg, underlying, Tryd.underlying132, hb, Result.andThen, asDirectP, storeVar, Value.cells, storeCells, Addr.add]
  rw [run_store Tryd.prog W ta _ _ (by rfl)]
  simp [ht, hf]

set_option maxHeartbeats 4000000 in
/-- A fault is found, and laid into the target. -/
theorem as_fault (p t : Nat) (w : World) (hg : errType w) (hb : Blk w t TFP #[.pointer none]) :
    Calls Tryd.prog 124 #[.iface TFP (.pointer (some ⟨p, 0, none⟩)), .iface TFPP (.pointer (some ⟨t, 0, none⟩))] w fun e w1 => e = .returned (.bool true) ∧ Upd (fun k => k = t) w w1 ∧ Blk w1 t TFP #[.pointer (some ⟨p, 0, none⟩)] := by
  have hres : ∀ w1, w1 = ((((w.alloc (.cells #[.pointer (some ⟨t, 0, none⟩)] TFPP)).alloc (.cells #[.pointer (some ⟨18, TFPP, none⟩), .pointer (some ⟨w.heap.size, 0, none⟩), .int .u64 150] TRV)).alloc (.cells #[.pointer (some ⟨18, TFPP, none⟩), .pointer (some ⟨w.heap.size, 0, none⟩), .int .u64 150] TRV)).alloc (.cells #[.pointer (some ⟨p, 0, none⟩)] TFP)).setCell ⟨t, 0, none⟩ (.pointer (some ⟨p, 0, none⟩)) → Upd (fun k => k = t) w w1 ∧ Blk w1 t TFP #[.pointer (some ⟨p, 0, none⟩)] := by
    rintro w1 rfl
    exact ⟨(((((Upd.refl (fun k => k = t) w).alloc _).alloc _).alloc _).alloc _).setCell (p := ⟨t, 0, none⟩) (.inl rfl) _, by simpa using ((((hb.alloc _).alloc _).alloc _).alloc _).set_ 0 (.pointer (some ⟨p, 0, none⟩))⟩
  have Hres := hide hres
  clear hres
  have ht0 := hb.cell 0
  have hf0 := hb.frozen 0
  have htl := hb.lt
  simp only [List.getElem?_toArray, List.getElem?_cons_zero] at ht0
  unfold errType at hg
  have h6 := @run_callFunc_extern Tryd.prog 147 _ (fun args => ReflectliteValue.unpack (args.getD 0 (.tuple #[]))) Tryd.func147 (by kernel_rfl) (by kernel_rfl) (by kernel_rfl) (by kernel_rfl)
  have h7 := @run_callFunc_extern Tryd.prog 148 _ (ReflectliteValue.methodAny (ReflectliteValue.valueError "reflectlite.Value.Type" 0) (fun t _ _ _ => ReflectliteType.toType t)) Tryd.func148 (by kernel_rfl) (by kernel_rfl) (by kernel_rfl) (by kernel_rfl)
  have h8 := @run_callFunc_extern Tryd.prog 149 _ (ReflectliteValue.method (ReflectliteValue.valueError "reflectlite.Value.IsNil" 0) ReflectliteValue.isNil) Tryd.func149 (by kernel_rfl) (by kernel_rfl) (by kernel_rfl) (by kernel_rfl)
  have h27 := @run_callFunc_extern Tryd.prog 221 _ (ReflectliteType.abiMethod fun t => do pure (.int .u8 (← Rtype.kind t))) Tryd.func221 (by kernel_rfl) (by kernel_rfl) (by kernel_rfl) (by kernel_rfl)
  have h37 := @run_callFunc_extern Tryd.prog 232 _ (ReflectliteType.method ReflectliteType.elem) Tryd.func232 (by kernel_rfl) (by kernel_rfl) (by kernel_rfl) (by kernel_rfl)
  have h38 := @run_callFunc_extern Tryd.prog 233 _ (ReflectliteType.relation "Implements" ReflectliteType.implements_) Tryd.func233 (by kernel_rfl) (by kernel_rfl) (by kernel_rfl) (by kernel_rfl)
  have h10 := @run_callFunc_extern Tryd.prog 151 _ ReflectliteType.typeOf Tryd.func151 (by kernel_rfl) (by kernel_rfl) (by kernel_rfl) (by kernel_rfl)
  have h35 := @run_callFunc_extern Tryd.prog 230 _ (ReflectliteType.relation "AssignableTo" ReflectliteType.assignableTo) Tryd.func230 (by kernel_rfl) (by kernel_rfl) (by kernel_rfl) (by kernel_rfl)
  have h11 := @run_callFunc_extern Tryd.prog 162 _ (ReflectliteValue.method (ReflectliteValue.valueError "reflectlite.Value.Elem" 0) ReflectliteValue.elem) Tryd.func162 (by kernel_rfl) (by kernel_rfl) (by kernel_rfl) (by kernel_rfl)
  have h12 := @run_callFunc_extern Tryd.prog 163 _ ReflectliteValue.set Tryd.func163 (by kernel_rfl) (by kernel_rfl) (by kernel_rfl) (by kernel_rfl)
  have tO := asTypeOfP
  have mA := asMethodAssignableTo
  have a25 := asAssignableP
  have v25 := asValueOfP
  have f6 := asValueOfPP
  have f7 := asTypePP
  have mK := asMethodKind
  have mE := asMethodElem
  have mI := asMethodImplements
  have k27 := asKindPP
  have k25 := asKindP
  have e27 := asElemPP
  have i25 := asImplementsP
  have n8 := asIsNilPP ⟨w.heap.size, 0, none⟩ ⟨t, 0, none⟩ ((w.alloc (.cells #[.pointer (some ⟨t, 0, none⟩)] TFPP)).alloc (.cells #[.pointer (some ⟨18, TFPP, none⟩), .pointer (some ⟨w.heap.size, 0, none⟩), .int .u64 150] TRV)) (by simp)
  have hlt : 9 < w.heap.size := by
    rcases Nat.lt_or_ge 9 w.heap.size with h | h
    · exact h
    · simp [World.cell?, Array.getElem?_eq_none h] at hg
  have hg2 : ((w.alloc (.cells #[.pointer (some ⟨t, 0, none⟩)] TFPP)).alloc (.cells #[.pointer (some ⟨18, TFPP, none⟩), .pointer (some ⟨w.heap.size, 0, none⟩), .int .u64 150] TRV)).cell? ⟨9, 0, none⟩ = some (.iface TRT (.agg #[.pointer (some ⟨18, 27, none⟩)])) := by
    rw [World.cell?_alloc_lt _ _ ⟨9, 0, none⟩ (by simp; omega), World.cell?_alloc_lt _ _ ⟨9, 0, none⟩ hlt]; exact hg
  have el := asElemVPP ⟨w.heap.size, 0, none⟩ ⟨t, 0, none⟩ (((w.alloc (.cells #[.pointer (some ⟨t, 0, none⟩)] TFPP)).alloc (.cells #[.pointer (some ⟨18, TFPP, none⟩), .pointer (some ⟨w.heap.size, 0, none⟩), .int .u64 150] TRV)).alloc (.cells #[.pointer (some ⟨18, TFPP, none⟩), .pointer (some ⟨w.heap.size, 0, none⟩), .int .u64 150] TRV)) (by rw [World.cell?_alloc_lt _ _ ⟨w.heap.size, 0, none⟩ (by simp; omega)]; simp)
  have st := asSetP ⟨t, 0, none⟩ ⟨w.heap.size + 1 + 1 + 1, 0, none⟩ ⟨p, 0, none⟩ (.pointer none) ((((w.alloc (.cells #[.pointer (some ⟨t, 0, none⟩)] TFPP)).alloc (.cells #[.pointer (some ⟨18, TFPP, none⟩), .pointer (some ⟨w.heap.size, 0, none⟩), .int .u64 150] TRV)).alloc (.cells #[.pointer (some ⟨18, TFPP, none⟩), .pointer (some ⟨w.heap.size, 0, none⟩), .int .u64 150] TRV)).alloc (.cells #[.pointer (some ⟨p, 0, none⟩)] TFP))
    (by rw [World.cell?_alloc_at _ _ _ _ (by simp)]; rfl)
    (by have := ((((hb.alloc (.cells #[.pointer (some ⟨t, 0, none⟩)] TFPP)).alloc (.cells #[.pointer (some ⟨18, TFPP, none⟩), .pointer (some ⟨w.heap.size, 0, none⟩), .int .u64 150] TRV)).alloc (.cells #[.pointer (some ⟨18, TFPP, none⟩), .pointer (some ⟨w.heap.size, 0, none⟩), .int .u64 150] TRV)).alloc (.cells #[.pointer (some ⟨p, 0, none⟩)] TFP)).cell 0; simpa using this)
    (by have := ((((hb.alloc (.cells #[.pointer (some ⟨t, 0, none⟩)] TFPP)).alloc (.cells #[.pointer (some ⟨18, TFPP, none⟩), .pointer (some ⟨w.heap.size, 0, none⟩), .int .u64 150] TRV)).alloc (.cells #[.pointer (some ⟨18, TFPP, none⟩), .pointer (some ⟨w.heap.size, 0, none⟩), .int .u64 150] TRV)).alloc (.cells #[.pointer (some ⟨p, 0, none⟩)] TFP)).frozen 0; simpa using this)
  clear hb
  go_enter Tryd.func124, Tryd.ntmps124
  go_wp2
  refine wp_loop_rounds 1 ?_
  rw [rounds_succ]
  go_wp2
  go_ret
  exact ⟨rfl, Hres.out _ rfl⟩

set_option maxHeartbeats 4000000 in
/-- A sentinel is no fault. -/
theorem as_sent (a : Addr) (t : Nat) (w : World) (hg : errType w) :
    Calls Tryd.prog 124 #[.iface TES (.pointer (some a)), .iface TFPP (.pointer (some ⟨t, 0, none⟩))] w fun e w1 => e = .returned (.bool false) ∧ New w w1 := by
  have hres : ∀ w1, w1 = (((w.alloc (.cells #[.pointer (some ⟨t, 0, none⟩)] TFPP)).alloc (.cells #[.pointer (some ⟨18, TFPP, none⟩), .pointer (some ⟨w.heap.size, 0, none⟩), .int .u64 150] TRV)).alloc (.cells #[.pointer (some ⟨18, TFPP, none⟩), .pointer (some ⟨w.heap.size, 0, none⟩), .int .u64 150] TRV)) → New w w1 := by
    rintro w1 rfl
    exact (((Upd.refl _ w).alloc _).alloc _).alloc _
  have Hres := hide hres
  clear hres
  unfold errType at hg
  have h6 := @run_callFunc_extern Tryd.prog 147 _ (fun args => ReflectliteValue.unpack (args.getD 0 (.tuple #[]))) Tryd.func147 (by kernel_rfl) (by kernel_rfl) (by kernel_rfl) (by kernel_rfl)
  have h7 := @run_callFunc_extern Tryd.prog 148 _ (ReflectliteValue.methodAny (ReflectliteValue.valueError "reflectlite.Value.Type" 0) (fun t _ _ _ => ReflectliteType.toType t)) Tryd.func148 (by kernel_rfl) (by kernel_rfl) (by kernel_rfl) (by kernel_rfl)
  have h8 := @run_callFunc_extern Tryd.prog 149 _ (ReflectliteValue.method (ReflectliteValue.valueError "reflectlite.Value.IsNil" 0) ReflectliteValue.isNil) Tryd.func149 (by kernel_rfl) (by kernel_rfl) (by kernel_rfl) (by kernel_rfl)
  have h27 := @run_callFunc_extern Tryd.prog 221 _ (ReflectliteType.abiMethod fun t => do pure (.int .u8 (← Rtype.kind t))) Tryd.func221 (by kernel_rfl) (by kernel_rfl) (by kernel_rfl) (by kernel_rfl)
  have h37 := @run_callFunc_extern Tryd.prog 232 _ (ReflectliteType.method ReflectliteType.elem) Tryd.func232 (by kernel_rfl) (by kernel_rfl) (by kernel_rfl) (by kernel_rfl)
  have h38 := @run_callFunc_extern Tryd.prog 233 _ (ReflectliteType.relation "Implements" ReflectliteType.implements_) Tryd.func233 (by kernel_rfl) (by kernel_rfl) (by kernel_rfl) (by kernel_rfl)
  have h10 := @run_callFunc_extern Tryd.prog 151 _ ReflectliteType.typeOf Tryd.func151 (by kernel_rfl) (by kernel_rfl) (by kernel_rfl) (by kernel_rfl)
  have h35 := @run_callFunc_extern Tryd.prog 230 _ (ReflectliteType.relation "AssignableTo" ReflectliteType.assignableTo) Tryd.func230 (by kernel_rfl) (by kernel_rfl) (by kernel_rfl) (by kernel_rfl)
  have tO := asTypeOfE
  have mA := asMethodAssignableTo
  have a25 := asAssignableE
  have nE := noAsE
  have uE := noUnwrapE
  have vE := noUnwrapsE
  have f6 := asValueOfPP
  have f7 := asTypePP
  have mK := asMethodKind
  have mE := asMethodElem
  have mI := asMethodImplements
  have k27 := asKindPP
  have k25 := asKindP
  have e27 := asElemPP
  have i25 := asImplementsP
  have n8 := asIsNilPP ⟨w.heap.size, 0, none⟩ ⟨t, 0, none⟩ ((w.alloc (.cells #[.pointer (some ⟨t, 0, none⟩)] TFPP)).alloc (.cells #[.pointer (some ⟨18, TFPP, none⟩), .pointer (some ⟨w.heap.size, 0, none⟩), .int .u64 150] TRV)) (by simp)
  have hlt : 9 < w.heap.size := by
    rcases Nat.lt_or_ge 9 w.heap.size with h | h
    · exact h
    · simp [World.cell?, Array.getElem?_eq_none h] at hg
  have hg2 : ((w.alloc (.cells #[.pointer (some ⟨t, 0, none⟩)] TFPP)).alloc (.cells #[.pointer (some ⟨18, TFPP, none⟩), .pointer (some ⟨w.heap.size, 0, none⟩), .int .u64 150] TRV)).cell? ⟨9, 0, none⟩ = some (.iface TRT (.agg #[.pointer (some ⟨18, 27, none⟩)])) := by
    rw [World.cell?_alloc_lt _ _ ⟨9, 0, none⟩ (by simp; omega), World.cell?_alloc_lt _ _ ⟨9, 0, none⟩ hlt]; exact hg
  go_enter Tryd.func124, Tryd.ntmps124
  go_wp2
  refine wp_loop_rounds 1 ?_
  rw [rounds_succ]
  go_wp2
  go_ret
  exact ⟨rfl, Hres.out _ rfl⟩
end Go.Proofs.YtkljanjapcpbdaaDoor

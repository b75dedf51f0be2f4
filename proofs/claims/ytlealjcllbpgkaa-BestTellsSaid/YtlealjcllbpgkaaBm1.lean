/- Maps of numbers that the program makes: what is at each number (0: nothing), how many entries. No condition but those that stand in each theorem. -/
import Derived.Test.YtlealjcllbpgkaaHp
import Derived.Maps.OwnOps
import Derived.Maps.OwnSet
import Derived.Maps.RangeWalk
import Derived.Below
namespace Go.Proofs.Ytlealjcllbpgkaa
open Go.RowKit Go.Maps

def updZ (f : Int → Int) (a v : Int) : Int → Int := fun x => if x = a then v else f x
def I64 (a : Int) : Prop := -9223372036854775808 ≤ a ∧ a ≤ 9223372036854775807
/-- Block b is a map: f says what is at each number (0: nothing); so many entries. -/
def MapI (P : Program) (k e : TypeId) (w : World) (b : Nat) (f : Int → Int) (cnt : Nat) : Prop :=
  ∃ D : DataW Unit, w.ownsMap P k (plainElem P e) b cnt D ∧ Maps.size D = cnt ∧ ∀ a : Int, Maps.has D (.int .i64 a) = decide (f a ≠ 0) ∧ D.atKey (.int .i64 a) (.lit (.int .i64 0)) = .lit (.int .i64 (f a))
theorem owns_size {P : Program} {k : TypeId} {R : Value → Option (DataW Unit × List MemPlace)} {w : World} {b n : Nat} {D : DataW Unit} (h : w.ownsMap P k R b n D) : w.ownsMap P k R b (Maps.size D) D := by
  obtain ⟨es, clock, h1, h2, h3, h4⟩ := h
  refine ⟨es, clock, h1, h2, ?_, h4⟩
  rw [h4]
  exact Nat.le_of_eq (length_read es).symm
section
variable {P : Program} {k e t : TypeId} {w w1 : World} {b cnt : Nat} {f : Int → Int}
theorem mapI_made (w : World) (P : Program) (k e : TypeId) : MapI P k e (w.alloc (.map #[] 0)) w.heap.size (fun _ => 0) 0 :=
  ⟨.map [], World.ownsMap_made _ _ _ _, rfl, fun _ => ⟨rfl, rfl⟩⟩
theorem MapI.lt (h : MapI P k e w b f cnt) : b < w.heap.size := by
  obtain ⟨D, h1, _⟩ := h
  exact h1.lt
theorem MapI.upd {S : Nat → Prop} (h : MapI P k e w b f cnt) (hu : Upd S w w1) (hb : ¬ S b) : MapI P k e w1 b f cnt := by
  obtain ⟨D, ⟨es, clock, h1, h2⟩, h3⟩ := h
  have hlt : b < w.heap.size := by
    rcases Nat.lt_or_ge b w.heap.size with hlt | hge
    · exact hlt
    · rw [Array.getElem?_eq_none hge] at h1; cases h1
  exact ⟨D, ⟨es, clock, (hu.block b hlt hb).trans h1, h2⟩, h3⟩
theorem MapI.new_ (h : MapI P k e w b f cnt) (hu : New w w1) : MapI P k e w1 b f cnt := h.upd hu fun x => x
theorem mapTurned_upd (h : w.mapTurned w1 b) : Upd (fun q => q = b) w w1 := Upd.of_grown h.grown fun q _ hq => (Option.some.inj hq).symm
/-- A look-up. -/
theorem wpList_look {ops : Array Oper} {rest : List Oper} {o : Oper} {a : Act} {Q : Exit → Act → World → Prop} (w : World)
    (hg : o.guard = none) (m x : Operand) (t : TypeId) (hop : o.op = Op.lookup t m x false) (k e : TypeId) (hk : P.underlying k = some (.int .i64)) (ht : P.underlying t = some (.map k e)) (he : P.underlying e = some (.int .i64)) (hz : (zeroValue e).run P w = .ok (.int .i64 0) w)
    (b cnt : Nat) (f : Int → Int) (hm : a.eval m = .map (some b)) (h : MapI P k e w b f cnt) (key : Int) (hx : a.eval x = .int .i64 key) (hkey : I64 key)
    (hK : wpList P ops Q rest (a.put o.dst (.int .i64 (f key))) w) : wpList P ops Q (o :: rest) a w := by
  obtain ⟨D, h1, _, h3⟩ := h
  refine wpList_lookup_own_int w hg m x t hop k e .i64 (int_keyed hk) ht he hz b cnt D hm h1 (.int .i64 key) (.int .i64 key) hx (keyOf_int_mk hk (WalkArith.wf_i64 hkey)) fun c hc _ => ?_
  have h4 := (h3 key).2
  rw [hc] at h4
  injection h4 with h4
  injection h4 with _ h4
  rw [h4]
  exact hK
/-- A store of what is not 0. -/
theorem wpList_stor {ops : Array Oper} {rest : List Oper} {o : Oper} {a : Act} {Q : Exit → Act → World → Prop} (w : World)
    (hg : o.guard = none) (m x v : Operand) (t : TypeId) (hop : o.op = Op.mapUpdate t m x v) (k e : TypeId) (hk : P.underlying k = some (.int .i64)) (ht : P.underlying t = some (.map k e)) (he : P.underlying e = some (.int .i64))
    (b cnt : Nat) (f : Int → Int) (hm : a.eval m = .map (some b)) (h : MapI P k e w b f cnt) (hn : cnt < maxLen) (key val : Int) (hx : a.eval x = .int .i64 key) (hv : a.eval v = .int .i64 val) (hkey : I64 key) (hval : I64 val) (h0 : val ≠ 0)
    (hK : ∀ w1, MapI P k e w1 b (updZ f key val) (if f key = 0 then cnt + 1 else cnt) → Upd (fun q => q = b) w w1 → wpList P ops Q rest (a.put o.dst undef) w1) : wpList P ops Q (o :: rest) a w := by
  obtain ⟨D, h1, h2, h3⟩ := h
  refine wpList_mapUpdate_own w hg m x v t hop k e (int_keyed hk) ht (plainElem P e) b cnt D hm h1 hn (.int .i64 key) (.int .i64 val) (.int .i64 key) hx hv (keyOf_int_mk hk (WalkArith.wf_i64 hkey)) (.lit (.int .i64 val)) [] (plainElem_int he (WalkArith.wf_i64 hval)) fun w1 h4 h5 => ?_
  have hs : Maps.size (D.put (.int .i64 key) (.lit (.int .i64 val))) = if f key = 0 then cnt + 1 else cnt := by
    rw [size_put (h1.tidy (int_keyed hk)), (h3 key).1, h2]
    by_cases hf : f key = 0
    · rw [if_pos hf, decide_eq_false (by simpa using hf), if_neg (by simp)]
    · rw [if_neg hf, decide_eq_true hf, if_pos rfl]
  refine hK w1 ⟨D.put (.int .i64 key) (.lit (.int .i64 val)), hs ▸ owns_size h4, hs, fun a => ?_⟩ (Upd.of_grown h5 fun q _ hq => (Option.some.inj hq).symm)
  by_cases ha : a = key
  · subst ha
    unfold updZ
    rw [if_pos rfl, has_put_same h1.isMap (show WideAt.IsKeyLit (.int .i64 a) from trivial), atKey_put_same h1.isMap (show WideAt.IsKeyLit (.int .i64 a) from trivial)]
    exact ⟨(decide_eq_true h0).symm, rfl⟩
  · have hne : (Lit.int .i64 a) ≠ .int .i64 key := fun e => ha (by injection e)
    unfold updZ
    rw [if_neg ha, has_put_other hne, atKey_put_other hne]
    exact h3 a
/-- What is taken away. -/
theorem wpList_dele {ops : Array Oper} {rest : List Oper} {o : Oper} {a : Act} {Q : Exit → Act → World → Prop} (w : World)
    (hg : o.guard = none) (m x : Operand) (t k : TypeId) (hop : o.op = Op.call { callee := Callee.builtin Builtin.delete, args := #[m, x], argTypes := #[t, k] }) (e : TypeId) (hk : P.underlying k = some (.int .i64)) (ht : P.underlying t = some (.map k e))
    (b cnt : Nat) (f : Int → Int) (hm : a.eval m = .map (some b)) (h : MapI P k e w b f cnt) (key : Int) (hx : a.eval x = .int .i64 key) (hkey : I64 key)
    (hK : ∀ w1, MapI P k e w1 b (updZ f key 0) (if f key = 0 then cnt else cnt - 1) → Upd (fun q => q = b) w w1 → wpList P ops Q rest (a.put o.dst (.tuple #[])) w1) : wpList P ops Q (o :: rest) a w := by
  obtain ⟨D, h1, h2, h3⟩ := h
  refine wpList_delete_own w hg m x t k hop e (int_keyed hk) ht (plainElem P e) b cnt D hm h1 (.int .i64 key) (.int .i64 key) hx (keyOf_int_mk hk (WalkArith.wf_i64 hkey)) fun w1 h4 h5 => ?_
  have hs : Maps.size (D.del (.int .i64 key)) = if f key = 0 then cnt else cnt - 1 := by
    have h6 := size_del (k := .int .i64 key) (h1.tidy (int_keyed hk))
    rw [(h3 key).1, h2] at h6
    by_cases hf : f key = 0
    · rw [decide_eq_false (by simpa using hf), if_neg (by simp)] at h6
      rw [if_pos hf]
      exact h6
    · rw [decide_eq_true hf, if_pos rfl] at h6
      rw [if_neg hf]
      omega
  refine hK w1 ⟨D.del (.int .i64 key), hs ▸ owns_size h4, hs, fun a => ?_⟩ (mapTurned_upd h5)
  by_cases ha : a = key
  · subst ha
    unfold updZ
    rw [if_pos rfl, has_del_same, atKey_del_same]
    exact ⟨rfl, rfl⟩
  · have hne : (Lit.int .i64 a) ≠ .int .i64 key := fun e => ha (by injection e)
    unfold updZ
    rw [if_neg ha, has_del_other hne, atKey_del_other hne]
    exact h3 a
/-- How many. -/
theorem wpList_many {ops : Array Oper} {rest : List Oper} {o : Oper} {a : Act} {Q : Exit → Act → World → Prop} (w : World)
    (hg : o.guard = none) (m : Operand) (t : TypeId) (hop : o.op = Op.call { callee := Callee.builtin Builtin.len, args := #[m], argTypes := #[t] }) (k e : TypeId) (ht : P.underlying t = some (.map k e))
    (b cnt : Nat) (f : Int → Int) (hm : a.eval m = .map (some b)) (h : MapI P k e w b f cnt) (hK : wpList P ops Q rest (a.put o.dst (.int .i64 (cnt : Nat))) w) : wpList P ops Q (o :: rest) a w := by
  obtain ⟨D, h1, h2, _⟩ := h
  refine wpList_len_own w hg m t hop k e ht (plainElem P e) b cnt D hm h1 ?_
  rw [h2]
  exact hK
end
end Go.Proofs.Ytlealjcllbpgkaa

namespace Go.Proofs.Ytlealjcllbpgkaa
open Go.RowKit Go.Maps

/-- Block b is a map that f says, block r a range over it: which are still to come, how many. -/
def MapR (P : Program) (k e : TypeId) (w : World) (b r : Nat) (f : Int → Int) (left : Int → Bool) (cnt : Nat) : Prop :=
  ∃ (D : DataW Unit) (n : Nat) (L : Lit → Bool), w.ranges P k (plainElem P e) b r n D L cnt ∧ (∀ a : Int, D.atKey (.int .i64 a) (.lit (.int .i64 0)) = .lit (.int .i64 (f a))) ∧ (∀ a : Int, L (.int .i64 a) = left a) ∧ ∀ a, left a = true → f a ≠ 0
section
variable {P : Program} {k e t : TypeId} {w w1 : World} {b r cnt : Nat} {f : Int → Int} {left : Int → Bool}
theorem MapR.many (h : MapR P k e w b r f left cnt) : w.rangeLeft b r = cnt := by
  obtain ⟨D, n, L, h1, _⟩ := h
  exact h1.left_eq
theorem MapR.ne (h : MapR P k e w b r f left cnt) : r ≠ b := by
  obtain ⟨D, n, L, h1, _⟩ := h
  exact h1.ne
theorem MapR.lt (h : MapR P k e w b r f left cnt) : r < w.heap.size := by
  obtain ⟨D, n, L, h1, _⟩ := h
  exact h1.lt
theorem MapR.ltb (h : MapR P k e w b r f left cnt) : b < w.heap.size := by
  obtain ⟨D, n, L, h1, _⟩ := h
  exact h1.owns.lt
theorem MapR.upd {S : Nat → Prop} (h : MapR P k e w b r f left cnt) (hu : Upd S w w1) (hb : ¬ S b) (hr : ¬ S r) : MapR P k e w1 b r f left cnt := by
  have hl := h.lt
  have hlb := h.ltb
  obtain ⟨D, n, L, ⟨es, clock, since, seen, c0, g1, g2, g3, g4, g5, g6⟩, h2⟩ := h
  exact ⟨D, n, L, ⟨es, clock, since, seen, c0, (hu.block b hlb hb).trans g1, g2, g3, g4, (hu.block r hl hr).trans g5, g6⟩, h2⟩
theorem MapR.new_ (h : MapR P k e w b r f left cnt) (hu : New w w1) : MapR P k e w1 b r f left cnt := h.upd hu (fun x => x) fun x => x
/-- A range begins. -/
theorem wpList_rng {ops : Array Oper} {rest : List Oper} {o : Oper} {a : Act} {Q : Exit → Act → World → Prop} (w : World)
    (hg : o.guard = none) (m : Operand) (t : TypeId) (hop : o.op = Op.range t m) (k e : TypeId) (hk : P.underlying k = some (.int .i64)) (ht : P.underlying t = some (.map k e))
    (b cnt : Nat) (f : Int → Int) (hm : a.eval m = .map (some b)) (h : MapI P k e w b f cnt)
    (hK : ∀ w1, MapR P k e w1 b w.heap.size f (fun x => decide (f x ≠ 0)) cnt → New w w1 → wpList P ops Q rest (a.put o.dst (.pointer (some ⟨w.heap.size, 0, none⟩))) w1) : wpList P ops Q (o :: rest) a w := by
  obtain ⟨D, h1, h2, h3⟩ := h
  refine wpList_range_own w hg m t hop k e (int_keyed hk) ht (plainElem P e) b cnt D hm h1 fun w1 g1 g2 _ => ?_
  refine hK w1 ⟨D, cnt, Maps.has D, h2 ▸ g1, fun x => (h3 x).2, fun x => (h3 x).1, fun x hx => of_decide_eq_true hx⟩ ?_
  exact Upd.of_grown g2 fun q _ hq => by cases hq
/-- Its step. -/
theorem wpList_step {ops : Array Oper} {rest : List Oper} {o : Oper} {a : Act} {Q : Exit → Act → World → Prop} (w : World)
    (hg : o.guard = none) (it : Operand) (hop : o.op = Op.next it false) (k e : TypeId) (hk : P.underlying k = some (.int .i64)) (he : P.underlying e = some (.int .i64))
    (b r cnt : Nat) (f : Int → Int) (left : Int → Bool) (hit : a.eval it = .pointer (some ⟨r, 0, none⟩)) (h : MapR P k e w b r f left cnt)
    (hDone : (∀ x, left x = false) → wpList P ops Q rest (a.put o.dst (.tuple #[.bool false])) w)
    (hMore : ∀ (x : Int) (w1 : World) (cnt1 : Nat), I64 x → left x = true → f x ≠ 0 → MapR P k e w1 b r f (fun z => left z && decide (z ≠ x)) cnt1 → cnt1 < cnt → Upd (fun q => q = r) w w1 →
      (Instr.entry (.pointer (some ⟨r, 0, none⟩))).run P w1 = .ok (.tuple #[.int .i64 x, .int .i64 (f x)]) w1 → wpList P ops Q rest (a.put o.dst (.tuple #[.bool true, .int .i64 x, .int .i64 (f x)])) w1) :
    wpList P ops Q (o :: rest) a w := by
  obtain ⟨D, n, L, h1, h2, h3, h4⟩ := h
  refine wpList_next_ranges_ii w hg it hop k e .i64 .i64 (int_keyed hk) hk he b r n D L cnt hit h1 (fun _ hl => hDone fun x => (h3 x).symm.trans (hl _)) fun x c w1 cnt1 hwx _ hl hat hrg hlt hgr _ hen => ?_
  have hc : f x = c := by
    have e1 := h2 x
    rw [hat] at e1
    injection e1 with e1
    injection e1 with _ e1
    exact e1.symm
  subst hc
  have hlx : left x = true := (h3 x).symm.trans hl
  have hx64 : I64 x := by
    simp [Lit.wf, IntKind.min, IntKind.max, IntKind.signed, IntKind.bits] at hwx
    exact ⟨by omega, by omega⟩
  refine hMore x w1 cnt1 hx64 hlx (h4 x hlx) ⟨D, n, _, hrg, h2, fun z => ?_, fun z hz => h4 z (by rw [Bool.and_eq_true] at hz; exact hz.1)⟩ hlt (Upd.of_grown hgr fun q _ hq => (Option.some.inj hq).symm) hen
  show (L (.int .i64 z) && !(Lit.int .i64 z).sameKey (.int .i64 x)) = _
  rw [h3 z]
  congr 1
  by_cases hz : z = x
  · subst hz
    simp [Lit.sameKey]
  · simp [Lit.sameKey, hz]
end
end Go.Proofs.Ytlealjcllbpgkaa

namespace Go.Proofs.Ytlealjcllbpgkaa
open Go.RowKit
theorem below_new {w w1 : World} (h : Below w.heap.size w w1) : New w w1 := ⟨h.os, h.tape, h.output, h.size, fun k hk _ => h.block k hk⟩
theorem new_belowB {w w1 : World} {B : Nat} (h : New w w1) (hB : B ≤ w.heap.size) : Below B w w1 := ⟨h.os, h.tape, h.output, h.size, fun k hk => h.block k (by omega) fun x => x⟩
theorem MapI.below {P : Program} {k e : TypeId} {w w1 : World} {b cnt B : Nat} {f : Int → Int} (h : MapI P k e w b f cnt) (hu : Below B w w1) (hb : b < B) : MapI P k e w1 b f cnt := by
  obtain ⟨D, ⟨es, clock, h1, h2⟩, h3⟩ := h
  exact ⟨D, ⟨es, clock, (hu.block b hb).trans h1, h2⟩, h3⟩
end Go.Proofs.Ytlealjcllbpgkaa

/- What a law's frame wants: what the listed variables hold; numbers out of readings; arguments read as before. No condition but those that stand in each theorem. -/
import Derived.Test.YtlealjcllbpgkaaRows
import Derived.Test.YtlealjcllbpgkaaIp1
import Derived.ProofKit
import Derived.LaidMore
import Derived.OpenShut
import Derived.Stop.Joined
import Derived.Deep.Slices
import Derived.Deep.Fields
import Derived.Carry
import Derived.Handed
import Derived.SizedLaws
import Derived.Test.YtlealjcllbpgkaaWi0
namespace Go.Proofs.Ytlealjcllbpgkaa
open Go.ChangeShapes Go.WideShapes Go.RowKit

theorem own : ownKnob Try.prog.godebug = none := by kernel_rfl
theorem laidOut : laidOutB Try.prog = true := by kernel_rfl

/-- One of the listed variables. -/
theorem laidVars_mem {P : Program} {w : World} {n : String} {d : DataW Unit} : ∀ {l : List (String × DataW Unit)} {ps : List MemPlace}, DataW.LaidVars P w l ps → (n, d) ∈ l →
    ∃ g t cs fuel p, P.globalNamed n = some g ∧ (P.globals[g]?).map (·.type) = some t ∧ w.var? P n = some cs ∧ DataW.trod (fun _ => ()) P w 0 (fun _ => true) false fuel t cs.toList = some (d, p) ∧
      ∀ x, x ∈ MemPlace.row ⟨g, 0, none⟩ cs.size ++ p → x ∈ ps := by
  intro l
  induction l with
  | nil => intro ps _ hm; cases hm
  | cons y l ih =>
    intro ps h hm
    obtain ⟨m, e⟩ := y
    obtain ⟨g, t, cs, fuel, p, q, h1, h2, h3, h4, h5, rfl⟩ := h
    rcases List.mem_cons.1 hm with hy | hy
    · injection hy with e1 e2
      subst e1; subst e2
      exact ⟨g, t, cs, fuel, p, h1, h2, h3, h4, fun x hx => List.mem_append.2 (.inl hx)⟩
    · obtain ⟨g', t', cs', fuel', p', k1, k2, k3, k4, k5⟩ := ih h5 hy
      exact ⟨g', t', cs', fuel', p', k1, k2, k3, k4, fun x hx => List.mem_append.2 (.inr (k5 x hx))⟩

theorem star : "*" ++ "errors.errorString" = "*errors.errorString" := by decide
theorem cells_str : Try.prog.cellsOf 9 = 1 := by kernel_rfl


/-- A type all of whose cells are ints. -/
def allInt (P : Program) : Nat → TypeId → Bool
  | 0, _ => false
  | d + 1, t => match P.underlying t with
    | some (.int k) => k == .i64
    | some (.struct fs) => (List.range (P.cellsOf t)).all fun j => fs.toList.any fun f => decide (f.offset ≤ j) && decide (j < f.offset + P.cellsOf f.type) && allInt P d f.type
    | _ => false

theorem allInt_cells {H : Type} {enc : TypeId × Value → H} {P : Program} {w : World} {base : Nat} {spare : Nat → Bool} {held : Bool} : ∀ (d : Nat) (t : TypeId) (fuel : Nat) (cs : List Value) (x : DataW H × List MemPlace),
    allInt P d t = true → DataW.trod enc P w base spare held fuel t cs = some x → ∀ (j : Nat) (v : Value), cs[j]? = some v → ∃ n, v = .int .i64 n ∧ (Lit.int .i64 n).wf = true := by
  intro d
  induction d with
  | zero => intro t fuel cs x h; cases h
  | succ d ih =>
    intro t fuel cs x h ht j v hv
    unfold allInt at h
    split at h
    · rename_i k hk
      have hk' : k = .i64 := by simpa using h
      subst hk'
      obtain ⟨n, rfl, _, hw⟩ := DataW.trod_int hk ht
      have : j = 0 := by
        rcases j with _ | j
        · rfl
        · simp at hv
      subst this
      simp at hv
      exact ⟨n, hv.symm, hw⟩
    · rename_i fs hs
      obtain ⟨xs, n, _, _, hlen, hxl, hf⟩ := DataW.trod_struct hs ht
      have hj : j < cs.length := (List.getElem?_eq_some_iff.1 hv).1
      rw [List.all_eq_true] at h
      have hj' := h j (List.mem_range.2 (by omega))
      rw [List.any_eq_true] at hj'
      obtain ⟨f, hfm, hff⟩ := hj'
      simp only [Bool.and_eq_true, decide_eq_true_eq] at hff
      obtain ⟨i, hi⟩ := List.getElem?_of_mem hfm
      have hi' : fs[i]? = some f := by simpa using hi
      have h1 := hf i f hi'
      have hil : i < xs.length := by
        have := (List.getElem?_eq_some_iff.1 hi).1
        simp at this; omega
      rw [List.getElem?_eq_getElem hil] at h1
      refine ih f.type n _ _ hff.2 h1 (j - f.offset) v ?_
      rw [List.getElem?_take, List.getElem?_drop, if_pos (by omega), show f.offset + (j - f.offset) = j by omega]
      exact hv
    · cases h

/-- What stood there reads as it did. -/
theorem trodAll_below {H : Type} {enc : TypeId × Value → H} {P : Program} (hl : laidOutB P = true) {W W1 : World} (hb : Below W.heap.size W W1) : ∀ (ts : List TypeId) (vs : List Value) (ds : List (DataW H)) (ps : List MemPlace),
    (ts.all fun t => P.readableRec t && decide (t < P.types.size)) = true → DataW.TrodAll enc P W 0 (fun _ => true) true ts vs ds ps → (∀ x ∈ ps, x.block < W.heap.size) →
    DataW.TrodAll enc P W1 0 (fun b => decide (b < W.heap.size)) true ts vs ds ps := by
  intro ts
  induction ts with
  | nil =>
    intro vs ds ps _ h _
    obtain ⟨rfl, rfl, rfl⟩ := trodAll_nil h
    exact trodAll_mk0
  | cons t ts ih =>
    intro vs ds ps hr h hlt
    obtain ⟨v0, vs0, d0, ds0, p0, q0, rfl, rfl, rfl, h0, r0⟩ := trodAll_cons h
    simp only [List.all_cons, Bool.and_eq_true, decide_eq_true_eq] at hr
    exact trodAll_cons_mk (Below.trod hl hr.1.1 hr.1.2 h0 hb fun x hx => hlt x (List.mem_append.2 (.inl hx))) (ih _ _ _ (by simpa using hr.2) r0 fun x hx => hlt x (List.mem_append.2 (.inr hx)))
end Go.Proofs.Ytlealjcllbpgkaa

namespace Go.Proofs.Ytlealjcllbpgkaa
open Go

theorem returns_and_shaped {H : Type} {enc : TypeId × Value → H} {a : Assume} {C : Checked} {os : Os} {f : FuncId} {fn : Func} {s : ChangeSpec} {conds : List PathCond} {apart fresh handsOn again : Bool} {X : World → Array Value → Prop}
    (hX : ∀ (w w' : World) (args : Array Value), w.heap = w'.heap → X w args → X w' args)
    (own : ownKnob C.prog.godebug = none) (started : os.Started) (noInit : C.prog.inits.idxOf? f = none) (hfn : C.prog.funcs[f]? = some fn)
    (witness : ∃ (w : World) (tape : Tape) (i : Input), w.os = os ∧ (w.forCall tape i).Shaped C.prog ∧ i.vars = [] ∧ Input.okWide C.prog (w.forCall tape i) .any w.heap.size f i ∧
      ((s.pre enc C.prog fn conds apart (w.forCall tape i).memory i.args ∧ X (w.forCall tape i).memory i.args) ∧ sizedMet enc C.prog fn (OpenSpec.ofChange s) apart (w.forCall tape i).memory i.args) ∧ a.holds C.prog (lone (Frame.enter C.prog f i.args .normal) [] (w.forCall tape i)))
    (contract : ∀ (W : World) (base : Nat) (args : Array Value) (ds gs : List (DataW H)) (before : List MemPlace),
      (∀ (j : Nat) t v, fn.params[j]? = some t → args[j]? = some v → Value.okWide C.prog W .any base t v) →
      DataW.Whole enc C.prog fn.params.toList s.vars apart W args.toList ds gs before →
      conds.all (PathCond.test C.prog ⟨fn.params.toList, ds, s.plain.varTypes C.prog, gs⟩) = true →
      (DataW.weightsEach C.prog (fn.params.toList ++ s.plain.varTypes C.prog) (ds ++ gs)).all (· ≤ reachBytes) = true → X W args → W.ShapedOpen C.prog →
      a.holds C.prog (lone (Frame.enter C.prog f args .normal) [] W) →
      Calls C.prog f args W fun e W' => ∃ v, e = .returned v ∧ s.post enc C.prog fn apart fresh handsOn again W args v W') :
    ReturnsInHanded a C os f .any (fun w args => (s.pre enc C.prog fn conds apart w args ∧ X w args) ∧ sizedMet enc C.prog fn (OpenSpec.ofChange s) apart w args) (s.post enc C.prog fn apart fresh handsOn again) := by
  refine returnsInHanded_of_calls own started noInit witness ?_
  intro w tape i _ hsh _ hok hpre hholds
  obtain ⟨_, _, _, fn', hfn', _, _, _, _, hval⟩ := hok
  have e : fn' = fn := Option.some.inj (hfn'.symm.trans hfn)
  subst e
  obtain ⟨⟨⟨ds, gs, before, hw, hc⟩, hx⟩, hz⟩ := hpre
  have hw' := DataW.Whole.of_heap (w' := w.forCall tape i) (by rfl) hw
  refine (contract (w.forCall tape i) w.heap.size i.args ds gs before hval hw' hc (hz.weights hw) (hX _ _ _ (by rfl) hx) hsh hholds).mono fun e W' ⟨v, he, hp⟩ => ?_
  subst he
  exact ChangeSpec.post_blind hp
end Go.Proofs.Ytlealjcllbpgkaa

namespace Go.Proofs.Ytlealjcllbpgkaa
open Go.ChangeShapes Go.WideShapes Go.RowKit Go.Deep

/-- Cells that were read as a type give a thing. -/
def Reads {α : Type} (W : World) (t : TypeId) (cells : α → Array Value) (ok : α → Prop) : Prop :=
  ∀ (H : Type) (enc : TypeId × Value → H) (sp : Nat → Bool) (held : Bool) (fuel : Nat) (cs : List Value) (x : DataW H × List MemPlace), DataW.trod enc Try.prog W 0 sp held fuel t cs = some x → ∃ a, cs = (cells a).toList ∧ ok a

/-- A slice of such things. -/
theorem rows_read {α : Type} {W : World} {e t : TypeId} {cells : α → Array Value} {ok : α → Prop} {sz : Nat} (hr : Reads W e cells ok) (ht : Try.prog.underlying t = some (.slice e)) (hsz : Try.prog.cellsOf e = sz) (hz : 0 < sz)
    {H : Type} {enc : TypeId × Value → H} {sp : Nat → Bool} {held : Bool} {fuel : Nat} {cs : List Value} {x : DataW H × List MemPlace} (h : DataW.trod enc Try.prog W 0 sp held fuel t cs = some x) :
    ∃ (A : Option Addr) (cap : Nat) (xs : List α), cs = [.slice A xs.length cap] ∧ xs.length ≤ cap ∧ Rws W A sz (xs.map cells) ∧ ∀ (i : Nat) a, xs[i]? = some a → ok a := by
  rcases open_slice ht h with ⟨rfl, _⟩ | ⟨a, len, cap, m, n, D, Pl, rfl, _, hl, _, hm, _, hi⟩
  · exact ⟨none, 0, [], rfl, by simp, fun h => absurd h (by simp), fun i a h => by simp at h⟩
  · have hml : len ≤ m := by rw [hm]; split <;> omega
    by_cases h0 : len = 0
    · subst h0; exact ⟨some a, cap, [], rfl, by simp, fun h => absurd h (by simp), fun i a h => by simp at h⟩
    · have hall : ∀ i, i < len → ∃ y : α, W.cells? 0 (a.add (i * sz)) sz = some (cells y).toList ∧ ok y := fun i h => by
        obtain ⟨cs', hc, ht'⟩ := hi i (by omega)
        obtain ⟨y, rfl, hy⟩ := hr _ _ _ _ _ _ _ ht'
        rw [hsz] at hc
        exact ⟨y, hc, hy⟩
      obtain ⟨y0, _⟩ := hall 0 (by omega)
      obtain ⟨f, hf⟩ := @choose_lt α ⟨y0⟩ _ _ hall
      have hcell : ∀ i j, i < len → j < sz → W.cell? (a.add (i * sz + j)) = (cells (f i))[j]? := fun i j h1 h2 => by
        obtain ⟨_, hcl, hat⟩ := World.cells?_some (hf i h1).1
        have := hat j h2
        rw [Go.Deep.add_add] at this
        simpa using this
      have hlen : ∀ i, i < len → (cells (f i)).size = sz := fun i h1 => by
        obtain ⟨_, hcl, _⟩ := World.cells?_some (hf i h1).1
        simpa using hcl
      have h00 := hcell 0 0 (by omega) hz
      rw [Array.getElem?_eq_getElem (by rw [hlen 0 (by omega)]; exact hz)] at h00
      have h00' : W.cell? a = some ((cells (f 0))[0]'(by rw [hlen 0 (by omega)]; exact hz)) := by simpa [Addr.add] using h00
      have hsp : a.spot = none := World.cell?_spot h00'
      have hb := World.block_lt_of_cell? W a h00'
      obtain ⟨b, o, s⟩ := a
      subst hsp
      refine ⟨some ⟨b, o, none⟩, cap, (List.range len).map f, by simp, by simpa using hl, fun _ => ⟨b, o, rfl, hb, fun i r hr j v hv => ?_⟩, fun i y hy => ?_⟩
      · have hil : i < len := by
          have := (List.getElem?_eq_some_iff.1 hr).1
          simpa using this
        have hre : r = cells (f i) := by
          rw [List.getElem?_map, List.getElem?_map, List.getElem?_range hil] at hr
          exact (Option.some.inj hr).symm
        subst hre
        have hj : j < sz := by
          rw [← hlen i hil]
          exact (Array.getElem?_eq_some_iff.1 hv).1
        have := hcell i j hil hj
        rw [add_plain] at this
        rw [← hv, ← this, Nat.add_assoc]
      · have hil : i < len := by
          have := (List.getElem?_eq_some_iff.1 hy).1
          simpa using this
        rw [List.getElem?_map, List.getElem?_range hil] at hy
        obtain rfl := Option.some.inj hy
        exact (hf i hil).2

/-- One field of a struct. -/
theorem field_read {P : Program} {W : World} {H : Type} {enc : TypeId × Value → H} {sp : Nat → Bool} {held : Bool} {fuel : Nat} {t : TypeId} {fs : Array Field} {cs : List Value} {x : DataW H × List MemPlace}
    (hs : P.underlying t = some (.struct fs)) (h : DataW.trod enc P W 0 sp held fuel t cs = some x) (i : Nat) (f : Field) (hf : fs[i]? = some f) (ty : TypeId) (o k : Nat) (hty : f.type = ty) (ho : f.offset = o) (hk : P.cellsOf ty = k) :
    ∃ n y, DataW.trod enc P W 0 sp held n ty ((cs.drop o).take k) = some y := by
  subst hty; subst ho; subst hk
  obtain ⟨xs, n, _, _, _, hxl, hall⟩ := DataW.trod_struct hs h
  have h1 := hall i f hf
  have hil : i < xs.length := by
    rw [hxl]
    exact (Array.getElem?_eq_some_iff.1 hf).1
  rw [List.getElem?_eq_getElem hil] at h1
  exact ⟨n, _, h1⟩
theorem struct_len {P : Program} {W : World} {H : Type} {enc : TypeId × Value → H} {sp : Nat → Bool} {held : Bool} {fuel : Nat} {t : TypeId} {fs : Array Field} {cs : List Value} {x : DataW H × List MemPlace}
    (hs : P.underlying t = some (.struct fs)) (h : DataW.trod enc P W 0 sp held fuel t cs = some x) : cs.length = P.cellsOf t := by
  obtain ⟨xs, n, _, _, hl, _, _⟩ := DataW.trod_struct hs h
  exact hl

theorem int_reads (W : World) : Reads W 3 (fun n : Int => #[Value.int .i64 n]) (fun _ => True) := fun H enc sp held fuel cs x h => by
  obtain ⟨n, rfl, _⟩ := DataW.trod_int Try.underlying3 h
  exact ⟨n, rfl, trivial⟩
theorem cellsInt : Try.prog.cellsOf 3 = 1 := by kernel_rfl

theorem ints_read {W : World} {H : Type} {enc : TypeId × Value → H} {sp : Nat → Bool} {held : Bool} {fuel : Nat} {cs : List Value} {x : DataW H × List MemPlace} (h : DataW.trod enc Try.prog W 0 sp held fuel 27 cs = some x) :
    ∃ (A : Option Addr) (cap : Nat) (xs : List Int), cs = [.slice A xs.length cap] ∧ xs.length ≤ cap ∧ Ints W A xs := by
  obtain ⟨A, cap, xs, rfl, hl, hr, _⟩ := rows_read (int_reads W) Try.underlying27 cellsInt (by omega) h
  refine ⟨A, cap, xs, rfl, hl, fun h0 => ?_⟩
  obtain ⟨b, o, rfl, hb, hc⟩ := hr (by simpa using h0)
  refine ⟨b, o, rfl, hb, fun i x hx => ?_⟩
  have := hc i #[Value.int .i64 x] (by simp [hx]) 0 _ rfl
  simpa using this

theorem cellsPf : Try.prog.cellsOf 26 = 2 := by kernel_rfl
set_option maxRecDepth 100000 in
theorem pf_reads (W : World) : Reads W 26 Pf.cells (fun _ => True) := fun H enc sp held fuel cs x h => by
  have hl := struct_len Try.underlying26 h
  rw [cellsPf] at hl
  obtain ⟨n0, y0, g0⟩ := field_read Try.underlying26 h 0 _ rfl 3 0 1 rfl rfl cellsInt
  obtain ⟨n1, y1, g1⟩ := field_read Try.underlying26 h 1 _ rfl 3 1 1 rfl rfl cellsInt
  match cs, hl with
  | [c0, c1], _ =>
    obtain ⟨a, e0, _⟩ := DataW.trod_int Try.underlying3 g0
    obtain ⟨n, e1, _⟩ := DataW.trod_int Try.underlying3 g1
    obtain rfl : c0 = .int .i64 a := by simpa using e0
    obtain rfl : c1 = .int .i64 n := by simpa using e1
    exact ⟨⟨a, n⟩, rfl, trivial⟩

theorem cellsAttr : Try.prog.cellsOf 29 = 5 := by kernel_rfl
theorem cellsSInt : Try.prog.cellsOf 27 = 1 := by kernel_rfl
set_option maxRecDepth 100000 in
theorem attr_reads (W : World) : Reads W 29 AttrR.cells (fun a => AttrOk W a) := fun H enc sp held fuel cs x h => by
  have hl := struct_len Try.underlying29 h
  rw [cellsAttr] at hl
  obtain ⟨n0, y0, g0⟩ := field_read Try.underlying29 h 0 _ rfl 27 0 1 rfl rfl cellsSInt
  obtain ⟨n1, y1, g1⟩ := field_read Try.underlying29 h 1 _ rfl 3 1 1 rfl rfl cellsInt
  obtain ⟨n2, y2, g2⟩ := field_read Try.underlying29 h 2 _ rfl 3 2 1 rfl rfl cellsInt
  obtain ⟨n3, y3, g3⟩ := field_read Try.underlying29 h 3 _ rfl 3 3 1 rfl rfl cellsInt
  obtain ⟨n4, y4, g4⟩ := field_read Try.underlying29 h 4 _ rfl 27 4 1 rfl rfl cellsSInt
  match cs, hl with
  | [c0, c1, c2, c3, c4], _ =>
    obtain ⟨A0, k0, xs0, e0, l0, h0⟩ := ints_read g0
    obtain ⟨a1, e1, _⟩ := DataW.trod_int Try.underlying3 g1
    obtain ⟨a2, e2, _⟩ := DataW.trod_int Try.underlying3 g2
    obtain ⟨a3, e3, _⟩ := DataW.trod_int Try.underlying3 g3
    obtain ⟨A4, k4, xs4, e4, l4, h4⟩ := ints_read g4
    obtain rfl : c0 = .slice A0 xs0.length k0 := by simpa using e0
    obtain rfl : c1 = .int .i64 a1 := by simpa using e1
    obtain rfl : c2 = .int .i64 a2 := by simpa using e2
    obtain rfl : c3 = .int .i64 a3 := by simpa using e3
    obtain rfl : c4 = .slice A4 xs4.length k4 := by simpa using e4
    exact ⟨⟨A0, k0, xs0, a1, a2, a3, A4, k4, xs4⟩, rfl, ⟨h0, h4, l0, l4⟩⟩

theorem cellsRoute : Try.prog.cellsOf 31 = 8 := by kernel_rfl
set_option maxRecDepth 100000 in
theorem route_reads (W : World) : Reads W 31 RouteR.cells (fun r => AttrOk W r.at_) := fun H enc sp held fuel cs x h => by
  have hl := struct_len Try.underlying31 h
  rw [cellsRoute] at hl
  obtain ⟨n0, y0, g0⟩ := field_read Try.underlying31 h 0 _ rfl 26 0 2 rfl rfl cellsPf
  obtain ⟨n1, y1, g1⟩ := field_read Try.underlying31 h 1 _ rfl 29 2 5 rfl rfl cellsAttr
  obtain ⟨n2, y2, g2⟩ := field_read Try.underlying31 h 2 _ rfl 3 7 1 rfl rfl cellsInt
  match cs, hl with
  | [c0, c1, c2, c3, c4, c5, c6, c7], _ =>
    obtain ⟨p, e0, _⟩ := pf_reads W _ _ _ _ _ _ _ g0
    obtain ⟨a, e1, ha⟩ := attr_reads W _ _ _ _ _ _ _ g1
    obtain ⟨f, e2, _⟩ := DataW.trod_int Try.underlying3 g2
    obtain ⟨rfl, rfl⟩ : c0 = .int .i64 p.a ∧ c1 = .int .i64 p.n := by simpa [Pf.cells] using e0
    obtain ⟨rfl, rfl, rfl, rfl, rfl⟩ : c2 = .slice a.P a.path.length a.pc ∧ c3 = .int .i64 a.pref ∧ c4 = .int .i64 a.med ∧ c5 = .int .i64 a.origin ∧ c6 = .slice a.T a.tags.length a.tc := by simpa [AttrR.cells] using e1
    obtain rfl : c7 = .int .i64 f := by simpa using e2
    exact ⟨⟨p.a, p.n, a, f⟩, rfl, ha⟩

theorem cellsStr1 : Try.prog.cellsOf 9 = 1 := by kernel_rfl
theorem cellsSRt : Try.prog.cellsOf 22 = 1 := by kernel_rfl
end Go.Proofs.Ytlealjcllbpgkaa

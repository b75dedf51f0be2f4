/- A range over a method that is bound to its receiver: the law at the fence that asks nothing, whose rounds write the function's own blocks alone. No condition but those that stand in each theorem. -/
import Derived.Test.YtlealjcllbpgkaaHp
import Derived.Test.YtlealjcllbpgkaaRg
import Derived.OrdersIn
import Derived.Deep.RegionHeld3
import Derived.RangeFuncNested
import Derived.RangeFuncBound
import Derived.RangeFuncCalls
import Derived.RangeFuncLeaves
import Derived.Shelf.Abstract
import Derived.Shelf.RegionOpen
import Derived.WalkKit
import Derived.OwnWalkIn
import Derived.TacticsInMore
import Derived.LoopNIn
import Derived.LoopIn
import Derived.Maps.AppendAt
import Derived.Maps.OwnIn
namespace Go.Proofs.Ytlealjcllbpgkaa
open Go.RowKit Go.Shelf
attribute [local go_sem] Oper.semAt_some

variable {α : Type} {n : Nat} {P : Program}

/-- What an iterator promises that is called with fb ahead of yield: its rounds keep what lies below n0; G says what comes when. -/
def SeqB (n : Nat) (P : Program) (gf : Nat) (fb : Array Value) (encs : α → Array Value) (G : List α → α → Prop) (n0 : Nat) (S Sp : List α → Prop) (w : World) : Prop :=
  ∀ (l : Nat) (J Jx : List α → World → Prop) (W : World), Below w.heap.size w W → AbidesFrom W.heap.size J → AbidesFrom W.heap.size Jx →
    (∀ pre x W1, J pre W1 → G pre x → YieldAt Fence.wide (n - 1) P l (encs x) W1 fun e W2 => (e = .returned (.bool true) ∧ J (pre ++ [x]) W2 ∧ Below n0 W1 W2) ∨ (e = .returned (.bool false) ∧ Jx (pre ++ [x]) W2)) →
    J [] W → CallsIn Fence.wide n P gf (fb ++ #[.func (.yield l) #[] #[]]) W fun e W2 => (∃ v, e = .returned v) ∧ ((∃ xs, S xs ∧ J xs W2) ∨ ∃ pre, Sp pre ∧ Jx pre W2)
/-- The function's own blocks: from n0 on, laid ahead of the loop, or cells. -/
def ownB (n0 B : Nat) (W : World) (k : Nat) : Prop := n0 ≤ k ∧ (k < B ∨ ∃ cs t f, W.heap[k]? = some (.cells cs t f))
/-- How a round is left: it goes on, or it returns; it has written the function's own blocks alone. -/
def postB (n0 B : Nat) (I Ix : List α → World → Prop) (xs : List α) (W : World) : Exit → Act → World → Prop
  | .normal, _, W2 => Upd (ownB n0 B W) W W2 ∧ I xs W2
  | .ret, _, W2 => Upd (ownB n0 B W) W W2 ∧ Ix xs W2
  | _, _, _ => False
theorem upd_keeps {n0 B : Nat} {W W2 : World} (h : Upd (ownB n0 B W) W W2) : KeepsFrom B W W2 :=
  ⟨h.size, fun k o hB hk ho => (h.block k (Array.getElem?_eq_some_iff.1 hk).1 fun hx => by
    rcases hx.2 with h1 | ⟨cs, t, f, h1⟩
    · omega
    · rw [hk] at h1
      injection h1 with h1
      rw [h1] at ho
      cases ho).trans hk⟩
theorem upd_belowN {n0 B : Nat} {W W2 : World} (h : Upd (ownB n0 B W) W W2) (hn : n0 ≤ W.heap.size) : Below n0 W W2 := h.below hn fun k hk hx => by have := hx.1; omega

theorem wp_range_bound {g : Operand} {ps : Array Tmp} {assign body : Code} {Q : Exit → Act → World → Prop} {a : Act} {w : World} {gf : Nat} {fb : Array Value} (hg : a.eval g = .func (.func gf) fb #[])
    (eg : ∀ args w, (callFunc gf args).run P w = .ok (.enter gf args) w) {encs : α → Array Value} {G : List α → α → Prop} {n0 : Nat} {S Sp : List α → Prop} {w0 : World} (hseq : SeqB (n - 1) P gf fb encs G n0 S Sp w0) (hb0 : Below w0.heap.size w0 w) (hn0 : n0 ≤ w.heap.size)
    (hps : ∀ x, (encs x).size = ps.size) (I Ix : List α → World → Prop) (hI : OwnFrom w.heap.size I) (hIx : OwnFrom w.heap.size Ix) (h0 : I [] w) (a1 : α → Act)
    (hassign : ∀ (l : Nat) (x : α) (W : World) (K : Act → World → Prop), K (a1 x) W →
      assign.wpIn (Fence.wide.inRound l) (n - 1 - 1) P (Exit.then K (fun _ _ _ => False)) { tmps := (ps.zip (encs x)).foldl (fun t (p, v) => t.setIfInBounds p v) a.tmps, defers := [] } W)
    (hbody : ∀ (l : Nat) (pre : List α) (x : α) (W : World), I pre W → G pre x → w.heap.size ≤ W.heap.size → body.wpIn (Fence.wide.inRound l) (n - 1 - 1) P (postB n0 w.heap.size I Ix (pre ++ [x]) W) (a1 x) W)
    (hdone : ∀ (D : Nat) (xs : List α) (W : World), w.heap.size ≤ D → S xs → I xs W → W.heap[D]? = some (.deferred (some [])) → Q .normal { a with defers := { target := .collected D, args := #[] } :: a.defers } W)
    (hstop : ∀ (D : Nat) (pre : List α) (W : World), w.heap.size ≤ D → Sp pre → Ix pre W → W.heap[D]? = some (.deferred (some [])) → Q .ret { a with defers := { target := .collected D, args := #[] } :: a.defers } W) :
    (Code.rangeFunc g ps assign body).wp P Q a w := by
  refine (wpIn_wide (n := n)).1 (wpIn_rangeFunc ?_)
  intro fn hfn
  generalize hB : w.heap.size = B at *
  obtain ⟨rec, hrec⟩ : ∃ rec : LoopState → Option Code → Loop, rec = fun st pe => { state := st, pending := pe, fn, tmps := a.tmps, params := ps, assign, body, defers := B } := ⟨_, rfl⟩
  obtain ⟨W1, hW1⟩ : ∃ W1, (w.alloc (.deferred (some []))).alloc (.loop (rec .ready none)) = W1 := ⟨_, rfl⟩
  have hs1 : W1.heap.size = B + 2 := by rw [← hW1]; simp [hB]
  have hL1 : W1.heap[B + 1]? = some (.loop (rec .ready none)) := by
    have := World.alloc_heap_new (w.alloc (.deferred (some []))) (.loop (rec .ready none))
    rw [World.size_alloc, hB] at this
    rw [← hW1]
    exact this
  have hD1 : W1.heap[B]? = some (.deferred (some [])) := by
    rw [← hW1, ← hB]
    exact (Below.heap_alloc _ _ _ (by simp)).trans (World.alloc_heap_new w _)
  have hI1 : I [] W1 := by
    rw [← hW1]
    exact hI.alloc _ (hI.alloc _ h0)
  have hb1 : Below w0.heap.size w0 W1 := by
    rw [← hW1]
    exact hb0.trans ((((Below.refl _ w).alloc (Nat.le_refl _) _).alloc (by simp) _).mono hb0.size)
  refine ⟨B + 1, [{ target := .collected B, args := #[] }], W1, { target := .fn (.func gf) #[], args := fb ++ #[.func (.yield (B + 1)) #[] #[]] }, W1, gf, fb ++ #[.func (.yield (B + 1)) #[] #[]], W1, ?_, ?_, ?_, ?_, fun h => absurd h (by simp [Fence.wide]), ?_⟩
  · rw [← hW1, hrec, ← hB]
    exact run_enterLoop_outer _ _ _ _ _
  · simp only [resolve, hg]
    simp [go_sem]
  · intro f' _
    trivial
  · simp [invoke, go_sem, eg]
  · have hnw : ∀ {A C : World} {row : Option Nat}, (∀ r, row = some r → W1.heap.size ≤ r ∧ ∃ o : Obj, A.heap[r]? = some o ∧ o.isWalk = true) → (∀ r, row = some r → B ≤ r ∧ ∃ o : Obj, A.heap[r]? = some o ∧ o.isCells = false) :=
      fun hr r e => by
        obtain ⟨h1, o, ho, hw⟩ := hr r e
        exact ⟨by omega, o, ho, Obj.not_cells_of_walk hw⟩
    refine (hseq (B + 1) (fun pre W => I pre W ∧ W.heap[B + 1]? = some (.loop (rec .ready none)) ∧ W.heap[B]? = some (.deferred (some [])))
      (fun pre W => Ix pre W ∧ W.heap[B + 1]? = some (.loop (rec .done (some .ret))) ∧ W.heap[B]? = some (.deferred (some []))) W1 hb1
      (fun s A C row hs hg2 hr => ⟨hI s A C row hs.1 hg2 (hnw (C := C) hr), (grownBy_keeps hg2 (fun r e => (hr r e).2) hs.2.1 rfl).trans hs.2.1, (grownBy_keeps hg2 (fun r e => (hr r e).2) hs.2.2 rfl).trans hs.2.2⟩)
      (fun s A C row hs hg2 hr => ⟨hIx s A C row hs.1 hg2 (hnw (C := C) hr), (grownBy_keeps hg2 (fun r e => (hr r e).2) hs.2.1 rfl).trans hs.2.1, (grownBy_keeps hg2 (fun r e => (hr r e).2) hs.2.2 rfl).trans hs.2.2⟩)
      ?_ ⟨hI1, hL1, hD1⟩).mono ?_
    · rintro pre x W ⟨hi, hl, hk⟩ hlen
      have hlt : B + 1 < W.heap.size := (Array.getElem?_eq_some_iff.1 hl).1
      have hy := run_yield (P := P) (args := encs x) hl (by rw [hrec]; exact hps x)
      rw [hrec] at hy
      refine ⟨fn, _, assign, body, hy, roundIn_of_wpIn hfn (hassign _ x W _ ⟨_, run_beginRound hl (by rw [hrec]), ?_⟩)⟩
      obtain ⟨W2, hW2⟩ : ∃ W2, W.putObj (B + 1) (.loop { rec .ready none with state := .busy }) = W2 := ⟨_, rfl⟩
      have hl2 : W2.heap[B + 1]? = some (.loop { rec .ready none with state := .busy }) := by rw [← hW2]; exact World.putObj_heap_same hlt
      have hk2 : W2.heap[B]? = some (.deferred (some [])) := by rw [← hW2]; exact (World.putObj_heap_other (by omega)).trans hk
      have hi2 : I pre W2 := by rw [← hW2]; exact hI.putObj _ hi (by omega) hl rfl
      have hw2 : Below n0 W W2 := by rw [← hW2]; exact belowK_b (w := w) (by omega) _ _ _ _ (by omega) hl rfl rfl
      rw [hW2]
      refine wpIn_mono (hbody _ pre x W2 hi2 hlen (by have := (Array.getElem?_eq_some_iff.1 hl2).1; omega)) ?_
      have fin : ∀ (jump : Option Code) (W3 : World), KeepsFrom B W2 W3 →
          (Instr.endRound (B + 1) jump).run P W3 = .ok (.bool jump.isNone) (W3.putObj (B + 1) (.loop (rec (if jump.isNone then .ready else .done) jump))) ∧
          W3.heap[B + 1]? = some (.loop { rec .ready none with state := .busy }) ∧
          (W3.putObj (B + 1) (.loop (rec (if jump.isNone then .ready else .done) jump))).heap[B + 1]? = some (.loop (rec (if jump.isNone then .ready else .done) jump)) ∧
          (W3.putObj (B + 1) (.loop (rec (if jump.isNone then .ready else .done) jump))).heap[B]? = some (.deferred (some [])) := fun jump W3 hk3 => by
        have hl3 := hk3.same _ _ (by omega) hl2 rfl
        have := run_endRound (P := P) jump hl3
        rw [hrec] at this ⊢
        exact ⟨this, by rw [hrec] at hl3; exact hl3, World.putObj_heap_same (Array.getElem?_eq_some_iff.1 hl3).1, (World.putObj_heap_other (by omega)).trans (hk3.same _ _ (Nat.le_refl _) hk2 rfl)⟩
      rintro e a3 W3 hp
      cases e with
      | normal =>
        obtain ⟨hu, hi3⟩ := hp
        obtain ⟨hr, hl3, hl4, hk4⟩ := fin none W3 (upd_keeps hu)
        exact ⟨_, _, hr, .inl ⟨rfl, ⟨hI.putObj _ hi3 (by omega) hl3 rfl, hl4, hk4⟩, (hw2.trans (upd_belowN hu (by have := (Array.getElem?_eq_some_iff.1 hl2).1; omega))).trans (belowK_b (w := w) (by omega) _ _ _ _ (by omega) hl3 rfl rfl)⟩⟩
      | ret =>
        obtain ⟨hu, hi3⟩ := hp
        obtain ⟨hr, hl3, hl4, hk4⟩ := fin (some .ret) W3 (upd_keeps hu)
        exact ⟨_, _, hr, .inr ⟨rfl, hIx.putObj _ hi3 (by omega) hl3 rfl, hl4, hk4⟩⟩
      | exit id => exact hp.elim
      | goto t => exact hp.elim
      | panic ch => exact hp.elim
      | outgrown => exact hp.elim
    · rintro e W2 ⟨⟨v, rfl⟩, (⟨xs, hS, hi, hl, hk⟩ | ⟨pre, hSp, hi, hl, hk⟩)⟩
      · exact ⟨none, _, by have := run_endLoop (P := P) hl (by rw [hrec]; simp); rw [hrec] at this; exact this, hdone _ xs _ (Nat.le_refl _) hS (hI.putObj _ hi (by omega) hl rfl) ((World.putObj_heap_other (by omega)).trans hk)⟩
      · exact ⟨some .ret, _, by have := run_endLoop (P := P) hl (by rw [hrec]; simp); rw [hrec] at this; exact this, wpIn_ret (hstop _ pre _ (Nat.le_refl _) hSp (hIx.putObj _ hi (by omega) hl rfl) ((World.putObj_heap_other (by omega)).trans hk))⟩

/-! A region that draws its order, in a round: one walk of the text's order, whose calls keep all that was there. -/
def noDefer (ops : Array Oper) : Bool := ops.all fun o => match o.op with | .defer _ => false | _ => true
theorem noDefer_spec {ops : Array Oper} (h : noDefer ops = true) {i : Nat} {o : Oper} (ho : ops[i]? = some o) : ∀ c, o.op ≠ .defer c := fun c hc => by
  unfold noDefer at h
  rw [Array.all_eq_true] at h
  obtain ⟨hi, he⟩ := Array.getElem?_eq_some_iff.1 ho
  have := h i hi
  rw [he, hc] at this
  cases this
theorem op_in_round {r : Nat} {C : World → Prop} {o : Oper} {a : Act} {K : Act → Prop} {K2 : Act → World → Prop} {Q : Exit → Act → World → Prop} {w : World} (hd : ∀ c, o.op ≠ .defer c) (hw : C w) (h : ∀ a w1, C w1 → K a → K2 a w1) (hh : o.quiet P a C K) :
    o.wpIn (Fence.wide.inRound r) n P a w K2 Q := by
  obtain ⟨v, h1, h2⟩ := hh
  have h3 := h1 w hw
  unfold Oper.quietAt at h3
  unfold Oper.wpIn
  refine ⟨fun _ _ => trivial, ?_⟩
  rw [Oper.semAt_eq _ _ _ hd]
  generalize (execOp a.eval o).run P w = x at *
  cases x with
  | ok x w1 =>
    cases x <;> simp only [Oper.quietUpon] at h3 <;> simp only [Oper.uponIn]
    case value u =>
      obtain ⟨e1, e2⟩ := h3
      rw [e1, e2]
      exact h _ _ hw h2
    case skip =>
      obtain ⟨e1, e2⟩ := h3
      rw [e1, ← e2]
      exact h _ _ hw h2
    case enter f args =>
      obtain ⟨e1, hc⟩ := h3
      rw [e1]
      refine ⟨fun hx => absurd hx (by simp [Fence.wide]), ?_⟩
      have hc2 : CallsIn (Fence.wide.inRound r) (n - 1) P f args w fun e w2 => e = .returned v ∧ C w2 := CallsIn.inRound r (callsIn_wide.2 hc)
      exact hc2.mono fun e w2 ⟨he, hw2⟩ => by subst he; exact h _ _ hw2 h2
  | halt x w1 => simp only [Oper.quietUpon] at h3
theorem any_in_round {r : Nat} {C : World → Prop} {ops : Array Oper} {md : Region.Mode} {R : Act → Prop} {Q : Exit → Act → World → Prop} (hd : noDefer ops = true) (hQ : ∀ a w, C w → R a → Q .normal a w) : ∀ (fuel : Nat) (listed : Array Bool) (a : Act) (w : World), C w →
    wpAnyQ P md ops C R fuel listed a → wpAnyIn (Fence.wide.inRound r) n P md ops Q fuel listed a w
  | 0, _, _, _, hw, h => ⟨h.1, hQ _ _ hw h.2⟩
  | fuel + 1, listed, a, w, hw, h => ⟨fun h0 => hQ _ _ hw (h.1 h0), fun i hi => by
      have h2 := h.2 i hi
      unfold qOp at h2
      unfold wpOpIn
      split
      · rename_i ho
        simp only [ho] at h2
        exact any_in_round hd hQ fuel _ a w hw h2
      · rename_i o ho
        simp only [ho] at h2
        split
        · rename_i hx
          simp only [hx, if_true] at h2
          exact op_in_round (noDefer_spec hd ho) hw (fun a1 w1 hw1 => any_in_round hd hQ fuel _ a1 w1 hw1) h2
        · rename_i hx
          simp only [hx] at h2
          exact ⟨fun _ _ => trivial, any_in_round hd hQ fuel _ _ w hw h2⟩⟩
theorem wpIn_region_round {r id : Nat} {Q : Exit → Act → World → Prop} {a : Act} {w : World} {l : List Oper} (W : World) (hw : New W w) (hm : P.follows .mixedOrders = true) (hB : Region.lexB .any l.toArray = true) (hd : noDefer l.toArray = true)
    (h : wpQuiet P l.toArray (fun w1 => ∃ n : NewW W, w1 = n.w) (fun a1 => ∀ w1, (∃ n : NewW W, w1 = n.w) → Q .normal a1 w1) l a) : (Code.region id l.toArray true).wpIn (Fence.wide.inRound r) n P Q a w := by
  simp only [Region.lexB, Bool.and_eq_true] at hB
  refine wpIn_region_any hm (any_in_round (C := fun w1 => ∃ n : NewW W, w1 = n.w) (R := fun a1 => ∀ w1, (∃ n : NewW W, w1 = n.w) → Q .normal a1 w1) hd (fun _ w1 h1 h2 => h2 w1 h1) _ _ _ _ ⟨⟨_, hw.drew⟩, rfl⟩ ?_)
  have := wpAnyQ_lex (P := P) (C := fun w1 => ∃ n : NewW W, w1 = n.w) (Q := fun a1 => ∀ w1, (∃ n : NewW W, w1 = n.w) → Q .normal a1 w1) (md := .any) hB.1 l 0 (Array.replicate l.toArray.size false) a (by simp) (by simpa using hB.2) h
  simpa using this

/-! A region that draws its order, in a round, whose last operations write. -/
theorem op_round {r : Nat} {o : Oper} {a : Act} {K K2 : Act → World → Prop} {Q : Exit → Act → World → Prop} {w : World} (hd : ∀ c, o.op ≠ .defer c) (h : ∀ a w1, K a w1 → K2 a w1) (hh : o.wp P a w K Q) :
    o.wpIn (Fence.wide.inRound r) n P a w K2 Q := by
  unfold Oper.wp at hh
  unfold Oper.wpIn
  refine ⟨fun _ _ => trivial, ?_⟩
  rw [Oper.semAt_eq _ _ _ hd]
  generalize (execOp a.eval o).run P w = x at *
  have hdep : (Fence.wide.inRound r).depth.isSome = true → 1 ≤ n := fun hx => absurd hx (by simp [Fence.wide])
  cases x with
  | ok x w1 =>
    cases x <;> simp only [Oper.upon] at hh <;> simp only [Oper.uponIn]
    case value u => exact h _ _ hh
    case skip => exact h _ _ hh
    case defer d => exact h _ _ hh
    case enter f args =>
      refine ⟨hdep, ?_⟩
      have hc := CallsIn.inRound r ((callsIn_wide (n := n - 1)).2 hh)
      refine CallsIn.mono hc fun e w2 he => ?_
      cases e with
      | returned v => exact h _ _ he
      | panicked ch => exact he
      | outgrown => exact he
    case row row args =>
      exact ⟨hdep, fun c cs _ => let ⟨v, w2, h2, s⟩ := hh c cs; ⟨v, w2, h _ _ h2, stepsIn_wide.2 s⟩⟩
  | halt x w1 => cases x <;> simp only [Oper.upon] at hh <;> simp only [Oper.uponIn] <;> exact hh
theorem any_round {r : Nat} {ops : Array Oper} {md : Region.Mode} {Q : Exit → Act → World → Prop} (hd : noDefer ops = true) (hno : ¬ LetsOut Q) : ∀ (fuel : Nat) (listed : Array Bool) (a : Act) (w : World),
    wpAny P md ops Q fuel listed a w → wpAnyIn (Fence.wide.inRound r) n P md ops Q fuel listed a w
  | 0, _, _, _, h => h
  | fuel + 1, listed, a, w, h => ⟨h.1, fun i hi => by
      have h2 := h.2 i hi
      unfold wpOp at h2
      unfold wpOpIn
      split
      · rename_i ho
        simp only [ho] at h2
        exact any_round hd hno fuel _ a w h2
      · rename_i o ho
        simp only [ho] at h2
        split
        · rename_i hx
          simp only [hx, if_true] at h2
          rcases h2 with h2 | h2
          · exact op_round (noDefer_spec hd ho) (fun a1 w1 => any_round hd hno fuel _ a1 w1) h2
          · exact absurd h2.2 hno
        · rename_i hx
          simp only [hx] at h2
          exact ⟨fun _ _ => trivial, any_round hd hno fuel _ _ w h2⟩⟩
theorem wpIn_region_held_round {r id : Nat} {Q : Exit → Act → World → Prop} {a : Act} {w : World} {ops : Array Oper} (S : World → Prop) (hm : P.follows .mixedOrders = true) (hd : noDefer ops = true) (hno : ¬ LetsOut Q)
    (h : wpAnyH P .any ops Q S ops.size (Array.replicate ops.size false) a w.drew) : (Code.region id ops true).wpIn (Fence.wide.inRound r) n P Q a w :=
  wpIn_region_any hm (any_round hd hno _ _ _ _ (wpAny_of_held _ _ _ _ h))
end Go.Proofs.Ytlealjcllbpgkaa

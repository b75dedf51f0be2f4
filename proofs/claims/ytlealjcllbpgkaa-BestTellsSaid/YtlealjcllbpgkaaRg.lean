/- Regions that draw their order, whose calls may make memory but turn nothing that was there: one walk serves every order. No condition but those that stand in each theorem. -/
import Derived.Test.YtlealjcllbpgkaaHp
import Derived.Deep.QuietTactic
import Derived.BigQuiet
namespace Go.Proofs.Ytlealjcllbpgkaa
open Go.RowKit

/-- A world in which all that was in W is as it was. -/
structure NewW (W : World) where
  w : World
  h : New W w

instance (W : World) : Nonempty (NewW W) := ⟨⟨W, Upd.refl _ _⟩⟩

theorem NewW.cell {W : World} (n : NewW W) (b o : Nat) (hb : b < W.heap.size) : n.w.cell? ⟨b, o, none⟩ = W.cell? ⟨b, o, none⟩ := n.h.cell hb (fun x => x)
theorem NewW.frozen {W : World} (n : NewW W) (b o : Nat) (hb : b < W.heap.size) : n.w.frozen? ⟨b, o, none⟩ = W.frozen? ⟨b, o, none⟩ := n.h.frozen hb (fun x => x)
attribute [go_sem] NewW.cell NewW.frozen

theorem wp_region_new {P : Program} {id : Nat} {Q : Exit → Act → World → Prop} {a : Act} {w : World} {l : List Oper} (W : World) (hw : New W w) (hm : P.follows .mixedOrders = true) (hB : Region.lexB .any l.toArray = true)
    (h : wpQuiet P l.toArray (fun w1 => ∃ n : NewW W, w1 = n.w) (fun a1 => ∀ w1, (∃ n : NewW W, w1 = n.w) → Q .normal a1 w1) l a) : (Code.region id l.toArray true).wp P Q a w :=
  wp_region_quiet (C := fun w1 => ∃ n : NewW W, w1 = n.w) hm hB ⟨⟨_, hw.drew⟩, rfl⟩ (by simpa using h)

/-- A callee that turns nothing that was there. -/
theorem new_call {P : Program} {f : FuncId} {args : Array Value} {W : World} {n : NewW W} {v : Value} (h : Calls P f args n.w fun e w1 => e = .returned v ∧ New n.w w1) :
    Calls P f args n.w fun e w2 => e = .returned v ∧ ∃ m : NewW W, w2 = m.w :=
  h.mono fun _ _ ⟨he, hn⟩ => ⟨he, ⟨_, n.h.trans_new hn⟩, rfl⟩
theorem new_call_same {P : Program} {f : FuncId} {args : Array Value} {W : World} {n : NewW W} {v : Value} (h : Calls P f args n.w fun e w1 => e = .returned v ∧ n.w = w1) :
    Calls P f args n.w fun e w2 => e = .returned v ∧ ∃ m : NewW W, w2 = m.w :=
  h.mono fun _ _ ⟨he, hn⟩ => ⟨he, n, hn.symm⟩
theorem wpList_of_quiet {P : Program} {ops : Array Oper} {C : World → Prop} {Q : Exit → Act → World → Prop} {R : Act → Prop} (hQ : ∀ a w, C w → R a → Q .normal a w) :
    ∀ (l : List Oper) (a : Act) (w : World), C w → wpQuiet P ops C R l a → wpList P ops Q l a w := by
  intro l
  induction l with
  | nil => intro a w hw h; exact hQ a w hw h
  | cons o l ih =>
    intro a w hw h
    unfold wpQuiet at h
    unfold wpList
    by_cases hd : Region.wanted o (yielded ops a.tmps) = true
    · rw [if_pos hd] at h ⊢
      exact .inl (Oper.wp_of_quiet hw (fun a1 w1 h1 h2 => ih a1 w1 h1 h2) h)
    · rw [if_neg hd] at h ⊢
      exact ih _ w hw h

/-- The same for a region whose order is the text's. -/
theorem wp_region_seq {P : Program} {id : Nat} {Q : Exit → Act → World → Prop} {a : Act} {w : World} {l : List Oper} (W : World) (hw : New W w)
    (h : wpQuiet P l.toArray (fun w1 => ∃ n : NewW W, w1 = n.w) (fun a1 => ∀ w1, (∃ n : NewW W, w1 = n.w) → Q .normal a1 w1) l a) : (Code.region id l.toArray false).wp P Q a w :=
  wp_region_lit (wpList_of_quiet (C := fun w1 => ∃ n : NewW W, w1 = n.w) (fun _ w1 h1 h2 => h2 w1 h1) l a w ⟨⟨w, hw⟩, rfl⟩ h)
end Go.Proofs.Ytlealjcllbpgkaa

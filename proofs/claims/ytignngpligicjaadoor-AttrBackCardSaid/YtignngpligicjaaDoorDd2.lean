/- The document's texts: Cut, NumberOf. No condition but those that stand in each theorem. -/
import Derived.Test.YtignngpligicjaaDoorAp1
import Derived.Test.YtignngpligicjaaDoorCt2
namespace Go.Proofs.YtignngpligicjaaDoor
open Go.RowKit

/-- The slice with its address A reads as these texts. -/
def Ss (w : World) (A : Option Addr) (ps : List (List UInt8)) : Prop :=
  0 < ps.length → ∃ b o, A = some ⟨b, o, none⟩ ∧ b < w.heap.size ∧ ∀ (i : Nat) (p : List UInt8), ps[i]? = some p → w.cell? ⟨b, o + i, none⟩ = some (.string ⟨p.toArray⟩)
theorem Ss.upd {S : Nat → Prop} {w w1 : World} {A : Option Addr} {ps : List (List UInt8)} (h : Ss w A ps) (hu : Upd S w w1) (hn : ∀ b o, A = some ⟨b, o, none⟩ → ¬ S b) : Ss w1 A ps := fun hl => by
  obtain ⟨b, o, rfl, hb, hc⟩ := h hl
  exact ⟨b, o, rfl, Nat.lt_of_lt_of_le hb hu.size, fun i x hx => (hu.cell hb (hn b o rfl)).trans (hc i x hx)⟩
theorem Ss.new_ {w w1 : World} {A : Option Addr} {ps : List (List UInt8)} (h : Ss w A ps) (hu : New w w1) : Ss w1 A ps := h.upd hu fun _ _ _ x => x
def sV (p : List UInt8) : Value := .string ⟨p.toArray⟩
theorem ss_flat (ps : List (List UInt8)) : flat (ps.map fun p => #[sV p]) = ps.map sV := by
  induction ps with
  | nil => rfl
  | cons x xs ih => rw [List.map_cons, List.map_cons, ← ih]; rfl
theorem ss_of_own {w : World} {base : Nat} {e : TypeId} {v : Value} {n : Nat} {ps : List (List UInt8)} (h : w.ownsRow base e 1 v n (ps.map sV)) :
    ∃ A cap, v = .slice A n cap ∧ ps.length = n ∧ n ≤ cap ∧ Ss w A ps := by
  rw [← ss_flat] at h
  obtain ⟨A, cap, rfl, hn, hc, hr, _, _⟩ := rws_of_own (by omega) h (by intro r hr; obtain ⟨x, _, rfl⟩ := List.mem_map.1 hr; rfl)
  refine ⟨A, cap, rfl, by simpa using hn, hc, fun h0 => ?_⟩
  obtain ⟨b, o, hA, hlt, hcc⟩ := hr (by simpa using h0)
  refine ⟨b, o, hA, hlt, fun i x hx => ?_⟩
  have := hcc i #[sV x] (by simp [hx]) 0 _ rfl
  simpa [sV] using this
end Go.Proofs.YtignngpligicjaaDoor

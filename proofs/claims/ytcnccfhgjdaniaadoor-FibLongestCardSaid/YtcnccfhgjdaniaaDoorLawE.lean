/- Entries that came in as an argument: what the reading gives. No condition but those that stand in each theorem. -/
import Derived.Test.YtcnccfhgjdaniaaDoorFoS
import Derived.Test.YtcnccfhgjdaniaaDoorLaw
import Derived.Test.YtcnccfhgjdaniaaDoorCards
import Derived.Test.YtcnccfhgjdaniaaDoorTie
import Derived.SevenTiedAt
namespace Go.Proofs.YtcnccfhgjdaniaaDoor
open Go.ChangeShapes Go.WideShapes Go.ChangeAt Go.RowKit Go.Deep

theorem gB : Tryd.prog.globalNamed "herepath/api.ErrBound" = some gBound := by kernel_rfl
theorem gS : Tryd.prog.globalNamed "herepath/api.ErrShape" = some gShape := by kernel_rfl
theorem tB : (Tryd.prog.globals[gBound]?).map (·.type) = some 27 := by kernel_rfl
theorem tS : (Tryd.prog.globals[gShape]?).map (·.type) = some 27 := by kernel_rfl
theorem cellsE : Tryd.prog.cellsOf 32 = 3 := by kernel_rfl
theorem allE : allInt Tryd.prog 4 32 = true := by kernel_rfl

/-- The number in a cell. -/
def iv (w : World) (p : Addr) : Int := match w.cell? p with
  | some (.int _ n) => n
  | _ => 0

/-- A list of entries that came in. -/
theorem ents_of_trod {H : Type} {enc : TypeId × Value → H} {W : World} {sp : Nat → Bool} {held : Bool} {fuel : Nat} {A : Option Addr} {len cap : Nat} {x : DataW H × List MemPlace}
    (h : DataW.trod enc Tryd.prog W 0 sp held fuel 22 [.slice A len cap] = some x) (hlen : 0 < len) :
    ∃ b o xs, A = some ⟨b, o, none⟩ ∧ Ents W b o xs ∧ xs.length = len := by
  rcases open_slice Tryd.underlying22 h with ⟨h0, _⟩ | ⟨a, l, c, m, n, D, Pl, hcs, _, hl, _, hm, _, hi⟩
  · injection h0 with h0; injection h0 with _ h1 _; omega
  · injection hcs with hcs; injection hcs with e1 e2 e3
    subst e1; subst e2; subst e3
    have hmlen : len ≤ m := by rw [hm]; split <;> omega
    have cell : ∀ i j, i < len → j < 3 → ∃ z, W.cell? (a.add (i * 3 + j)) = some (.int .i64 z) := by
      intro i j hi1 hj
      obtain ⟨cs', hc, ht⟩ := hi i (by omega)
      rw [cellsE] at hc
      obtain ⟨_, hcl, hat⟩ := World.cells?_some hc
      have hv : cs'[j]? = some (cs'[j]'(by omega)) := List.getElem?_eq_getElem (by omega)
      obtain ⟨z, hz, _⟩ := allInt_cells 4 _ _ _ _ allE ht j _ hv
      have h1 := hat j hj
      rw [hv, hz, Go.Deep.add_add] at h1
      exact ⟨z, h1⟩
    obtain ⟨z0, hz0⟩ := cell 0 0 hlen (by omega)
    have hsp : a.spot = none := by
      have : W.cell? a = some (.int .i64 z0) := by simpa [Addr.add] using hz0
      exact World.cell?_spot this
    obtain ⟨b, o, s⟩ := a
    subst hsp
    have hadd : ∀ k, (⟨b, o, none⟩ : Addr).add k = ⟨b, o + k, none⟩ := by
      intro k; unfold Addr.add; split
      · rename_i h; subst h; rfl
      · rfl
    refine ⟨b, o, (List.range len).map fun i => ⟨iv W ⟨b, o + i * 3, none⟩, iv W ⟨b, o + i * 3 + 1, none⟩, iv W ⟨b, o + i * 3 + 2, none⟩⟩, rfl, ?_, by simp⟩
    intro i x hx
    have hil : i < len := by
      have := (List.getElem?_eq_some_iff.1 hx).1
      simpa using this
    rw [List.getElem?_map, List.getElem?_range hil] at hx
    simp only [Option.map_some, Option.some.injEq] at hx
    subst hx
    obtain ⟨z0, h0⟩ := cell i 0 hil (by omega)
    obtain ⟨z1, h1⟩ := cell i 1 hil (by omega)
    obtain ⟨z2, h2⟩ := cell i 2 hil (by omega)
    rw [hadd] at h0 h1 h2
    have h0' : W.cell? ⟨b, o + i * 3, none⟩ = some (.int .i64 z0) := h0
    have h1' : W.cell? ⟨b, o + i * 3 + 1, none⟩ = some (.int .i64 z1) := h1
    have h2' : W.cell? ⟨b, o + i * 3 + 2, none⟩ = some (.int .i64 z2) := h2
    simp [iv, h0', h1', h2']

end Go.Proofs.YtcnccfhgjdaniaaDoor

/- Rows of cells in memory: prefixes, routes, messages, strings; the first wrong place. No condition but those that stand in each theorem. -/
import Derived.Test.YtlealjcllbpgkaaAt1
namespace Go.Proofs.Ytlealjcllbpgkaa
open Go.RowKit

/-- The slice with its address A reads as these rows of sz cells each. -/
def Rws (w : World) (A : Option Addr) (sz : Nat) (rs : List (Array Value)) : Prop :=
  0 < rs.length → ∃ b o, A = some ⟨b, o, none⟩ ∧ b < w.heap.size ∧ ∀ (i : Nat) (r : Array Value), rs[i]? = some r → ∀ (j : Nat) (v : Value), r[j]? = some v → w.cell? ⟨b, o + i * sz + j, none⟩ = some v

section
variable {S : Nat → Prop} {w w1 : World} {A : Option Addr} {sz : Nat} {rs : List (Array Value)}
theorem Rws.upd (h : Rws w A sz rs) (hu : Upd S w w1) (hn : ∀ b o, A = some ⟨b, o, none⟩ → ¬ S b) : Rws w1 A sz rs := fun hl => by
  obtain ⟨b, o, rfl, hb, hc⟩ := h hl
  exact ⟨b, o, rfl, Nat.lt_of_lt_of_le hb hu.size, fun i r hr j v hv => (hu.cell hb (hn b o rfl)).trans (hc i r hr j v hv)⟩
theorem Rws.new_ (h : Rws w A sz rs) (hu : New w w1) : Rws w1 A sz rs := h.upd hu fun _ _ _ x => x
end

/-- A prefix. -/
structure Pf where
  a : Int
  n : Int
deriving DecidableEq
def Pf.cells (p : Pf) : Array Value := #[.int .i64 p.a, .int .i64 p.n]
/-- A route. -/
structure RouteR where
  a : Int
  n : Int
  at_ : AttrR
  frm : Int
def RouteR.cells (r : RouteR) : Array Value := #[.int .i64 r.a, .int .i64 r.n, .slice r.at_.P r.at_.path.length r.at_.pc, .int .i64 r.at_.pref, .int .i64 r.at_.med, .int .i64 r.at_.origin, .slice r.at_.T r.at_.tags.length r.at_.tc, .int .i64 r.frm]
/-- A message. -/
structure MsgR where
  kind : ByteArray
  n : Int
  D : Option Addr
  dc : Nat
  drops : List Pf
  A : Option Addr
  ac : Nat
  adds : List RouteR
def MsgR.cells (m : MsgR) : Array Value := #[.string m.kind, .int .i64 m.n, .slice m.D m.drops.length m.dc, .slice m.A m.adds.length m.ac]

def Pfs (w : World) (A : Option Addr) (ps : List Pf) : Prop := Rws w A 2 (ps.map Pf.cells)
structure Rts (w : World) (A : Option Addr) (rs : List RouteR) : Prop where
  rows : Rws w A 8 (rs.map RouteR.cells)
  attr : ∀ (i : Nat) (r : RouteR), rs[i]? = some r → AttrOk w r.at_
structure MsgOk (w : World) (m : MsgR) : Prop where
  drops : Pfs w m.D m.drops
  adds : Rts w m.A m.adds
  dl : m.drops.length ≤ m.dc
  al : m.adds.length ≤ m.ac

section
variable {w w1 : World} {A : Option Addr}
theorem Pfs.new_ {ps : List Pf} (h : Pfs w A ps) (hu : New w w1) : Pfs w1 A ps := Rws.new_ h hu
theorem Rts.new_ {rs : List RouteR} (h : Rts w A rs) (hu : New w w1) : Rts w1 A rs := ⟨h.rows.new_ hu, fun i r hr => (h.attr i r hr).new_ hu⟩
theorem MsgOk.new_ {m : MsgR} (h : MsgOk w m) (hu : New w w1) : MsgOk w1 m := ⟨h.drops.new_ hu, h.adds.new_ hu, h.dl, h.al⟩

theorem Pfs.at_ {ps : List Pf} (h : Pfs w A ps) {k : Nat} (hk : k < ps.length) : ∃ b o p, A = some ⟨b, o, none⟩ ∧ b < w.heap.size ∧ ps[k]? = some p ∧
    w.cell? ⟨b, o + k * 2, none⟩ = some (.int .i64 p.a) ∧ w.cell? ⟨b, o + k * 2 + 1, none⟩ = some (.int .i64 p.n) := by
  obtain ⟨b, o, hA, hb, hc⟩ := h (by simpa using by omega)
  have hp : ps[k]? = some ps[k] := List.getElem?_eq_getElem hk
  have h1 := hc k ps[k].cells (by simp [hp])
  exact ⟨b, o, ps[k], hA, hb, hp, h1 0 _ rfl, h1 1 _ rfl⟩

theorem Rts.at_ {rs : List RouteR} (h : Rts w A rs) {k : Nat} (hk : k < rs.length) : ∃ b o r, A = some ⟨b, o, none⟩ ∧ b < w.heap.size ∧ rs[k]? = some r ∧ AttrOk w r.at_ ∧
    w.cell? ⟨b, o + k * 8, none⟩ = some (.int .i64 r.a) ∧ w.cell? ⟨b, o + k * 8 + 1, none⟩ = some (.int .i64 r.n) ∧ w.cell? ⟨b, o + k * 8 + 2, none⟩ = some (.slice r.at_.P r.at_.path.length r.at_.pc) ∧
    w.cell? ⟨b, o + k * 8 + 3, none⟩ = some (.int .i64 r.at_.pref) ∧ w.cell? ⟨b, o + k * 8 + 4, none⟩ = some (.int .i64 r.at_.med) ∧ w.cell? ⟨b, o + k * 8 + 5, none⟩ = some (.int .i64 r.at_.origin) ∧
    w.cell? ⟨b, o + k * 8 + 6, none⟩ = some (.slice r.at_.T r.at_.tags.length r.at_.tc) ∧ w.cell? ⟨b, o + k * 8 + 7, none⟩ = some (.int .i64 r.frm) := by
  obtain ⟨b, o, hA, hb, hc⟩ := h.rows (by simpa using by omega)
  have hp : rs[k]? = some rs[k] := List.getElem?_eq_getElem hk
  have h1 := hc k rs[k].cells (by simp [hp])
  exact ⟨b, o, rs[k], hA, hb, hp, h.attr k _ hp, h1 0 _ rfl, h1 1 _ rfl, h1 2 _ rfl, h1 3 _ rfl, h1 4 _ rfl, h1 5 _ rfl, h1 6 _ rfl, h1 7 _ rfl⟩
end

/-- Strings in a row. -/
def Strs (w : World) (A : Option Addr) (ss : List ByteArray) : Prop :=
  0 < ss.length → ∃ b o, A = some ⟨b, o, none⟩ ∧ b < w.heap.size ∧ ∀ (i : Nat) (s : ByteArray), ss[i]? = some s → w.cell? ⟨b, o + i, none⟩ = some (.string s)

/-- The first place below n at which f is not 0: what it is there, and the place; (0, -1): none. -/
def firstC (f : Nat → Nat) : Nat → Nat → Nat × Int
  | 0, _ => (0, -1)
  | m + 1, k => if f k ≠ 0 then (f k, (k : Int)) else firstC f m (k + 1)
theorem firstC_at (f : Nat → Nat) : ∀ (m k j : Nat), k ≤ j → j < k + m → f j ≠ 0 → (∀ i, k ≤ i → i < j → f i = 0) → firstC f m k = (f j, (j : Int)) := by
  intro m
  induction m with
  | zero => intro k j h1 h2; omega
  | succ m ih =>
    intro k j h1 h2 h3 h4
    unfold firstC
    by_cases hkj : k = j
    · subst hkj; rw [if_pos h3]
    · rw [if_neg (by simpa using h4 k (by omega) (by omega))]
      exact ih (k + 1) j (by omega) (by omega) h3 fun i hi => h4 i (by omega)
theorem firstC_no (f : Nat → Nat) : ∀ (m k : Nat), (∀ i, k ≤ i → i < k + m → f i = 0) → firstC f m k = (0, -1) := by
  intro m
  induction m with
  | zero => intro k _; rfl
  | succ m ih =>
    intro k h
    unfold firstC
    rw [if_neg (by simpa using h k (by omega) (by omega))]
    exact ih (k + 1) fun i hi hl => h i (by omega) (by omega)
end Go.Proofs.Ytlealjcllbpgkaa

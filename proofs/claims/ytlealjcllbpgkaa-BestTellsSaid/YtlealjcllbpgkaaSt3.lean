/- Spans in a row of the call's own: what a store makes of it, what its cells hold. No condition but those that stand in each theorem. -/
import Derived.Test.YtlealjcllbpgkaaSt1
import Derived.Test.YtlealjcllbpgkaaSp5
import Derived.Test.YtlealjcllbpgkaaOw1
import Derived.Test.YtlealjcllbpgkaaPfo
import Derived.Test.YtlealjcllbpgkaaIp2
import Derived.Test.YtlealjcllbpgkaaEv
import Derived.Deep.RegionHeld3
import Derived.Deep.DeepCutAuto
import Derived.Test.YtlealjcllbpgkaaSp1
namespace Go.Proofs.Ytlealjcllbpgkaa
open Go.RowKit

theorem flat_cons2 (s : Nat × Nat) (l : List (Nat × Nat)) : flat ((s :: l).map spc) = .int .i64 (s.1 : Int) :: .int .i64 (s.2 : Int) :: flat (l.map spc) := rfl
theorem flat_set1 : ∀ (l : List (Nat × Nat)) (k y : Nat), k < l.length → (flat (l.map spc)).set (k * 2 + 1) (.int .i64 (y : Int)) = flat ((l.set k ((l.getD k (0, 0)).1, y)).map spc)
  | [], k, y, h => absurd h (by simp)
  | s :: l, 0, y, _ => by rw [flat_cons2]; rfl
  | s :: l, k + 1, y, h => by
    rw [flat_cons2, show (k + 1) * 2 + 1 = (k * 2 + 1) + 1 + 1 by omega, List.set_cons_succ, List.set_cons_succ, flat_set1 l k y (by simpa using h)]
    rfl
theorem flat_set2 : ∀ (l : List (Nat × Nat)) (k : Nat) (s : Nat × Nat), k < l.length → ((flat (l.map spc)).set (k * 2) (.int .i64 (s.1 : Int))).set (k * 2 + 1) (.int .i64 (s.2 : Int)) = flat ((l.set k s).map spc)
  | [], k, s, h => absurd h (by simp)
  | t :: l, 0, s, _ => by rw [flat_cons2]; rfl
  | t :: l, k + 1, s, h => by
    rw [flat_cons2, List.set_cons_succ, flat_cons2, show (k + 1) * 2 + 1 = (k * 2 + 1) + 1 + 1 by omega, show (k + 1) * 2 = k * 2 + 1 + 1 by omega, List.set_cons_succ, List.set_cons_succ, List.set_cons_succ, List.set_cons_succ, flat_set2 l k s (by simpa using h)]
theorem row_upd {S : Nat → Prop} {w w1 : World} {base : Nat} {e : TypeId} {size n : Nat} {v : Value} {xs : List Value} (h : w.ownsRow base e size v n xs) (hu : Upd S w w1) (hn : ∀ g, v.ownBlock = some g → ¬ S g) : w1.ownsRow base e size v n xs := by
  obtain ⟨h1, h2⟩ := h
  refine ⟨h1, ?_⟩
  rcases h2 with h2 | ⟨g, cap, cur, rfl, hg, hh, r⟩
  · exact .inl h2
  · exact .inr ⟨g, cap, cur, rfl, hg, Blk.upd (t := e) hh hu (hn g rfl), r⟩
theorem row_new {w w1 : World} {base : Nat} {e : TypeId} {size n : Nat} {v : Value} {xs : List Value} (h : w.ownsRow base e size v n xs) (hu : New w w1) : w1.ownsRow base e size v n xs := row_upd h hu fun _ _ x => x
theorem row_ge {w : World} {base : Nat} {e : TypeId} {size n : Nat} {v : Value} {xs : List Value} (h : w.ownsRow base e size v n xs) {g : Nat} (hg : v.ownBlock = some g) : base ≤ g ∧ g < w.heap.size := by
  rcases h.2 with ⟨rfl, _⟩ | ⟨g1, cap, cur, rfl, hb, hh, _⟩
  · simp [Value.ownBlock] at hg
  · have : g1 = g := by simpa [Value.ownBlock] using hg
    subst this
    exact ⟨hb, Blk.lt (t := e) hh⟩
theorem row_ne {w : World} {base : Nat} {e t : TypeId} {size n : Nat} {v : Value} {xs : List Value} {X : Nat} {cs : Array Value} (h : w.ownsRow base e size v n xs) (hb : Blk w X t cs) (hne : e ≠ t) : ¬ v.ownBlock = some X := fun hg => by
  rcases h.2 with ⟨rfl, _⟩ | ⟨g1, cap, cur, rfl, _, hh, _⟩
  · simp [Value.ownBlock] at hg
  · have : g1 = X := by simpa [Value.ownBlock] using hg
    subst this
    exact Blk.ne_ (t := e) (t1 := t) hh hb hne rfl
/-- A store into a row of the call's own. -/
theorem own_set {w : World} {base : Nat} {e : TypeId} {sz n : Nat} {g cap : Nat} {xs : List Value} (h : w.ownsRow base e sz (.slice (some ⟨g, 0, none⟩) n cap) n xs) (j : Nat) (u : Value) (hj : j < xs.length) :
    (w.setCell ⟨g, j, none⟩ u).ownsRow base e sz (.slice (some ⟨g, 0, none⟩) n cap) n (xs.set j u) := by
  obtain ⟨h1, h2⟩ := h
  refine ⟨by rw [List.length_set]; exact h1, .inr ?_⟩
  rcases h2 with ⟨h2, _⟩ | ⟨g1, cap1, cur, h2, hb, hh, hn, hm, hcs, ht⟩
  · cases h2
  · injection h2 with e1 _ e3
    injection e1 with e1
    injection e1 with e1
    subst e1; subst e3
    refine ⟨g, cap, cur.setIfInBounds j u, rfl, hb, Blk.set_ (t := e) hh j u, hn, hm, by simpa using hcs, ?_⟩
    rw [Array.toList_setIfInBounds, List.take_set, ht]
end Go.Proofs.Ytlealjcllbpgkaa

namespace Go.Proofs.Ytlealjcllbpgkaa
open Go.RowKit

/-- What is wrong with prefixes, and where. -/
def pfF (l : List Pf) (i : Nat) : Nat := match l[i]? with
  | some p => chk p.a p.n
  | none => 0
def pfsC (l : List Pf) : Nat × Int := firstC (pfF l) l.length 0
theorem pfF_at {l : List Pf} {i : Nat} {p : Pf} (h : l[i]? = some p) : pfF l i = chk p.a p.n := by unfold pfF; rw [h]
theorem keep2 {w : World} {X : Nat} {x y : Value} (h : w.cell? ⟨X, 0, none⟩ = some x ∧ w.cell? ⟨X, 1, none⟩ = some y) : w.cell? ⟨X, 0, none⟩ = some x ∧ w.cell? ⟨X, 1, none⟩ = some y := h
theorem rws_two {w : World} {A : Option Addr} {ps : List Pf} (h : Rws w A 2 (ps.map Pf.cells)) {k : Nat} (hk : k < ps.length) : ∃ b o p, A = some ⟨b, o, none⟩ ∧ b < w.heap.size ∧ ps[k]? = some p ∧ w.cell? ⟨b, o + k * 2, none⟩ = some (.int .i64 p.a) ∧ w.cell? ⟨b, o + k * 2 + 1, none⟩ = some (.int .i64 p.n) := by
  obtain ⟨b, o, hA, hb, hc⟩ := h (by simpa using by omega)
  have hp : ps[k]? = some ps[k] := List.getElem?_eq_getElem hk
  have h1 := hc k ps[k].cells (by simp [hp])
  exact ⟨b, o, ps[k], hA, hb, hp, h1 0 _ rfl, h1 1 _ rfl⟩

/-- How far the joining of spans has come. -/
def MgS (L M : List (Nat × Nat)) (k i : Nat) : Prop := (i = 0 ∧ k = 0) ∨ ∃ q c, k = q + 1 ∧ q < i ∧ M[q]? = some c ∧ mergeL L = M.take q ++ mg c (L.drop i)

theorem mg_drop {L M : List (Nat × Nat)} {i q : Nat} {x : Nat × Nat} (h : M.drop i = L.drop i) (hq : q < i + 1) : (M.set q x).drop (i + 1) = L.drop (i + 1) := by
  have h1 := congrArg (List.drop 1) h
  rw [List.drop_drop, List.drop_drop] at h1
  rw [← h1, List.drop_set, if_pos hq]
theorem mg_at {L : List (Nat × Nat)} {i : Nat} {s c : Nat × Nat} (h : L[i]? = some s) : mg c (L.drop i) = if s.1 ≤ c.2 then mg (c.1, max c.2 s.2) (L.drop (i + 1)) else c :: mg s (L.drop (i + 1)) := by
  have hl := (List.getElem?_eq_some_iff.1 h).1
  have e : L.drop i = s :: L.drop (i + 1) := by
    rw [List.drop_eq_getElem_cons hl]
    congr 1
    rw [List.getElem?_eq_getElem hl] at h
    exact Option.some.inj h
  rw [e]; rfl
theorem mg_take {M : List (Nat × Nat)} {q : Nat} {x : Nat × Nat} : (M.set q x).take q = M.take q := by
  rw [List.take_set]
  exact List.set_eq_of_length_le (by rw [List.length_take]; omega)

end Go.Proofs.Ytlealjcllbpgkaa

namespace Go.Proofs.Ytlealjcllbpgkaa
open Go.RowKit

/-- A slice of the call's own that holds these prefixes. -/
def OwnP (w : World) (base : Nat) (v : Value) (l : List Pf) : Prop := w.ownsRow base TPf 2 v l.length (flat (l.map Pf.cells))
theorem OwnP.upd {S : Nat → Prop} {w w1 : World} {base : Nat} {v : Value} {l : List Pf} (h : OwnP w base v l) (hu : Upd S w w1) (hn : ∀ g, v.ownBlock = some g → ¬ S g) : OwnP w1 base v l := row_upd h hu hn
theorem OwnP.new_ {w w1 : World} {base : Nat} {v : Value} {l : List Pf} (h : OwnP w base v l) (hu : New w w1) : OwnP w1 base v l := row_new h hu
theorem shl_pow (K Z : Nat) (h : Z = 2 ^ K) (hK : K ≤ 32) : wrap64 (2 ^ K) = (Z : Int) := by
  subst h
  exact w64_pow K hK
theorem sum_top {f K Z t : Nat} (h : Z = 2 ^ K) (h1 : f + 2 ^ K ≤ t) (h2 : t ≤ 4294967296) : f + Z ≤ 4294967296 := by
  subst h
  omega
theorem wrap_sum (f Z : Nat) (h : f + Z ≤ 4294967296) : IntKind.i64.wrap ((f : Int) + (Z : Int)) = ((f + Z : Nat) : Int) ∧ wrap64 ((f : Int) + (Z : Int)) = ((f + Z : Nat) : Int) := by
  constructor
  · rw [IntWalk.i64_in _ (by omega)]; omega
  · rw [IntWalk.wrap64_in _ ⟨by omega, by omega⟩]; omega
def mF (X t : Nat) (w : World) : Nat := t - (intOf ((w.cell? ⟨X, 0, none⟩).getD undef)).toNat
theorem rowc {W : World} {g : Nat} {cs : Array Value} {t : TypeId} (hg : g = W.heap.size) : ∀ (j : Nat) (u : Value), cs.toList[j]? = some u → (W.alloc (.cells cs t)).cell? ⟨g, 0 + j, none⟩ = some u := fun j u hu => by
  subst hg
  rw [Nat.zero_add, (Blk.new W t cs).cell]
  simpa using hu
theorem mF_at {X t f : Nat} {w : World} (h : w.cell? ⟨X, 0, none⟩ = some (.int .i64 (f : Int))) : mF X t w = t - f := by unfold mF; rw [h]; rfl
/-- Spans that a slice holds. -/
def Sps (w : World) (A : Option Addr) (r : List (Nat × Nat)) : Prop := Rws w A 2 (r.map spc)
theorem sps_at {w : World} {A : Option Addr} {r : List (Nat × Nat)} (h : Sps w A r) {k : Nat} (hk : k < r.length) : ∃ b o s, A = some ⟨b, o, none⟩ ∧ b < w.heap.size ∧ r[k]? = some s ∧ w.cell? ⟨b, o + k * 2, none⟩ = some (.int .i64 (s.1 : Int)) ∧ w.cell? ⟨b, o + k * 2 + 1, none⟩ = some (.int .i64 (s.2 : Int)) := by
  obtain ⟨b, o, hA, hb, hc⟩ := h (by simpa using by omega)
  have hp : r[k]? = some r[k] := List.getElem?_eq_getElem hk
  have h1 := hc k (spc r[k]) (by simp [hp])
  exact ⟨b, o, r[k], hA, hb, hp, h1 0 _ rfl, h1 1 _ rfl⟩
theorem OwnP.rws {w : World} {base : Nat} {v : Value} {l : List Pf} (h : OwnP w base v l) : ∃ A cap, v = .slice A l.length cap ∧ l.length ≤ cap ∧ Rws w A 2 (l.map Pf.cells) ∧ (∀ b o, A = some ⟨b, o, none⟩ → base ≤ b) := by
  obtain ⟨A, cap, rfl, hn, hc, hr, hb, _⟩ := rws_of_own (by omega) h (by intro r hr; obtain ⟨p, _, rfl⟩ := List.mem_map.1 hr; rfl)
  exact ⟨A, cap, rfl, hc, hr, hb⟩

theorem sub32 (K : Nat) (h : K ≤ 32) : IntKind.i64.wrap (32 - (K : Int)) = ((32 - K : Nat) : Int) ∧ wrap64 (32 - (K : Int)) = ((32 - K : Nat) : Int) := by
  constructor
  · rw [IntWalk.i64_in _ (by omega)]; omega
  · rw [IntWalk.wrap64_in _ ⟨by omega, by omega⟩]; omega
theorem u64_in (x : Nat) (h : x < 18446744073709551616) : IntKind.u64.wrap (x : Int) = (x : Int) := by
  simp [IntKind.wrap, IntKind.bits, IntKind.signed]; omega
theorem pre_facts {f t : Nat} (h : f < t) (ht : t ≤ 4294967296) : ∃ F D C L B K : Nat, C = Lib.ctz 64 F ∧ L = Lib.bitLen D ∧ F < 18446744073709551616 ∧ D < 18446744073709551616 ∧ Top f t K ∧
    IntKind.u64.wrap (f : Int) = (f : Int) ∧ bits .or .u64 (f : Int) 4294967296 = (F : Int) ∧ IntKind.i64.wrap ((t : Int) - (f : Int)) = (D : Int) ∧ IntKind.u64.wrap (D : Int) = (D : Int) ∧ IntKind.i64.wrap ((L : Int) - 1) = (B : Int) ∧ min (C : Int) (B : Int) = (K : Int) := by
  obtain ⟨htop, hc32, hb1, hb33⟩ := topK_ok h ht
  have hKm : min (Lib.ctz 64 (f + 4294967296)) (Lib.bitLen (t - f) - 1) = topK f t := rfl
  refine ⟨f + 4294967296, t - f, _, _, Lib.bitLen (t - f) - 1, topK f t, rfl, rfl, by omega, by omega, htop, u64_in f (by omega), or_high f (by omega), ?_, u64_in _ (by omega), ?_, ?_⟩
  · rw [IntWalk.i64_in _ (by omega)]; omega
  · rw [IntWalk.i64_in _ (by omega)]; omega
  · rw [← hKm]; omega
end Go.Proofs.Ytlealjcllbpgkaa

/- The laws of blocks: acts that came in; rows of numbers of the call's own beside a pool. No condition but those that stand in each theorem. -/
import Derived.Test.YtimhbgpnkodlaaaGreatDoorBpD
namespace Go.Proofs.YtimhbgpnkodlaaaGreatDoor
open Go.RowKit Go.Maps
/-- An act: is it a take? which host, or which of what is had? -/
structure TkC where
  take : Bool
  n : Int
def TkC.cells (t : TkC) : Array Value := #[.bool t.take, .int .i64 t.n]
section
variable {w w1 w2 : World} {kp bm tm : Nat} {p : Pf} {L : Int} {c : PoolC} {E : Nat → Addr} {host : Int}
theorem tk_at {A : Option Addr} {r : List TkC} (h : Rws w A 2 (r.map TkC.cells)) {k : Nat} (hk : k < r.length) : ∃ b o s, A = some ⟨b, o, none⟩ ∧ b < w.heap.size ∧ r[k]? = some s ∧ w.cell? ⟨b, o + k * 2, none⟩ = some (.bool s.take) ∧ w.cell? ⟨b, o + k * 2 + 1, none⟩ = some (.int .i64 s.n) := by
  obtain ⟨b, o, hA, hb, hc⟩ := h (by simpa using by omega)
  have hp : r[k]? = some r[k] := List.getElem?_eq_getElem hk
  have h1 := hc k (TkC.cells r[k]) (by simp [hp])
  exact ⟨b, o, r[k], hA, hb, hp, h1 0 _ rfl, h1 1 _ rfl⟩
theorem own_not_map {P : Program} {k e e2 : TypeId} {b g cnt base size n : Nat} {f : Int → Int} {v : Value} {xs : List Value} (h : MapI P k e w b f cnt) (hr : w.ownsRow base e2 size v n xs) (hg : v.ownBlock = some g) : g ≠ b := by
  rcases hr.2 with ⟨rfl, _⟩ | ⟨g1, cap, cur, rfl, _, hh, _⟩
  · simp [Value.ownBlock] at hg
  · have : g1 = g := by simpa [Value.ownBlock] using hg
    subst this
    exact map_blk h (show Blk w g1 e2 cur from hh)
theorem PoolM.kept_row {base size n : Nat} {e : TypeId} {v : Value} {xs : List Value} (h : PoolM w kp bm tm p L c) (hr : w.ownsRow base e size v n xs) (he : TPool ≠ e) (hg : w.grownBy w2 v.ownBlock) : PoolM w2 kp bm tm p L c :=
  h.upd (Upd.of_grown (S := fun q => v.ownBlock = some q) hg fun k _ e => e) (fun e => row_not hr h.blk he e) (fun e => own_not_map h.B hr e rfl) (fun e => own_not_map h.T hr e rfl)
theorem Sen.kept_row {base size n g : Nat} {a : Addr} {e : TypeId} {v : Value} {xs : List Value} (h : Sen w g a) (hr : w.ownsRow base e size v n xs) (hb : g < base) (hg : w.grownBy w2 v.ownBlock) : Sen w2 g a :=
  h.upd (Upd.of_grown (S := fun q => v.ownBlock = some q) hg fun k _ e => e) fun e => by have := (row_ge hr e).1; omega
/-- Two rows of the call's own lie apart. -/
def Apt (v v2 : Value) : Prop := ∀ g, v.ownBlock = some g → v2.ownBlock ≠ some g
theorem Apt.symm {v v2 : Value} (h : Apt v v2) : Apt v2 v := fun g h1 h2 => h g h2 h1
theorem row_kept_apt {base size n base2 size2 n2 : Nat} {e e2 : TypeId} {v v2 : Value} {xs ys : List Value} (h : w.ownsRow base e size v n xs) (_hr : w.ownsRow base2 e2 size2 v2 n2 ys) (ha : Apt v v2) (hg : w.grownBy w2 v2.ownBlock) : w2.ownsRow base e size v n xs :=
  row_upd h (Upd.of_grown (S := fun q => v2.ownBlock = some q) hg fun k _ e => e) fun g h1 h2 => ha g h1 h2
/-- A row that has grown lies apart from what it lay apart from. -/
theorem Apt.grown {base size n : Nat} {e : TypeId} {v v2 u : Value} {xs : List Value} (h : w.ownsRow base e size v n xs) (ha : Apt v v2) (hu : u.ownBlock = v2.ownBlock ∨ u.ownBlock = some w.heap.size) : Apt v u := fun g h1 h2 => by
  rcases hu with hu | hu
  · rw [hu] at h2
    exact ha g h1 h2
  · rw [hu] at h2
    have := (row_ge h h1).2
    have := Option.some.inj h2
    omega
/-- A number is put behind; where the row lies then. -/
theorem wpList_app1_at {ops : Array Oper} {rest : List Oper} {o : Oper} {a : Act} {Q : Exit → Act → World → Prop} (w : World) (hgd : o.guard = none) (s x : Operand) (ho : o.op = .call { callee := .builtin .append, args := #[s, x], argTypes := #[49, 49] })
    (base g : Nat) (v : Value) (l : List Int) (y : Int) (hs : a.eval s = v) (hx : a.eval x = .slice (some ⟨g, 0, none⟩) 1 1) (hown : OwnI w base v l) (hb : Blk w g 3 #[.int .i64 y]) (hl : l.length < 5000) (hbase : base ≤ w.heap.size)
    (hK : ∀ v2 w2, OwnI w2 base v2 (l ++ [y]) → w.grownBy w2 v.ownBlock → (v2.ownBlock = v.ownBlock ∨ v2.ownBlock = some w.heap.size) → wpList Tryz.prog ops Q rest (a.put o.dst v2) w2) : wpList Tryz.prog ops Q (o :: rest) a w := by
  obtain ⟨i0, hi0, hz0, hz1, hz2⟩ := info_parts info_TI
  refine wpList_append_own_at w hgd s x 49 ho base 3 i0 _ 1 8 Tryz.underlying49 hi0 hz0 hz1 hz2 rfl (by decide) v l.length (l.map (.int .i64)) hs hown ⟨g, 0, none⟩ 1 1 [.int .i64 y] hx rfl
    (fun j u hu => by
      match j, hu with
      | 0, hu => simp at hu; subst hu; exact hb.cell 0
      | k + 1, hu => simp at hu) (fun u hu => by simp at hu; subst hu; rfl) (by unfold maxLen; omega) (by omega) hbase fun v2 w2 h2 h3 _ h5 => hK v2 w2 ?_ h3 h5
  unfold OwnI
  rw [List.length_append, List.map_append]
  exact h2
theorem own_ge {base size n : Nat} {e : TypeId} {v : Value} {xs : List Value} (h : w.ownsRow base e size v n xs) (hn : New w1 w) (hb : w1.heap.size ≤ base) (hg : w.grownBy w2 v.ownBlock) : New w1 w2 :=
  hn.trans (Upd.of_grown (S := fun k => w1.heap.size ≤ k) hg fun k _ e => by have := (row_ge h e).1; omega) fun k hk hx => by omega
/-- A pool's maps and block lie where nothing was. -/
structure PoolN (w : World) (kp bm tm : Nat) : Prop where
  k : w.heap.size ≤ kp
  b : w.heap.size ≤ bm
  t : w.heap.size ≤ tm
theorem PoolN.in_ {kp bm tm : Nat} (h : PoolN w kp bm tm) : ∀ k, (k = bm ∨ k = tm) → w.heap.size ≤ k := fun k hk => by
  have := h.b
  have := h.t
  omega
/-- A row of the call's own, when the pool is turned. -/
theorem row_pool {base size n : Nat} {e : TypeId} {v : Value} {xs : List Value} (h : w.ownsRow base e size v n xs) (hp : PoolM w kp bm tm p L c) (hu : Upd (fun k => k = bm ∨ k = tm) w w2) : w2.ownsRow base e size v n xs :=
  row_upd h hu fun g hg hx => by
    rcases hx with hx | hx
    · exact own_not_map hp.B h hg hx
    · exact own_not_map hp.T h hg hx
end
end Go.Proofs.YtimhbgpnkodlaaaGreatDoor

/- Own memory for a message that came in. No condition but those that stand in each theorem. -/
import Derived.Test.YtlealjcllbpgkaaOw1
import Derived.Test.YtlealjcllbpgkaaRf3
namespace Go.Proofs.Ytlealjcllbpgkaa
open Go.RowKit

theorem info_TRt : (Try.prog.info? TRt).map (fun i => (i.zero, i.size, i.bytes)) = some (some (.agg #[.int .i64 0, .int .i64 0, .slice none 0 0, .int .i64 0, .int .i64 0, .int .i64 0, .slice none 0 0, .int .i64 0]), 8, 96) := by kernel_rfl
theorem rt_size (rs : List RouteR) : ∀ r ∈ rs.map RouteR.cells, r.size = 8 := fun r hr => by obtain ⟨p, _, rfl⟩ := List.mem_map.1 hr; rfl
theorem route_cells (r : RouteR) (a : AttrR) : ({ r with at_ := a } : RouteR).cells = #[.int .i64 r.a, .int .i64 r.n, .slice a.P a.path.length a.pc, .int .i64 a.pref, .int .i64 a.med, .int .i64 a.origin, .slice a.T a.tags.length a.tc, .int .i64 r.frm] := rfl

/-- The rows of routes that a call has made so far. -/
structure OwnRts (base : Nat) (w : World) (v : Value) (rs : List RouteR) : Prop where
  own : w.ownsRow base TRt 8 v rs.length (flat (rs.map RouteR.cells))
  ok : ∀ r ∈ rs, AttrOk w r.at_ ∧ AttrTy w r.at_
theorem AttrTy.upd {S : Nat → Prop} {w w1 : World} {a : AttrR} (h : AttrTy w a) (hu : Upd S w w1) (hp : ∀ b o, a.P = some ⟨b, o, none⟩ → ¬ S b) (ht : ∀ b o, a.T = some ⟨b, o, none⟩ → ¬ S b) : AttrTy w1 a := ⟨h.1.upd hu hp, h.2.upd hu ht⟩
theorem AttrOk.upd {S : Nat → Prop} {w w1 : World} {a : AttrR} (h : AttrOk w a) (hu : Upd S w w1) (hp : ∀ b o, a.P = some ⟨b, o, none⟩ → ¬ S b) (ht : ∀ b o, a.T = some ⟨b, o, none⟩ → ¬ S b) : AttrOk w1 a := ⟨h.path.upd hu hp, h.tags.upd hu ht, h.pl, h.tl⟩
theorem AttrTy.new_ {w w1 : World} {a : AttrR} (h : AttrTy w a) (hu : New w w1) : AttrTy w1 a := ⟨h.1.new_ hu, h.2.new_ hu⟩
theorem own_new {w w1 : World} {base : Nat} {e : TypeId} {size n : Nat} {v : Value} {xs : List Value} (h : w.ownsRow base e size v n xs) (hu : New w w1) : w1.ownsRow base e size v n xs := by
  obtain ⟨h1, h2⟩ := h
  refine ⟨h1, ?_⟩
  rcases h2 with h2 | ⟨g, cap, cur, rfl, hg, hh, r⟩
  · exact .inl h2
  · exact .inr ⟨g, cap, cur, rfl, hg, Blk.new_ (t := e) hh hu, r⟩
theorem OwnRts.new_ {base : Nat} {w w1 : World} {v : Value} {rs : List RouteR} (h : OwnRts base w v rs) (hu : New w w1) : OwnRts base w1 v rs := ⟨own_new h.own hu, fun r hr => ⟨(h.ok r hr).1.new_ hu, (h.ok r hr).2.new_ hu⟩⟩
/-- One more. -/
theorem OwnRts.snoc {base : Nat} {w w1 : World} {v v1 : Value} {rs : List RouteR} {r : RouteR} (h : OwnRts base w v rs) (hok : AttrOk w r.at_) (hty : AttrTy w r.at_) (ho : w1.ownsRow base TRt 8 v1 (rs.length + 1) (flat (rs.map RouteR.cells) ++ r.cells.toList)) (hg : w.grownBy w1 v.ownBlock) : OwnRts base w1 v1 (rs ++ [r]) := by
  have hu : Upd (fun k => v.ownBlock = some k) w w1 := grown_upd hg fun g hg => hg
  have keep : ∀ x : RouteR, AttrOk w x.at_ → AttrTy w x.at_ → AttrOk w1 x.at_ ∧ AttrTy w1 x.at_ := fun x h1 h2 =>
    ⟨h1.upd hu (h2.1.ne_ h.own (by decide)) (h2.2.ne_ h.own (by decide)), h2.upd hu (h2.1.ne_ h.own (by decide)) (h2.2.ne_ h.own (by decide))⟩
  refine ⟨?_, fun x hx => ?_⟩
  · rw [List.map_append, flat_append, List.length_append]
    simpa [flat] using ho
  · rcases List.mem_append.1 hx with hx | hx
    · exact keep x (h.ok x hx).1 (h.ok x hx).2
    · obtain rfl := List.mem_singleton.1 hx
      exact keep x hok hty
theorem OwnRts.nil (base : Nat) (w : World) : OwnRts base w (.slice none 0 0) [] := ⟨World.ownsRow_nil _ _ _ _, fun r hr => absurd hr (by simp)⟩

theorem set5r {w : World} {R : Nat} {x0 x1 x2 x3 x4 x5 x6 x7 y0 y1 y2 y3 y4 : Value} {t : TypeId} (hb : Blk w R t #[x0, x1, x2, x3, x4, x5, x6, x7]) :
    Blk (((((w.setCell ⟨R, 2, none⟩ y0).setCell ⟨R, 3, none⟩ y1).setCell ⟨R, 4, none⟩ y2).setCell ⟨R, 5, none⟩ y3).setCell ⟨R, 6, none⟩ y4) R t #[x0, x1, y0, y1, y2, y3, y4, x7] := by
  have := ((((hb.set_ 2 y0).set_ 3 y1).set_ 4 y2).set_ 5 y3).set_ 6 y4
  simpa using this
theorem set5r_new {w W : World} {R : Nat} {y0 y1 y2 y3 y4 : Value} (hn : New w W) (hR : w.heap.size ≤ R) :
    New w (((((W.setCell ⟨R, 2, none⟩ y0).setCell ⟨R, 3, none⟩ y1).setCell ⟨R, 4, none⟩ y2).setCell ⟨R, 5, none⟩ y3).setCell ⟨R, 6, none⟩ y4) :=
  ((((hn.setCell (p := ⟨R, 2, none⟩) (.inr hR) y0).setCell (p := ⟨R, 3, none⟩) (.inr hR) y1).setCell (p := ⟨R, 4, none⟩) (.inr hR) y2).setCell (p := ⟨R, 5, none⟩) (.inr hR) y3).setCell (p := ⟨R, 6, none⟩) (.inr hR) y4
theorem set5r_upd {y0 y1 y2 y3 y4 : Value} (w2 : World) (R : Nat) : Upd (fun b => b = R) w2 (((((w2.setCell ⟨R, 2, none⟩ y0).setCell ⟨R, 3, none⟩ y1).setCell ⟨R, 4, none⟩ y2).setCell ⟨R, 5, none⟩ y3).setCell ⟨R, 6, none⟩ y4) :=
  (((((Upd.refl (fun b => b = R) w2).setCell (p := ⟨R, 2, none⟩) (.inl rfl) y0).setCell (p := ⟨R, 3, none⟩) (.inl rfl) y1).setCell (p := ⟨R, 4, none⟩) (.inl rfl) y2).setCell (p := ⟨R, 5, none⟩) (.inl rfl) y3).setCell (p := ⟨R, 6, none⟩) (.inl rfl) y4
theorem ty_ne {w : World} {A : Option Addr} {t e : TypeId} {R : Nat} {cs : Array Value} (h : Typed w A t) (hb : Blk w R e cs) (hne : t ≠ e) : ∀ b o, A = some ⟨b, o, none⟩ → ¬ b = R := fun b o e1 e2 => by
  obtain ⟨cs2, h2⟩ := h b o e1
  subst e2
  exact Blk.ne_ h2 hb hne rfl
theorem owns_ge {w : World} {base : Nat} {e : TypeId} {size n : Nat} {v : Value} {xs : List Value} (h : w.ownsRow base e size v n xs) {g : Nat} (hg : v.ownBlock = some g) : base ≤ g := by
  rcases h.2 with ⟨rfl, _⟩ | ⟨g1, cap, cur, rfl, hb, _⟩
  · simp [Value.ownBlock] at hg
  · have : g1 = g := by simpa [Value.ownBlock] using hg
    omega
theorem con_snoc {adds rs : List RouteR} {j : Nat} {r : RouteR} {a' : AttrR} (h : rs.map RouteR.con = (adds.take j).map RouteR.con) (hr : adds[j]? = some r) (hc : a'.con = r.at_.con) :
    (rs ++ [({ r with at_ := a' } : RouteR)]).map RouteR.con = (adds.take (j + 1)).map RouteR.con := by
  rw [List.map_append, h, List.take_add_one, hr, List.map_append]
  simp [RouteR.con, hc]
theorem set4 {w : World} {R : Nat} {x0 x1 x2 x3 y0 y1 y2 y3 : Value} {t : TypeId} (hb : Blk w R t #[x0, x1, x2, x3]) :
    Blk ((((w.setCell ⟨R, 0, none⟩ y0).setCell ⟨R, 1, none⟩ y1).setCell ⟨R, 2, none⟩ y2).setCell ⟨R, 3, none⟩ y3) R t #[y0, y1, y2, y3] := by
  have := (((hb.set_ 0 y0).set_ 1 y1).set_ 2 y2).set_ 3 y3
  simpa using this
theorem set4_upd {y0 y1 y2 y3 : Value} (w2 : World) (M R : Nat) (y y' : Value) :
    Upd (fun b => b = M ∨ b = R) w2 ((((((w2.setCell ⟨M, 2, none⟩ y).setCell ⟨M, 3, none⟩ y').setCell ⟨R, 0, none⟩ y0).setCell ⟨R, 1, none⟩ y1).setCell ⟨R, 2, none⟩ y2).setCell ⟨R, 3, none⟩ y3) :=
  ((((((Upd.refl (fun b => b = M ∨ b = R) w2).setCell (p := ⟨M, 2, none⟩) (.inl (.inl rfl)) y).setCell (p := ⟨M, 3, none⟩) (.inl (.inl rfl)) y').setCell (p := ⟨R, 0, none⟩) (.inl (.inr rfl)) y0).setCell (p := ⟨R, 1, none⟩) (.inl (.inr rfl)) y1).setCell (p := ⟨R, 2, none⟩) (.inl (.inr rfl)) y2).setCell (p := ⟨R, 3, none⟩) (.inl (.inr rfl)) y3
theorem row_cells {W : World} {g : Nat} {cs : Array Value} {t : TypeId} (hg : g = W.heap.size) : ∀ (j : Nat) (u : Value), cs.toList[j]? = some u → (W.alloc (.cells cs t)).cell? ⟨g, 0 + j, none⟩ = some u := fun j u hu => by
  subst hg
  rw [Nat.zero_add, (Blk.new W t cs).cell]
  simpa using hu

/-- The same message, wherever it lies. -/
def SameM (m m' : MsgR) : Prop := m'.kind = m.kind ∧ m'.n = m.n ∧ m'.drops = m.drops ∧ m'.adds.map RouteR.con = m.adds.map RouteR.con

end Go.Proofs.Ytlealjcllbpgkaa

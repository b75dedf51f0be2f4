/- Package wire: the reader's memory. No condition but those that stand in each theorem. -/
import Derived.Test.YtjgecmkfgeajiaaGreatDoorWrH
import Derived.Test.YtjgecmkfgeajiaaGreatDoorWr1
namespace Go.Proofs.YtjgecmkfgeajiaaGreatDoor
open Go.RowKit

theorem rown_ne {w : World} {base g : Nat} {e t : TypeId} {size n : Nat} {v : Value} {xs : List Value} {cs : Array Value} (h : w.ownsRow base e size v n xs) (hg : Blk w g t cs) (hne : e ≠ t) : v.ownBlock ≠ some g := by
  rcases h.2 with ⟨rfl, _⟩ | ⟨g1, cap, cur, rfl, _, hh, _⟩
  · simp [Value.ownBlock]
  · intro he
    have : g1 = g := by simpa [Value.ownBlock] using he
    subst this
    exact Blk.ne_ (t := e) hh hg hne rfl
theorem rown_upd {S : Nat → Prop} {w w1 : World} {base : Nat} {e : TypeId} {size n : Nat} {v : Value} {xs : List Value} (h : w.ownsRow base e size v n xs) (hu : Upd S w w1) (hn : ∀ g, v.ownBlock = some g → ¬ S g) : w1.ownsRow base e size v n xs := by
  obtain ⟨h1, h2⟩ := h
  refine ⟨h1, ?_⟩
  rcases h2 with h2 | ⟨g, cap, cur, rfl, hg, hh, r⟩
  · exact .inl h2
  · have hlt : g < w.heap.size := by
      rcases Nat.lt_or_ge g w.heap.size with hlt | hge
      · exact hlt
      · rw [Array.getElem?_eq_none hge] at hh; cases hh
    exact .inr ⟨g, cap, cur, rfl, hg, (hu.block g hlt (hn g (by simp [Value.ownBlock]))).trans hh, r⟩
abbrev TRd : TypeId := 64
/-- Attributes whose rows lie outside. -/
def AttrFar (S : Nat → Prop) (a : AttrR) : Prop := (0 < a.path.length → ∀ b o, a.P = some ⟨b, o, none⟩ → ¬ S b) ∧ (0 < a.tags.length → ∀ b o, a.T = some ⟨b, o, none⟩ → ¬ S b)
theorem Ints.upd2 {S : Nat → Prop} {w w1 : World} {A : Option Addr} {xs : List Int} (h : Ints w A xs) (hu : Upd S w w1) (hf : 0 < xs.length → ∀ b o, A = some ⟨b, o, none⟩ → ¬ S b) : Ints w1 A xs := fun hl => (h.upd hu (hf hl)) hl
theorem AttrOk.upd2 {S : Nat → Prop} {w w1 : World} {a : AttrR} (h : AttrOk w a) (hu : Upd S w w1) (hf : AttrFar S a) : AttrOk w1 a := ⟨h.path.upd2 hu hf.1, h.tags.upd2 hu hf.2, h.pl, h.tl⟩
theorem ints_lt {w : World} {A : Option Addr} {xs : List Int} (h : Ints w A xs) (hl : 0 < xs.length) {b o : Nat} (hA : A = some ⟨b, o, none⟩) : b < w.heap.size := by
  obtain ⟨b1, o1, e, hb, _⟩ := h hl
  rw [hA] at e
  injection e with e
  injection e with e1 _ _
  omega
theorem AttrFar.grow {S T : Nat → Prop} {w : World} {a : AttrR} (h : AttrFar S a) (hok : AttrOk w a) (hT : ∀ z, T z → S z ∨ w.heap.size ≤ z) : AttrFar T a :=
  ⟨fun hl b o e ht => (hT b ht).elim (h.1 hl b o e) fun g => by have := ints_lt hok.path hl e; omega, fun hl b o e ht => (hT b ht).elim (h.2 hl b o e) fun g => by have := ints_lt hok.tags hl e; omega⟩
theorem own_own {w : World} {base b2 : Nat} {e e2 : TypeId} {s s2 n n2 : Nat} {v v2 : Value} {xs ys : List Value} (h : w.ownsRow base e s v n xs) (h2 : w.ownsRow b2 e2 s2 v2 n2 ys) (hne : e ≠ e2) : ∀ g, v.ownBlock = some g → v2.ownBlock ≠ some g := by
  intro g hg h3
  rcases h.2 with ⟨rfl, _⟩ | ⟨g1, cap, cur, rfl, _, hh, _⟩
  · simp [Value.ownBlock] at hg
  · have : g1 = g := by simpa [Value.ownBlock] using hg
    subst this
    exact rown_ne h2 (t := e) (cs := cur) hh (Ne.symm hne) h3

theorem own_form {w : World} {base : Nat} {e : TypeId} {sz n : Nat} {v : Value} {xs : List Value} (h : w.ownsRow base e sz v n xs) (hs : 0 < sz) : ∃ A c, v = .slice A n c := by
  obtain ⟨h1, h2⟩ := h
  rcases h2 with ⟨rfl, rfl⟩ | ⟨g, cap, cur, rfl, _⟩
  · exact ⟨none, 0, rfl⟩
  · exact ⟨_, _, rfl⟩
/-- A reader's own blocks. -/
def OwnB (X : Nat) (vd va vm : Value) : Nat → Prop := fun z => z = X ∨ vd.ownBlock = some z ∨ va.ownBlock = some z ∨ vm.ownBlock = some z
/-- What a reader holds. -/
structure RdI (base X : Nat) (kd : ByteArray) (nn : Int) (st : RdS) (w : World) (vd va vm : Value) (rs : List RouteR) : Prop where
  lo : base ≤ X
  blk : Blk w X TRd #[.string kd, .int .i64 nn, vd, va, vm]
  drops : w.ownsRow base TPf 2 vd st.drops.length (flat (st.drops.map Pf.cells))
  adds : w.ownsRow base TRt 8 va rs.length (flat (rs.map RouteR.cells))
  more : w.ownsRow base TPf 2 vm st.more.length (flat (st.more.map Pf.cells))
  con : rs.map RouteR.con = st.adds
  ok : ∀ r ∈ rs, AttrOk w r.at_
  far : ∀ r ∈ rs, AttrFar (OwnB X vd va vm) r.at_
  apart : ∀ g, vd.ownBlock = some g → vm.ownBlock ≠ some g
  low : ∀ r ∈ rs, AttrFar (fun q => q < base) r.at_
theorem RdI.new_ {base X : Nat} {kd : ByteArray} {nn : Int} {st : RdS} {w w1 : World} {vd va vm : Value} {rs : List RouteR} (h : RdI base X kd nn st w vd va vm rs) (hu : New w w1) : RdI base X kd nn st w1 vd va vm rs :=
  ⟨h.lo, h.blk.new_ hu, own_new h.drops hu, own_new h.adds hu, own_new h.more hu, h.con, fun r hr => (h.ok r hr).new_ hu, h.far, h.apart, h.low⟩
section
variable {base X : Nat} {kd : ByteArray} {nn : Int} {st : RdS} {w w1 : World} {vd va vm : Value} {rs : List RouteR} {g cap : Nat}
theorem RdI.drop (h : RdI base X kd nn st w vd va vm rs) {p : Pf}
    (ho : w1.ownsRow base TPf 2 (.slice (some ⟨g, 0, none⟩) (st.drops.length + 1) cap) (st.drops.length + 1) (flat (st.drops.map Pf.cells) ++ [.int .i64 p.a, .int .i64 p.n]))
    (hu : Upd (fun q => vd.ownBlock = some q) w w1) (hg : vd.ownBlock = some g ∨ w.heap.size ≤ g) :
    RdI base X kd nn { st with drops := st.drops ++ [p] } (w1.setCell ⟨X, 2, none⟩ (.slice (some ⟨g, 0, none⟩) (st.drops.length + 1) cap)) (.slice (some ⟨g, 0, none⟩) (st.drops.length + 1) cap) va vm rs := by
  have b1 : Blk w1 X TRd #[.string kd, .int .i64 nn, vd, va, vm] := h.blk.upd hu (rown_ne h.drops h.blk (by decide))
  have u2 : Upd (fun q => q = X) w1 (w1.setCell ⟨X, 2, none⟩ (.slice (some ⟨g, 0, none⟩) (st.drops.length + 1) cap)) := (Upd.refl (fun q => q = X) w1).setCell (p := ⟨X, 2, none⟩) (.inl rfl) _
  have a1 := rown_upd h.adds hu fun q hq hd => own_own h.drops h.adds (by decide) q hd hq
  have m1 := rown_upd h.more hu fun q hq hd => h.apart q hd hq
  have k1 : ∀ r ∈ rs, AttrOk w1 r.at_ := fun r hr => (h.ok r hr).upd2 hu ((h.far r hr).grow (h.ok r hr) fun z hz => .inl (.inr (.inl hz)))
  have sz := hu.size
  refine ⟨h.lo, by simpa using b1.set_ 2 _, ?_, rown_upd a1 u2 fun q hq e => rown_ne a1 b1 (by decide) (e ▸ hq), rown_upd m1 u2 fun q hq e => rown_ne m1 b1 (by decide) (e ▸ hq), h.con, fun r hr => (k1 r hr).upd2 u2 ((h.far r hr).grow (h.ok r hr) fun z hz => .inl (.inl hz)), fun r hr => (h.far r hr).grow (h.ok r hr) fun z hz => ?_, fun q hq hm => ?_, h.low⟩
  · have e : flat ((st.drops ++ [p]).map Pf.cells) = flat (st.drops.map Pf.cells) ++ [.int .i64 p.a, .int .i64 p.n] := by
      rw [List.map_append, flat_append]
      rfl
    show World.ownsRow _ base TPf 2 _ (st.drops ++ [p]).length (flat ((st.drops ++ [p]).map Pf.cells))
    rw [e, List.length_append]
    exact rown_upd ho u2 fun q hq e => rown_ne ho b1 (by decide) (e ▸ hq)
  · rcases hz with hz | hz | hz | hz
    · exact .inl (.inl hz)
    · have : g = z := by simpa [Value.ownBlock] using hz
      subst this
      exact hg.elim (fun x => .inl (.inr (.inl x))) .inr
    · exact .inl (.inr (.inr (.inl hz)))
    · exact .inl (.inr (.inr (.inr hz)))
  · have : g = q := by simpa [Value.ownBlock] using hq
    subst this
    rcases hg with hg | hg
    · exact h.apart g hg hm
    · have := (h.more.lt g hm).2
      omega
theorem RdI.more_ (h : RdI base X kd nn st w vd va vm rs) {p : Pf}
    (ho : w1.ownsRow base TPf 2 (.slice (some ⟨g, 0, none⟩) (st.more.length + 1) cap) (st.more.length + 1) (flat (st.more.map Pf.cells) ++ [.int .i64 p.a, .int .i64 p.n]))
    (hu : Upd (fun q => vm.ownBlock = some q) w w1) (hg : vm.ownBlock = some g ∨ w.heap.size ≤ g) :
    RdI base X kd nn { st with more := st.more ++ [p] } (w1.setCell ⟨X, 4, none⟩ (.slice (some ⟨g, 0, none⟩) (st.more.length + 1) cap)) vd va (.slice (some ⟨g, 0, none⟩) (st.more.length + 1) cap) rs := by
  have b1 : Blk w1 X TRd #[.string kd, .int .i64 nn, vd, va, vm] := h.blk.upd hu (rown_ne h.more h.blk (by decide))
  have u2 : Upd (fun q => q = X) w1 (w1.setCell ⟨X, 4, none⟩ (.slice (some ⟨g, 0, none⟩) (st.more.length + 1) cap)) := (Upd.refl (fun q => q = X) w1).setCell (p := ⟨X, 4, none⟩) (.inl rfl) _
  have a1 := rown_upd h.adds hu fun q hq hd => own_own h.more h.adds (by decide) q hd hq
  have m1 := rown_upd h.drops hu fun q hq hd => h.apart q hq hd
  have k1 : ∀ r ∈ rs, AttrOk w1 r.at_ := fun r hr => (h.ok r hr).upd2 hu ((h.far r hr).grow (h.ok r hr) fun z hz => .inl (.inr (.inr (.inr hz))))
  refine ⟨h.lo, by simpa using b1.set_ 4 _, rown_upd m1 u2 fun q hq e => rown_ne m1 b1 (by decide) (e ▸ hq), rown_upd a1 u2 fun q hq e => rown_ne a1 b1 (by decide) (e ▸ hq), ?_, h.con, fun r hr => (k1 r hr).upd2 u2 ((h.far r hr).grow (h.ok r hr) fun z hz => .inl (.inl hz)), fun r hr => (h.far r hr).grow (h.ok r hr) fun z hz => ?_, fun q hq hm => ?_, h.low⟩
  · have e : flat ((st.more ++ [p]).map Pf.cells) = flat (st.more.map Pf.cells) ++ [.int .i64 p.a, .int .i64 p.n] := by
      rw [List.map_append, flat_append]
      rfl
    show World.ownsRow _ base TPf 2 _ (st.more ++ [p]).length (flat ((st.more ++ [p]).map Pf.cells))
    rw [e, List.length_append]
    exact rown_upd ho u2 fun q hq e => rown_ne ho b1 (by decide) (e ▸ hq)
  · rcases hz with hz | hz | hz | hz
    · exact .inl (.inl hz)
    · exact .inl (.inr (.inl hz))
    · exact .inl (.inr (.inr (.inl hz)))
    · have : g = z := by simpa [Value.ownBlock] using hz
      subst this
      exact hg.elim (fun x => .inl (.inr (.inr (.inr x)))) .inr
  · have : g = q := by simpa [Value.ownBlock] using hm
    subst this
    rcases hg with hg | hg
    · exact h.apart g hq hg
    · have := (h.drops.lt g hq).2
      omega
theorem RdI.add (h : RdI base X kd nn st w vd va vm rs) {r : RouteR} {x : RtC} (hc : r.con = x) (hok : AttrOk w r.at_) (hfar : AttrFar (OwnB X vd va vm) r.at_) (hlow : AttrFar (fun q => q < base) r.at_)
    (ho : w1.ownsRow base TRt 8 (.slice (some ⟨g, 0, none⟩) (rs.length + 1) cap) (rs.length + 1) (flat (rs.map RouteR.cells) ++ r.cells.toList))
    (hu : Upd (fun q => va.ownBlock = some q) w w1) (hg : va.ownBlock = some g ∨ w.heap.size ≤ g) :
    RdI base X kd nn { st with adds := st.adds ++ [x] } (w1.setCell ⟨X, 3, none⟩ (.slice (some ⟨g, 0, none⟩) (rs.length + 1) cap)) vd (.slice (some ⟨g, 0, none⟩) (rs.length + 1) cap) vm (rs ++ [r]) := by
  have b1 : Blk w1 X TRd #[.string kd, .int .i64 nn, vd, va, vm] := h.blk.upd hu (rown_ne h.adds h.blk (by decide))
  have u2 : Upd (fun q => q = X) w1 (w1.setCell ⟨X, 3, none⟩ (.slice (some ⟨g, 0, none⟩) (rs.length + 1) cap)) := (Upd.refl (fun q => q = X) w1).setCell (p := ⟨X, 3, none⟩) (.inl rfl) _
  have d1 := rown_upd h.drops hu fun q hq hd => own_own h.drops h.adds (by decide) q hq hd
  have m1 := rown_upd h.more hu fun q hq hd => own_own h.more h.adds (by decide) q hq hd
  have grow : ∀ z, OwnB X vd (.slice (some ⟨g, 0, none⟩) (rs.length + 1) cap) vm z → OwnB X vd va vm z ∨ w.heap.size ≤ z := fun z hz => by
    rcases hz with hz | hz | hz | hz
    · exact .inl (.inl hz)
    · exact .inl (.inr (.inl hz))
    · have : g = z := by simpa [Value.ownBlock] using hz
      subst this
      exact hg.elim (fun x => .inl (.inr (.inr (.inl x)))) .inr
    · exact .inl (.inr (.inr (.inr hz)))
  have all : ∀ y ∈ rs ++ [r], AttrOk w y.at_ ∧ AttrFar (OwnB X vd va vm) y.at_ := fun y hy => by
    rcases List.mem_append.1 hy with hy | hy
    · exact ⟨h.ok y hy, h.far y hy⟩
    · obtain rfl := List.mem_singleton.1 hy
      exact ⟨hok, hfar⟩
  have k1 : ∀ y ∈ rs ++ [r], AttrOk w1 y.at_ := fun y hy => (all y hy).1.upd2 hu ((all y hy).2.grow (all y hy).1 fun z hz => .inl (.inr (.inr (.inl hz))))
  refine ⟨h.lo, by simpa using b1.set_ 3 _, rown_upd d1 u2 fun q hq e => rown_ne d1 b1 (by decide) (e ▸ hq), ?_, rown_upd m1 u2 fun q hq e => rown_ne m1 b1 (by decide) (e ▸ hq), ?_, fun y hy => (k1 y hy).upd2 u2 ((all y hy).2.grow (all y hy).1 fun z hz => .inl (.inl hz)), fun y hy => (all y hy).2.grow (all y hy).1 grow, h.apart, fun y hy => (List.mem_append.1 hy).elim (h.low y) fun e => List.mem_singleton.1 e ▸ hlow⟩
  · have e : flat ((rs ++ [r]).map RouteR.cells) = flat (rs.map RouteR.cells) ++ r.cells.toList := by
      rw [List.map_append, flat_append]
      simp [flat]
    rw [e, List.length_append]
    exact rown_upd ho u2 fun q hq e => rown_ne ho b1 (by decide) (e ▸ hq)
  · rw [List.map_append, h.con, ← hc]
    rfl
end
end Go.Proofs.YtjgecmkfgeajiaaGreatDoor

namespace Go.Proofs.YtjgecmkfgeajiaaGreatDoor
open Go.RowKit

/-- The four cells of the first line stored: nothing is dropped, nothing added yet. -/
theorem rdI_head {base Y : Nat} {kd kd1 : ByteArray} {nn n1 : Int} {w : World} {vd va vm : Value} {rs : List RouteR} (h : RdI base Y kd nn ⟨[], [], []⟩ w vd va vm rs) :
    RdI base Y kd1 n1 ⟨[], [], []⟩ ((((w.setCell ⟨Y, 0, none⟩ (.string kd1)).setCell ⟨Y, 1, none⟩ (.int .i64 n1)).setCell ⟨Y, 2, none⟩ (.slice none 0 0)).setCell ⟨Y, 3, none⟩ (.slice none 0 0)) (.slice none 0 0) (.slice none 0 0) vm [] := by
  have u : Upd (fun q => q = Y) w ((((w.setCell ⟨Y, 0, none⟩ (.string kd1)).setCell ⟨Y, 1, none⟩ (.int .i64 n1)).setCell ⟨Y, 2, none⟩ (.slice none 0 0)).setCell ⟨Y, 3, none⟩ (.slice none 0 0)) :=
    ((((Upd.refl (fun q => q = Y) w).setCell (p := ⟨Y, 0, none⟩) (.inl rfl) _).setCell (p := ⟨Y, 1, none⟩) (.inl rfl) _).setCell (p := ⟨Y, 2, none⟩) (.inl rfl) _).setCell (p := ⟨Y, 3, none⟩) (.inl rfl) _
  have b : Blk ((((w.setCell ⟨Y, 0, none⟩ (.string kd1)).setCell ⟨Y, 1, none⟩ (.int .i64 n1)).setCell ⟨Y, 2, none⟩ (.slice none 0 0)).setCell ⟨Y, 3, none⟩ (.slice none 0 0)) Y TRd #[.string kd1, .int .i64 n1, .slice none 0 0, .slice none 0 0, vm] := by
    simpa using (((h.blk.set_ 0 (.string kd1)).set_ 1 (.int .i64 n1)).set_ 2 (.slice none 0 0)).set_ 3 (.slice none 0 0)
  exact ⟨h.lo, b, World.ownsRow_nil _ _ _ _, World.ownsRow_nil _ _ _ _, rown_upd h.more u fun q hq e => rown_ne h.more h.blk (by decide) (e ▸ hq), rfl, fun r hr => by simp at hr, fun r hr => by simp at hr, fun g hg => by simp [Value.ownBlock] at hg, fun r hr => by simp at hr⟩
theorem head_cells_new {w w1 : World} {Y : Nat} {a b c d : Value} (h : New w w1) (hY : w.heap.size ≤ Y) : New w ((((w1.setCell ⟨Y, 0, none⟩ a).setCell ⟨Y, 1, none⟩ b).setCell ⟨Y, 2, none⟩ c).setCell ⟨Y, 3, none⟩ d) :=
  (((h.setCell (p := ⟨Y, 0, none⟩) (.inr hY) a).setCell (p := ⟨Y, 1, none⟩) (.inr hY) b).setCell (p := ⟨Y, 2, none⟩) (.inr hY) c).setCell (p := ⟨Y, 3, none⟩) (.inr hY) d
theorem head_cells_upd {w : World} {Y : Nat} {a b c d : Value} : Upd (fun q => q = Y) w ((((w.setCell ⟨Y, 0, none⟩ a).setCell ⟨Y, 1, none⟩ b).setCell ⟨Y, 2, none⟩ c).setCell ⟨Y, 3, none⟩ d) :=
  ((((Upd.refl (fun q => q = Y) w).setCell (p := ⟨Y, 0, none⟩) (.inl rfl) _).setCell (p := ⟨Y, 1, none⟩) (.inl rfl) _).setCell (p := ⟨Y, 2, none⟩) (.inl rfl) _).setCell (p := ⟨Y, 3, none⟩) (.inl rfl) _
theorem Ss.upd2 {S : Nat → Prop} {w w1 : World} {g : Nat} {ps : List (List UInt8)} (h : Ss w (some ⟨g, 0, none⟩) ps) (hu : Upd S w w1) (hn : ¬ S g) : Ss w1 (some ⟨g, 0, none⟩) ps := fun h0 => by
  obtain ⟨b, o, e, hb, hc⟩ := h h0
  injection e with e
  injection e with e1 e2 _
  subst e1; subst e2
  exact ⟨g, 0, rfl, Nat.lt_of_lt_of_le hb hu.size, fun i x hx => (hu.cell hb hn).trans (hc i x hx)⟩
/-- What attr.Read gives is short. -/
theorem goodA_short {a : AttrR} (h : (attrC a).1 = 0) : a.path.length ≤ 1000 ∧ a.tags.length ≤ 1000 := by
  have g := attrC_good h
  have := g.pl
  have := g.tl
  exact ⟨by omega, by omega⟩
theorem readT_short (z : List UInt8) (_h : (readT z).1 = 0) : (readT z).2.path.length ≤ 1000 ∧ (readT z).2.tags.length ≤ 1000 := by
  have zero : zeroC.path.length ≤ 1000 ∧ zeroC.tags.length ≤ 1000 := ⟨by decide, by decide⟩
  have all : ∀ x : AtC, (readC x).2.path.length ≤ 1000 ∧ (readC x).2.tags.length ≤ 1000 := fun x => by
    unfold readC
    by_cases hx : (conC x).1 = 0
    · rw [if_pos hx]
      exact goodA_short (a := ⟨none, 0, x.path, x.pref, x.med, x.origin, none, 0, x.tags⟩) hx
    · rw [if_neg hx]
      exact zero
  unfold readT
  split
  · unfold readW
    split
    · exact all _
    · exact zero
  · exact zero
end Go.Proofs.YtjgecmkfgeajiaaGreatDoor

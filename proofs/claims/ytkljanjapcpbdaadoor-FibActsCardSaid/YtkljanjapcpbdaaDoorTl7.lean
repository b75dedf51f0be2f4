/- The law's entries, as the package has them; too many acts. No condition but those that stand in each theorem. -/
import Derived.Test.YtkljanjapcpbdaaDoorTl6
import Derived.Deep.RegionHeld3
namespace Go.Proofs.YtkljanjapcpbdaaDoor
open Go.RowKit
theorem info_TFE : (Tryd.prog.info? TE).map (fun i => (i.zero, i.size, i.bytes)) = some (some (.agg #[.int .i64 0, .int .i64 0, .int .i64 0]), 3, 24) := by kernel_rfl
theorem keepE {w : World} {b o j : Nat} {x : E3} (h : w.cell? ⟨b, o + j * 3, none⟩ = some (.int .i64 x.a) ∧ w.cell? ⟨b, o + j * 3 + 1, none⟩ = some (.int .i64 x.n) ∧ w.cell? ⟨b, o + j * 3 + 2, none⟩ = some (.int .i64 x.h)) : w.cell? ⟨b, o + j * 3, none⟩ = some (.int .i64 x.a) ∧ w.cell? ⟨b, o + j * 3 + 1, none⟩ = some (.int .i64 x.n) ∧ w.cell? ⟨b, o + j * 3 + 2, none⟩ = some (.int .i64 x.h) := h

set_option maxRecDepth 20000 in
set_option maxHeartbeats 4000000 in
theorem asEntries_any (A : Option Addr) (n c : Nat) (xs : List E3) (w : World) (hx : Rws w A 3 (xs.map E3.cells)) (hn : xs.length = n) (hl : n ≤ 1000) :
    Calls Tryd.prog 31 #[.slice A n c] w fun e w1 => ∃ A' c', e = .returned (.slice A' n c') ∧ Rws w1 A' 3 (xs.map E3.cells) ∧ n ≤ c' ∧ New w w1 := by
  obtain ⟨i0, hi0, hz0, hz1, hz2⟩ := info_parts info_TFE
  have Hx := hide hx
  have Hn := hide hn
  have Hi0 := hide hi0
  have Hz := hide (And.intro hz0 (And.intro hz1 hz2))
  clear hx hn hi0 hz0 hz1 hz2
  go_enter Tryd.func31, Tryd.ntmps31
  go_wp2_with fail
  go_loopw [3, 4] (fun l i wr => ∃ j : Nat, j ≤ n ∧ i = .int .i64 j ∧ New w wr ∧ wr.ownsRow w.heap.size TE 3 l j (rows (xs.take j))) (fun _ i _ => n - (intOf i).toNat)
  case atStart => exact ⟨0, by omega, rfl, Upd.refl _ _, World.ownsRow_nil _ _ _ _⟩
  case round =>
    obtain ⟨j, hj, rfl, hnew, hown⟩ := hrel
    have Hnew := hide hnew
    have Hown := hide hown
    clear hown
    by_cases hlt : j < n
    · obtain ⟨b, o, x, hA, hbw, hxj, e0, e1, e2⟩ := Hx.out.e3 (k := j) (by have := Hn.out; omega)
      have d0 := (hnew.cell hbw (fun x => x)).trans e0
      have d1 := (hnew.cell hbw (fun x => x)).trans e1
      have d2 := (hnew.cell hbw (fun x => x)).trans e2
      have hb := Nat.lt_of_lt_of_le hbw hnew.size
      have Hbw := hide hbw
      have D := hide (And.intro d0 (And.intro d1 d2))
      have Hbo := hide hb
      clear e0 e1 e2 hbw
      subst hA
      have Hxj := hide hxj
      have i3 : (j : Int) < (n : Int) := by omega
      have hsz := hnew.size
      obtain ⟨wo, rfl⟩ : ∃ wo : World, wo = wr := ⟨_, rfl⟩
      obtain ⟨l, hl3⟩ : ∃ l : Value, l = u3 := ⟨_, rfl⟩
      rw [← hl3] at Hown ⊢
      clear hl3 hxj hnew
      go_upto_region 5 with (fail)
      go_region_held3 (fun w' => w'.cell? ⟨b, o + j * 3, none⟩ = some (.int .i64 x.a) ∧ w'.cell? ⟨b, o + j * 3 + 1, none⟩ = some (.int .i64 x.n) ∧ w'.cell? ⟨b, o + j * 3 + 2, none⟩ = some (.int .i64 x.h))
        (first | go_keep | exact K1.out)
        ((refine step_append_lies _ (by rfl) _ _ _ (by rfl) w.heap.size TE i0 _ 3 24 Tryd.underlying62 Hi0.out Hz.out.1 Hz.out.2.1 Hz.out.2.2 rfl (by omega) l j (rows (xs.take j)) (by rfl) ((Hown.out.alloc _).drew) ⟨wo.heap.size, 0, none⟩ 1 1 [.int .i64 x.a, .int .i64 x.n, .int .i64 x.h] (by rfl) (by rfl) (World.news_of_block (cs := #[.int .i64 x.a, .int .i64 x.n, .int .i64 x.h]) (t := TE) (fr := (0, 0)) (heap_alloc_new wo _)) (by simp [Value.oneCell']) (by omega) (by unfold maxLen; omega) (by omega) (by first | (simp; done) | (simp; omega)) (wo.heap.size + 1) (by simp) ?_; intro gg cap w1 hown1 hgrow hat hlt2; have hu1 : Upd (fun q => l.ownBlock = some q) wo w1 := (((Upd.refl _ wo).alloc _).drew).trans' (Upd.of_grown hgrow fun q _ hq => hq); have hne : ¬ l.ownBlock = some b := fun e => (by have h1 := (Hown.out.lt _ e).1; have h2 := Hbw.out; omega); have K1 := hide (keepE ⟨(hu1.cell Hbo.out hne).trans D.out.1, (hu1.cell Hbo.out hne).trans D.out.2.1, (hu1.cell Hbo.out hne).trans D.out.2.2⟩)))
      go_wp2_with fail
      refine ⟨⟨j + 1, by omega, by go_num, ?_, ?_⟩, by simp [intOf]; omega⟩
      · exact Hnew.out.trans hu1 fun q hq hx => by have := (Hown.out.lt q hx).1; omega
      · have e : rows (xs.take (j + 1)) = rows (xs.take j) ++ [.int .i64 x.a, .int .i64 x.n, .int .i64 x.h] := by
          rw [List.take_add_one, Hxj.out, rows_app]
          rfl
        rw [e]
        exact hown1
    · have hjn : j = n := by omega
      subst hjn
      have ho := Hown.out
      rw [List.take_of_length_le (by have := Hn.out; omega)] at ho
      obtain ⟨A', c', rfl, _, hc, hr, _, _⟩ := rws_of_own (by omega) ho (e3_size xs)
      have Hr := hide hr
      clear hr ho
      go_wp2_with fail
      go_ret
      exact ⟨_, _, rfl, Hr.out, hc, Hnew.out⟩

/-- An act. -/
structure ActR where
  kind : ByteArray
  a : Int
  n : Int
  h : Int
  A : Option Addr
  c : Nat
  xs : List E3
def ActR.cells (x : ActR) : Array Value := #[.string x.kind, .int .i64 x.a, .int .i64 x.n, .int .i64 x.h, .slice x.A x.xs.length x.c]
structure ActOk (w : World) (x : ActR) : Prop where
  rows : Rws w x.A 3 (x.xs.map E3.cells)
  le : x.xs.length ≤ x.c
structure Acts (w : World) (A : Option Addr) (l : List ActR) : Prop where
  rows : Rws w A 5 (l.map ActR.cells)
  ok : ∀ (i : Nat) (x : ActR), l[i]? = some x → ActOk w x
theorem ActOk.new_ {w w1 : World} {x : ActR} (h : ActOk w x) (hu : New w w1) : ActOk w1 x := ⟨h.rows.new_ hu, h.le⟩
theorem Acts.new_ {w w1 : World} {A : Option Addr} {l : List ActR} (h : Acts w A l) (hu : New w w1) : Acts w1 A l := ⟨h.rows.new_ hu, fun i x hx => (h.ok i x hx).new_ hu⟩
theorem Acts.at_ {w : World} {A : Option Addr} {l : List ActR} (h : Acts w A l) {k : Nat} (hk : k < l.length) : ∃ b o x, A = some ⟨b, o, none⟩ ∧ b < w.heap.size ∧ l[k]? = some x ∧ ActOk w x ∧
    w.cell? ⟨b, o + k * 5, none⟩ = some (.string x.kind) ∧ w.cell? ⟨b, o + k * 5 + 1, none⟩ = some (.int .i64 x.a) ∧ w.cell? ⟨b, o + k * 5 + 2, none⟩ = some (.int .i64 x.n) ∧
    w.cell? ⟨b, o + k * 5 + 3, none⟩ = some (.int .i64 x.h) ∧ w.cell? ⟨b, o + k * 5 + 4, none⟩ = some (.slice x.A x.xs.length x.c) := by
  obtain ⟨b, o, hA, hb, hc⟩ := h.rows (by simpa using by omega)
  have hp : l[k]? = some l[k] := List.getElem?_eq_getElem hk
  have h1 := hc k l[k].cells (by simp [hp])
  exact ⟨b, o, l[k], hA, hb, hp, h.ok k _ hp, h1 0 _ rfl, h1 1 _ rfl, h1 2 _ rfl, h1 3 _ rfl, h1 4 _ rfl⟩

def longL (l : List ActR) : Bool := decide (80 < l.length) || l.any fun x => decide (70 < x.xs.length)
set_option maxHeartbeats 1000000 in
theorem longActs_any (A : Option Addr) (n c : Nat) (l : List ActR) (w : World) (hx : Acts w A l) (hn : l.length = n) :
    Calls Tryd.prog 21 #[.slice A n c] w fun e w1 => e = .returned (.bool (longL l)) ∧ New w w1 := by
  have Hx := hide hx
  have Hn := hide hn
  clear hx hn
  by_cases a0 : 80 < n
  · have Hl : Hid (longL l = true) := hide (by unfold longL; rw [Hn.out]; simp [a0])
    have i0 : (80 : Int) < (n : Int) := by omega
    go_enter Tryd.func21, Tryd.ntmps21
    go_wp2_with fail
    go_ret
    exact ⟨ret_bool Hl.out.symm, Upd.refl _ _⟩
  · have i0 : ¬ (80 : Int) < (n : Int) := by omega
    have Hdec : Hid (longL l = l.any fun x => decide (70 < x.xs.length)) := hide (by unfold longL; rw [Hn.out]; simp [a0])
    go_enter Tryd.func21, Tryd.ntmps21
    go_wp2_with fail
    go_loopw [3] (fun i wr => ∃ j : Nat, j ≤ n ∧ i = .int .i64 j ∧ New w wr ∧ ∀ (i : Nat) x, i < j → l[i]? = some x → ¬ 70 < x.xs.length) (fun i _ => n - (intOf i).toNat)
    case atStart => exact ⟨0, by omega, rfl, Upd.refl _ _, fun i x h => absurd h (by omega)⟩
    case round =>
      obtain ⟨j, hj, rfl, hnew, hz⟩ := hrel
      have Hz := hide hz
      clear hz
      by_cases hlt : j < n
      · obtain ⟨b, o, x, hA, hb, hxj, _, d0, d1, d2, d3, d4⟩ := (Hx.out.new_ hnew).at_ (k := j) (by have := Hn.out; omega)
        subst hA
        have Hxj := hide hxj
        have i3 : (j : Int) < (n : Int) := by omega
        clear hxj
        by_cases h70 : 70 < x.xs.length
        · have Hl : Hid (longL l = true) := hide (by rw [Hdec.out]; exact List.any_eq_true.2 ⟨x, List.mem_of_getElem? Hxj.out, decide_eq_true h70⟩)
          have i4 : (70 : Int) < (x.xs.length : Int) := by omega
          go_wp2_with fail
          go_ret
          exact ⟨ret_bool Hl.out.symm, hnew⟩
        · have i4 : ¬ (70 : Int) < (x.xs.length : Int) := by omega
          go_wp2_with fail
          refine ⟨⟨j + 1, by omega, by go_num, hnew, fun i y hi hy => ?_⟩, by simp [intOf]; omega⟩
          by_cases hij : i < j
          · exact Hz.out i y hij hy
          · obtain rfl : i = j := by omega
            rw [Hxj.out] at hy; injection hy with hy; subst hy; exact h70
      · have i3 : ¬ (j : Int) < (n : Int) := by omega
        have Hl : Hid (longL l = false) := hide (by
          rw [Hdec.out, List.any_eq_false]
          intro y hy
          obtain ⟨i, hi⟩ := List.getElem?_of_mem hy
          have := Hz.out i y (by have := (List.getElem?_eq_some_iff.1 hi).1; have := Hn.out; omega) hi
          simpa using this)
        go_wp2_with fail
        go_ret
        exact ⟨ret_bool Hl.out.symm, hnew⟩
end Go.Proofs.YtkljanjapcpbdaaDoor

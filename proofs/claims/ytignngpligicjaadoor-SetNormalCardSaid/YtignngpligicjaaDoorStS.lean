/- The closed fact setted: two halves are one. No condition but those that stand in each theorem. -/
import Derived.Test.YtignngpligicjaaDoorStA
namespace Go.Proofs.YtignngpligicjaaDoor
open Go.RowKit

theorem norm_some (A : Option Addr) (n c : Nat) (ps : List Pf) (E : Nat → Addr) (w : World) (htz : TzOk w) (h2 : Sen w gBound (E 2)) (h3 : Sen w gShape (E 3)) (hx : Rws w A 2 (ps.map Pf.cells)) (hn : ps.length = n) (hl : n ≤ 100000) :
    Calls Tryd.prog 7 #[.slice A n c] w fun e w1 => ∃ A1 k1 c1 er, e = .returned (.tuple #[.slice A1 k1 c1, er]) ∧ New w w1 :=
  (norm_any A n c ps E w htz h2 h3 hx hn hl).mono fun _ _ ⟨v, er, P, he, _, hu, ho, _⟩ => by
    obtain ⟨A1, c1, rfl, _⟩ := ho.rws
    exact ⟨A1, _, c1, er, he, hu⟩
/-- Two halves of one. -/
def halves2 : List Pf := [⟨128, 25⟩, ⟨0, 25⟩]
theorem halves_ok : ∀ p ∈ halves2, p.ok := by
  intro p hp
  simp [halves2] at hp
  rcases hp with rfl | rfl <;> (unfold Pf.ok; decide +kernel)
theorem whole_npl : NPl (fun x => inB2 [(0, 256)] x) [⟨0, 24⟩] := by
  have hg : Gres [(0, 256)] [(0, 8)] := ⟨[(0, 8)], [], rfl, ⟨rfl, ⟨by decide, by decide, by decide, by decide⟩, rfl⟩, rfl⟩
  have ha : Apart [(0, 256)] := ⟨by omega, by omega, by simp, trivial⟩
  have h := npl_of (f := fun x => inB2 [(0, 256)] x) ((gres_canon ha hg).iff fun x _ => (inB2_iff _ x).symm)
  exact h
theorem halves_one {qs : List Pf} (h : NPl (inP halves2) qs) : qs = [⟨0, 24⟩] := by
  refine h.one whole_npl fun x _ => ?_
  show inK (halves2.map Pf.b) x = inB2 [(0, 256)] x
  rw [Bool.eq_iff_iff, inK_iff, inB2_iff]
  unfold InB InS halves2
  constructor
  · rintro ⟨q, hq, h1, h2⟩
    refine ⟨(0, 256), by simp, Nat.zero_le _, ?_⟩
    simp [Pf.b] at hq
    rcases hq with rfl | rfl
    · have h2 : x < 128 + 128 := h2
      show x < 256
      omega
    · have h2 : x < 0 + 128 := h2
      show x < 256
      omega
  · rintro ⟨s, hs, h1, h2⟩
    simp at hs
    subst hs
    have h2 : x < 256 := h2
    by_cases hx : x < 128
    · exact ⟨(0, 7), by simp [Pf.b], Nat.zero_le _, by show x < 0 + 128; omega⟩
    · exact ⟨(128, 7), by simp [Pf.b], by show 128 ≤ x; omega, by show x < 128 + 128; omega⟩

set_option maxHeartbeats 1000000 in
theorem setted_any (E : Nat → Addr) (w : World) (htz : TzOk w) (h2 : Sen w gBound (E 2)) (h3 : Sen w gShape (E 3)) :
    Calls Tryd.prog 6 #[] w fun e w1 => e = .returned (.bool true) ∧ New w w1 := by
  have g1 := guard_pfx
  have g3 := eql_pfx
  have u := (Upd.refl (fun _ => False) w).alloc (.cells #[.int .i64 128, .int .i64 25, .int .i64 0, .int .i64 25] TPf)
  have hr : Rws (w.alloc (.cells #[.int .i64 128, .int .i64 25, .int .i64 0, .int .i64 25] TPf)) (some ⟨w.heap.size, 0, none⟩) 2 (halves2.map Pf.cells) := by
    intro _
    have hb := Blk.new w TPf #[.int .i64 128, .int .i64 25, .int .i64 0, .int .i64 25]
    refine ⟨w.heap.size, 0, rfl, hb.lt, fun i r hi j v hj => ?_⟩
    rw [hb.cell]
    match i, hi with
    | 0, hi =>
      obtain rfl : (#[.int .i64 128, .int .i64 25] : Array Value) = r := by simpa [halves2, Pf.cells] using hi
      match j, hj with
      | 0, hj => simpa using hj
      | 1, hj => simpa using hj
      | j + 2, hj => simp at hj
    | 1, hi =>
      obtain rfl : (#[.int .i64 0, .int .i64 25] : Array Value) = r := by simpa [halves2, Pf.cells] using hi
      match j, hj with
      | 0, hj => simpa using hj
      | 1, hj => simpa using hj
      | j + 2, hj => simp at hj
    | i + 2, hi => simp [halves2] at hi
  have Hc := hide (norm_good (some ⟨w.heap.size, 0, none⟩) 2 2 halves2 E _ (htz.new u) (h2.new u) (h3.new u) hr rfl (by omega) (pfsC_all halves_ok))
  have N := hide u
  clear htz h2 h3 u hr
  go_enter Tryd.func6, Tryd.ntmps6
  go_wp2_with fail
  refine Hc.out.mono ?_
  rintro e w1 ⟨A, c, qs, rfl, hu, hr, _, hn⟩
  obtain rfl := halves_one hn
  obtain ⟨b, o, hA, hb, hc⟩ := hr (by simp)
  subst hA
  have c0 := hc 0 #[.int .i64 0, .int .i64 24] rfl 0 _ rfl
  have c1 := hc 0 #[.int .i64 0, .int .i64 24] rfl 1 _ rfl
  have N := hide (N.out.trans_new hu)
  clear hu hr hc hn
  simp only [List.length_cons, List.length_nil, Nat.zero_mul, Nat.add_zero, Nat.zero_add] at c0 c1 ⊢
  go_wp2_with fail
  go_ret
  exact ⟨rfl, N.out⟩
end Go.Proofs.YtignngpligicjaaDoor

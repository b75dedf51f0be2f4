/- Slices of ints that read as lists; SameInts. No condition but those that stand in each theorem. -/
import Derived.Test.YtlealjcllbpgkaaRg
import Derived.Test.YtlealjcllbpgkaaProg
namespace Go.Proofs.Ytlealjcllbpgkaa
open Go.RowKit

theorem ret_bool {a b : Bool} (h : a = b) : Ending.returned (.bool a) = .returned (.bool b) := by rw [h]
theorem ret_int {k : IntKind} {a b : Int} (h : a = b) : Ending.returned (.int k a) = .returned (.int k b) := by rw [h]

/-- The slice with its address A reads as xs. -/
def Ints (w : World) (A : Option Addr) (xs : List Int) : Prop :=
  0 < xs.length → ∃ b o, A = some ⟨b, o, none⟩ ∧ b < w.heap.size ∧ ∀ (i : Nat) (x : Int), xs[i]? = some x → w.cell? ⟨b, o + i, none⟩ = some (.int .i64 x)

section
variable {S : Nat → Prop} {w w1 : World} {A : Option Addr} {xs : List Int}
theorem Ints.nil : Ints w A [] := fun h => absurd h (by simp)
theorem Ints.upd (h : Ints w A xs) (hu : Upd S w w1) (hn : ∀ b o, A = some ⟨b, o, none⟩ → ¬ S b) : Ints w1 A xs := fun hl => by
  obtain ⟨b, o, rfl, hb, hc⟩ := h hl
  exact ⟨b, o, rfl, Nat.lt_of_lt_of_le hb hu.size, fun i x hx => (hu.cell hb (hn b o rfl)).trans (hc i x hx)⟩
theorem Ints.new_ (h : Ints w A xs) (hu : New w w1) : Ints w1 A xs := h.upd hu fun _ _ _ x => x
theorem Ints.of_blk {g : Nat} {t : TypeId} {cs : Array Value} (h : Blk w g t cs) (hc : cs = (xs.map (Value.int .i64)).toArray) : Ints w (some ⟨g, 0, none⟩) xs := fun _ => by
  subst hc
  refine ⟨g, 0, rfl, h.lt, fun i x hx => ?_⟩
  rw [Nat.zero_add, h.cell i]
  simp [hx]
theorem Ints.at_ (h : Ints w A xs) {k : Nat} (hk : k < xs.length) : ∃ b o x, A = some ⟨b, o, none⟩ ∧ b < w.heap.size ∧ xs[k]? = some x ∧ w.cell? ⟨b, o + k, none⟩ = some (.int .i64 x) := by
  obtain ⟨b, o, hA, hb, hc⟩ := h (by omega)
  exact ⟨b, o, xs[k], hA, hb, List.getElem?_eq_getElem hk, hc k _ (List.getElem?_eq_getElem hk)⟩
end

set_option maxHeartbeats 1000000 in
theorem sameInts_any (A B : Option Addr) (n m c d : Nat) (xs ys : List Int) (w : World) (hx : Ints w A xs) (hy : Ints w B ys) (hn : xs.length = n) (hm : ys.length = m) (hl : n ≤ 1000000) (hl2 : m ≤ 1000000) :
    Calls Try.prog 28 #[.slice A n c, .slice B m d] w fun e w1 => e = .returned (.bool (decide (xs = ys))) ∧ New w w1 := by
  have Hx := hide hx
  have Hy := hide hy
  have Hn := hide hn
  have Hm := hide hm
  clear hx hy hn hm
  by_cases hnm : n = m
  · subst hnm
    go_enter Try.func28, Try.ntmps28
    go_wp2_with fail
    go_loopw [5] (fun i wr => ∃ k : Nat, k ≤ n ∧ i = .int .i64 k ∧ New w wr ∧ ∀ j : Nat, j < k → xs[j]? = ys[j]?) (fun i _ => n - (intOf i).toNat)
    case atStart => exact ⟨0, by omega, rfl, Upd.refl _ _, fun j h => absurd h (by omega)⟩
    case round =>
      obtain ⟨k, hk, rfl, hnew, hz⟩ := hrel
      have Hz := hide hz
      clear hz
      by_cases hlt : k < n
      · obtain ⟨b, o, x, rfl, hb, hxk, hcx⟩ := (Hx.out.new_ hnew).at_ (k := k) (by have := Hn.out; omega)
        obtain ⟨b2, o2, y, rfl, hb2, hyk, hcy⟩ := (Hy.out.new_ hnew).at_ (k := k) (by have := Hm.out; omega)
        have Hxk := hide hxk
        have Hyk := hide hyk
        clear hxk hyk
        have i1 : (k : Int) < (n : Int) := by omega
        by_cases he : x = y
        · subst he
          have hne : (x != x) = false := by simp
          go_wp2_with fail
          go_quiet (fail)
          go_wp2_with fail
          refine ⟨⟨k + 1, by omega, by go_num, ?_, fun j hj => ?_⟩, by simp [intOf]; omega⟩
          · exact hnew.drewN _
          · by_cases hjk : j < k
            · exact Hz.out j hjk
            · obtain rfl : j = k := by omega
              rw [Hxk.out, Hyk.out]
        · have hne : (x != y) = true := by simpa using he
          have He := hide he
          clear he
          go_wp2_with fail
          go_quiet (fail)
          go_wp2_with fail
          go_ret
          refine ⟨ret_bool (decide_eq_false ?_).symm, hnew.drewN _⟩
          intro hxy
          have h1 := Hxk.out
          rw [hxy, Hyk.out] at h1
          injection h1 with h1
          exact He.out h1.symm
      · have hkn : k = n := by omega
        subst hkn
        go_wp2_with fail
        go_ret
        refine ⟨ret_bool (decide_eq_true ?_).symm, hnew⟩
        refine List.ext_getElem? fun j => ?_
        by_cases hj : j < k
        · exact Hz.out j hj
        · rw [List.getElem?_eq_none (by have := Hn.out; omega), List.getElem?_eq_none (by have := Hm.out; omega)]
  · have hb : decide ((n : Int) = (m : Int)) = false := by simp; omega
    have hb2 : ((n : Int) != (m : Int)) = true := by simp; omega
    have Hnm := hide hnm
    clear hnm
    go_enter Try.func28, Try.ntmps28
    go_wp2_with fail
    go_ret
    refine ⟨ret_bool (decide_eq_false ?_).symm, Upd.refl _ _⟩
    rintro rfl
    exact Hnm.out (Hn.out.symm.trans Hm.out)
end Go.Proofs.Ytlealjcllbpgkaa

/- Spans in rows of a call's own, sorted by the library; numbers likewise; bit counts. No condition but those that stand in each theorem. -/
import Derived.Test.YtlealjcllbpgkaaSt0
import Derived.Test.YtlealjcllbpgkaaPfo
import Derived.Test.YtlealjcllbpgkaaIp2
import Derived.Test.YtlealjcllbpgkaaSp1
import Derived.Sort.OwnSortedInts
import Derived.Lib.TrailingZeros
import Derived.Lib.ItoaNum
import Derived.Shelf.Slices.In.SortNone
namespace Go.Proofs.Ytlealjcllbpgkaa
open Go.RowKit

/-- A span's two cells. -/
def spc (s : Nat × Nat) : Array Value := #[.int .i64 (s.1 : Int), .int .i64 (s.2 : Int)]
def encS (s : Nat × Nat) : List Value := [.int .i64 (s.1 : Int), .int .i64 (s.2 : Int)]
def cmpS (x y : Nat × Nat) : Int := sgn (x.1 : Int) (y.1 : Int)
theorem spc_size (l : List (Nat × Nat)) : ∀ r ∈ l.map spc, r.size = 2 := fun r hr => by obtain ⟨p, _, rfl⟩ := List.mem_map.1 hr; rfl
theorem flatK_spans (l : List (Nat × Nat)) : Go.Sort.flatK encS 2 l.toArray = (flat (l.map spc)).toArray := by
  have hlen : (flat (l.map spc)).length = l.length * 2 := by rw [flat_length _ (spc_size l)]; simp
  refine Go.Sort.ext_get! (by simp [hlen]) fun t ht => ?_
  have ht' : t < l.length * 2 := by simpa using ht
  rw [Go.Sort.get_flatK _ _ _ t (by simpa using ht')]
  have hi : t / 2 < l.length := by omega
  have hr : (l.map spc)[t / 2]? = some (spc l[t / 2]) := by rw [List.getElem?_map, List.getElem?_eq_getElem hi]; rfl
  have hg := flat_get (l.map spc) (spc_size l) (t / 2) _ hr (t % 2) (by omega)
  rw [show t / 2 * 2 + t % 2 = t by omega] at hg
  have h1 : l.toArray[t / 2]! = l[t / 2] := by
    rw [getElem!_pos l.toArray (t / 2) (by simpa using hi)]; simp
  rw [h1]
  have h2 : ((flat (l.map spc)).toArray)[t]! = ((flat (l.map spc))[t]?).getD default := by
    rw [getElem!_pos _ t (by simp [hlen]; exact ht')]
    simp [List.getElem?_eq_getElem (show t < (flat (l.map spc)).length by omega)]
  rw [h2, hg]
  have : t % 2 = 0 ∨ t % 2 = 1 := by omega
  rcases this with e | e <;> rw [e] <;> rfl

theorem ltS (x y : Nat × Nat) : Go.Proofs.ltOf cmpS x y = decide (x.1 < y.1) := by
  unfold Go.Proofs.ltOf cmpS sgn
  by_cases h1 : (x.1 : Int) < y.1
  · rw [if_pos h1, decide_eq_true (by omega), decide_eq_true (by omega)]
  · rw [if_neg h1, decide_eq_false (show ¬ x.1 < y.1 by omega)]
    split <;> rfl
theorem swoS : Go.Sort.SWO (Go.Proofs.ltOf cmpS) where
  irrefl x := by rw [ltS]; simp
  trans x y z h1 h2 := by rw [ltS] at *; simp at *; omega
  ntrans x y z h1 h2 := by rw [ltS] at *; simp at *; omega

section
open Go.Sort
/-- Behind a row's sorting: its block, and all others. -/
theorem heap_sortedV {w : World} {g n : Nat} {os : Array Obj} {cur : Array Value} {e : TypeId} {fr : Nat × Nat} (d : Array Value) (hb : w.heap[g]? = some (.cells cur e fr)) :
    (grow (putRow id (Go.Sort.ahead w n) g 0 d) os).heap[g]? = some (.cells (putCells id 0 d cur) e fr) := by
  have hg : g < w.heap.size := (Array.getElem?_eq_some_iff.1 hb).1
  rw [heap_grow_old _ _ (by simpa using hg)]
  simp [putRow, mapBlock, Go.Sort.ahead, Array.getElem?_modify, hb, onCells]
theorem grownBy_sortedV {w : World} {g n : Nat} {os : Array Obj} (d : Array Value) : w.grownBy (grow (putRow id (Go.Sort.ahead w n) g 0 d) os) (some g) := by
  refine ⟨rfl, rfl, rfl, by simp, fun k hk hne => ?_⟩
  rw [heap_grow_old _ _ (by simpa using hk)]
  have : g ≠ k := fun e => hne (by rw [e])
  simp [putRow, mapBlock, Go.Sort.ahead, Array.getElem?_modify, this]
theorem take_putCellsV (cur : Array Value) (ts : List Value) (h : ts.length ≤ cur.size) : (putCells id 0 ts.toArray cur).toList.take ts.length = ts := by
  apply List.ext_getElem?
  intro j
  by_cases hj : j < ts.length
  · rw [List.getElem?_take_of_lt hj, Array.getElem?_toList]
    simp [putCells, hj, show j < cur.size by omega]
  · rw [List.getElem?_take_eq_none (by omega), List.getElem?_eq_none (by omega)]
theorem holds_of_blockV {w : World} {g : Nat} {cur : Array Value} {e : TypeId} {ss : List Value} (hb : w.heap[g]? = some (.cells cur e (0, 0))) (ht : cur.toList.take ss.length = ss) : Holds id w g 0 ss.toArray := by
  intro j hj
  have hj' : j < ss.length := by simpa using hj
  refine ⟨?_, by simp [World.frozen?, hb]⟩
  have h1 : (cur.toList.take ss.length)[j]? = ss[j]? := by rw [ht]
  rw [List.getElem?_take_of_lt hj'] at h1
  simp only [World.cell?, hb, Nat.zero_add]
  simp only [Option.isSome_none, Bool.false_eq_true, if_false]
  rw [← Array.getElem?_toList, h1]
  simp [hj']
end

theorem perm_of_in {α : Type} [Inhabited α] {d d' : Array α} (h : Go.Sort.PermIn 0 d.size d d') : d'.size = d.size ∧ d'.toList.Perm d.toList := by
  obtain ⟨h1, _, h3⟩ := h
  refine ⟨h1, ?_⟩
  have e1 : d.extract 0 d.size = d := by simp
  have e2 : d'.extract 0 d.size = d' := by rw [← h1]; simp
  rwa [e1, e2] at h3
theorem sorted_of_in {d : Array (Nat × Nat)} (h : Go.Sort.SortedIn (Go.Proofs.ltOf cmpS) 0 d.size d) : d.toList.Pairwise (fun p q => p.1 ≤ q.1) := by
  rw [List.pairwise_iff_getElem]
  intro i j hi hj hij
  have hi' : i < d.size := by simpa using hi
  have hj' : j < d.size := by simpa using hj
  have := h i j (Nat.zero_le _) hij hj'
  rw [getElem!_pos d j hj', getElem!_pos d i hi', ltS] at this
  simp at this
  simpa using this

end Go.Proofs.Ytlealjcllbpgkaa

namespace Go.Proofs.Ytlealjcllbpgkaa
open Go.RowKit

/-- The exponent of the greatest block from f on, up to t. -/
def topK (f t : Nat) : Nat := min (Lib.ctz 64 (f + 4294967296)) (Lib.bitLen (t - f) - 1)
theorem topK_ok {f t : Nat} (hf : f < t) (ht : t ≤ 4294967296) : Top f t (topK f t) ∧ Lib.ctz 64 (f + 4294967296) ≤ 32 ∧ 1 ≤ Lib.bitLen (t - f) ∧ Lib.bitLen (t - f) ≤ 33 := by
  have hb := Lib.bitLenAux_bounds 64 (t - f) (by omega) (by omega)
  have hb33 := Lib.bitLen_le (t - f) 33 (by omega) (by omega)
  obtain ⟨b1, b2, b3⟩ := hb
  change 1 ≤ Lib.bitLen (t - f) at b1
  change 2 ^ (Lib.bitLen (t - f) - 1) ≤ t - f at b2
  change t - f < 2 ^ Lib.bitLen (t - f) at b3
  obtain ⟨m, hm, hc⟩ := Lib.ctzFrom_spec 64 (f + 4294967296) (by omega) (by omega)
  have hce : Lib.ctz 64 (f + 4294967296) = Lib.ctzFrom 64 (f + 4294967296) := by unfold Lib.ctz; rw [if_neg (by omega)]
  rw [← hce] at hm hc
  unfold topK
  generalize Lib.ctz 64 (f + 4294967296) = c at *
  generalize Lib.bitLen (t - f) = L at *
  have hdc : 2 ^ c ∣ f + 4294967296 := ⟨2 * m + 1, hm⟩
  have hc32 : c ≤ 32 := by
    rcases Nat.lt_or_ge 32 c with h | h
    · exfalso
      have h1 := Nat.le_of_dvd (by omega) hdc
      have h2 : 2 ^ 33 ≤ 2 ^ c := Nat.pow_le_pow_right (by omega) h
      omega
    · exact h
  have h32 : ∀ k, k ≤ 32 → 2 ^ k ∣ 4294967296 := fun k hk => p2_dvd (show k ≤ 32 from hk)
  have hdf : ∀ k, k ≤ 32 → (2 ^ k ∣ f + 4294967296 ↔ 2 ^ k ∣ f) := fun k hk => ⟨fun h => (Nat.dvd_add_left (h32 k hk)).1 h, fun h => Nat.dvd_add h (h32 k hk)⟩
  refine ⟨⟨by omega, ?_, ?_, ?_⟩, hc32, b1, hb33⟩
  · exact (hdf _ (by omega)).1 (Nat.dvd_trans (p2_dvd (Nat.min_le_left _ _)) hdc)
  · have h1 : 2 ^ min c (L - 1) ≤ 2 ^ (L - 1) := Nat.pow_le_pow_right (by omega) (Nat.min_le_right _ _)
    omega
  · rintro ⟨h1, h2⟩
    by_cases hle : c ≤ L - 1
    · rw [Nat.min_eq_left hle] at h1 h2
      have hk : c + 1 ≤ 32 := by
        rcases Nat.lt_or_ge 32 (c + 1) with h | h
        · exfalso
          have h3 : 2 ^ 33 ≤ 2 ^ (c + 1) := Nat.pow_le_pow_right (by omega) h
          omega
        · exact h
      have h3 := (hdf _ hk).2 h1
      rw [hm, Nat.pow_succ] at h3
      have h4 := Nat.dvd_of_mul_dvd_mul_left (p2_pos c) h3
      omega
    · rw [Nat.min_eq_right (by omega), show L - 1 + 1 = L by omega] at h2
      omega
theorem ofInt_u64 (a : Nat) (ha : a < 18446744073709551616) : (BitVec.ofInt 64 (a : Int)).toNat = a := by
  rw [BitVec.ofInt_natCast, BitVec.toNat_ofNat]; exact Nat.mod_eq_of_lt (by omega)
theorem or_high (f : Nat) (hf : f < 4294967296) : bits .or .u64 (f : Int) 4294967296 = ((f + 4294967296 : Nat) : Int) := by
  have h := Nat.two_pow_add_eq_or_of_lt (i := 32) (b := f) (by simpa using hf) 1
  have h1 : f ||| 4294967296 = f + 4294967296 := by
    rw [Nat.or_comm]
    have h2 : 2 ^ 32 * 1 = 4294967296 := by decide
    rw [h2] at h
    omega
  show IntKind.u64.wrap ((BitVec.ofInt 64 (f : Int) ||| BitVec.ofInt 64 ((4294967296 : Nat) : Int)).toNat : Int) = _
  rw [BitVec.toNat_or, ofInt_u64 f (by omega), ofInt_u64 4294967296 (by omega), h1]
  have : ∀ n : Nat, n < 18446744073709551616 → IntKind.u64.wrap (n : Int) = (n : Int) := fun n hn => by
    simp [IntKind.wrap, IntKind.bits, IntKind.signed]; omega
  exact this _ (by omega)
/-- A slice of the call's own that holds these numbers. -/
def OwnI (w : World) (base : Nat) (v : Value) (l : List Int) : Prop := w.ownsRow base 3 1 v l.length (l.map (.int .i64))
end Go.Proofs.Ytlealjcllbpgkaa

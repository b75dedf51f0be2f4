/- slices.Repeat of one number. No condition but those that stand in each theorem. -/
import Derived.Test.YtignngpligicjaaDoorShl
import Derived.Laws.CopyOwn
import Derived.Deep.RegionLaw
import Derived.Laws.CopyRow
import Derived.Laws.OwnMore
namespace Go.Proofs.YtignngpligicjaaDoor
open Go.RowKit

theorem mul1_any (n : Nat) (hn : n ≤ 1000) (w : World) : Calls Tryd.prog 77 #[.int .u64 1, .int .u64 n] w fun e w' => e = .returned (.tuple #[.int .u64 0, .int .u64 n]) ∧ w = w' := by
  have h := mul_any 1 n (by omega) (by omega) w
  rw [Nat.one_mul, Nat.mod_eq_of_lt (by omega), Nat.div_eq_of_lt (by omega)] at h
  refine h.mono ?_
  rintro e w' ⟨rfl, rfl⟩
  exact ⟨rfl, rfl⟩

def rep (v : Int) (k n : Nat) : List Value := List.replicate k (.int .i64 v) ++ List.replicate (n - k) (.int .i64 0)
theorem rep_len (v : Int) {k n : Nat} (h : k ≤ n) : (rep v k n).length = n := by simp [rep]; omega
theorem rep_splice (v : Int) {k m n : Nat} (h : k + m ≤ n) : splice (rep v k n) k (List.replicate m (.int .i64 v)) = rep v (k + m) n := by
  unfold splice rep
  rw [List.length_replicate, List.take_append_of_le_length (by simp), List.take_of_length_le (by simp), ← List.append_assoc, List.replicate_append_replicate]
  congr 1
  rw [List.drop_append, List.length_replicate]
  simp
  omega
theorem rep_at (v : Int) {k n j : Nat} (h : j < k) : (rep v k n)[j]? = some (.int .i64 v) := by
  unfold rep
  rw [List.getElem?_append_left (by simpa using h)]
  simp [h]
theorem make_ints (n : Nat) (hn : n ≤ 1000) (w : World) : (Instr.makeSlice 42 (.int .i64 n) (.int .i64 n)).run Tryd.prog w = .ok (.slice (some ⟨w.heap.size, 0, none⟩) n n) (w.alloc (.cells (rep 0 0 n).toArray 3)) := by
  obtain ⟨i0, hi0, hz0, hz1, hz2⟩ := info_parts info_TI
  have h := run_make (P := Tryd.prog) w 42 3 i0 _ Tryd.underlying42 hi0 hz0 .i64 .i64 n n (by omega) (by omega) (by rw [hz2]; omega) (by omega)
  rw [h, hz1]
  have e : madeCells (Value.int .i64 0).cells ((n : Int).toNat * 1) = (rep 0 0 n).toArray := by
    apply Array.toList_inj.1
    have h2 := toList_madeCells_one (Value.int .i64 0) n
    rw [Int.toNat_natCast, Nat.mul_one]
    rw [show (Value.int .i64 0).cells = #[Value.int .i64 0] from rfl, h2]
    simp [rep]
  rw [e]
  simp

theorem copy_rep (v : Int) {w : World} {g1 k m n dl dc sl sc : Nat} {a : Addr} (hb : Blk w g1 3 (rep v k n).toArray) (hkm : k + m ≤ n) (hm : m = Nat.min sl dl) (hs : ∀ j, j < m → w.cell? (a.add j) = some (.int .i64 v)) :
    ∃ w', (Builtin.copy_ #[42, 42] 3 #[.slice (some ⟨g1, k, none⟩) dl dc, .slice (some a) sl sc]).run Tryd.prog w = .ok (.int .i64 (m : Int)) w' ∧ Blk w' g1 3 (rep v (k + m) n).toArray ∧ Upd (fun b => b = g1) w w' := by
  have h := run_copy_row (P := Tryd.prog) w 42 42 3 3 g1 k dl dc a sl sc _ _ (List.replicate m (.int .i64 v)) Tryd.underlying42 (by kernel_rfl) hb (by simpa using hm)
    (fun j u hj => by
      have hj2 : j < m := by have := (List.getElem?_eq_some_iff.1 hj).1; simpa using this
      rw [List.getElem?_replicate, if_pos hj2] at hj
      injection hj with hj
      subst hj
      exact hs j hj2) (by simp [rep_len v (show k ≤ n by omega)]; omega) (fun u hu => by rw [List.mem_replicate] at hu; rw [hu.2]; rfl)
  rw [List.append_assoc] at h
  refine ⟨w.setRow g1 ((rep v k n).take k ++ (List.replicate m (Value.int .i64 v) ++ (rep v k n).drop (k + m))).toArray, ?_, ?_, ?_⟩
  rotate_left
  · have h2 := setRow_heap w g1 _ ((rep v k n).take k ++ (List.replicate m (Value.int .i64 v) ++ (rep v k n).drop (k + m))).toArray _ _ hb
    rw [← rep_splice v hkm]
    unfold splice
    rw [List.length_replicate]
    exact h2
  · exact ⟨rfl, rfl, rfl, by simp [World.setRow], fun q _ hq => setRow_other w g1 q _ hq⟩
  · rw [h]
    simp [goInt]

set_option maxRecDepth 20000 in
set_option maxHeartbeats 1000000 in
theorem repeat_any (v : Int) (n g : Nat) (w : World) (hb : Blk w g 3 #[.int .i64 v]) (hn : n ≤ 1000) :
    Calls Tryd.prog 52 #[.slice (some ⟨g, 0, none⟩) 1 1, .int .i64 n] w fun e w1 => ∃ g1, e = .returned (.slice (some ⟨g1, 0, none⟩) n n) ∧ Blk w1 g1 3 (rep v n n).toArray ∧ w.heap.size ≤ g1 ∧ New w w1 := by
  have Hm := hide (mul1_any n hn)
  have Hmk := hide (make_ints n hn)
  have Hb := hide hb
  have i1 : ¬ ((n : Int) < 0) := by omega
  have i2 : ¬ ((9223372036854775807 : Int) < (n : Int)) := by omega
  have i3 : decide ((9223372036854775807 : Int) < (n : Int)) = false := decide_eq_false i2
  obtain ⟨g1, hg1⟩ : ∃ g1, g1 = w.heap.size := ⟨_, rfl⟩
  have G1 := hide hg1
  have hsz : (Tryd.prog.info? 3).map (·.size) = some 1 := by kernel_rfl
  have hmk := make_ints n hn w
  rw [← hg1] at hmk
  have B1 := hide (show Blk (w.alloc (.cells (rep 0 0 n).toArray 3)) g1 3 (rep 0 0 n).toArray by rw [hg1]; exact Blk.new w _ _)
  have U1 := hide ((Upd.refl (fun _ => False) w).alloc (.cells (rep 0 0 n).toArray 3))
  generalize hW : w.alloc (.cells (rep 0 0 n).toArray 3) = W at *
  clear hb hW hg1
  by_cases h0 : n = 0
  · subst h0
    have hcp : (Builtin.copy_ #[42, 42] 3 #[.slice (some ⟨g1, 0, none⟩) 0 0, .slice (some ⟨g, 0, none⟩) 1 1]).run Tryd.prog W = .ok (goInt 0) W := run_copy_none W _ _ _ 3 _ _ 0 0 1 1 Tryd.underlying42 hsz rfl
    have hmk0 : (Instr.makeSlice 42 (.int .i64 0) (.int .i64 0)).run Tryd.prog w = .ok (.slice (some ⟨g1, 0, none⟩) 0 0) W := hmk
    have hz : goInt 0 = .int .i64 0 := rfl
    rw [hz] at hcp
    clear i1 i2 i3 hmk hz
    go_enter Tryd.func52, Tryd.ntmps52
    go_wp2_with (go_at_call 77; refine (Hm.out _).mono ?_; rintro e w' ⟨rfl, rfl⟩)
    go_loopw [8] (fun i wr => i = .int .i64 0 ∧ wr = W) (fun _ _ => 0)
    case atStart => exact ⟨rfl, rfl⟩
    case round =>
      obtain ⟨rfl, rfl⟩ := hrel
      go_wp2_with fail
      go_ret
      exact ⟨g1, rfl, by have := B1.out; rwa [show rep 0 0 0 = rep v 0 0 from rfl] at this, by have := G1.out; omega, U1.out⟩
  · have Hr : ∃ W2, (Builtin.copy_ #[42, 42] 3 #[.slice (some ⟨g1, 0, none⟩) n n, .slice (some ⟨g, 0, none⟩) 1 1]).run Tryd.prog W = .ok (.int .i64 ((1 : Nat) : Int)) W2 ∧ Blk W2 g1 3 (rep v (0 + 1) n).toArray ∧ Upd (fun b => b = g1) W W2 :=
      copy_rep v (k := 0) (by have := B1.out; rwa [show rep 0 0 n = rep v 0 n from rfl] at this) (by omega) (show 1 = min 1 n by rw [Nat.min_eq_left (by omega)]) (fun j hj => by
        obtain rfl : j = 0 := by omega
        exact ((Hb.out.new_ U1.out).cell 0).trans rfl)
    obtain ⟨W2, hcp, hb2, hu2⟩ := Hr
    have B2 := hide hb2
    have U2 := hide (U1.out.trans hu2 (fun q hq hx => absurd hx (by have := G1.out; omega)))
    have n1 : 1 ≤ n := by omega
    clear hb2 hu2 h0
    go_enter Tryd.func52, Tryd.ntmps52
    go_wp2_with (go_at_call 77; refine (Hm.out _).mono ?_; rintro e w' ⟨rfl, rfl⟩)
    clear hmk hcp
    go_loopw [8] (fun i wr => ∃ k : Nat, 1 ≤ k ∧ k ≤ n ∧ i = .int .i64 k ∧ Blk wr g1 3 (rep v k n).toArray ∧ New w wr) (fun i _ => n - (intOf i).toNat)
    case atStart => exact ⟨1, by omega, n1, rfl, B2.out, U2.out⟩
    case round =>
      obtain ⟨k, hk1, hkn, rfl, hbk, huk⟩ := hrel
      have Bk := hide hbk
      have Uk := hide huk
      clear hbk huk
      by_cases hlt : k < n
      · obtain ⟨m, hm⟩ : ∃ m, m = min k (n - k) := ⟨_, rfl⟩
        have hm1 : m ≤ k := by rw [hm]; exact Nat.min_le_left _ _
        have hm2 : m ≤ n - k := by rw [hm]; exact Nat.min_le_right _ _
        have hm3 : 1 ≤ m := by rw [hm]; exact Nat.le_min.2 ⟨hk1, by omega⟩
        obtain ⟨w2, hcp, hb2, hu2⟩ := copy_rep v (w := wr.drew) (g1 := g1) (k := k) (m := m) (n := n) (dl := n - k) (dc := n - k) (sl := k) (sc := n) (a := ⟨g1, 0, none⟩) Bk.out.drew (by omega) hm (fun j hj => by
          have h1 := Bk.out.cell j
          rw [List.getElem?_toArray, rep_at v (by omega)] at h1
          rw [Addr.add_lit, Nat.zero_add]
          exact h1)
        have Hcp := hide hcp
        have B3 := hide hb2
        have U3 := hide (Uk.out.trans (Upd.trans ((Upd.refl (fun b => b = g1) wr).drew) hu2 (fun _ _ h => h)) (fun q hq hx => absurd hx (by have := G1.out; omega)))
        have i5 : (k : Int) < (n : Int) := by omega
        have i6 : (k : Int) ≤ (n : Int) := by omega
        have i7 : ¬ n = k := by omega
        clear hm hcp hb2 hu2
        go_upto_region 9 with (fail)
        have hcp := Hcp.out
        go_region
        go_wp2_with fail
        exact ⟨⟨k + m, by omega, by omega, by go_num, B3.out, U3.out⟩, by simp [intOf]; omega⟩
      · have hkn2 : n = k := by omega
        subst hkn2
        go_wp2_with fail
        go_ret
        exact ⟨g1, rfl, Bk.out, by have := G1.out; omega, Uk.out⟩
end Go.Proofs.YtignngpligicjaaDoor

/- Package plain: Code, at nil, at each of package api's errors, at a fault around one. No condition but those that stand in each theorem. -/
import Derived.Test.YtkljanjapcpbdaaDoorPc2
import Derived.Test.YtkljanjapcpbdaaDoorEv
namespace Go.Proofs.YtkljanjapcpbdaaDoor
open Go.RowKit

abbrev TErr : TypeId := 27

/-- What the nine errors of package api hold, and errors.errorType. -/
structure Errs (w : World) (E : Nat → Addr) : Prop where
  s1 : Sen w 6 (E 1)
  s2 : Sen w 0 (E 2)
  s3 : Sen w 2 (E 3)
  s4 : Sen w 1 (E 4)
  s5 : Sen w 4 (E 5)
  s6 : Sen w 5 (E 6)
  s7 : Sen w 3 (E 7)
  s8 : Sen w 7 (E 8)
  s9 : Sen w 8 (E 9)
  ty : errType w
  row : ∀ k, 1 ≤ k → k ≤ 9 → ∃ c t, w.heap[(E k).block]? = some (.cells c t (0, 0))
  ne : ∀ j k, 1 ≤ j → j ≤ 9 → 1 ≤ k → k ≤ 9 → j ≠ k → E j ≠ E k

theorem errType_new {w w1 : World} (h : errType w) (hu : New w w1) : errType w1 := by
  unfold errType at *
  have hlt : 9 < w.heap.size := World.block_lt_of_cell? w ⟨9, 0, none⟩ h
  exact (hu.cell hlt (fun x => x)).trans h

theorem Errs.new {w w1 : World} {E : Nat → Addr} (h : Errs w E) (hu : New w w1) : Errs w1 E :=
  ⟨h.s1.new hu, h.s2.new hu, h.s3.new hu, h.s4.new hu, h.s5.new hu, h.s6.new hu, h.s7.new hu, h.s8.new hu, h.s9.new hu, errType_new h.ty hu,
    fun k h1 h9 => by
      obtain ⟨c, t, hr⟩ := h.row k h1 h9
      exact ⟨c, t, (hu.block _ (block_lt_of_row hr) (fun x => x)).trans hr⟩, h.ne⟩

/-- errors.Is answers at v: is it the k-th? -/
def IsAt (w : World) (E : Nat → Addr) (v : Value) (k : Nat) : Prop :=
  ∀ j, 1 ≤ j → j ≤ 9 → ∀ w1, New w w1 → Calls Tryd.prog 125 #[v, .iface TES (.pointer (some (E j)))] w1 fun e w2 => e = .returned (.bool (decide (j = k))) ∧ w1 = w2

theorem isAt_sent {w : World} {E : Nat → Addr} (h : Errs w E) (k : Nat) (h1 : 1 ≤ k) (h9 : k ≤ 9) : IsAt w E (errv (E k)) k := by
  intro j j1 j9 w1 hu
  by_cases hjk : j = k
  · subst hjk
    rw [decide_eq_true rfl]
    exact is_same (E j) w1
  · rw [decide_eq_false hjk]
    obtain ⟨c, t, hr⟩ := (h.new hu).row k h1 h9
    obtain ⟨d, u, hs⟩ := (h.new hu).row j j1 j9
    exact is_other (E k) (E j) c d t u w1 (h.ne _ _ h1 h9 j1 j9 (by omega)) hr hs
theorem isAt_fault {w : World} {E : Nat → Addr} (h : Errs w E) (k p : Nat) (i : Int) (h1 : 1 ≤ k) (h9 : k ≤ 9) (hb : Blk w p TF #[.int .i64 i, errv (E k)]) : IsAt w E (.iface TFP (.pointer (some ⟨p, 0, none⟩))) k := by
  intro j j1 j9 w1 hu
  have hc := (hb.new_ hu).cell 1
  simp only [List.getElem?_toArray, List.getElem?_cons_zero, List.getElem?_cons_succ] at hc
  by_cases hjk : j = k
  · subst hjk
    rw [decide_eq_true rfl]
    exact is_fault_same p (E j) w1 hc
  · rw [decide_eq_false hjk]
    obtain ⟨c, t, hr⟩ := (h.new hu).row k h1 h9
    obtain ⟨d, u, hs⟩ := (h.new hu).row j j1 j9
    exact is_fault_other p (E j) (E k) c d t u w1 hc (h.ne _ _ h1 h9 j1 j9 (by omega)) hr hs
theorem isAt_other {w : World} {E : Nat → Addr} (h : Errs w E) (a : Addr) (c : Array Value) (t : TypeId) (hr : w.heap[a.block]? = some (.cells c t (0, 0))) (hne : ∀ j, 1 ≤ j → j ≤ 9 → a ≠ E j) : IsAt w E (errv a) 10 := by
  intro j j1 j9 w1 hu
  rw [decide_eq_false (by omega)]
  obtain ⟨d, u, hs⟩ := (h.new hu).row j j1 j9
  exact is_other a (E j) c d t u w1 (hne j j1 j9) ((hu.block _ (block_lt_of_row hr) (fun x => x)).trans hr) hs

def nine (E : Nat → Addr) : Array Value := #[errv (E 1), errv (E 2), errv (E 3), errv (E 4), errv (E 5), errv (E 6), errv (E 7), errv (E 8), errv (E 9)]
theorem nine_at (E : Nat → Addr) (n : Nat) (h : n < 9) : (nine E)[n]? = some (errv (E (n + 1))) := by
  match n, h with
  | 0, _ => rfl
  | 1, _ => rfl
  | 2, _ => rfl
  | 3, _ => rfl
  | 4, _ => rfl
  | 5, _ => rfl
  | 6, _ => rfl
  | 7, _ => rfl
  | 8, _ => rfl

/-- What Code tells. -/
def codeV (k : Nat) : Int := if k ≤ 9 then k else -1

theorem code_nil (w : World) : Calls Tryd.prog 74 #[.nilIface] w fun e w1 => e = .returned (.tuple #[.int .i64 0, .int .i64 (-1)]) ∧ w = w1 := by
  go_enter Tryd.func74, Tryd.ntmps74
  go_wp2
  go_ret2
  exact ⟨rfl, rfl⟩

set_option maxHeartbeats 2000000 in
theorem code_sent (a : Addr) (k : Nat) (w : World) (E : Nat → Addr) (h : Errs w E) (h1 : 1 ≤ k) (hI : IsAt w E (errv a) k) :
    Calls Tryd.prog 74 #[errv a] w fun e w1 => e = .returned (.tuple #[.int .i64 (codeV k), .int .i64 (-1)]) ∧ New w w1 := by
  have u := (Upd.refl (fun _ => False) w).alloc (.cells #[.pointer none] TFP)
  have Ha := hide (as_sent a w.heap.size (w.alloc (.cells #[.pointer none] TFP)) (errType_new h.ty u))
  have Hu := hide u
  have H := hide h
  have HI := hide hI
  clear u h hI
  unfold errv
  go_enter Tryd.func74, Tryd.ntmps74
  go_wp2_with fail
  refine Ha.out.mono ?_
  rintro e w1 ⟨rfl, hu1⟩
  have n1 : New w w1 := Hu.out.trans_new hu1
  have He := H.out.new n1
  have c1 : w1.cell? ⟨6, 0, none⟩ = some (.iface TES (.pointer (some (E 1)))) := He.s1
  have c2 : w1.cell? ⟨0, 0, none⟩ = some (.iface TES (.pointer (some (E 2)))) := He.s2
  have c3 : w1.cell? ⟨2, 0, none⟩ = some (.iface TES (.pointer (some (E 3)))) := He.s3
  have c4 : w1.cell? ⟨1, 0, none⟩ = some (.iface TES (.pointer (some (E 4)))) := He.s4
  have c5 : w1.cell? ⟨4, 0, none⟩ = some (.iface TES (.pointer (some (E 5)))) := He.s5
  have c6 : w1.cell? ⟨5, 0, none⟩ = some (.iface TES (.pointer (some (E 6)))) := He.s6
  have c7 : w1.cell? ⟨3, 0, none⟩ = some (.iface TES (.pointer (some (E 7)))) := He.s7
  have c8 : w1.cell? ⟨7, 0, none⟩ = some (.iface TES (.pointer (some (E 8)))) := He.s8
  have c9 : w1.cell? ⟨8, 0, none⟩ = some (.iface TES (.pointer (some (E 9)))) := He.s9
  clear He
  have b9 : Blk (w1.alloc (.cells #[.iface TES (.pointer (some (E 1))), .iface TES (.pointer (some (E 2))), .iface TES (.pointer (some (E 3))), .iface TES (.pointer (some (E 4))), .iface TES (.pointer (some (E 5))), .iface TES (.pointer (some (E 6))), .iface TES (.pointer (some (E 7))), .iface TES (.pointer (some (E 8))), .iface TES (.pointer (some (E 9)))] TErr)) w1.heap.size TErr (nine E) := Blk.new _ _ _
  have n2 : New w (w1.alloc (.cells #[.iface TES (.pointer (some (E 1))), .iface TES (.pointer (some (E 2))), .iface TES (.pointer (some (E 3))), .iface TES (.pointer (some (E 4))), .iface TES (.pointer (some (E 5))), .iface TES (.pointer (some (E 6))), .iface TES (.pointer (some (E 7))), .iface TES (.pointer (some (E 8))), .iface TES (.pointer (some (E 9)))] TErr)) := n1.alloc _
  have B9 := hide b9
  have N2 := hide n2
  clear b9 n2
  go_wp2_with fail
  clear c1 c2 c3 c4 c5 c6 c7 c8 c9
  generalize (w1.alloc (.cells #[.iface TES (.pointer (some (E 1))), .iface TES (.pointer (some (E 2))), .iface TES (.pointer (some (E 3))), .iface TES (.pointer (some (E 4))), .iface TES (.pointer (some (E 5))), .iface TES (.pointer (some (E 6))), .iface TES (.pointer (some (E 7))), .iface TES (.pointer (some (E 8))), .iface TES (.pointer (some (E 9)))] TErr)) = w2 at *
  go_loop [3, 27] (fun u i => ∃ n : Nat, n ≤ 9 ∧ i = .int .i64 n ∧ u = .int .i64 (-1) ∧ n < k) (fun _ i => 9 - (intOf i).toNat)
  case atStart => exact ⟨0, by omega, rfl, rfl, by omega⟩
  case round =>
    obtain ⟨n, hn, rfl, rfl, hnk⟩ := hrel
    by_cases hlt : n < 9
    · have i1 : (n : Int) < 9 := by omega
      have cn := B9.out.cell n
      rw [nine_at E n hlt] at cn
      unfold errv at cn
      have z2 := B9.out.lt
      by_cases hk : n + 1 = k
      · have Hc := HI.out (n + 1) (by omega) (by omega) w2 N2.out
        rw [decide_eq_true hk] at Hc
        have Hc1 := hide Hc
        have Hk := hide hk
        clear Hc hk
        go_wp2_with fail
        refine Hc1.out.mono ?_
        rintro e w3 ⟨rfl, rfl⟩
        go_wp2_with fail
        go_ret2
        exact ⟨by have := Hk.out; unfold codeV; rw [if_pos (by omega), ← this]; push_cast; rfl, N2.out⟩
      · have Hc := HI.out (n + 1) (by omega) (by omega) w2 N2.out
        rw [decide_eq_false hk] at Hc
        have Hc1 := hide Hc
        clear Hc
        go_wp2_with fail
        refine Hc1.out.mono ?_
        rintro e w3 ⟨rfl, rfl⟩
        go_wp2_with fail
        exact ⟨⟨n + 1, by omega, by go_num, rfl, by omega⟩, by simp [intOf]; omega⟩
    · have h9 : n = 9 := by omega
      subst h9
      go_wp2_with fail
      go_ret2
      have hcv : codeV k = -1 := by unfold codeV; rw [if_neg (by omega)]
      exact ⟨by rw [hcv]; rfl, N2.out⟩

set_option maxHeartbeats 2000000 in
theorem code_fault (p k : Nat) (i : Int) (w : World) (E : Nat → Addr) (h : Errs w E) (h1 : 1 ≤ k) (hb : Blk w p TF #[.int .i64 i, errv (E k)]) (hI : IsAt w E (.iface TFP (.pointer (some ⟨p, 0, none⟩))) k) :
    Calls Tryd.prog 74 #[.iface TFP (.pointer (some ⟨p, 0, none⟩))] w fun e w1 => e = .returned (.tuple #[.int .i64 (codeV k), .int .i64 i]) ∧ New w w1 := by
  have u := (Upd.refl (fun _ => False) w).alloc (.cells #[.pointer none] TFP)
  have Ha := hide (as_fault p w.heap.size (w.alloc (.cells #[.pointer none] TFP)) (errType_new h.ty u) (Blk.new _ _ _))
  have Hu := hide u
  have H := hide h
  have HI := hide hI
  have Hb := hide hb
  clear u h hI hb
  go_enter Tryd.func74, Tryd.ntmps74
  go_wp2_with fail
  refine Ha.out.mono ?_
  rintro e w1 ⟨rfl, hu1, hb1⟩
  have n1 : New w w1 := Hu.out.trans hu1 fun k hk hx => by omega
  have cf := hb1.cell 0
  have zf := hb1.lt
  have cp := (Hb.out.new_ n1).cell 0
  simp only [List.getElem?_toArray, List.getElem?_cons_zero, List.getElem?_cons_succ] at cf cp
  have He := H.out.new n1
  have c1 : w1.cell? ⟨6, 0, none⟩ = some (.iface TES (.pointer (some (E 1)))) := He.s1
  have c2 : w1.cell? ⟨0, 0, none⟩ = some (.iface TES (.pointer (some (E 2)))) := He.s2
  have c3 : w1.cell? ⟨2, 0, none⟩ = some (.iface TES (.pointer (some (E 3)))) := He.s3
  have c4 : w1.cell? ⟨1, 0, none⟩ = some (.iface TES (.pointer (some (E 4)))) := He.s4
  have c5 : w1.cell? ⟨4, 0, none⟩ = some (.iface TES (.pointer (some (E 5)))) := He.s5
  have c6 : w1.cell? ⟨5, 0, none⟩ = some (.iface TES (.pointer (some (E 6)))) := He.s6
  have c7 : w1.cell? ⟨3, 0, none⟩ = some (.iface TES (.pointer (some (E 7)))) := He.s7
  have c8 : w1.cell? ⟨7, 0, none⟩ = some (.iface TES (.pointer (some (E 8)))) := He.s8
  have c9 : w1.cell? ⟨8, 0, none⟩ = some (.iface TES (.pointer (some (E 9)))) := He.s9
  clear He hb1
  have b9 : Blk (w1.alloc (.cells #[.iface TES (.pointer (some (E 1))), .iface TES (.pointer (some (E 2))), .iface TES (.pointer (some (E 3))), .iface TES (.pointer (some (E 4))), .iface TES (.pointer (some (E 5))), .iface TES (.pointer (some (E 6))), .iface TES (.pointer (some (E 7))), .iface TES (.pointer (some (E 8))), .iface TES (.pointer (some (E 9)))] TErr)) w1.heap.size TErr (nine E) := Blk.new _ _ _
  have n2 : New w (w1.alloc (.cells #[.iface TES (.pointer (some (E 1))), .iface TES (.pointer (some (E 2))), .iface TES (.pointer (some (E 3))), .iface TES (.pointer (some (E 4))), .iface TES (.pointer (some (E 5))), .iface TES (.pointer (some (E 6))), .iface TES (.pointer (some (E 7))), .iface TES (.pointer (some (E 8))), .iface TES (.pointer (some (E 9)))] TErr)) := n1.alloc _
  have B9 := hide b9
  have N2 := hide n2
  clear b9 n2
  go_wp2_with fail
  clear c1 c2 c3 c4 c5 c6 c7 c8 c9 cf cp
  generalize (w1.alloc (.cells #[.iface TES (.pointer (some (E 1))), .iface TES (.pointer (some (E 2))), .iface TES (.pointer (some (E 3))), .iface TES (.pointer (some (E 4))), .iface TES (.pointer (some (E 5))), .iface TES (.pointer (some (E 6))), .iface TES (.pointer (some (E 7))), .iface TES (.pointer (some (E 8))), .iface TES (.pointer (some (E 9)))] TErr)) = w2 at *
  go_loop [3, 27] (fun u j => ∃ n : Nat, n ≤ 9 ∧ j = .int .i64 n ∧ u = .int .i64 i ∧ n < k) (fun _ j => 9 - (intOf j).toNat)
  case atStart => exact ⟨0, by omega, rfl, rfl, by omega⟩
  case round =>
    obtain ⟨n, hn, rfl, rfl, hnk⟩ := hrel
    by_cases hlt : n < 9
    · have i1 : (n : Int) < 9 := by omega
      have cn := B9.out.cell n
      rw [nine_at E n hlt] at cn
      unfold errv at cn
      have z2 := B9.out.lt
      by_cases hk : n + 1 = k
      · have Hc := HI.out (n + 1) (by omega) (by omega) w2 N2.out
        rw [decide_eq_true hk] at Hc
        have Hc1 := hide Hc
        have Hk := hide hk
        clear Hc hk
        go_wp2_with fail
        refine Hc1.out.mono ?_
        rintro e w3 ⟨rfl, rfl⟩
        go_wp2_with fail
        go_ret2
        exact ⟨by have := Hk.out; unfold codeV; rw [if_pos (by omega), ← this]; push_cast; rfl, N2.out⟩
      · have Hc := HI.out (n + 1) (by omega) (by omega) w2 N2.out
        rw [decide_eq_false hk] at Hc
        have Hc1 := hide Hc
        clear Hc
        go_wp2_with fail
        refine Hc1.out.mono ?_
        rintro e w3 ⟨rfl, rfl⟩
        go_wp2_with fail
        exact ⟨⟨n + 1, by omega, by go_num, rfl, by omega⟩, by simp [intOf]; omega⟩
    · have h9 : n = 9 := by omega
      subst h9
      go_wp2_with fail
      go_ret2
      have hcv : codeV k = -1 := by unfold codeV; rw [if_neg (by omega)]
      exact ⟨by rw [hcv]; rfl, N2.out⟩

theorem codeV_le {k : Nat} (h : k ≤ 9) : codeV k = k := by unfold codeV; rw [if_pos h]

/-- Code at an error of the package's. -/
theorem code_any (v : Value) (k : Nat) (i : Int) (w : World) (E : Nat → Addr) (h : Errs w E) (hv : ErrV w E v k i) :
    Calls Tryd.prog 74 #[v] w fun e w1 => e = .returned (.tuple #[.int .i64 k, .int .i64 i]) ∧ New w w1 := by
  rcases hv with ⟨rfl, rfl, rfl⟩ | ⟨h1, h9, rfl, rfl⟩ | ⟨h1, h9, p, rfl, hb⟩
  · exact (code_nil w).mono fun _ _ ⟨he, hw⟩ => ⟨he, hw ▸ Upd.refl _ _⟩
  · exact (code_sent (E k) k w E h h1 (isAt_sent h k h1 h9)).mono fun _ _ ⟨he, hw⟩ => ⟨by rw [he, codeV_le h9], hw⟩
  · exact (code_fault p k i w E h h1 hb (isAt_fault h k p i h1 h9 hb)).mono fun _ _ ⟨he, hw⟩ => ⟨by rw [he, codeV_le h9], hw⟩
end Go.Proofs.YtkljanjapcpbdaaDoor

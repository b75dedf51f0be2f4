/- slices.Insert of one prefix into a row of the call's own. No condition but those that stand in each theorem. -/
import Derived.Test.YtjgecmkfgeajiaaGreatDoorWrI
import Derived.Shelf.Spec.SlicesInsertGrow
import Derived.Laws.CopyRow
import Derived.Test.YtjgecmkfgeajiaaGreatDoorEq
import Derived.Deep.RegionLaw
import Derived.Deep.RegionWith
namespace Go.Proofs.YtjgecmkfgeajiaaGreatDoor
open Go.RowKit

/-- A copy between rows of elements of any size. -/
theorem run_copy_szd {P : Program} (w : World) (dT sT ty elem : TypeId) (sz g o dLen dCap : Nat) (a : Addr) (sLen sCap : Nat) (cur : Array Value) (t : TypeId) (cs : List Value)
    (hu : P.underlying dT = some (.slice elem)) (hs : (P.info? elem).map (·.size) = some sz)
    (hg : Blk w g t cur) (hn : cs.length = Nat.min sLen dLen * sz)
    (hsrc : ∀ j v, cs[j]? = some v → w.cell? (a.add j) = some v) (hfit : o + cs.length ≤ cur.size) (h1 : ∀ v ∈ cs, v.oneCell' = true) :
    (Builtin.copy_ #[dT, sT] ty #[.slice (some ⟨g, o, none⟩) dLen dCap, .slice (some a) sLen sCap]).run P w =
      .ok (goInt (Nat.min sLen dLen)) (w.setRow g (cur.toList.take o ++ cs ++ cur.toList.drop (o + cs.length)).toArray) := by
  have hl := run_loadCells_list (P := P) w a cs hsrc
  have hst := run_storeCells_at P g o t cs 0 cur w hg (by simpa using hfit) h1
  cases hq : P.info? elem with
  | none => simp [hq] at hs
  | some i =>
    have hi : i.size = sz := by simpa [hq] using hs
    simp [Builtin.copy_, run_underlying hu, Builtin.lenOf, Builtin.firstCells, sizeOf, typeInfo, hq, hi, ← hn, hl, hst]
theorem setRow_blk {w : World} {g : Nat} {t : TypeId} {cur new : Array Value} (h : Blk w g t cur) : Blk (w.setRow g new) g t new := setRow_heap w g cur new t _ h
theorem setRow_upd {w : World} {g : Nat} (new : Array Value) : Upd (fun q => q = g) w (w.setRow g new) := ⟨rfl, rfl, rfl, by simp [World.setRow], fun k _ hn => by
  unfold World.setRow
  simp only
  rw [Array.getElem?_modify, if_neg (fun e => hn e.symm)]⟩
theorem blk_shape {w : World} {g : Nat} {t : TypeId} {cs : Array Value} (h : Blk w g t cs) : w.shape? g = some (t, cs.size) := by
  unfold World.shape?
  rw [show w.heap[g]? = some (.cells cs t (0, 0)) from h]

set_option maxRecDepth 20000 in
set_option maxHeartbeats 2000000 in
theorem insShift_any (base g n c i : Nat) (cur : Array Value) (a m : Int) (vb : Nat) (w : World) (hg : Blk w g TPf cur) (hc : cur.size = c * 2) (hroom : n + 1 ≤ c) (hi : i < n) (hn : n ≤ 100000) (hcm : c ≤ maxLen)
    (hv : Blk w vb TPf #[.int .i64 a, .int .i64 m]) (hvb : vb ≠ g) (h1 : ∀ v ∈ cur.toList.take (n * 2), v.oneCell' = true) :
    Calls Tryz.prog 63 #[.slice (some ⟨g, 0, none⟩) n c, .int .i64 i, .slice (some ⟨vb, 0, none⟩) 1 1] w fun e w1 =>
      e = .returned (.slice (some ⟨g, 0, none⟩) (n + 1) c) ∧ ∃ cur1 : Array Value, Blk w1 g TPf cur1 ∧ cur1.size = c * 2 ∧ cur1.toList.take ((n + 1) * 2) = (cur.toList.take (n * 2)).take (i * 2) ++ [.int .i64 a, .int .i64 m] ++ (cur.toList.take (n * 2)).drop (i * 2) ∧ Upd (fun q => q = g) w w1 := by
  have hz := Tryz.sizeOf43
  have hov : ∀ o lb cb, (callFunc 103 #[.slice (some ⟨vb, 0, none⟩) 1 1, .slice (some ⟨g, o, none⟩) lb cb]).run Tryz.prog w = .ok (.value (.bool false)) w := fun o lb cb => by
    rw [run_callFunc_extern Tryz.func103 (by kernel_rfl) (by kernel_rfl) (by kernel_rfl) (e := Extern.SlicesOverlaps.overlaps #[22, 22] #[4]) (by kernel_rfl),
      Lib.run_overlaps_apart w 22 4 TPf Tryz.underlying22 2 hz ⟨vb, 0, none⟩ ⟨g, o, none⟩ 1 1 lb cb hvb TPf TPf 2 cur.size (blk_shape hv) (blk_shape hg) (by omega) (hv.frozen 0) (hv.frozen 2)]
    rfl
  have i1 : ¬ ((i : Int) = (n : Int)) := by omega
  have i2 : ¬ ((c : Int) < (n : Int) + 1) := by omega
  have i3 : (i : Int) ≤ (n : Int) := by omega
  have i4 : i ≤ n := by omega
  have hcl : cur.toList.length = c * 2 := by simpa using hc
  obtain ⟨cs1, hcs1⟩ : ∃ cs1, cs1 = (cur.toList.take (n * 2)).drop (i * 2) := ⟨_, rfl⟩
  have hl1 : cs1.length = (n - i) * 2 := by rw [hcs1, List.length_drop, List.length_take]; omega
  obtain ⟨cur1, hcur1⟩ : ∃ cur1, cur1 = (cur.toList.take ((i + 1) * 2) ++ cs1 ++ cur.toList.drop ((i + 1) * 2 + cs1.length)).toArray := ⟨_, rfl⟩
  obtain ⟨cur2, hcur2⟩ : ∃ cur2, cur2 = (cur1.toList.take (i * 2) ++ [Value.int .i64 a, Value.int .i64 m] ++ cur1.toList.drop (i * 2 + 2)).toArray := ⟨_, rfl⟩
  have hsz1 : cur1.size = c * 2 := by
    rw [hcur1]
    simp only [List.size_toArray, List.length_append, List.length_take, List.length_drop]
    omega
  have hsz2 : cur2.size = c * 2 := by
    rw [hcur2]
    have e : cur1.toList.length = c * 2 := by simpa using hsz1
    simp only [List.size_toArray, List.length_append, List.length_take, List.length_drop, List.length_cons, List.length_nil]
    omega
  have hmn : Nat.min (n + 1 - i) (n + 1 - (i + 1)) = n - i := by simp only [Nat.min_def]; split <;> omega
  have hmn2 : Nat.min 1 (n + 1 - i) = 1 := by simp only [Nat.min_def]; split <;> omega
  have hszT : (Tryz.prog.info? TPf).map (·.size) = some 2 := by kernel_rfl
  have hcp1 : ∀ ty dc sc, (Builtin.copy_ #[22, 22] ty #[.slice (some ⟨g, (i + 1) * 2, none⟩) (n + 1 - (i + 1)) dc, .slice (some ⟨g, i * 2, none⟩) (n + 1 - i) sc]).run Tryz.prog w.drew = .ok (goInt ((n - i : Nat) : Int)) (w.drew.setRow g cur1) := fun ty dc sc => by
    have h := run_copy_szd (P := Tryz.prog) w.drew 22 22 ty TPf 2 g ((i + 1) * 2) (n + 1 - (i + 1)) dc ⟨g, i * 2, none⟩ (n + 1 - i) sc cur TPf cs1 Tryz.underlying22 hszT hg (by rw [hmn]; exact hl1)
      (fun j v hj => by
        rw [Addr.add_lit]
        refine (hg.cell (i * 2 + j)).trans ?_
        rw [hcs1, List.getElem?_drop, List.getElem?_take] at hj
        split at hj
        · rw [← hj]; simp
        · cases hj) (by rw [hl1, hc]; omega) (fun v hv' => h1 v (by
        rw [hcs1] at hv'
        exact List.mem_of_mem_drop hv'))
    rw [hmn, ← hcur1] at h
    exact h
  have hcp2 : ∀ (W : World), Blk W g TPf cur1 → Blk W vb TPf #[.int .i64 a, .int .i64 m] → ∀ ty dc, (Builtin.copy_ #[22, 22] ty #[.slice (some ⟨g, i * 2, none⟩) (n + 1 - i) dc, .slice (some ⟨vb, 0, none⟩) 1 1]).run Tryz.prog W = .ok (goInt 1) (W.setRow g cur2) := fun W hb1 hb2 ty dc => by
    have h := run_copy_szd (P := Tryz.prog) W 22 22 ty TPf 2 g (i * 2) (n + 1 - i) dc ⟨vb, 0, none⟩ 1 1 cur1 TPf [.int .i64 a, .int .i64 m] Tryz.underlying22 hszT hb1 (by rw [hmn2]; rfl)
      (fun j v hj => by
        rw [Addr.add_lit]
        refine (hb2.cell (0 + j)).trans ?_
        rw [Nat.zero_add, ← hj]
        simp) (by rw [hsz1]; simp; omega) (fun v hv' => by
        simp only [List.mem_cons, List.not_mem_nil, or_false] at hv'
        rcases hv' with rfl | rfl <;> rfl)
    rw [hmn2] at h
    rw [hcur2]
    exact h
  have fin : cur2.toList.take ((n + 1) * 2) = (cur.toList.take (n * 2)).take (i * 2) ++ [.int .i64 a, .int .i64 m] ++ (cur.toList.take (n * 2)).drop (i * 2) := by
    have e1 : cur1.toList = cur.toList.take ((i + 1) * 2) ++ cs1 ++ cur.toList.drop ((i + 1) * 2 + cs1.length) := by rw [hcur1]
    have e2 : cur2.toList = cur1.toList.take (i * 2) ++ [Value.int .i64 a, Value.int .i64 m] ++ cur1.toList.drop (i * 2 + 2) := by rw [hcur2]
    have a1 : (cur.toList.take ((i + 1) * 2)).length = i * 2 + 2 := by rw [List.length_take]; omega
    have t1 : cur1.toList.take (i * 2) = cur.toList.take (i * 2) := by
      rw [e1, List.append_assoc, List.take_append_of_le_length (by omega), List.take_take]
      congr 1
      omega
    have t2 : cur1.toList.drop (i * 2 + 2) = cs1 ++ cur.toList.drop ((i + 1) * 2 + cs1.length) := by
      rw [e1, List.append_assoc, ← a1, List.drop_left]
    rw [e2, t1, t2, ← hcs1]
    have l3 : (cur.toList.take (i * 2) ++ [Value.int .i64 a, Value.int .i64 m] ++ cs1).length = (n + 1) * 2 := by
      simp only [List.length_append, List.length_take, List.length_cons, List.length_nil]
      omega
    rw [← List.append_assoc, ← l3, List.take_left, List.take_take]
    congr 3
    omega
  have HC1 := hide hcp1
  have HC2 := hide hcp2
  have HF := hide fin
  have HS2 := hide hsz2
  have HG := hide hg
  have HV := hide hv
  clear hcp1 hcp2 fin hcs1 hl1 hcur1 hcur2 hsz1 hsz2 hmn hmn2 hszT hcl h1
  go_enter Tryz.func63, Tryz.ntmps63
  go_wp2_with fail
  clear hov hg hv
  have hw1 : IntKind.i64.wrap ((i : Int) + 1) = (i : Int) + 1 := by rw [IntKind.wrap_i64]; omega
  have htn : ((i : Int) + 1).toNat = i + 1 := by omega
  have hb1 : (0 : Int) ≤ (i : Int) + 1 := by omega
  have hb2 : (i : Int) ≤ (n : Int) + 1 := by omega
  have i5 : i + 1 ≤ n + 1 := by omega
  have i6 : i ≤ n + 1 := by omega
  have i7 : i + 1 ≤ c := by omega
  have i8 : ¬ (c = i + 1) := by omega
  have i9 : ¬ (c = i) := by omega
  go_region_law (refine step_copy_runI rfl (.tmp 73) (.tmp 76) 22 22 rfl (.slice (some ⟨g, (i + 1) * 2, none⟩) (n + 1 - (i + 1)) (c - (i + 1))) (.slice (some ⟨g, i * 2, none⟩) (n + 1 - i) (c - i)) (by simp [Act.eval, Act.put]) (by simp [Act.eval, Act.put]) (HC1.out _ _ _) ?_)
  have B1 := hide (setRow_blk (new := cur1) (show Blk w.drew g TPf cur from HG.out))
  have V1 := hide ((show Blk w.drew vb TPf #[.int .i64 a, .int .i64 m] from HV.out).upd (setRow_upd (w := w.drew) (g := g) cur1) hvb)
  have U1 := hide ((Upd.refl (fun q => q = g) w).drew.trans' (setRow_upd (w := w.drew) (g := g) cur1))
  generalize w.drew.setRow g cur1 = W1 at *
  have hc2 := HC2.out _ B1.out V1.out 3 (c - i)
  go_wp2_with fail
  go_ret
  exact ⟨rfl, cur2, setRow_blk B1.out, HS2.out, HF.out, U1.out.trans' (setRow_upd _)⟩

set_option maxRecDepth 20000 in
set_option maxHeartbeats 2000000 in
theorem insGrow_any (g n c i : Nat) (cur : Array Value) (a m : Int) (vb : Nat) (w : World) (hg : Blk w g TPf cur) (hc : cur.size = c * 2) (hnc : n ≤ c) (hroom : c < n + 1) (hi : i < n) (hn : n ≤ 100000)
    (hv : Blk w vb TPf #[.int .i64 a, .int .i64 m]) (h1 : ∀ v ∈ cur.toList.take (n * 2), v.oneCell' = true) :
    Calls Tryz.prog 63 #[.slice (some ⟨g, 0, none⟩) n c, .int .i64 i, .slice (some ⟨vb, 0, none⟩) 1 1] w fun e w1 =>
      ∃ G, e = .returned (.slice (some ⟨w.heap.size, 0, none⟩) (n + 1) G) ∧ n + 1 ≤ G ∧ G ≤ maxLen ∧ ∃ cur1 : Array Value, Blk w1 w.heap.size TPf cur1 ∧ cur1.size = G * 2 ∧ cur1.toList.take ((n + 1) * 2) = (cur.toList.take (n * 2)).take (i * 2) ++ [.int .i64 a, .int .i64 m] ++ (cur.toList.take (n * 2)).drop (i * 2) ∧ New w w1 := by
  have i1 : ¬ ((i : Int) = (n : Int)) := by omega
  have i2 : (c : Int) < (n : Int) + 1 := by omega
  have i3 : (i : Int) ≤ (n : Int) := by omega
  have i4 : i ≤ n := by omega
  obtain ⟨i0, hi0, hz0, hzs, hzb⟩ := info_parts info_TPf
  have hcl : cur.toList.length = c * 2 := by simpa using hc
  have hGn := grownCap_ge w (n + 1) c TPf
  have hGm := grownCap_le_maxLen w (n + 1) c TPf (by unfold maxLen; omega)
  have hold : (Builtin.firstCells i0.size i (.slice (some ⟨g, 0, none⟩) i c)).run Tryz.prog w.drew = .ok (cur.toList.take (i * 2)).toArray w.drew := by
    rw [hzs]
    exact run_firstCells_some (P := Tryz.prog) w.drew 2 i ⟨g, 0, none⟩ i c (cur.toList.take (i * 2)) (by rw [List.length_take]; omega) (fun j v hj => by
      rw [Addr.add_lit]
      refine (hg.cell (0 + j)).trans ?_
      rw [Nat.zero_add]
      rw [List.getElem?_take] at hj
      split at hj
      · rw [← hj]; simp
      · cases hj)
  have hik : i + (n + 1 - i) = n + 1 := by omega
  have hkk : (n : Int) + 1 - (i : Int) = ((n + 1 - i : Nat) : Int) := by omega
  have hrz : ∀ ty, (Builtin.append_ #[22, 3] ty #[.slice (some ⟨g, 0, none⟩) i c, .int .i64 ((n : Int) + 1 - (i : Int))]).run Tryz.prog w =
      .ok (.slice (some ⟨w.heap.size, 0, none⟩) (n + 1) (grownCap w (n + 1) c TPf)) (w.drew.alloc (.cells ((cur.toList.take (i * 2)).toArray ++ Builtin.zeroCells (Value.agg #[.int .i64 0, .int .i64 0]).cells (n + 1 - i) ++ Builtin.zeroCells (Value.agg #[.int .i64 0, .int .i64 0]).cells (grownCap w (n + 1) c TPf - (n + 1))) TPf)) := fun ty => by
    have h := Lib.run_append_grow_zeros (P := Tryz.prog) w 22 3 ty TPf i0 _ .i64 .i64 Tryz.underlying22 Tryz.underlying3 hi0 hz0 (some ⟨g, 0, none⟩) i c (cur.toList.take (i * 2)) hold (n + 1 - i) (by omega) (by omega) (by omega) (by omega) (by rw [hzb]; omega) (by rw [hzb, hik]; exact growslice_fits hroom (by omega))
    rw [hik] at h
    rw [hkk]
    exact h
  have hzl : ∀ k, (Builtin.zeroCells (Value.agg #[.int .i64 0, .int .i64 0]).cells k).size = k * 2 := fun k => by
    simp [Builtin.zeroCells, Value.cells]
  obtain ⟨G, hG⟩ : ∃ G, G = grownCap w (n + 1) c TPf := ⟨_, rfl⟩
  rw [← hG] at hGn hGm hrz
  obtain ⟨ROW, hROW⟩ : ∃ ROW, ROW = (cur.toList.take (i * 2)).toArray ++ Builtin.zeroCells (Value.agg #[.int .i64 0, .int .i64 0]).cells (n + 1 - i) ++ Builtin.zeroCells (Value.agg #[.int .i64 0, .int .i64 0]).cells (G - (n + 1)) := ⟨_, rfl⟩
  rw [← hROW] at hrz
  have hRs : ROW.size = G * 2 := by
    rw [hROW, Array.size_append, Array.size_append, hzl, hzl, List.size_toArray, List.length_take]
    omega
  have hRt : ROW.toList.take (i * 2) = cur.toList.take (i * 2) := by
    rw [hROW, Array.toList_append, Array.toList_append, List.append_assoc]
    exact List.take_left' (by rw [List.length_take]; omega)
  obtain ⟨cs1, hcs1⟩ : ∃ cs1, cs1 = (cur.toList.take (n * 2)).drop (i * 2) := ⟨_, rfl⟩
  have hl1 : cs1.length = (n - i) * 2 := by rw [hcs1, List.length_drop, List.length_take]; omega
  obtain ⟨R1, hR1⟩ : ∃ R1, R1 = (ROW.toList.take (i * 2) ++ [Value.int .i64 a, Value.int .i64 m] ++ ROW.toList.drop (i * 2 + 2)).toArray := ⟨_, rfl⟩
  obtain ⟨R2, hR2⟩ : ∃ R2, R2 = (R1.toList.take ((i + 1) * 2) ++ cs1 ++ R1.toList.drop ((i + 1) * 2 + cs1.length)).toArray := ⟨_, rfl⟩
  have hRl : ROW.toList.length = G * 2 := by simpa using hRs
  have hs1 : R1.size = G * 2 := by
    rw [hR1]
    simp only [List.size_toArray, List.length_append, List.length_take, List.length_drop, List.length_cons, List.length_nil]
    omega
  have hl2 : R1.toList.length = G * 2 := by simpa using hs1
  have hs2 : R2.size = G * 2 := by
    rw [hR2]
    simp only [List.size_toArray, List.length_append, List.length_take, List.length_drop]
    omega
  have hmn : Nat.min (n - i) (n + 1 - (i + 1)) = n - i := by simp only [Nat.min_def]; split <;> omega
  have hmn2 : Nat.min 1 (n + 1 - i) = 1 := by simp only [Nat.min_def]; split <;> omega
  have hszT : (Tryz.prog.info? TPf).map (·.size) = some 2 := by kernel_rfl
  have hcp1 : ∀ (W : World), Blk W w.heap.size TPf ROW → Blk W vb TPf #[.int .i64 a, .int .i64 m] → ∀ ty dc, (Builtin.copy_ #[22, 22] ty #[.slice (some ⟨w.heap.size, i * 2, none⟩) (n + 1 - i) dc, .slice (some ⟨vb, 0, none⟩) 1 1]).run Tryz.prog W = .ok (goInt 1) (W.setRow w.heap.size R1) := fun W hb1 hb2 ty dc => by
    have h := run_copy_szd (P := Tryz.prog) W 22 22 ty TPf 2 w.heap.size (i * 2) (n + 1 - i) dc ⟨vb, 0, none⟩ 1 1 ROW TPf [.int .i64 a, .int .i64 m] Tryz.underlying22 hszT hb1 (by rw [hmn2]; rfl)
      (fun j v hj => by
        rw [Addr.add_lit]
        refine (hb2.cell (0 + j)).trans ?_
        rw [Nat.zero_add, ← hj]
        simp) (by rw [hRs]; simp; omega) (fun v hv' => by
        simp only [List.mem_cons, List.not_mem_nil, or_false] at hv'
        rcases hv' with rfl | rfl <;> rfl)
    rw [hmn2] at h
    rw [hR1]
    exact h
  have hcp2 : ∀ (W : World), Blk W w.heap.size TPf R1 → Blk W g TPf cur → ∀ ty dc sc, (Builtin.copy_ #[22, 22] ty #[.slice (some ⟨w.heap.size, (i + 1) * 2, none⟩) (n + 1 - (i + 1)) dc, .slice (some ⟨g, i * 2, none⟩) (n - i) sc]).run Tryz.prog W = .ok (goInt ((n - i : Nat) : Int)) (W.setRow w.heap.size R2) := fun W hb1 hb2 ty dc sc => by
    have h := run_copy_szd (P := Tryz.prog) W 22 22 ty TPf 2 w.heap.size ((i + 1) * 2) (n + 1 - (i + 1)) dc ⟨g, i * 2, none⟩ (n - i) sc R1 TPf cs1 Tryz.underlying22 hszT hb1 (by rw [hmn]; exact hl1)
      (fun j v hj => by
        rw [Addr.add_lit]
        refine (hb2.cell (i * 2 + j)).trans ?_
        rw [hcs1, List.getElem?_drop, List.getElem?_take] at hj
        split at hj
        · rw [← hj]; simp
        · cases hj) (by rw [hl1, hs1]; omega) (fun v hv' => h1 v (by
        rw [hcs1] at hv'
        exact List.mem_of_mem_drop hv'))
    rw [hmn, ← hR2] at h
    exact h
  have fin : R2.toList.take ((n + 1) * 2) = (cur.toList.take (n * 2)).take (i * 2) ++ [.int .i64 a, .int .i64 m] ++ (cur.toList.take (n * 2)).drop (i * 2) := by
    have e1 : R1.toList = cur.toList.take (i * 2) ++ [Value.int .i64 a, Value.int .i64 m] ++ ROW.toList.drop (i * 2 + 2) := by rw [hR1, hRt]
    have e2 : R2.toList = R1.toList.take ((i + 1) * 2) ++ cs1 ++ R1.toList.drop ((i + 1) * 2 + cs1.length) := by rw [hR2]
    have l1 : (cur.toList.take (i * 2) ++ [Value.int .i64 a, Value.int .i64 m]).length = (i + 1) * 2 := by
      simp only [List.length_append, List.length_take, List.length_cons, List.length_nil]
      omega
    have t1 : R1.toList.take ((i + 1) * 2) = cur.toList.take (i * 2) ++ [Value.int .i64 a, Value.int .i64 m] := by rw [e1]; exact List.take_left' l1
    have l2 : (cur.toList.take (i * 2) ++ [Value.int .i64 a, Value.int .i64 m] ++ cs1).length = (n + 1) * 2 := by rw [List.length_append, l1, hl1]; omega
    rw [e2, t1, List.take_left' l2, hcs1, List.take_take]
    congr 3
    omega
  have HGW := hide hg.lt
  have HC1 := hide hcp1
  have HC2 := hide hcp2
  have HF := hide fin
  have HS2 := hide hs2
  have HG := hide hg
  have HV := hide hv
  have HN := hide (And.intro hGn hGm)
  have hG63 : G ≤ 9223372036854775807 := hGm
  clear hcp1 hcp2 fin hcs1 hl1 hR1 hR2 hs1 hs2 hmn hmn2 hszT hcl h1 hold hzl hG hROW hRs hRt hRl hl2 hi0 hz0 hzs hzb hik hkk hGm
  obtain ⟨H, hH⟩ : ∃ H, H = w.heap.size := ⟨_, rfl⟩
  rw [← hH] at hrz HC1 HC2 ⊢
  have HH := hide hH
  have B0 := hide (show Blk ((w.alloc (.cells ROW TPf)).drew) H TPf ROW from hH ▸ Blk.new w TPf ROW)
  have V0 := hide ((show Blk ((w.alloc (.cells ROW TPf)).drew) vb TPf #[.int .i64 a, .int .i64 m] from HV.out.alloc _))
  have G0 := hide ((show Blk ((w.alloc (.cells ROW TPf)).drew) g TPf cur from HG.out.alloc _))
  have hc1 := HC1.out _ B0.out V0.out 3 (G - i)
  clear hH
  have hw1 : IntKind.i64.wrap ((i : Int) + 1) = (i : Int) + 1 := by rw [IntKind.wrap_i64]; omega
  have htn : ((i : Int) + 1).toNat = i + 1 := by omega
  have hb1 : (0 : Int) ≤ (i : Int) + 1 := by omega
  have hb2 : (i : Int) ≤ (n : Int) + 1 := by omega
  have i5 : i + 1 ≤ n + 1 := by omega
  have i6 : i ≤ n + 1 := by omega
  have j1 : ¬ (G = i) := by omega
  have j2 : ¬ (G = i + 1) := by omega
  have j3 : ¬ (c = i) := by omega
  have j4 : i ≤ c := by omega
  have j5 : (i : Int) ≤ (c : Int) := by omega
  clear hg hv
  go_enter Tryz.func63, Tryz.ntmps63
  go_wp2_with (first
    | (at_builtin; refine Lib.wpList_append_run _ rfl _ _ _ _ rfl _ _ rfl rfl _ _ (hrz _) ?_))
  clear hc1 hrz
  have B1 := hide (setRow_blk (new := R1) B0.out)
  have G1 := hide (G0.out.upd (setRow_upd (w := (w.alloc (.cells ROW TPf)).drew) (g := H) R1) (by have := HGW.out; have := HH.out; omega))
  have U1 := hide (show Upd (fun q => q = H) w (((w.alloc (.cells ROW TPf)).drew).setRow H R1) from (((Upd.refl (fun q => q = H) w).alloc (.cells ROW TPf)).drew).trans' (setRow_upd R1))
  generalize ((w.alloc (.cells ROW TPf)).drew).setRow H R1 = W1 at *
  go_region_law (refine step_copy_runI rfl (.tmp 50) (.tmp 53) 22 22 rfl (.slice (some ⟨H, (i + 1) * 2, none⟩) (n + 1 - (i + 1)) (G - (i + 1))) (.slice (some ⟨g, i * 2, none⟩) (n - i) (c - i)) (by simp [Act.eval, Act.put]) (by simp [Act.eval, Act.put]) (HC2.out W1.drew B1.out G1.out _ _ _) ?_)
  have B2 := hide (setRow_blk (new := R2) (show Blk W1.drew H TPf R1 from B1.out))
  have U2 := hide ((U1.out.drew).trans' (setRow_upd (w := W1.drew) (g := H) R2))
  generalize W1.drew.setRow H R2 = W2 at *
  go_wp2_with fail
  go_ret
  refine ⟨G, rfl, HN.out.1, HN.out.2, R2, B2.out, HS2.out, HF.out, U2.out.mono fun q hq e => ?_⟩
  have := HH.out
  omega
theorem insert_own (base n c i : Nat) (A : Option Addr) (xs : List Value) (a m : Int) (vb : Nat) (w : World) (ho : w.ownsRow base TPf 2 (.slice A n c) n xs) (hb : base ≤ w.heap.size) (hi : i < n) (hn : n ≤ 100000)
    (hv : Blk w vb TPf #[.int .i64 a, .int .i64 m]) (hvb : (Value.slice A n c).ownBlock ≠ some vb) (h1 : ∀ v ∈ xs, v.oneCell' = true) :
    Calls Tryz.prog 63 #[.slice A n c, .int .i64 i, .slice (some ⟨vb, 0, none⟩) 1 1] w fun e w1 =>
      ∃ g c1, e = .returned (.slice (some ⟨g, 0, none⟩) (n + 1) c1) ∧ w1.ownsRow base TPf 2 (.slice (some ⟨g, 0, none⟩) (n + 1) c1) (n + 1) (xs.take (i * 2) ++ [.int .i64 a, .int .i64 m] ++ xs.drop (i * 2)) ∧
        Upd (fun q => (Value.slice A n c).ownBlock = some q) w w1 ∧ ((Value.slice A n c).ownBlock = some g ∨ w.heap.size ≤ g) := by
  obtain ⟨hxl, h2⟩ := ho
  rcases h2 with ⟨h2, h3⟩ | ⟨g, cap, cur, h2, hgb, hh, hnc, hcm, hcs, ht⟩
  · omega
  injection h2 with e1 e2 e3
  subst e1; subst e3
  have hlen : (xs.take (i * 2) ++ [Value.int .i64 a, Value.int .i64 m] ++ xs.drop (i * 2)).length = (n + 1) * 2 := by
    simp only [List.length_append, List.length_take, List.length_drop, List.length_cons, List.length_nil]
    omega
  by_cases hr : n + 1 ≤ c
  · refine (insShift_any base g n c i cur a m vb w hh hcs hr hi hn hcm hv (fun e => hvb (by rw [e]; rfl)) (by rw [ht]; exact h1)).mono ?_
    rintro e w1 ⟨rfl, cur1, hb1, hs1, ht1, hu⟩
    rw [ht] at ht1
    exact ⟨g, c, rfl, ⟨hlen, .inr ⟨g, c, cur1, rfl, hgb, hb1, hr, hcm, hs1, ht1⟩⟩, hu.mono fun q _ hq => by rw [hq]; rfl, .inl rfl⟩
  · refine (insGrow_any g n c i cur a m vb w hh hcs hnc (by omega) hi hn hv (by rw [ht]; exact h1)).mono ?_
    rintro e w1 ⟨G, rfl, hG1, hG2, cur1, hb1, hs1, ht1, hu⟩
    rw [ht] at ht1
    exact ⟨w.heap.size, G, rfl, ⟨hlen, .inr ⟨w.heap.size, G, cur1, rfl, hb, hb1, hG1, hG2, hs1, ht1⟩⟩, Upd.of_new hu, .inr (Nat.le_refl _)⟩
end Go.Proofs.YtjgecmkfgeajiaaGreatDoor

namespace Go.Proofs.YtjgecmkfgeajiaaGreatDoor
open Go.RowKit

set_option maxHeartbeats 1000000 in
theorem dropsF_any (p q : Pf) (Z : Nat) (w : World) (hz : Blk w Z TPf #[.int .i64 p.a, .int .i64 p.n]) :
    Calls Tryz.prog 61 #[.agg #[.int .i64 q.a, .int .i64 q.n], .pointer (some ⟨Z, 0, none⟩)] w fun e w1 => e = .returned (.bool (geP p q)) ∧ New w w1 := by
  have u := (Upd.refl (fun _ => False) w).alloc (.cells #[.int .i64 q.a, .int .i64 q.n] TPf)
  have Hu := hide u
  have Hc := hide (compareP_any q.a q.n p.a p.n (w.alloc (.cells #[.int .i64 q.a, .int .i64 q.n] TPf)))
  have d0 := hz.cell 0
  have d1 := hz.cell 1
  have dz := hz.lt
  simp only [List.getElem?_toArray, List.getElem?_cons_zero, List.getElem?_cons_succ] at d0 d1
  clear hz u
  go_enter Tryz.func61, Tryz.ntmps61
  go_wp2_with fail
  refine Hc.out.mono ?_
  rintro e w1 ⟨rfl, hu⟩
  have Hu := hide (Hu.out.trans_new hu)
  clear hu
  go_wp2_with fail
  go_ret
  exact ⟨rfl, Hu.out⟩

set_option maxRecDepth 8000 in
set_option maxHeartbeats 1000000 in
theorem idxGe_any (A : Option Addr) (n c : Nat) (l : List Pf) (p : Pf) (Z : Nat) (w : World) (hz : Blk w Z TPf #[.int .i64 p.a, .int .i64 p.n]) (hx : Pfs w A l) (hn : l.length = n) (hl : n ≤ 100000) :
    Calls Tryz.prog 60 #[.slice A n c, .func (.func 61) #[] #[.pointer (some ⟨Z, 0, none⟩)]] w fun e w1 => e = .returned (.int .i64 (idxB (geP p) l)) ∧ New w w1 := by
  have Hq := hide hz
  have Hm := hide hx
  have Hn := hide hn
  clear hz hx hn
  go_enter Tryz.func60, Tryz.ntmps60
  go_wp2_with fail
  go_loopw [8] (fun i wr => ∃ k : Nat, k ≤ n ∧ i = .int .i64 k ∧ New w wr ∧ ∀ (j : Nat) x, j < k → l[j]? = some x → geP p x = false) (fun i _ => n - (intOf i).toNat)
  case atStart => exact ⟨0, by omega, rfl, Upd.refl _ _, fun j x h => absurd h (by omega)⟩
  case round =>
    obtain ⟨k, hk, rfl, hnew, hz⟩ := hrel
    have Hz := hide hz
    clear hz
    by_cases hlt : k < n
    · obtain ⟨b, o, r, hA, hb, hrk, c0, c1⟩ := (Hm.out.new_ hnew).at_ (k := k) (by have := Hn.out; omega)
      have Hrk := hide hrk
      have i1 : (k : Int) < (n : Int) := by omega
      have hc := dropsF_any p r Z wr (Hq.out.new_ hnew)
      rw [hA]
      clear hrk
      cases hp : geP p r with
      | true =>
        rw [hp] at hc
        have Hc := hide hc
        have Hp := hide hp
        clear hc hp
        go_wp2_with fail
        refine Hc.out.mono ?_
        rintro e w2 ⟨rfl, hu2⟩
        go_wp2_with fail
        go_ret
        exact ⟨ret_int (idxB_at (geP p) l k r Hrk.out Hp.out Hz.out).symm, hnew.trans_new hu2⟩
      | false =>
        rw [hp] at hc
        have Hc := hide hc
        have Hp := hide hp
        clear hc hp
        go_wp2_with fail
        refine Hc.out.mono ?_
        rintro e w2 ⟨rfl, hu2⟩
        go_wp2_with fail
        refine ⟨⟨k + 1, by omega, by go_num, hnew.trans_new hu2, fun j y hj hy => ?_⟩, by simp [intOf]; omega⟩
        by_cases hjk : j < k
        · exact Hz.out j y hjk hy
        · obtain rfl : j = k := by omega
          rw [Hrk.out] at hy; injection hy with hy; subst hy; exact Hp.out
    · have hkn : k = n := by omega
      subst hkn
      go_wp2_with fail
      go_ret
      exact ⟨ret_int (idxB_no (geP p) l fun j y hy => Hz.out j y (by have := (List.getElem?_eq_some_iff.1 hy).1; have := Hn.out; omega) hy).symm, hnew⟩

theorem RdI.putD {base X : Nat} {kd : ByteArray} {nn : Int} {st : RdS} {w w1 : World} {vd va vm : Value} {rs : List RouteR} {g cap N : Nat} (h : RdI base X kd nn st w vd va vm rs) {L : List Pf} (hN : N = L.length)
    (ho : w1.ownsRow base TPf 2 (.slice (some ⟨g, 0, none⟩) N cap) N (flat (L.map Pf.cells)))
    (hu : Upd (fun q => vd.ownBlock = some q) w w1) (hg : vd.ownBlock = some g ∨ w.heap.size ≤ g) :
    RdI base X kd nn { st with drops := L } (w1.setCell ⟨X, 2, none⟩ (.slice (some ⟨g, 0, none⟩) N cap)) (.slice (some ⟨g, 0, none⟩) N cap) va vm rs := by
  have b1 : Blk w1 X TRd #[.string kd, .int .i64 nn, vd, va, vm] := h.blk.upd hu (rown_ne h.drops h.blk (by decide))
  have u2 : Upd (fun q => q = X) w1 (w1.setCell ⟨X, 2, none⟩ (.slice (some ⟨g, 0, none⟩) N cap)) := (Upd.refl (fun q => q = X) w1).setCell (p := ⟨X, 2, none⟩) (.inl rfl) _
  have a1 := rown_upd h.adds hu fun q hq hd => own_own h.drops h.adds (by decide) q hd hq
  have m1 := rown_upd h.more hu fun q hq hd => h.apart q hd hq
  have k1 : ∀ r ∈ rs, AttrOk w1 r.at_ := fun r hr => (h.ok r hr).upd2 hu ((h.far r hr).grow (h.ok r hr) fun z hz => .inl (.inr (.inl hz)))
  subst hN
  refine ⟨h.lo, by simpa using b1.set_ 2 _, rown_upd ho u2 fun q hq e => rown_ne ho b1 (by decide) (e ▸ hq), rown_upd a1 u2 fun q hq e => rown_ne a1 b1 (by decide) (e ▸ hq), rown_upd m1 u2 fun q hq e => rown_ne m1 b1 (by decide) (e ▸ hq), h.con, fun r hr => (k1 r hr).upd2 u2 ((h.far r hr).grow (h.ok r hr) fun z hz => .inl (.inl hz)), fun r hr => (h.far r hr).grow (h.ok r hr) fun z hz => ?_, fun q hq hm => ?_, h.low⟩
  · rcases hz with hz | hz | hz | hz
    · exact .inl (.inl hz)
    · have : g = z := by simpa [Value.ownBlock] using hz
      subst this
      exact hg.elim (fun x => .inl (.inr (.inl x))) .inr
    · exact .inl (.inr (.inr (.inl hz)))
    · exact .inl (.inr (.inr (.inr hz)))
  · have : g = q := by simpa [Value.ownBlock] using hq
    subst this
    rcases hg with hg | hg
    · exact h.apart g hg hm
    · have := (h.more.lt g hm).2
      omega
theorem dropIn_len (l : List Pf) (p : Pf) : (dropIn l p).length ≤ l.length + 1 := by
  unfold dropIn
  split
  · simp
  · split
    · omega
    · simp only [List.length_append, List.length_take, List.length_cons, List.length_drop]
      omega
theorem dropAll_len : ∀ (m l : List Pf), (dropAll l m).length ≤ l.length + m.length
  | [], l => Nat.le_refl _
  | p :: m, l => by
    have h1 := dropAll_len m (dropIn l p)
    have h2 := dropIn_len l p
    show (dropAll (dropIn l p) m).length ≤ _
    rw [List.length_cons]
    omega
theorem dropAll_snoc (l m : List Pf) (p : Pf) : dropAll l (m ++ [p]) = dropIn (dropAll l m) p := by simp [dropAll]
theorem wpf_size (l : List Pf) : ∀ r ∈ l.map Pf.cells, r.size = 2 := fun r hr => by obtain ⟨p, _, rfl⟩ := List.mem_map.1 hr; rfl
theorem wpf_one (l : List Pf) : ∀ v ∈ flat (l.map Pf.cells), v.oneCell' = true := fun v hv => by
  induction l with
  | nil => simp [flat] at hv
  | cons p l ih =>
    have e : flat ((p :: l).map Pf.cells) = [.int .i64 p.a, .int .i64 p.n] ++ flat (l.map Pf.cells) := rfl
    rw [e] at hv
    rcases List.mem_append.1 hv with hv | hv
    · simp only [List.mem_cons, List.not_mem_nil, or_false] at hv
      rcases hv with rfl | rfl <;> rfl
    · exact ih hv

theorem flat_pf (l : List Pf) : (flat (l.map Pf.cells)).length = l.length * 2 := by
  have := flat_length (sz := 2) (l.map Pf.cells) (wpf_size l)
  rw [List.length_map] at this
  exact this
theorem flat_ins (L : List Pf) (p : Pf) (k : Nat) (hk : k ≤ L.length := by omega) : flat ((L.take k ++ p :: L.drop k).map Pf.cells) = (flat (L.map Pf.cells)).take (k * 2) ++ [.int .i64 p.a, .int .i64 p.n] ++ (flat (L.map Pf.cells)).drop (k * 2) := by
  have e : flat (L.map Pf.cells) = flat ((L.take k).map Pf.cells) ++ flat ((L.drop k).map Pf.cells) := by
    rw [← flat_append, ← List.map_append, List.take_append_drop]
  have l1 : (flat ((L.take k).map Pf.cells)).length = k * 2 := by
    rw [flat_pf, List.length_take]
    omega
  rw [e, List.take_left' l1, List.drop_left' l1, List.map_append, flat_append]
  show _ ++ flat (p.cells :: (L.drop k).map Pf.cells) = _
  have e2 : flat (p.cells :: (L.drop k).map Pf.cells) = [.int .i64 p.a, .int .i64 p.n] ++ flat ((L.drop k).map Pf.cells) := rfl
  rw [e2, List.append_assoc]
/-- What the drops leave. -/
def DropsPost (base X : Nat) (kd : ByteArray) (nn : Int) (st : RdS) (w : World) (vd va vm : Value) (rs : List RouteR) (w1 : World) : Prop :=
  ∃ vd1, RdI base X kd nn st w1 vd1 va vm rs ∧ Upd (OwnB X vd va vm) w w1 ∧ ∀ g, vd1.ownBlock = some g → vd.ownBlock = some g ∨ w.heap.size ≤ g

theorem drops_step {base X : Nat} {kd : ByteArray} {nn : Int} {st : RdS} {w w4 w5 : World} {vd vd1 va vm : Value} {rs : List RouteR} {g cap N : Nat} {L L' : List Pf} (h : RdI base X kd nn { st with drops := L } w4 vd1 va vm rs) (hU : Upd (OwnB X vd va vm) w w4) (hO : ∀ q, vd1.ownBlock = some q → vd.ownBlock = some q ∨ w.heap.size ≤ q)
    (hN : N = L'.length) (ho : w5.ownsRow base TPf 2 (.slice (some ⟨g, 0, none⟩) N cap) N (flat (L'.map Pf.cells))) (hu : Upd (fun q => vd1.ownBlock = some q) w4 w5) (hg : vd1.ownBlock = some g ∨ w4.heap.size ≤ g) :
    DropsPost base X kd nn { st with drops := L' } w vd va vm rs (w5.setCell ⟨X, 2, none⟩ (.slice (some ⟨g, 0, none⟩) N cap)) := by
  refine ⟨_, h.putD hN ho hu hg, (hU.trans hu fun q hq e => ?_).setCell (.inl (.inl rfl)) _, fun q hq => ?_⟩
  · rcases hO q e with e | e
    · exact .inr (.inl e)
    · omega
  · have : g = q := by simpa [Value.ownBlock] using hq
    subst this
    rcases hg with hg | hg
    · exact hO g hg
    · have := hU.size
      exact .inr (by omega)

set_option maxRecDepth 20000 in
set_option maxHeartbeats 2000000 in
theorem drops_any (base X : Nat) (kd : ByteArray) (nn : Int) (st : RdS) (vd va vm : Value) (rs : List RouteR) (w : World) (hi : RdI base X kd nn st w vd va vm rs) (hb : base ≤ w.heap.size) (hd : st.drops.length ≤ 10000) (hm : st.more.length ≤ 10000) :
    Calls Tryz.prog 27 #[.pointer (some ⟨X, 0, none⟩)] w fun e w1 => (∃ v, e = .returned v) ∧ DropsPost base X kd nn { st with drops := dropAll st.drops st.more } w vd va vm rs w1 := by
  obtain ⟨VM, cm, rfl⟩ := own_form hi.more (by omega)
  obtain ⟨iP, hiP, hzP0, hzP1, hzP2⟩ := info_parts info_TPf
  have HiP := hide hiP
  have HzP := hide (And.intro hzP0 (And.intro hzP1 hzP2))
  have HI := hide hi
  have HL := hide (And.intro hb (And.intro hd hm))
  have c4 := hi.blk.cell 4
  have cz := hi.blk.lt
  simp only [List.getElem?_toArray, List.getElem?_cons_zero, List.getElem?_cons_succ] at c4
  clear hi hb hd hm hiP hzP0 hzP1 hzP2
  obtain ⟨nM, hnM⟩ : ∃ m, m = st.more.length := ⟨_, rfl⟩
  rw [← hnM] at c4
  have HnM := hide hnM
  have bM : nM ≤ 10000 := by have := HL.out.2.2; omega
  clear hnM
  go_enter Tryz.func27, Tryz.ntmps27
  go_wp2_with fail
  clear c4 cz
  go_loopw [10] (fun iv wz => ∃ j : Nat, j ≤ nM ∧ iv = .int .i64 j ∧ DropsPost base X kd nn { st with drops := dropAll st.drops (st.more.take j) } w vd va (.slice VM st.more.length cm) rs wz) (fun iv _ => nM - (intOf iv).toNat)
  case atStart => exact ⟨0, by omega, rfl, vd, HI.out, Upd.refl _ _, fun g h => .inl h⟩
  case round =>
    obtain ⟨j, hj, rfl, vd1, hI, hU, hO⟩ := hrel
    have HI1 := hide hI
    have HU := hide hU
    have HO := hide hO
    clear hI hU hO
    by_cases hlt : j < nM
    · obtain ⟨L, hLd⟩ : ∃ L, L = dropAll st.drops (st.more.take j) := ⟨_, rfl⟩
      have hI := HI1.out
      rw [← hLd] at hI
      obtain ⟨D1, c1, rfl⟩ := own_form (n := L.length) hI.drops (by omega)
      obtain ⟨VM2, cm2, e9, _, hmc, hmr, _, _⟩ := rws_of_own (by omega) hI.more (wpf_size _)
      injection e9 with e1 e2 e3
      subst e1; subst e3
      obtain ⟨D2, c2, e9, _, hdc, hdr, _, _⟩ := rws_of_own (by omega) (show World.ownsRow wr base TPf 2 (.slice D1 L.length c1) L.length (flat (L.map Pf.cells)) from hI.drops) (wpf_size _)
      injection e9 with e1 e2 e3
      subst e1; subst e3
      have hpd : Pfs wr D1 L := hdr
      obtain ⟨b, o, p, hA, hbm, hpj, m0, m1⟩ := Pfs.at_ (ps := st.more) hmr (k := j) (by have := HnM.out; omega)
      subst hA
      have i1 : (j : Int) < (nM : Int) := by omega
      have hLl : L.length ≤ 20000 := by
        have := dropAll_len (st.more.take j) st.drops
        rw [List.length_take] at this
        have := HL.out.2
        rw [hLd]
        omega
      have Htk := hide (show dropAll st.drops (st.more.take (j + 1)) = dropIn L p by
        rw [List.take_add_one, hpj, hLd]; exact dropAll_snoc _ _ _)
      have ua := (Upd.refl (fun _ => False) wr).alloc (.cells #[.int .i64 p.a, .int .i64 p.n] TPf)
      have hz := Blk.new wr TPf #[.int .i64 p.a, .int .i64 p.n]
      have Hix := hide (idxGe_any D1 L.length c1 L p wr.heap.size _ hz (hpd.new_ ua) rfl (by omega))
      have HZ := hide hz
      have HI2 := hide (hI.new_ ua)
      have HP := hide (hpd.new_ ua)
      have HU := hide (HU.out.trans_new ua)
      have hown : ∀ q, (Value.slice D1 L.length c1).ownBlock = some q → q < wr.heap.size := fun q hq => (hI.drops.lt q hq).2
      have Hown := hide hown
      have c2' := hI.blk.cell 2
      have cz := hI.blk.lt
      simp only [List.getElem?_toArray, List.getElem?_cons_zero, List.getElem?_cons_succ] at c2'
      clear hLd hI hmc hmr hdc hdr hpd hpj ua hz hown HI1
      go_wp2_with fail
      clear c2' cz m0 m1 hbm
      generalize wr.alloc (.cells #[.int .i64 p.a, .int .i64 p.n] TPf) = w2 at *
      generalize wr.heap.size = Z at *
      refine Hix.out.mono ?_
      rintro e w3 ⟨rfl, hu⟩
      have HZ := hide (HZ.out.new_ hu)
      have HI2 := hide (HI2.out.new_ hu)
      have HP := hide (HP.out.new_ hu)
      have HU := hide (HU.out.trans_new hu)
      clear hu Hix
      have c2 := HI2.out.blk.cell 2
      have cz := HI2.out.blk.lt
      have f2 := HI2.out.blk.frozen 2
      have d0 := HZ.out.cell 0
      have d1 := HZ.out.cell 1
      have dz := HZ.out.lt
      simp only [List.getElem?_toArray, List.getElem?_cons_zero, List.getElem?_cons_succ] at c2 d0 d1
      have hnx := rown_ne HI2.out.drops HI2.out.blk (by decide)
      have bB : base ≤ w3.heap.size := by have := HL.out.1; have := HU.out.size; omega
      by_cases hk : idxB (geP p) L < 0
      · have Hdi := hide (show dropIn L p = L ++ [p] from if_pos hk)
        generalize idxB (geP p) L = k at *
        go_upto_region 5 with (fail)
        go_region_law ((refine step_append_lies _ (by rfl) (.tmp 29) (.tmp 31) _ (by rfl) base TPf iP _ 2 16 Tryz.underlying22 HiP.out HzP.out.1 HzP.out.2.1 HzP.out.2.2 rfl (by omega) (.slice D1 L.length c1) L.length (flat (L.map Pf.cells)) (by rfl) (show World.ownsRow (w3.drew.alloc (.cells #[.int .i64 p.a, .int .i64 p.n] TPf)) base TPf 2 (.slice D1 L.length c1) L.length (flat (L.map Pf.cells)) from (HI2.out.drops.drew).alloc _) ⟨w3.heap.size, 0, none⟩ 1 1 [.int .i64 p.a, .int .i64 p.n] (by rfl) (by rfl) (World.news_of_block (cs := #[.int .i64 p.a, .int .i64 p.n]) (t := TPf) (fr := (0, 0)) (heap_alloc_new w3.drew _)) (by simp [Value.oneCell']) (by omega) (by unfold maxLen; omega) (by omega) (by simp; omega) (w3.heap.size + 1) (by simp) ?_; intro gg cap w5 hown5 hgrow hat hlt5; have hu5 : Upd (fun q => (Value.slice D1 L.length c1).ownBlock = some q) w3 w5 := (((Upd.refl _ w3).drew).alloc _).trans' (Upd.of_grown hgrow fun q _ hq => hq); have c5 := (hu5.cell cz hnx).trans c2; have f5 : w5.frozen? ⟨X, 2, none⟩ = false := (hu5.frozen cz hnx).trans f2; have z5 : X < w5.heap.size := Nat.lt_of_lt_of_le cz hu5.size))
        all_goals
          go_wp2_with fail
          refine ⟨⟨j + 1, by omega, by go_num, ?_⟩, by simp [intOf]; omega⟩
          rw [Htk.out, Hdi.out]
          refine drops_step HI2.out HU.out HO.out (by simp) ?_ hu5 (hat.imp id fun e => by omega)
          have e : flat ((L ++ [p]).map Pf.cells) = flat (L.map Pf.cells) ++ [.int .i64 p.a, .int .i64 p.n] := by
            rw [List.map_append, flat_append]
            rfl
          rw [e]
          exact hown5
      · obtain ⟨kN, hkN⟩ : ∃ kN : Nat, idxB (geP p) L = (kN : Int) := ⟨(idxB (geP p) L).toNat, by omega⟩
        have hkl : kN < L.length := by have := idxB_lt (geP p) L (by omega); rw [hkN] at this; simpa using this
        have hdi : dropIn L p = if L[kN]? = some p then L else L.take kN ++ p :: L.drop kN := by
          unfold dropIn
          rw [if_neg hk, hkN]
          rfl
        rw [hkN] at hk ⊢
        obtain ⟨b2, o2, q, hA2, hb2, hqk, q0, q1⟩ := HP.out.at_ hkl
        subst hA2
        have g1 := guard_pfx
        have g2 := neq_pfx
        have i2 : ¬ ((kN : Int) < 0) := by omega
        have i3 : (kN : Int) < (L.length : Int) := by omega
        clear hkN hk
        go_upto_region 6 with (fail)
        by_cases hqp : q = p
        · subst hqp
          have Hdi := hide (show dropIn L q = L from by rw [hdi, if_pos hqk])
          have he : (q.a == q.a && q.n == q.n) = true := by simp
          clear hdi hqk
          go_region
          go_wp2_with fail
          refine ⟨⟨j + 1, by omega, by go_num, ?_⟩, by simp [intOf]; omega⟩
          rw [Htk.out, Hdi.out]
          exact ⟨_, HI2.out.new_ (Upd.refl (fun _ => False) w3).drew, HU.out.drew, HO.out⟩
        · have he : (q.a == p.a && q.n == p.n) = false := by
            rw [Bool.and_eq_false_iff]
            by_cases ha : q.a = p.a
            · right
              rw [beq_eq_false_iff_ne]
              intro hn
              exact hqp (by cases q; cases p; simp_all)
            · left
              rw [beq_eq_false_iff_ne]
              exact ha
          have Hdi := hide (show dropIn L p = L.take kN ++ p :: L.drop kN from by rw [hdi, if_neg (fun e => hqp (by rw [hqk] at e; exact Option.some.inj e))])
          clear hdi hqk hqp
          go_region
          have HI2 := hide (HI2.out.new_ (Upd.refl (fun _ => False) w3).drew)
          have HZ := hide (HZ.out.new_ (Upd.refl (fun _ => False) w3).drew)
          have HU := hide (HU.out.drew)
          clear c2 cz f2 d0 d1 dz q0 q1 hb2 bB hnx HP g1 g2 he
          generalize w3.drew = w4 at *
          have c2 := HI2.out.blk.cell 2
          have cz := HI2.out.blk.lt
          have f2 := HI2.out.blk.frozen 2
          have d0 := HZ.out.cell 0
          have d1 := HZ.out.cell 1
          have dz := HZ.out.lt
          simp only [List.getElem?_toArray, List.getElem?_cons_zero, List.getElem?_cons_succ] at c2 d0 d1
          have hnx := rown_ne HI2.out.drops HI2.out.blk (by decide)
          have bB : base ≤ w4.heap.size := by have := HL.out.1; have := HU.out.size; omega
          go_upto_region 7 with (fail)
          have Hins := hide (insert_own base L.length c1 kN (some ⟨b2, o2, none⟩) (flat (L.map Pf.cells)) p.a p.n w4.heap.size (w4.drew.alloc (.cells #[.int .i64 p.a, .int .i64 p.n] TPf)) (show World.ownsRow (w4.drew.alloc (.cells #[.int .i64 p.a, .int .i64 p.n] TPf)) base TPf 2 (.slice (some ⟨b2, o2, none⟩) L.length c1) L.length (flat (L.map Pf.cells)) from (HI2.out.drops.drew).alloc _) (by simp; omega) hkl (by omega) (Blk.new w4.drew TPf #[.int .i64 p.a, .int .i64 p.n]) (fun e => by have := (HI2.out.drops.lt _ e).2; omega) (wpf_one L))
          go_region_with ((go_at_call 63; refine (Hins.out).mono ?_; rintro e w5 ⟨gg, cc, rfl, hown5, hu, hat⟩; have hu5 : Upd (fun q => (Value.slice (some ⟨b2, o2, none⟩) L.length c1).ownBlock = some q) w4 w5 := (((Upd.refl _ w4).drew).alloc _).trans' hu; have c5 := (hu5.cell cz hnx).trans c2; have f5 : w5.frozen? ⟨X, 2, none⟩ = false := (hu5.frozen cz hnx).trans f2; have z5 : X < w5.heap.size := Nat.lt_of_lt_of_le cz hu5.size))
          all_goals
            go_wp2_with fail
            refine ⟨⟨j + 1, by omega, by go_num, ?_⟩, by simp [intOf]; omega⟩
            rw [Htk.out, Hdi.out]
            refine drops_step HI2.out HU.out HO.out (by simp; omega) ?_ hu5 (hat.imp id fun e => by simp at e; omega)
            have e : flat ((L.take kN ++ p :: L.drop kN).map Pf.cells) = (flat (L.map Pf.cells)).take (kN * 2) ++ [.int .i64 p.a, .int .i64 p.n] ++ (flat (L.map Pf.cells)).drop (kN * 2) := flat_ins L p kN
            rw [e]
            exact hown5
    · obtain rfl : j = nM := by omega
      have i1 : ¬ (j : Int) < (j : Int) := by omega
      have hI := HI1.out
      rw [List.take_of_length_le (by rw [HnM.out]; exact Nat.le_refl _)] at hI
      have HI1 := hide hI
      clear hI
      go_wp2_with fail
      refine bodyPost_end (results_none Tryz.results27 _ _ _) rfl ?_
      exact ⟨⟨_, rfl⟩, vd1, HI1.out, HU.out, HO.out⟩
end Go.Proofs.YtjgecmkfgeajiaaGreatDoor

/- strings.SplitN, laid; texts cut into three. (The first part was written by the kit's plain-laying tool for this program.) -/
import Derived.Shelf.Strings.Split
import Derived.Test.YtjgecmkfgeajiaaGreatDoorAx1
namespace Go.Proofs.YtjgecmkfgeajiaaGreatDoor
open Go.Shelf
def sn_lays147_ren : Go.Shelf.Ren := ⟨fun | 147 => 58 | 221 => 56 | 268 => 95 | 138 => 96 | 143 => 97 | 195 => 121 | 197 => 122 | 218 => 123 | 219 => 124 | 260 => 139 | 217 => 140 | 225 => 141 | 224 => 142 | 267 => 143 | 266 => 152 | 314 => 153 | n => n, fun | 9 => 9 | 3 => 3 | 31 => 65 | 4 => 4 | 0 => 0 | 105 => 166 | 21 => 21 | 5 => 5 | 46 => 170 | 119 => 201 | 139 => 204 | 138 => 203 | 146 => 205 | 51 => 190 | n => n, fun | 1 => 11 | 3 => 12 | 4 => 13 | n => n⟩
theorem sn_lays147 : Go.Proofs.Lays.n147 Tryz.prog sn_lays147_ren := {
  mixed := by kernel_rfl
  f138 := Tryz.func96.trans (congrArg some (by kernel_rfl))
  f143 := Tryz.func97.trans (congrArg some (by kernel_rfl))
  f147 := Tryz.func58.trans (congrArg some (by kernel_rfl))
  f195 := Tryz.func121.trans (congrArg some (by kernel_rfl))
  f197 := Tryz.func122.trans (congrArg some (by kernel_rfl))
  f217 := Tryz.func140.trans (congrArg some (by kernel_rfl))
  f218 := Tryz.func123.trans (congrArg some (by kernel_rfl))
  f219 := Tryz.func124.trans (congrArg some (by kernel_rfl))
  f221 := Tryz.func56.trans (congrArg some (by kernel_rfl))
  f224 := Tryz.func142.trans (congrArg some (by kernel_rfl))
  f225 := Tryz.func141.trans (congrArg some (by kernel_rfl))
  f260 := Tryz.func139.trans (congrArg some (by kernel_rfl))
  f266 := Tryz.func152.trans (congrArg some (by kernel_rfl))
  f267 := Tryz.func143.trans (congrArg some (by kernel_rfl))
  f268 := Tryz.func95.trans (congrArg some (by kernel_rfl))
  f314 := Tryz.func153.trans (congrArg some (by kernel_rfl))
  t0 := Tryz.underlying0
  a0 := Tryz.isAgg0
  z0 := Tryz.sizeOf0
  v0 := Tryz.zeroValue0
  t3 := Tryz.underlying3
  a3 := Tryz.isAgg3
  z3 := Tryz.sizeOf3
  v3 := Tryz.zeroValue3
  t4 := Tryz.underlying4
  a4 := Tryz.isAgg4
  z4 := Tryz.sizeOf4
  v4 := Tryz.zeroValue4
  t5 := Tryz.underlying5
  a5 := Tryz.isAgg5
  z5 := Tryz.sizeOf5
  v5 := Tryz.zeroValue5
  t9 := Tryz.underlying9
  a9 := Tryz.isAgg9
  z9 := Tryz.sizeOf9
  v9 := Tryz.zeroValue9
  t21 := Tryz.underlying21
  a21 := Tryz.isAgg21
  z21 := Tryz.sizeOf21
  v21 := Tryz.zeroValue21
  t31 := Tryz.underlying65
  a31 := Tryz.isAgg65
  z31 := Tryz.sizeOf65
  v31 := Tryz.zeroValue65
  t46 := Tryz.underlying170
  a46 := Tryz.isAgg170
  z46 := Tryz.sizeOf170
  v46 := Tryz.zeroValue170
  t51 := Tryz.underlying190
  a51 := Tryz.isAgg190
  z51 := Tryz.sizeOf190
  v51 := Tryz.zeroValue190
  t105 := Tryz.underlying166
  a105 := Tryz.isAgg166
  z105 := Tryz.sizeOf166
  v105 := Tryz.zeroValue166
  t119 := Tryz.underlying201
  a119 := Tryz.isAgg201
  z119 := Tryz.sizeOf201
  t138 := Tryz.underlying203
  a138 := Tryz.isAgg203
  z138 := Tryz.sizeOf203
  v138 := Tryz.zeroValue203
  t139 := Tryz.underlying204
  a139 := Tryz.isAgg204
  z139 := Tryz.sizeOf204
  v139 := Tryz.zeroValue204
  t146 := Tryz.underlying205
  a146 := Tryz.isAgg205
  z146 := Tryz.sizeOf205
  v146 := Tryz.zeroValue205
  g1 := by kernel_rfl
  g3 := by kernel_rfl
  g4 := by kernel_rfl }
open Go.RowKit Go.Lib in
theorem sn_strings_SplitN (s sep : ByteArray) (n : Nat) (m : Int) (w : World)
    (hs : s.size < 4294967281) (hm : w.cell? ⟨11, 0, none⟩ = some (.int .i64 m)) (h1 : 1 ≤ sep.size) (hn : 1 ≤ n) (hn63 : n ≤ 9223372036854775807) :
    Calls Tryz.prog 58 #[.string s, .string sep, .int .i64 n] w fun e w' =>
      e = .returned (.slice (some ⟨w.heap.size, 0, none⟩) (Lib.splitB sep 0 (min n (s.size + 1) - 1) s).length (min n (s.size + 1))) ∧ w' = w.alloc (.cells (Lib.cellsOf (Lib.splitB sep 0 (min n (s.size + 1) - 1) s) (min n (s.size + 1))) 9) := Any.strings_SplitN sn_lays147 (by kernel_rfl) s sep n m w hs hm h1 hn hn63

open Go.RowKit
/-- At most k + 1 pieces: the last one holds the rest. -/
def cutN (c : UInt8) : Nat → List (List UInt8) → List (List UInt8)
  | 0, ps => [joinC c ps]
  | _ + 1, [] => []
  | _ + 1, [p] => [p]
  | k + 1, p :: q :: r => p :: cutN c k (q :: r)
theorem splitK_N (c : UInt8) : ∀ (l : List (List UInt8)) (k : Nat), l ≠ [] → (∀ p ∈ l, c ∉ p) → Lib.splitK [c] 0 k (joinC c l) = cutN c k l
  | [], _, h, _ => absurd rfl h
  | l, 0, _, _ => by
    unfold cutN Lib.splitK
    rfl
  | [p], k + 1, _, h => by
    have h1 := ix_none c p (h p (List.mem_cons_self ..))
    unfold cutN Lib.splitK
    show (if (Lib.index p [c] == -1) = true then [p] else _) = _
    rw [h1, if_pos (by decide)]
  | p :: q :: l, k + 1, _, h => by
    have h1 := ix_at c (joinC c (q :: l)) p (h p (List.mem_cons_self ..))
    have h3 := splitK_N c (q :: l) k (by simp) (fun x hx => h x (List.mem_cons_of_mem _ hx))
    have hd : (p ++ c :: joinC c (q :: l)).drop (p.length + 1) = joinC c (q :: l) := by
      rw [List.drop_append]
      simp
    show Lib.splitK [c] 0 (k + 1) (p ++ c :: joinC c (q :: l)) = p :: cutN c k (q :: l)
    unfold Lib.splitK
    have hm : (((p.length : Nat) : Int) == -1) = false := by rw [beq_eq_false_iff_ne]; omega
    rw [h1, if_neg (by rw [hm]; simp)]
    rw [show ((p.length : Nat) : Int).toNat = p.length from rfl, show ([c] : List UInt8).length = 1 from rfl, hd, h3]
    congr 1
    simp
theorem cutN_all (c : UInt8) : ∀ (l : List (List UInt8)) (k : Nat), l ≠ [] → l.length ≤ k + 1 → cutN c k l = l
  | [], _, h, _ => absurd rfl h
  | [p], 0, _, _ => rfl
  | [p], _ + 1, _, _ => rfl
  | p :: q :: r, 0, _, h => by simp at h
  | p :: q :: r, k + 1, _, h => by
    show p :: cutN c k (q :: r) = _
    rw [cutN_all c (q :: r) k (by simp) (by simpa using h)]
theorem splitB_N (c : UInt8) (n : Nat) (s : ByteArray) : Lib.splitB ⟨#[c]⟩ 0 (min (n + 1) (s.size + 1) - 1) s = (cutN c n (cutR c s.data.toList)).map fun p => ⟨p.toArray⟩ := by
  have h1 := splitK_N c (cutR c s.data.toList) (min (n + 1) (s.size + 1) - 1) (cutR_ne c _) (cutR_no c _)
  rw [cutR_join] at h1
  have h3 := Lib.splitB_data ⟨#[c]⟩ 0 (min (n + 1) (s.size + 1) - 1) s
  have h5 : (Lib.splitB ⟨#[c]⟩ 0 (min (n + 1) (s.size + 1) - 1) s).map (·.data.toList) = cutN c (min (n + 1) (s.size + 1) - 1) (cutR c s.data.toList) := h3.trans h1
  have h7 : cutN c (min (n + 1) (s.size + 1) - 1) (cutR c s.data.toList) = cutN c n (cutR c s.data.toList) := by
    have hl := cutR_len c s.data.toList
    have hz : s.data.toList.length = s.size := by simp
    rcases Nat.lt_or_ge s.size n with h | h
    · rw [cutN_all c _ _ (cutR_ne c _) (by omega), cutN_all c _ _ (cutR_ne c _) (by omega)]
    · congr 1
      omega
  have h6 := congrArg (List.map fun p : List UInt8 => (⟨p.toArray⟩ : ByteArray)) (h5.trans h7)
  rw [List.map_map] at h6
  rw [← h6]
  conv => lhs; rw [← List.map_id (Lib.splitB _ _ _ _)]
  exact List.map_congr_left fun x _ => (ba_eta x).symm
theorem cutN_len (c : UInt8) : ∀ (k : Nat) (l : List (List UInt8)), (cutN c k l).length ≤ k + 1
  | 0, _ => Nat.le_refl _
  | _ + 1, [] => Nat.zero_le _
  | _ + 1, [_] => by simp [cutN]
  | k + 1, p :: q :: r => by
    show (p :: cutN c k (q :: r)).length ≤ _
    rw [List.length_cons]
    have := cutN_len c k (q :: r)
    omega
/-- A text cut by a byte into three parts at most. -/
theorem splitN_ss (s : ByteArray) (d : UInt8) (w : World) (h : TxtOk w) (hs : s.size ≤ 1000000) :
    Calls Tryz.prog 58 #[.string s, .string ⟨#[d]⟩, .int .i64 3] w fun e w1 => ∃ g c, e = .returned (.slice (some ⟨g, 0, none⟩) (cutN d 2 (cutR d s.data.toList)).length c) ∧ (cutN d 2 (cutR d s.data.toList)).length ≤ c ∧ Ss w1 (some ⟨g, 0, none⟩) (cutN d 2 (cutR d s.data.toList)) ∧ New w w1 := by
  obtain ⟨m, hm⟩ := h.ml
  refine (sn_strings_SplitN s ⟨#[d]⟩ 3 m w (by omega) hm (Nat.le_refl 1) (by omega) (by omega)).mono ?_
  rintro e w1 ⟨rfl, rfl⟩
  have hb := Blk.new w 9 (Lib.cellsOf (Lib.splitB ⟨#[d]⟩ 0 (min 3 (s.size + 1) - 1) s) (min 3 (s.size + 1)))
  rw [splitB_N d 2 s] at hb ⊢
  have hl := Lib.splitB_length_le ⟨#[d]⟩ 0 (min 3 (s.size + 1) - 1) s
  rw [splitB_N d 2 s, List.length_map] at hl
  refine ⟨w.heap.size, _, by rw [List.length_map], by omega, fun h0 => ⟨w.heap.size, 0, rfl, hb.lt, fun i x hx => ?_⟩, (Upd.refl _ _).alloc _⟩
  rw [Nat.zero_add, hb.cell i]
  have hi := (List.getElem?_eq_some_iff.1 hx).1
  unfold Lib.cellsOf
  rw [List.getElem?_toArray, List.getElem?_append_left (by simpa using hi)]
  simp [hx]
end Go.Proofs.YtjgecmkfgeajiaaGreatDoor

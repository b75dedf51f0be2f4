/- The library's strings.Join at this program. No condition but those that stand in each theorem. (The first part was written by the kit's plain-laying tool for this program.) -/
import Derived.Shelf.Strings.OnBuilder
import Derived.Test.YtjgecmkfgeajiaaGreatDoorTx0
import Derived.Test.YtjgecmkfgeajiaaGreatDoorDd2
import Derived.Test.YtjgecmkfgeajiaaGreatDoorCt1
namespace Go.Proofs.YtjgecmkfgeajiaaGreatDoor
open Go.Shelf
def sj_lays156_ren : Go.Shelf.Ren := ⟨fun | 156 => 32 | 165 => 65 | 166 => 66 | 169 => 67 | 240 => 106 | 241 => 107 | 276 => 130 | 277 => 131 | n => n, fun | 31 => 65 | 9 => 9 | 3 => 3 | 4 => 4 | 0 => 0 | 20 => 20 | 72 => 112 | 76 => 114 | 70 => 109 | 37 => 110 | 75 => 29 | 127 => 144 | 164 => 145 | 5 => 5 | 80 => 116 | n => n, fun | n => n⟩
theorem sj_lays156 : Go.Proofs.Lays.n156 Tryz.prog sj_lays156_ren := {
  mixed := by kernel_rfl
  f156 := Tryz.func32.trans (congrArg some (by kernel_rfl))
  f165 := Tryz.func65.trans (congrArg some (by kernel_rfl))
  f166 := Tryz.func66.trans (congrArg some (by kernel_rfl))
  f169 := Tryz.func67.trans (congrArg some (by kernel_rfl))
  f240 := Tryz.func106.trans (congrArg some (by kernel_rfl))
  f241 := Tryz.func107.trans (congrArg some (by kernel_rfl))
  f276 := Tryz.func130.trans (congrArg some (by kernel_rfl))
  f277 := Tryz.func131.trans (congrArg some (by kernel_rfl))
  t0 := Tryz.underlying0
  a0 := Tryz.isAgg0
  z0 := Tryz.sizeOf0
  v0 := Tryz.zeroValue0
  t3 := Tryz.underlying3
  a3 := Tryz.isAgg3
  z3 := Tryz.sizeOf3
  v3 := Tryz.zeroValue3
  t4 := Tryz.underlying4
  a4 := Tryz.isAgg4
  z4 := Tryz.sizeOf4
  v4 := Tryz.zeroValue4
  t9 := Tryz.underlying9
  a9 := Tryz.isAgg9
  z9 := Tryz.sizeOf9
  v9 := Tryz.zeroValue9
  t20 := Tryz.underlying20
  a20 := Tryz.isAgg20
  z20 := Tryz.sizeOf20
  v20 := Tryz.zeroValue20
  t31 := Tryz.underlying65
  a31 := Tryz.isAgg65
  z31 := Tryz.sizeOf65
  v31 := Tryz.zeroValue65
  t37 := Tryz.underlying110
  a37 := Tryz.isAgg110
  z37 := Tryz.sizeOf110
  v37 := Tryz.zeroValue110
  t70 := Tryz.underlying109
  a70 := Tryz.isAgg109
  z70 := Tryz.sizeOf109
  v70 := Tryz.zeroValue109
  t72 := Tryz.underlying112
  a72 := Tryz.isAgg112
  z72 := Tryz.sizeOf112
  v72 := Tryz.zeroValue112
  t75 := Tryz.underlying29
  a75 := Tryz.isAgg29
  z75 := Tryz.sizeOf29
  v75 := Tryz.zeroValue29
  t76 := Tryz.underlying114
  a76 := Tryz.isAgg114
  z76 := Tryz.sizeOf114
  v76 := Tryz.zeroValue114
  t127 := Tryz.underlying144
  a127 := Tryz.isAgg144
  z127 := Tryz.sizeOf144
  v127 := Tryz.zeroValue144
  t164 := Tryz.underlying145
  a164 := Tryz.isAgg145
  z164 := Tryz.sizeOf145
  v164 := Tryz.zeroValue145 }
theorem sj_Builder_Extra_156 : Builder.Extra Tryz.prog sj_lays156_ren := {
  sizeBuilder := by kernel_rfl
  liesBuilder := by kernel_rfl
  t5 := Tryz.underlying5
  a5 := Tryz.isAgg5
  z5 := Tryz.sizeOf5
  v5 := Tryz.zeroValue5
  infoByte := by kernel_rfl
  cellsByte := by kernel_rfl
  sizeByte := by kernel_rfl
  neB5 := by decide }
open Go.RowKit in
theorem sj_strings_Join_none (a : Option Addr) (c : Nat) (sep : ByteArray) (w : World) :
    Calls Tryz.prog 32 #[.slice a 0 c, .string sep] w fun e w' => e = .returned (.string ⟨#[]⟩) ∧ w' = w := Any.strings_Join_none sj_lays156 sj_Builder_Extra_156 a c sep w
open Go.RowKit in
theorem sj_strings_Join (bk o c : Nat) (xs : List ByteArray) (sep : ByteArray) (w : World) (hcells : ∀ (j : Nat) x, xs[j]? = some x → w.cell? ⟨bk, o + j, none⟩ = some (.string x)) (hbk : bk < w.heap.size) (hN : xs.length ≤ 140737488355328) (hcap : xs.length ≤ c) (hlen : (Lib.join (xs.map (·.data.toList)) sep.data.toList).length ≤ 140737488355328) :
    Calls Tryz.prog 32 #[.slice (some ⟨bk, o, none⟩) xs.length c, .string sep] w fun e w' => e = .returned (.string ⟨(Lib.join (xs.map (·.data.toList)) sep.data.toList).toArray⟩) ∧ Below w.heap.size w w' := Any.strings_Join sj_lays156 sj_Builder_Extra_156 bk o c xs sep w hcells hbk hN hcap hlen

open Go.RowKit
theorem join_joinC (c : UInt8) : ∀ ps : List (List UInt8), Lib.join ps [c] = joinC c ps
  | [] => rfl
  | [p] => Lib.join_one p [c]
  | p :: q :: r => by
    rw [Lib.join_cons]
    show p ++ Lib.joinTail [c] (q :: r) = p ++ c :: joinC c (q :: r)
    rw [← join_joinC c (q :: r), Lib.join_cons]
    simp [Lib.joinTail]
/-- Texts joined by a byte. -/
theorem join_any (A : Option Addr) (n c : Nat) (d : UInt8) (ps : List (List UInt8)) (w : World) (h : Ss w A ps) (hn : ps.length = n) (hc : n ≤ c) (hl : n ≤ 1000000) (hj : (joinC d ps).length ≤ 100000000) :
    Calls Tryz.prog 32 #[.slice A n c, .string ⟨#[d]⟩] w fun e w1 => e = .returned (.string ⟨(joinC d ps).toArray⟩) ∧ New w w1 := by
  subst hn
  by_cases h0 : 0 < ps.length
  · obtain ⟨b, o, rfl, hb, hcc⟩ := h h0
    have e1 : (ps.map fun p => (⟨p.toArray⟩ : ByteArray)).map (·.data.toList) = ps := by rw [List.map_map]; exact (List.map_congr_left fun p _ => rfl).trans (List.map_id ps)
    have hk := sj_strings_Join b o c (ps.map fun p => (⟨p.toArray⟩ : ByteArray)) ⟨#[d]⟩ w (fun j x hx => by
      rw [List.getElem?_map] at hx
      cases hp : ps[j]? with
      | none => rw [hp] at hx; cases hx
      | some p =>
        rw [hp] at hx
        injection hx with hx
        subst hx
        exact hcc j p hp) hb (by simp; omega) (by simpa using hc) (by rw [e1]; show (Lib.join ps [d]).length ≤ _; rw [join_joinC]; omega)
    rw [e1, List.length_map] at hk
    refine hk.mono fun e w1 ⟨he, hu⟩ => ⟨?_, new_below hu⟩
    rw [he]
    show Ending.returned (.string ⟨(Lib.join ps [d]).toArray⟩) = _
    rw [join_joinC]
  · obtain rfl : ps = [] := by
      cases ps with
      | nil => rfl
      | cons a b => exact absurd (by simp) h0
    exact (sj_strings_Join_none A c ⟨#[d]⟩ w).mono fun e w1 ⟨he, hw⟩ => ⟨he, hw ▸ Upd.refl _ _⟩
end Go.Proofs.YtjgecmkfgeajiaaGreatDoor

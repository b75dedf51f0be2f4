/- The library's strings.Join at this program. No condition but those that stand in each theorem. (The first part was written by the kit's plain-laying tool for this program.) -/
import Derived.Shelf.Strings.OnBuilder
import Derived.Test.YtignngpligicjaaGreatDoorTx0
import Derived.Test.YtignngpligicjaaGreatDoorDd2
import Derived.Test.YtignngpligicjaaGreatDoorCt1
namespace Go.Proofs.YtignngpligicjaaGreatDoor
open Go.Shelf
def sj_lays156_ren : Go.Shelf.Ren := ⟨fun | 156 => 89 | 165 => 121 | 166 => 122 | 169 => 123 | 240 => 152 | 241 => 153 | 276 => 191 | 277 => 192 | n => n, fun | 31 => 81 | 9 => 9 | 3 => 3 | 4 => 4 | 0 => 0 | 20 => 20 | 72 => 148 | 76 => 27 | 70 => 145 | 37 => 146 | 75 => 26 | 127 => 184 | 164 => 161 | 5 => 5 | 80 => 150 | n => n, fun | n => n⟩
theorem sj_lays156 : Go.Proofs.Lays.n156 Tryz.prog sj_lays156_ren := {
  mixed := by kernel_rfl
  f156 := Tryz.func89.trans (congrArg some (by kernel_rfl))
  f165 := Tryz.func121.trans (congrArg some (by kernel_rfl))
  f166 := Tryz.func122.trans (congrArg some (by kernel_rfl))
  f169 := Tryz.func123.trans (congrArg some (by kernel_rfl))
  f240 := Tryz.func152.trans (congrArg some (by kernel_rfl))
  f241 := Tryz.func153.trans (congrArg some (by kernel_rfl))
  f276 := Tryz.func191.trans (congrArg some (by kernel_rfl))
  f277 := Tryz.func192.trans (congrArg some (by kernel_rfl))
  t0 := Tryz.underlying0
  a0 := Tryz.isAgg0
  z0 := Tryz.sizeOf0
  v0 := Tryz.zeroValue0
  t3 := Tryz.underlying3
  a3 := Tryz.isAgg3
  z3 := Tryz.sizeOf3
  v3 := Tryz.zeroValue3
  t4 := Tryz.underlying4
  a4 := Tryz.isAgg4
  z4 := Tryz.sizeOf4
  v4 := Tryz.zeroValue4
  t9 := Tryz.underlying9
  a9 := Tryz.isAgg9
  z9 := Tryz.sizeOf9
  v9 := Tryz.zeroValue9
  t20 := Tryz.underlying20
  a20 := Tryz.isAgg20
  z20 := Tryz.sizeOf20
  v20 := Tryz.zeroValue20
  t31 := Tryz.underlying81
  a31 := Tryz.isAgg81
  z31 := Tryz.sizeOf81
  v31 := Tryz.zeroValue81
  t37 := Tryz.underlying146
  a37 := Tryz.isAgg146
  z37 := Tryz.sizeOf146
  v37 := Tryz.zeroValue146
  t70 := Tryz.underlying145
  a70 := Tryz.isAgg145
  z70 := Tryz.sizeOf145
  v70 := Tryz.zeroValue145
  t72 := Tryz.underlying148
  a72 := Tryz.isAgg148
  z72 := Tryz.sizeOf148
  v72 := Tryz.zeroValue148
  t75 := Tryz.underlying26
  a75 := Tryz.isAgg26
  z75 := Tryz.sizeOf26
  v75 := Tryz.zeroValue26
  t76 := Tryz.underlying27
  a76 := Tryz.isAgg27
  z76 := Tryz.sizeOf27
  v76 := Tryz.zeroValue27
  t127 := Tryz.underlying184
  a127 := Tryz.isAgg184
  z127 := Tryz.sizeOf184
  v127 := Tryz.zeroValue184
  t164 := Tryz.underlying161
  a164 := Tryz.isAgg161
  z164 := Tryz.sizeOf161
  v164 := Tryz.zeroValue161 }
theorem sj_Builder_Extra_156 : Builder.Extra Tryz.prog sj_lays156_ren := {
  sizeBuilder := by kernel_rfl
  liesBuilder := by kernel_rfl
  t5 := Tryz.underlying5
  a5 := Tryz.isAgg5
  z5 := Tryz.sizeOf5
  v5 := Tryz.zeroValue5
  infoByte := by kernel_rfl
  cellsByte := by kernel_rfl
  sizeByte := by kernel_rfl
  neB5 := by decide }
open Go.RowKit in
theorem sj_strings_Join_none (a : Option Addr) (c : Nat) (sep : ByteArray) (w : World) :
    Calls Tryz.prog 89 #[.slice a 0 c, .string sep] w fun e w' => e = .returned (.string ⟨#[]⟩) ∧ w' = w := Any.strings_Join_none sj_lays156 sj_Builder_Extra_156 a c sep w
open Go.RowKit in
theorem sj_strings_Join (bk o c : Nat) (xs : List ByteArray) (sep : ByteArray) (w : World) (hcells : ∀ (j : Nat) x, xs[j]? = some x → w.cell? ⟨bk, o + j, none⟩ = some (.string x)) (hbk : bk < w.heap.size) (hN : xs.length ≤ 140737488355328) (hcap : xs.length ≤ c) (hlen : (Lib.join (xs.map (·.data.toList)) sep.data.toList).length ≤ 140737488355328) :
    Calls Tryz.prog 89 #[.slice (some ⟨bk, o, none⟩) xs.length c, .string sep] w fun e w' => e = .returned (.string ⟨(Lib.join (xs.map (·.data.toList)) sep.data.toList).toArray⟩) ∧ Below w.heap.size w w' := Any.strings_Join sj_lays156 sj_Builder_Extra_156 bk o c xs sep w hcells hbk hN hcap hlen

open Go.RowKit
theorem join_joinC (c : UInt8) : ∀ ps : List (List UInt8), Lib.join ps [c] = joinC c ps
  | [] => rfl
  | [p] => Lib.join_one p [c]
  | p :: q :: r => by
    rw [Lib.join_cons]
    show p ++ Lib.joinTail [c] (q :: r) = p ++ c :: joinC c (q :: r)
    rw [← join_joinC c (q :: r), Lib.join_cons]
    simp [Lib.joinTail]
/-- Texts joined by a byte. -/
theorem join_any (A : Option Addr) (n c : Nat) (d : UInt8) (ps : List (List UInt8)) (w : World) (h : Ss w A ps) (hn : ps.length = n) (hc : n ≤ c) (hl : n ≤ 1000000) (hj : (joinC d ps).length ≤ 100000000) :
    Calls Tryz.prog 89 #[.slice A n c, .string ⟨#[d]⟩] w fun e w1 => e = .returned (.string ⟨(joinC d ps).toArray⟩) ∧ New w w1 := by
  subst hn
  by_cases h0 : 0 < ps.length
  · obtain ⟨b, o, rfl, hb, hcc⟩ := h h0
    have e1 : (ps.map fun p => (⟨p.toArray⟩ : ByteArray)).map (·.data.toList) = ps := by rw [List.map_map]; exact (List.map_congr_left fun p _ => rfl).trans (List.map_id ps)
    have hk := sj_strings_Join b o c (ps.map fun p => (⟨p.toArray⟩ : ByteArray)) ⟨#[d]⟩ w (fun j x hx => by
      rw [List.getElem?_map] at hx
      cases hp : ps[j]? with
      | none => rw [hp] at hx; cases hx
      | some p =>
        rw [hp] at hx
        injection hx with hx
        subst hx
        exact hcc j p hp) hb (by simp; omega) (by simpa using hc) (by rw [e1]; show (Lib.join ps [d]).length ≤ _; rw [join_joinC]; omega)
    rw [e1, List.length_map] at hk
    refine hk.mono fun e w1 ⟨he, hu⟩ => ⟨?_, new_below hu⟩
    rw [he]
    show Ending.returned (.string ⟨(Lib.join ps [d]).toArray⟩) = _
    rw [join_joinC]
  · obtain rfl : ps = [] := by
      cases ps with
      | nil => rfl
      | cons a b => exact absurd (by simp) h0
    exact (sj_strings_Join_none A c ⟨#[d]⟩ w).mono fun e w1 ⟨he, hw⟩ => ⟨he, hw ▸ Upd.refl _ _⟩
end Go.Proofs.YtignngpligicjaaGreatDoor

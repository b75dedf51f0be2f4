/- The library's strings.Join at this program. No condition but those that stand in each theorem. (The first part was written by the kit's plain-laying tool for this program.) -/
import Derived.Shelf.Strings.OnBuilder
import Derived.Test.YtignngpligicjaaDoorTx0
import Derived.Test.YtignngpligicjaaDoorDd2
import Derived.Test.YtignngpligicjaaDoorCt1
namespace Go.Proofs.YtignngpligicjaaDoor
open Go.Shelf
def sj_lays156_ren : Go.Shelf.Ren := ⟨fun | 156 => 48 | 165 => 73 | 166 => 74 | 169 => 75 | 240 => 95 | 241 => 96 | 276 => 123 | 277 => 124 | n => n, fun | 31 => 78 | 9 => 9 | 3 => 3 | 4 => 4 | 0 => 0 | 20 => 20 | 72 => 110 | 76 => 38 | 70 => 107 | 37 => 108 | 75 => 25 | 127 => 131 | 164 => 154 | 5 => 5 | 80 => 113 | n => n, fun | n => n⟩
theorem sj_lays156 : Go.Proofs.Lays.n156 Tryd.prog sj_lays156_ren := {
  mixed := by kernel_rfl
  f156 := Tryd.func48.trans (congrArg some (by kernel_rfl))
  f165 := Tryd.func73.trans (congrArg some (by kernel_rfl))
  f166 := Tryd.func74.trans (congrArg some (by kernel_rfl))
  f169 := Tryd.func75.trans (congrArg some (by kernel_rfl))
  f240 := Tryd.func95.trans (congrArg some (by kernel_rfl))
  f241 := Tryd.func96.trans (congrArg some (by kernel_rfl))
  f276 := Tryd.func123.trans (congrArg some (by kernel_rfl))
  f277 := Tryd.func124.trans (congrArg some (by kernel_rfl))
  t0 := Tryd.underlying0
  a0 := Tryd.isAgg0
  z0 := Tryd.sizeOf0
  v0 := Tryd.zeroValue0
  t3 := Tryd.underlying3
  a3 := Tryd.isAgg3
  z3 := Tryd.sizeOf3
  v3 := Tryd.zeroValue3
  t4 := Tryd.underlying4
  a4 := Tryd.isAgg4
  z4 := Tryd.sizeOf4
  v4 := Tryd.zeroValue4
  t9 := Tryd.underlying9
  a9 := Tryd.isAgg9
  z9 := Tryd.sizeOf9
  v9 := Tryd.zeroValue9
  t20 := Tryd.underlying20
  a20 := Tryd.isAgg20
  z20 := Tryd.sizeOf20
  v20 := Tryd.zeroValue20
  t31 := Tryd.underlying78
  a31 := Tryd.isAgg78
  z31 := Tryd.sizeOf78
  v31 := Tryd.zeroValue78
  t37 := Tryd.underlying108
  a37 := Tryd.isAgg108
  z37 := Tryd.sizeOf108
  v37 := Tryd.zeroValue108
  t70 := Tryd.underlying107
  a70 := Tryd.isAgg107
  z70 := Tryd.sizeOf107
  v70 := Tryd.zeroValue107
  t72 := Tryd.underlying110
  a72 := Tryd.isAgg110
  z72 := Tryd.sizeOf110
  v72 := Tryd.zeroValue110
  t75 := Tryd.underlying25
  a75 := Tryd.isAgg25
  z75 := Tryd.sizeOf25
  v75 := Tryd.zeroValue25
  t76 := Tryd.underlying38
  a76 := Tryd.isAgg38
  z76 := Tryd.sizeOf38
  v76 := Tryd.zeroValue38
  t127 := Tryd.underlying131
  a127 := Tryd.isAgg131
  z127 := Tryd.sizeOf131
  v127 := Tryd.zeroValue131
  t164 := Tryd.underlying154
  a164 := Tryd.isAgg154
  z164 := Tryd.sizeOf154
  v164 := Tryd.zeroValue154 }
theorem sj_Builder_Extra_156 : Builder.Extra Tryd.prog sj_lays156_ren := {
  sizeBuilder := by kernel_rfl
  liesBuilder := by kernel_rfl
  t5 := Tryd.underlying5
  a5 := Tryd.isAgg5
  z5 := Tryd.sizeOf5
  v5 := Tryd.zeroValue5
  infoByte := by kernel_rfl
  cellsByte := by kernel_rfl
  sizeByte := by kernel_rfl
  neB5 := by decide }
open Go.RowKit in
theorem sj_strings_Join_none (a : Option Addr) (c : Nat) (sep : ByteArray) (w : World) :
    Calls Tryd.prog 48 #[.slice a 0 c, .string sep] w fun e w' => e = .returned (.string ⟨#[]⟩) ∧ w' = w := Any.strings_Join_none sj_lays156 sj_Builder_Extra_156 a c sep w
open Go.RowKit in
theorem sj_strings_Join (bk o c : Nat) (xs : List ByteArray) (sep : ByteArray) (w : World) (hcells : ∀ (j : Nat) x, xs[j]? = some x → w.cell? ⟨bk, o + j, none⟩ = some (.string x)) (hbk : bk < w.heap.size) (hN : xs.length ≤ 140737488355328) (hcap : xs.length ≤ c) (hlen : (Lib.join (xs.map (·.data.toList)) sep.data.toList).length ≤ 140737488355328) :
    Calls Tryd.prog 48 #[.slice (some ⟨bk, o, none⟩) xs.length c, .string sep] w fun e w' => e = .returned (.string ⟨(Lib.join (xs.map (·.data.toList)) sep.data.toList).toArray⟩) ∧ Below w.heap.size w w' := Any.strings_Join sj_lays156 sj_Builder_Extra_156 bk o c xs sep w hcells hbk hN hcap hlen

open Go.RowKit
theorem join_joinC (c : UInt8) : ∀ ps : List (List UInt8), Lib.join ps [c] = joinC c ps
  | [] => rfl
  | [p] => Lib.join_one p [c]
  | p :: q :: r => by
    rw [Lib.join_cons]
    show p ++ Lib.joinTail [c] (q :: r) = p ++ c :: joinC c (q :: r)
    rw [← join_joinC c (q :: r), Lib.join_cons]
    simp [Lib.joinTail]
/-- Texts joined by a byte. -/
theorem join_any (A : Option Addr) (n c : Nat) (d : UInt8) (ps : List (List UInt8)) (w : World) (h : Ss w A ps) (hn : ps.length = n) (hc : n ≤ c) (hl : n ≤ 1000000) (hj : (joinC d ps).length ≤ 100000000) :
    Calls Tryd.prog 48 #[.slice A n c, .string ⟨#[d]⟩] w fun e w1 => e = .returned (.string ⟨(joinC d ps).toArray⟩) ∧ New w w1 := by
  subst hn
  by_cases h0 : 0 < ps.length
  · obtain ⟨b, o, rfl, hb, hcc⟩ := h h0
    have e1 : (ps.map fun p => (⟨p.toArray⟩ : ByteArray)).map (·.data.toList) = ps := by rw [List.map_map]; exact (List.map_congr_left fun p _ => rfl).trans (List.map_id ps)
    have hk := sj_strings_Join b o c (ps.map fun p => (⟨p.toArray⟩ : ByteArray)) ⟨#[d]⟩ w (fun j x hx => by
      rw [List.getElem?_map] at hx
      cases hp : ps[j]? with
      | none => rw [hp] at hx; cases hx
      | some p =>
        rw [hp] at hx
        injection hx with hx
        subst hx
        exact hcc j p hp) hb (by simp; omega) (by simpa using hc) (by rw [e1]; show (Lib.join ps [d]).length ≤ _; rw [join_joinC]; omega)
    rw [e1, List.length_map] at hk
    refine hk.mono fun e w1 ⟨he, hu⟩ => ⟨?_, new_below hu⟩
    rw [he]
    show Ending.returned (.string ⟨(Lib.join ps [d]).toArray⟩) = _
    rw [join_joinC]
  · obtain rfl : ps = [] := by
      cases ps with
      | nil => rfl
      | cons a b => exact absurd (by simp) h0
    exact (sj_strings_Join_none A c ⟨#[d]⟩ w).mono fun e w1 ⟨he, hw⟩ => ⟨he, hw ▸ Upd.refl _ _⟩
end Go.Proofs.YtignngpligicjaaDoor

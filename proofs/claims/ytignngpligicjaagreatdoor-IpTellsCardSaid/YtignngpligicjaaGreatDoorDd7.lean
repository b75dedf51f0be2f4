/- The document's texts: CutOf. No condition but those that stand in each theorem. -/
import Derived.Test.YtignngpligicjaaGreatDoorDd6
import Derived.Test.YtignngpligicjaaGreatDoorRf0
import Derived.Test.YtignngpligicjaaGreatDoorPfo
namespace Go.Proofs.YtignngpligicjaaGreatDoor
open Go.RowKit

theorem TPf_info2 : (Tryz.prog.info? TPf).map (·.size) = some 2 := by kernel_rfl
/-- What a call hands back of its own block of a prefix and a slot. -/
theorem pref_out2 {fn : Func} {p t : Tmp} {tmps : Array Value} {w : World} {R : Nat} {x y : Value} (h : fn.results = #[.cell p TPf, .tmp t]) (hp : tmps.getD p undef = .pointer (some ⟨R, 0, none⟩)) (hb : Blk w R TPf #[x, y]) :
    (results fn tmps).run Tryz.prog w = .ok (.tuple #[.agg #[x, y], tmps.getD t undef]) w := by
  have hp' : tmps[p]?.getD undef = .pointer (some ⟨R, 0, none⟩) := by simpa using hp
  simp [results, h, hp', asAddr, run_loadVar_row w R TPf TPf #[x, y] (0, 0) _ hb Tryz.underlying23 rfl (by rw [TPf_info2]; rfl)]
theorem pref_set {w : World} {R : Nat} {x y u v : Value} (hb : Blk w R TPf #[x, y]) : Blk ((w.setCell ⟨R, 0, none⟩ u).setCell ⟨R, 1, none⟩ v) R TPf #[u, v] := by
  have := (hb.set_ 0 u).set_ 1 v
  simpa using this
theorem rem_facts (A Z : Nat) (h : A < 4294967296) (hz : 0 < Z) : ∃ B : Nat, B = A % Z ∧ Int.tmod (A : Int) (Z : Int) = (B : Int) ∧ (A : Int) % (Z : Int) = (B : Int) ∧ IntKind.i64.wrap ((A : Int) - (B : Int)) = (A : Int) - (B : Int) ∧ wrap64 ((A : Int) - (B : Int)) = (A : Int) - (B : Int) ∧ ¬ (Z : Int) = 0 := by
  have := Nat.mod_le A Z
  refine ⟨A % Z, rfl, rfl, rfl, ?_, ?_, by omega⟩
  · rw [IntWalk.i64_in _ (by omega)]
  · rw [IntWalk.wrap64_in _ ⟨by omega, by omega⟩]
/-- What the document cuts. -/
def cutV (a n : Int) : Value := if (0 ≤ a ∧ a < 4294967296) ∧ 0 ≤ n ∧ n ≤ 32 then .tuple #[.agg #[.int .i64 (a - (low a.toNat n.toNat : Int)), .int .i64 n], .int .i64 0] else .tuple #[.agg #[.int .i64 0, .int .i64 0], .int .i64 2]

set_option maxRecDepth 50000 in
set_option maxHeartbeats 1000000 in
theorem cutOf_any (a n : Int) (w : World) : Calls Tryz.prog 19 #[.int .i64 a, .int .i64 n] w fun e w1 => e = .returned (cutV a n) ∧ New w w1 := by
  have hA := isAddr_any a
  have N := hide ((Upd.refl (fun _ => False) w).alloc (.cells #[.int .i64 0, .int .i64 0] TPf))
  have HR := hide (Blk.new w TPf #[.int .i64 0, .int .i64 0])
  have bq := HR.out
  have r0 := bq.cell 0
  have r1 := bq.cell 1
  have s0 := bq.frozen 0
  have s1 := bq.frozen 1
  have rz := bq.lt
  simp only [List.getElem?_toArray, List.getElem?_cons_zero, List.getElem?_cons_succ] at r0 r1
  clear bq
  by_cases hr : 0 ≤ a ∧ a < 4294967296
  · have hi : isA a = true := decide_eq_true hr
    rw [hi] at hA
    have HA := hide hA
    clear hA hi
    by_cases h1 : n < 0
    · have He := hide (show cutV a n = .tuple #[.agg #[.int .i64 0, .int .i64 0], .int .i64 2] from if_neg (by omega))
      clear hr
      go_enter Tryz.func19, Tryz.ntmps19
      go_upto_region 1 with (fail)
      generalize w.alloc (.cells #[.int .i64 0, .int .i64 0] TPf) = W at *
      go_wp2_with fail
      refine (HA.out _).mono ?_
      rintro e w1 ⟨rfl, rfl⟩
      go_wp2_with fail
      refine bodyPost_ret (pref_out2 Tryz.results19 rfl (pref_set HR.out)) rfl ⟨by rw [He.out]; rfl, new_set2 N.out (Nat.le_refl _)⟩
    by_cases h2 : 32 < n
    · have He := hide (show cutV a n = .tuple #[.agg #[.int .i64 0, .int .i64 0], .int .i64 2] from if_neg (by omega))
      clear hr
      go_enter Tryz.func19, Tryz.ntmps19
      go_upto_region 1 with (fail)
      generalize w.alloc (.cells #[.int .i64 0, .int .i64 0] TPf) = W at *
      go_wp2_with fail
      refine (HA.out _).mono ?_
      rintro e w1 ⟨rfl, rfl⟩
      go_wp2_with fail
      refine bodyPost_ret (pref_out2 Tryz.results19 rfl (pref_set HR.out)) rfl ⟨by rw [He.out]; rfl, new_set2 N.out (Nat.le_refl _)⟩
    have he : cutV a n = .tuple #[.agg #[.int .i64 (a - (low a.toNat n.toNat : Int)), .int .i64 n], .int .i64 0] := if_pos ⟨hr, by omega, by omega⟩
    have hs := fun w' => sizeOf_any n (by omega) w'
    obtain ⟨A, hA0⟩ := Int.eq_ofNat_of_zero_le hr.1
    have eA : a.toNat = A := by omega
    rw [eA] at he
    unfold low at he
    have hz : 0 < 2 ^ (32 - n.toNat) := Nat.pow_pos (by omega)
    generalize 2 ^ (32 - n.toNat) = Z at *
    obtain ⟨B, hB, q1, q2, q3, q4, q5⟩ := rem_facts A Z (by omega) hz
    rw [← hB] at he
    rw [← hA0] at q1 q3 q4
    have He := hide he
    have Hs := hide hs
    have Q := hide (And.intro q1 (And.intro q3 (And.intro q4 q5)))
    clear he hs hB hz hr q1 q2 q3 q4 q5 eA hA0
    go_enter Tryz.func19, Tryz.ntmps19
    go_upto_region 1 with (fail)
    generalize w.alloc (.cells #[.int .i64 0, .int .i64 0] TPf) = W at *
    go_wp2_with fail
    refine (HA.out _).mono ?_
    rintro e w1 ⟨rfl, rfl⟩
    go_wp2_with fail
    refine (Hs.out _).mono ?_
    rintro e w1 ⟨rfl, rfl⟩
    obtain ⟨q1, q3, q4, q5⟩ := Q.out
    go_wp2_with fail
    refine bodyPost_ret (pref_out2 Tryz.results19 rfl (pref_set HR.out)) rfl ⟨by rw [He.out]; rfl, new_set2 N.out (Nat.le_refl _)⟩
  · have hi : isA a = false := decide_eq_false hr
    rw [hi] at hA
    have HA := hide hA
    have He := hide (show cutV a n = .tuple #[.agg #[.int .i64 0, .int .i64 0], .int .i64 2] from if_neg (fun h => hr h.1))
    clear hA hi hr
    go_enter Tryz.func19, Tryz.ntmps19
    go_upto_region 1 with (fail)
    generalize w.alloc (.cells #[.int .i64 0, .int .i64 0] TPf) = W at *
    go_wp2_with fail
    refine (HA.out _).mono ?_
    rintro e w1 ⟨rfl, rfl⟩
    go_wp2_with fail
    refine bodyPost_ret (pref_out2 Tryz.results19 rfl (pref_set HR.out)) rfl ⟨by rw [He.out]; rfl, new_set2 N.out (Nat.le_refl _)⟩
end Go.Proofs.YtignngpligicjaaGreatDoor

/- The document's texts: ReadPrefix. No condition but those that stand in each theorem. -/
import Derived.Test.YtignngpligicjaaGreatDoorDd8
import Derived.Test.YtignngpligicjaaGreatDoorDd5
import Derived.Test.YtignngpligicjaaGreatDoorCt2
import Derived.Test.YtignngpligicjaaGreatDoorTx5
namespace Go.Proofs.YtignngpligicjaaGreatDoor
open Go.RowKit

/-- What the document reads. -/
def readV (r : Nat × Int × Int) : Value := .tuple #[.agg #[.int .i64 r.2.1, .int .i64 r.2.2], .int .i64 (r.1 : Nat)]

set_option maxRecDepth 20000 in
set_option maxHeartbeats 1000000 in
theorem readPrefRef_any (s : ByteArray) (w : World) (hs : s.size ≤ 1000000) :
    Calls Tryz.prog 13 #[.string s] w fun e w1 => e = .returned (readV (readP s)) ∧ New w w1 := by
  have u := (Upd.refl (fun _ => False) w).alloc (.cells #[.int .i64 0, .int .i64 0] TPf)
  have N := hide u
  have HR := hide (Blk.new w TPf #[.int .i64 0, .int .i64 0])
  have hc := cutRef_any s 47 (w.alloc (.cells #[.int .i64 0, .int .i64 0] TPf)) hs
  have h2 := fun p q h => readP_two (s := s) (p := p) (q := q) h
  have hn := fun h => readP_not (s := s) h
  obtain ⟨R, hR⟩ : ∃ R, R = readP s := ⟨_, rfl⟩
  simp only [← hR] at h2 hn ⊢
  have hpl := cutR_len 47 s.data.toList
  have hpi := cutR_piece 47 s.data.toList
  have hll : s.data.toList.length = s.size := by simp
  generalize cutR 47 s.data.toList = P at *
  have Hc := hide hc
  have H2 := hide h2
  have Hn := hide hn
  have Hpi := hide hpi
  clear hc h2 hn hpi u hR
  go_enter Tryz.func13, Tryz.ntmps13
  go_upto_region 1 with (fail)
  generalize w.alloc (.cells #[.int .i64 0, .int .i64 0] TPf) = W at *
  go_wp2_with fail
  refine Hc.out.mono ?_
  rintro e w1 ⟨v, rfl, ho, hu⟩
  obtain ⟨A, cap, rfl, _, _, hS⟩ := ss_of_own ho
  have HS := hide hS
  have N := hide (N.out.trans_new hu)
  have HR := hide (HR.out.new_ hu)
  clear ho hu hS Hc
  by_cases hp2 : P.length = 2
  rotate_left
  · have i1 : ((P.length : Int) != 2) = true := by
      rw [bne_iff_ne]
      omega
    have He := hide (Hn.out hp2)
    have bq := HR.out
    have r0 := bq.cell 0
    have r1 := bq.cell 1
    have s0 := bq.frozen 0
    have s1 := bq.frozen 1
    have rz := bq.lt
    simp only [List.getElem?_toArray, List.getElem?_cons_zero, List.getElem?_cons_succ] at r0 r1
    clear bq hp2
    go_wp2_with fail
    refine bodyPost_ret (pref_out2 Tryz.results13 rfl (pref_set HR.out)) rfl ⟨by rw [He.out]; rfl, new_set2 N.out (Nat.le_refl _)⟩
  obtain ⟨p, q, rfl⟩ : ∃ p q, P = [p, q] := by
    match P, hp2 with
    | [p, q], _ => exact ⟨p, q, rfl⟩
  clear hp2 Hn hpl
  obtain ⟨hA, hN, hO⟩ := H2.out p q rfl
  obtain ⟨b, o, hAa, hb, hcc⟩ := HS.out (by simp)
  have q0 : w1.cell? ⟨b, o, none⟩ = some (sV p) := hcc 0 p rfl
  have q1 : w1.cell? ⟨b, o + 1, none⟩ = some (sV q) := hcc 1 q rfl
  subst hAa
  unfold sV at q0 q1
  have lp : (⟨p.toArray⟩ : ByteArray).size ≤ 1000000 := by
    have := Hpi.out p (by simp)
    have e : (⟨p.toArray⟩ : ByteArray).size = p.length := by simp [ByteArray.size]
    omega
  have lq : (⟨q.toArray⟩ : ByteArray).size ≤ 1000000 := by
    have := Hpi.out q (by simp)
    have e : (⟨q.toArray⟩ : ByteArray).size = q.length := by simp [ByteArray.size]
    omega
  have hra := fun w' => readAddrRef_any ⟨p.toArray⟩ w' lp
  have hnu := fun w' => numberOf_any ⟨q.toArray⟩ w' lq
  have hnu : ∀ w', Calls Tryz.prog 61 #[.string ⟨q.toArray⟩] w' fun e w2 => e = .returned (.int .i64 (numR q)) ∧ w' = w2 := hnu
  clear lp lq hcc
  generalize readA ⟨p.toArray⟩ = ra at *
  generalize numR q = n at *
  have Hra := hide hra
  have Hnu := hide hnu
  have HA := hide hA
  have HN := hide hN
  have HO := hide hO
  clear hra hnu hA hN hO H2 HS Hpi
  have Q0 := hide q0
  have Q1 := hide q1
  clear q0 q1
  have i1 : (((2 : Nat) : Int) != 2) = false := rfl
  have q0 := Q0.out
  have q1 := Q1.out
  go_wp2_with fail
  refine (Hra.out _).mono ?_
  rintro e w2 ⟨rfl, hu⟩
  have N := hide (N.out.trans_new hu)
  have HR := hide (HR.out.new_ hu)
  have Q1 := hide ((hu.cell hb (fun x => x)).trans Q1.out)
  clear hu q0 q1 Hra
  have q1 := Q1.out
  unfold addrV
  cases ra with
  | none =>
    have He := hide (HA.out rfl)
    dsimp only [Option.isSome, Option.getD]
    go_wp2_with fail
    refine (Hnu.out _).mono ?_
    rintro e w3 ⟨rfl, rfl⟩
    have bq := HR.out
    have r0 := bq.cell 0
    have r1 := bq.cell 1
    have s0 := bq.frozen 0
    have s1 := bq.frozen 1
    have rz := bq.lt
    simp only [List.getElem?_toArray, List.getElem?_cons_zero, List.getElem?_cons_succ] at r0 r1
    clear bq
    go_wp2_with fail
    refine bodyPost_ret (pref_out2 Tryz.results13 rfl (pref_set HR.out)) rfl ⟨by rw [He.out]; rfl, new_set2 N.out (Nat.le_refl _)⟩
  | some a =>
    dsimp only [Option.isSome, Option.getD]
    by_cases hn0 : n < 0
    · have He := hide (HN.out hn0)
      go_wp2_with fail
      refine (Hnu.out _).mono ?_
      rintro e w3 ⟨rfl, rfl⟩
      have bq := HR.out
      have r0 := bq.cell 0
      have r1 := bq.cell 1
      have s0 := bq.frozen 0
      have s1 := bq.frozen 1
      have rz := bq.lt
      simp only [List.getElem?_toArray, List.getElem?_cons_zero, List.getElem?_cons_succ] at r0 r1
      clear bq
      go_wp2_with fail
      refine bodyPost_ret (pref_out2 Tryz.results13 rfl (pref_set HR.out)) rfl ⟨by rw [He.out]; rfl, new_set2 N.out (Nat.le_refl _)⟩
    · have he := HO.out a rfl (by omega)
      have Hp := hide (fun w' => prefixError_any (a : Int) n w')
      clear HA HN HO
      go_wp2_with fail
      refine (Hnu.out _).mono ?_
      rintro e w3 ⟨rfl, rfl⟩
      go_upto_region 9 with (fail)
      have B8 := hide (Blk.new w2 TPf #[.int .i64 (a : Int), .int .i64 n])
      have u := (Upd.refl (fun _ => False) w2).alloc (.cells #[.int .i64 (a : Int), .int .i64 n] TPf)
      have N := hide (N.out.trans_new u)
      have HR := hide (HR.out.new_ u)
      clear u q1 Q1 Q0
      generalize w2.alloc (.cells #[.int .i64 (a : Int), .int .i64 n] TPf) = W2 at *
      generalize w2.heap.size = X at *
      have bq := B8.out
      have t0 := bq.cell 0
      have t1 := bq.cell 1
      have tz := bq.lt
      simp only [List.getElem?_toArray, List.getElem?_cons_zero, List.getElem?_cons_succ] at t0 t1
      clear bq
      by_cases hk : chk a n = 0
      · rw [if_pos hk] at he
        have Hp := hide (fun w' => (by have := Hp.out w'; rw [hk] at this; exact this : Calls Tryz.prog 15 #[.agg #[.int .i64 (a : Int), .int .i64 n]] w' fun e w1 => e = .returned (.int .i64 ((0 : Nat) : Int)) ∧ New w' w1))
        have He := hide he
        clear he hk
        go_wp2_with fail
        refine (Hp.out _).mono ?_
        rintro e w4 ⟨rfl, hu⟩
        have N := hide (N.out.trans_new hu)
        have HR := hide (HR.out.new_ hu)
        have B8 := hide (B8.out.new_ hu)
        clear hu t0 t1 tz
        have bq := B8.out
        have t0 := bq.cell 0
        have t1 := bq.cell 1
        have tz := bq.lt
        simp only [List.getElem?_toArray, List.getElem?_cons_zero, List.getElem?_cons_succ] at t0 t1
        clear bq
        have bq := HR.out
        have r0 := bq.cell 0
        have r1 := bq.cell 1
        have s0 := bq.frozen 0
        have s1 := bq.frozen 1
        have rz := bq.lt
        simp only [List.getElem?_toArray, List.getElem?_cons_zero, List.getElem?_cons_succ] at r0 r1
        clear bq
        go_wp2_with fail
        refine bodyPost_ret (pref_out2 Tryz.results13 rfl (pref_set HR.out)) rfl ⟨by rw [He.out]; rfl, new_set2 N.out (Nat.le_refl _)⟩
      · rw [if_neg hk] at he
        have k3 : 0 < chk a n := by omega
        have He := hide he
        clear he
        generalize chk a n = kc at *
        clear hk
        go_wp2_with fail
        refine (Hp.out _).mono ?_
        rintro e w4 ⟨rfl, hu⟩
        have N := hide (N.out.trans_new hu)
        have HR := hide (HR.out.new_ hu)
        clear hu t0 t1 tz
        have bq := HR.out
        have r0 := bq.cell 0
        have r1 := bq.cell 1
        have s0 := bq.frozen 0
        have s1 := bq.frozen 1
        have rz := bq.lt
        simp only [List.getElem?_toArray, List.getElem?_cons_zero, List.getElem?_cons_succ] at r0 r1
        clear bq
        have k4 : (0 : Int) < (kc : Int) := by omega
        go_wp2_with fail
        refine bodyPost_ret (pref_out2 Tryz.results13 rfl (pref_set HR.out)) rfl ⟨by rw [He.out]; rfl, new_set2 N.out (Nat.le_refl _)⟩
end Go.Proofs.YtignngpligicjaaGreatDoor

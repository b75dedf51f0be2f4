/- Package ip: Read. No condition but those that stand in each theorem. -/
import Derived.Test.YtignngpligicjaaGreatDoorTx4
namespace Go.Proofs.YtignngpligicjaaGreatDoor
open Go.RowKit

/-- What a text reads as: the error's number, the address, the length. -/
def readP (s : ByteArray) : Nat × Int × Int :=
  match (Lib.cut s.data.toList [47]).2.2, readA ⟨(Lib.cut s.data.toList [47]).1.toArray⟩, numV (Lib.cut s.data.toList [47]).2.1 999999999 with
  | true, some a, some n => if chk a n = 0 then (0, (a : Int), n) else (chk a n, 0, 0)
  | _, _, _ => (1, 0, 0)
theorem readP_is {s : ByteArray} (h : (Lib.cut s.data.toList [47]).2.2 = false) : readP s = (1, 0, 0) := by unfold readP; rw [h]
theorem readP_a {s : ByteArray} (h : readA ⟨(Lib.cut s.data.toList [47]).1.toArray⟩ = none) : readP s = (1, 0, 0) := by
  unfold readP
  rw [h]
  cases (Lib.cut s.data.toList [47]).2.2 <;> rfl
theorem readP_n {s : ByteArray} (h : numV (Lib.cut s.data.toList [47]).2.1 999999999 = none) : readP s = (1, 0, 0) := by
  unfold readP
  rw [h]
  cases (Lib.cut s.data.toList [47]).2.2 <;> cases readA ⟨(Lib.cut s.data.toList [47]).1.toArray⟩ <;> rfl
theorem readP_ok (s : ByteArray) (a : Nat) (n : Int) (h1 : (Lib.cut s.data.toList [47]).2.2 = true) (h2 : readA ⟨(Lib.cut s.data.toList [47]).1.toArray⟩ = some a) (h3 : numV (Lib.cut s.data.toList [47]).2.1 999999999 = some n) :
    readP s = if chk a n = 0 then (0, (a : Int), n) else (chk a n, 0, 0) := by unfold readP; rw [h1, h2, h3]
theorem cut_len (l sep : List UInt8) : (Lib.cut l sep).1.length ≤ l.length ∧ (Lib.cut l sep).2.1.length ≤ l.length := by
  unfold Lib.cut
  split
  · exact ⟨by simp; omega, by simp⟩
  · exact ⟨Nat.le_refl _, by simp⟩
set_option maxRecDepth 8000 in
set_option maxHeartbeats 4000000 in
theorem read_any (s : ByteArray) (E : Nat → Addr) (w : World) (h : TxtOk w) (h1 : Sen w gText1 (E 1)) (h2 : Sen w gBound (E 2)) (h3 : Sen w gShape (E 3)) (hs : s.size ≤ 1000000) :
    Calls Tryz.prog 12 #[.string s] w fun e w1 => e = .returned (.tuple #[.agg #[.int .i64 (readP s).2.1, .int .i64 (readP s).2.2], errc E (readP s).1]) ∧ New w w1 := by
  have u := (Upd.refl (fun _ => False) w).alloc (.cells #[.int .i64 0, .int .i64 0] TPf)
  have N := hide u
  have HR := hide (Blk.new w TPf #[.int .i64 0, .int .i64 0])
  have Hcu := hide (show Calls Tryz.prog 67 #[.string s, .string ⟨#[47]⟩] (w.alloc (.cells #[.int .i64 0, .int .i64 0] TPf)) (fun e w1 => e = .returned (.tuple #[.string ⟨(Lib.cut s.data.toList [47]).1.toArray⟩, .string ⟨(Lib.cut s.data.toList [47]).2.1.toArray⟩, .bool (Lib.cut s.data.toList [47]).2.2]) ∧ New (w.alloc (.cells #[.int .i64 0, .int .i64 0] TPf)) w1) from cut_any s ⟨#[47]⟩ _ (h.new u) (by omega))
  have hl := cut_len s.data.toList [47]
  have hsz : s.data.toList.length = s.size := Array.length_toList
  have hz6 : 0 < w.heap.size := h1.lt
  have q6 : ¬ (w.heap.size = 0) := by omega
  have q61 : ¬ (0 = w.heap.size) := by omega
  have H := hide (h.new u)
  have H1 := hide (h1.new u)
  have H2 := hide (h2.new u)
  have H3 := hide (h3.new u)
  clear h h1 h2 h3 u
  obtain ⟨D, hD⟩ : ∃ D, D = (Lib.cut s.data.toList [47]).1 := ⟨_, rfl⟩
  obtain ⟨T, hT⟩ : ∃ T, T = (Lib.cut s.data.toList [47]).2.1 := ⟨_, rfl⟩
  obtain ⟨B, hB⟩ : ∃ B, B = (Lib.cut s.data.toList [47]).2.2 := ⟨_, rfl⟩
  have Ha := hide (@readP_a s)
  have Hn := hide (@readP_n s)
  have Hi := hide (@readP_is s)
  have Ho := hide (readP_ok s)
  rw [← hD, ← hT] at hl
  rw [← hD, ← hT, ← hB] at Hcu
  rw [← hD] at Ha
  rw [← hT] at Hn
  rw [← hB] at Hi
  rw [← hD, ← hT, ← hB] at Ho
  clear hD hT hB
  obtain ⟨P, hP⟩ : ∃ P, P = readP s := ⟨_, rfl⟩
  rw [← hP] at Ha Hn Hi
  have Ho2 := hide (fun (a : Nat) (n : Int) (x1 : B = true) (x2 : readA ⟨D.toArray⟩ = some a) (x3 : numV T 999999999 = some n) => hP.trans (Ho.out a n x1 x2 x3))
  rw [← hP]
  clear Ho hP
  go_enter Tryz.func12, Tryz.ntmps12
  go_upto_region 1 with (fail)
  generalize w.alloc (.cells #[.int .i64 0, .int .i64 0] TPf) = W at *
  go_wp2_with fail
  refine Hcu.out.mono ?_
  rintro e w1 ⟨rfl, hu⟩
  have N := hide (N.out.trans_new hu)
  have HR := hide (HR.out.new_ hu)
  have H := hide (H.out.new hu)
  have H1 := hide (H1.out.new hu)
  have H2 := hide (H2.out.new hu)
  have H3 := hide (H3.out.new hu)
  clear hu Hcu
  have Hra := hide (readAddr_any ⟨D.toArray⟩ E w1 H.out H1.out (by show D.toArray.size ≤ 1000000; simp; omega))
  go_wp2_with fail
  refine Hra.out.mono ?_
  rintro e w2 ⟨hv, hu⟩
  have N := hide (N.out.trans_new hu)
  have HR := hide (HR.out.new_ hu)
  have H := hide (H.out.new hu)
  have H1 := hide (H1.out.new hu)
  have H2 := hide (H2.out.new hu)
  have H3 := hide (H3.out.new hu)
  clear hu Hra
  have Hnu := hide (number_any ⟨T.toArray⟩ 999999999 w2 H.out (by show T.toArray.size ≤ 1000000; simp; omega) (by omega))
  rcases hv with ⟨av, hv, hlt, rfl⟩ | ⟨hv, rfl⟩
  rotate_left
  · have HP := hide (Ha.out hv)
    clear hv
    unfold errv
    cases B with
    | false =>
      go_wp2_with fail
      refine Hnu.out.mono ?_
      rintro e w3 ⟨x, rfl, hx, hu⟩
      have N := hide (N.out.trans_new hu)
      have HR := hide (HR.out.new_ hu)
      have H1 := hide (H1.out.new hu)
      have H2 := hide (H2.out.new hu)
      have H3 := hide (H3.out.new hu)
      clear hu Hnu
      clear hx
      have bq := HR.out
      have r0 := bq.cell 0
      have r1 := bq.cell 1
      have f0 := bq.frozen 0
      have f1 := bq.frozen 1
      have zR := bq.lt
      simp only [List.getElem?_toArray, List.getElem?_cons_zero, List.getElem?_cons_succ] at r0 r1
      clear bq
      have e1 : w3.cell? ⟨0, 0, none⟩ = some (errv (E 1)) := H1.out
      have z1 : 0 < w3.heap.size := H1.out.lt
      unfold errv at e1
      go_wp2_with fail
      go_region
      all_goals
        go_wp2_with fail
        refine bodyPost_ret (pf_err_out Tryz.results12 rfl (pf_set HR.out).drew) rfl ?_
        exact ⟨by rw [HP.out]; rfl, (pf_new N.out (Nat.le_refl _)).drew⟩
    | true =>
      go_wp2_with fail
      refine Hnu.out.mono ?_
      rintro e w3 ⟨x, rfl, hx, hu⟩
      have N := hide (N.out.trans_new hu)
      have HR := hide (HR.out.new_ hu)
      have H1 := hide (H1.out.new hu)
      have H2 := hide (H2.out.new hu)
      have H3 := hide (H3.out.new hu)
      clear hu Hnu
      clear hx
      have bq := HR.out
      have r0 := bq.cell 0
      have r1 := bq.cell 1
      have f0 := bq.frozen 0
      have f1 := bq.frozen 1
      have zR := bq.lt
      simp only [List.getElem?_toArray, List.getElem?_cons_zero, List.getElem?_cons_succ] at r0 r1
      clear bq
      have e1 : w3.cell? ⟨0, 0, none⟩ = some (errv (E 1)) := H1.out
      have z1 : 0 < w3.heap.size := H1.out.lt
      unfold errv at e1
      go_wp2_with fail
      go_region
      all_goals
        go_wp2_with fail
        refine bodyPost_ret (pf_err_out Tryz.results12 rfl (pf_set HR.out).drew) rfl ?_
        exact ⟨by rw [HP.out]; rfl, (pf_new N.out (Nat.le_refl _)).drew⟩
  have Hv := hide hv
  clear hv
  cases B with
  | false =>
    have HP := hide (Hi.out rfl)
    go_wp2_with fail
    refine Hnu.out.mono ?_
    rintro e w3 ⟨x, rfl, hx, hu⟩
    have N := hide (N.out.trans_new hu)
    have HR := hide (HR.out.new_ hu)
    have H1 := hide (H1.out.new hu)
    have H2 := hide (H2.out.new hu)
    have H3 := hide (H3.out.new hu)
    clear hu Hnu
    clear hx
    have bq := HR.out
    have r0 := bq.cell 0
    have r1 := bq.cell 1
    have f0 := bq.frozen 0
    have f1 := bq.frozen 1
    have zR := bq.lt
    simp only [List.getElem?_toArray, List.getElem?_cons_zero, List.getElem?_cons_succ] at r0 r1
    clear bq
    have e1 : w3.cell? ⟨0, 0, none⟩ = some (errv (E 1)) := H1.out
    have z1 : 0 < w3.heap.size := H1.out.lt
    unfold errv at e1
    go_wp2_with fail
    go_region
    all_goals
      go_wp2_with fail
      refine bodyPost_ret (pf_err_out Tryz.results12 rfl (pf_set HR.out).drew) rfl ?_
      exact ⟨by rw [HP.out]; rfl, (pf_new N.out (Nat.le_refl _)).drew⟩
  | true =>
    cases hn : numV T 999999999 with
    | none =>
      have HP := hide (Hn.out hn)
      have hq : (numV (⟨T.toArray⟩ : ByteArray).data.toList 999999999) = none := by simpa using hn
      rw [hq] at Hnu
      clear hn hq
      go_wp2_with fail
      refine Hnu.out.mono ?_
      rintro e w3 ⟨x, rfl, hx, hu⟩
      have N := hide (N.out.trans_new hu)
      have HR := hide (HR.out.new_ hu)
      have H1 := hide (H1.out.new hu)
      have H2 := hide (H2.out.new hu)
      have H3 := hide (H3.out.new hu)
      clear hu Hnu
      clear hx
      have bq := HR.out
      have r0 := bq.cell 0
      have r1 := bq.cell 1
      have f0 := bq.frozen 0
      have f1 := bq.frozen 1
      have zR := bq.lt
      simp only [List.getElem?_toArray, List.getElem?_cons_zero, List.getElem?_cons_succ] at r0 r1
      clear bq
      have e1 : w3.cell? ⟨0, 0, none⟩ = some (errv (E 1)) := H1.out
      have z1 : 0 < w3.heap.size := H1.out.lt
      unfold errv at e1
      go_wp2_with fail
      go_region
      all_goals
        go_wp2_with fail
        refine bodyPost_ret (pf_err_out Tryz.results12 rfl (pf_set HR.out).drew) rfl ?_
        exact ⟨by rw [HP.out]; rfl, (pf_new N.out (Nat.le_refl _)).drew⟩
    | some n =>
      have HP0 := hide (Ho2.out av n rfl Hv.out hn)
      have hq : (numV (⟨T.toArray⟩ : ByteArray).data.toList 999999999) = some n := by simpa using hn
      rw [hq] at Hnu
      clear hn hq
      go_wp2_with fail
      refine Hnu.out.mono ?_
      rintro e w3 ⟨x, rfl, hx, hu⟩
      have N := hide (N.out.trans_new hu)
      have HR := hide (HR.out.new_ hu)
      have H1 := hide (H1.out.new hu)
      have H2 := hide (H2.out.new hu)
      have H3 := hide (H3.out.new hu)
      clear hu Hnu
      obtain rfl := hx _ rfl
      clear hx
      by_cases hc : chk av x = 0
      · have HP := hide (HP0.out.trans (if_pos hc))
        have Hck := hide (check_yes av x E (w3.alloc (.cells #[.int .i64 av, .int .i64 x] TPf)) (H2.out.new ((Upd.refl (fun _ => False) w3).alloc _)) (H3.out.new ((Upd.refl (fun _ => False) w3).alloc _)) hc)
        have B3 := hide (Blk.new w3 TPf #[.int .i64 av, .int .i64 x])
        have N3 := hide ((Upd.refl (fun _ => False) w3).alloc (.cells #[.int .i64 av, .int .i64 x] TPf))
        have hne : ¬ w.heap.size = w3.heap.size := by have := HR.out.lt; omega
        have hne2 : ¬ w3.heap.size = w.heap.size := by omega
        clear hc
        go_upto_region 7 with (fail)
        generalize w3.alloc (.cells #[.int .i64 av, .int .i64 x] TPf) = W3 at *
        generalize w3.heap.size = X at *
        have bq := B3.out
        have b0 := bq.cell 0
        have b1 := bq.cell 1
        have zB := bq.lt
        simp only [List.getElem?_toArray, List.getElem?_cons_zero, List.getElem?_cons_succ] at b0 b1
        clear bq
        go_wp2_with fail
        refine Hck.out.mono ?_
        rintro e w4 ⟨rfl, hu⟩
        have N4 := hide (N.out.trans_new (N3.out.trans_new hu))
        have HR4 := hide ((HR.out.new_ N3.out).new_ hu)
        have bq := B3.out.new_ hu
        have d0 := bq.cell 0
        have d1 := bq.cell 1
        have zD := bq.lt
        simp only [List.getElem?_toArray, List.getElem?_cons_zero, List.getElem?_cons_succ] at d0 d1
        clear bq b0 b1 zB
        have bq := HR4.out
        have r0 := bq.cell 0
        have r1 := bq.cell 1
        have f0 := bq.frozen 0
        have f1 := bq.frozen 1
        have zR := bq.lt
        simp only [List.getElem?_toArray, List.getElem?_cons_zero, List.getElem?_cons_succ] at r0 r1
        clear bq hu
        go_wp2_with fail
        refine bodyPost_ret (pf_err_out Tryz.results12 rfl (pf_set HR4.out)) rfl ?_
        exact ⟨by rw [HP.out]; rfl, pf_new N4.out (Nat.le_refl _)⟩
      · have HP := hide (HP0.out.trans (if_neg hc))
        have hck := check_no av x E (w3.alloc (.cells #[.int .i64 av, .int .i64 x] TPf)) (H2.out.new ((Upd.refl (fun _ => False) w3).alloc _)) (H3.out.new ((Upd.refl (fun _ => False) w3).alloc _)) hc
        unfold errv at hck
        have Hck := hide hck
        have He := hide (show errc E (chk av x) = errv (E (chk av x)) from by unfold errc; rw [if_neg hc])
        have B3 := hide (Blk.new w3 TPf #[.int .i64 av, .int .i64 x])
        have N3 := hide ((Upd.refl (fun _ => False) w3).alloc (.cells #[.int .i64 av, .int .i64 x] TPf))
        have hne : ¬ w.heap.size = w3.heap.size := by have := HR.out.lt; omega
        have hne2 : ¬ w3.heap.size = w.heap.size := by omega
        clear hc hck
        go_upto_region 7 with (fail)
        generalize w3.alloc (.cells #[.int .i64 av, .int .i64 x] TPf) = W3 at *
        generalize w3.heap.size = X at *
        have bq := B3.out
        have b0 := bq.cell 0
        have b1 := bq.cell 1
        have zB := bq.lt
        simp only [List.getElem?_toArray, List.getElem?_cons_zero, List.getElem?_cons_succ] at b0 b1
        clear bq
        go_wp2_with fail
        refine Hck.out.mono ?_
        rintro e w4 ⟨rfl, hu⟩
        have N4 := hide (N.out.trans_new (N3.out.trans_new hu))
        have HR4 := hide ((HR.out.new_ N3.out).new_ hu)
        clear b0 b1 zB
        have bq := HR4.out
        have r0 := bq.cell 0
        have r1 := bq.cell 1
        have f0 := bq.frozen 0
        have f1 := bq.frozen 1
        have zR := bq.lt
        simp only [List.getElem?_toArray, List.getElem?_cons_zero, List.getElem?_cons_succ] at r0 r1
        clear bq hu
        go_wp2_with fail
        refine bodyPost_ret (pf_err_out Tryz.results12 rfl (pf_set HR4.out)) rfl ?_
        exact ⟨by rw [HP.out, He.out]; rfl, pf_new N4.out (Nat.le_refl _)⟩
end Go.Proofs.YtignngpligicjaaGreatDoor

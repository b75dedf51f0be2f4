/- The reference's Drop. No condition but those that stand in each theorem. -/
import Derived.Test.YtkljanjapcpbdaaDoorTl2
import Derived.Test.YtkljanjapcpbdaaDoorLs
namespace Go.Proofs.YtkljanjapcpbdaaDoor
open Go.RowKit

def hasP (a n : Int) (x : E3) : Bool := x.a == a && x.n == n
def rdropC (L : List E3) (a n : Int) : Nat × List E3 :=
  if chk a n ≠ 0 then (chk a n, L) else if 0 ≤ idxB (hasP a n) L then (0, L.take (idxB (hasP a n) L).toNat ++ L.drop ((idxB (hasP a n) L).toNat + 1)) else (5, L)
theorem rdropC_chk {L : List E3} {a n : Int} (h : chk a n ≠ 0) : rdropC L a n = (chk a n, L) := by unfold rdropC; rw [if_pos h]
theorem rdropC_at {L : List E3} {a n : Int} {k : Nat} (h : chk a n = 0) (h1 : idxB (hasP a n) L = k) : rdropC L a n = (0, L.take k ++ L.drop (k + 1)) := by unfold rdropC; rw [if_neg (by simp [h]), h1, if_pos (by omega), Int.toNat_natCast]
theorem rdropC_none {L : List E3} {a n : Int} (h : chk a n = 0) (h1 : idxB (hasP a n) L = -1) : rdropC L a n = (5, L) := by unfold rdropC; rw [if_neg (by simp [h]), h1, if_neg (by omega)]

set_option maxRecDepth 8000 in
set_option maxHeartbeats 4000000 in
theorem rdrop_any (B y : Nat) (ms : Int) (L : List E3) (G : Nat → Prop) (a n : Int) (w : World) (hT : TabL B w y ms L G) (hl : L.length ≤ 1000) (hB : B ≤ w.heap.size) :
    Calls Tryd.prog 28 #[.pointer (some ⟨y, 0, none⟩), .agg #[.int .i64 a, .int .i64 n]] w fun e w1 =>
      e = .returned (.int .i64 (rdropC L a n).1) ∧ ∃ G', TabL B w1 y ms (rdropC L a n).2 G' ∧ (∀ k, G' k → G k ∨ w.heap.size ≤ k) ∧ Upd G w w1 := by
  obtain ⟨A, cap, hb, ho, hr, hc, hG, hgy, hfo⟩ := hT.open_
  have hByy := hT.from_
  have Hby := hide hByy
  generalize hn : L.length = len at *
  have u := (Upd.refl (fun _ => False) w).alloc (.cells #[.int .i64 a, .int .i64 n] 51)
  have Hbp := hide (Blk.new w 51 #[.int .i64 a, .int .i64 n])
  have Hb := hide (hb.new_ u)
  have Hr := hide (hr.new_ u)
  have Ho := hide (own_keep ho u (fun _ _ x => x))
  have HG := hide hG
  have Hgy := hide hgy
  have Hfo := hide hfo
  have Hn := hide hn
  have Hu := hide u
  have HT := hide hT
  have Hc := hide hc
  have Hy := hide hb.lt
  have HB0 := hide hB
  clear hb hr ho hG hn u hT hc hgy hByy hfo
  have Hpe := hide (prefixError_any a n (w.alloc (.cells #[.int .i64 a, .int .i64 n] 51)))
  obtain ⟨i0, hi0, hz0, hz1, hz2⟩ := info_parts info_TRE
  have g1 := guard_pfx
  have g2 := eql_pfx
  go_enter Tryd.func28, Tryd.ntmps28
  go_wp2_with fail
  generalize (w.alloc (.cells #[.int .i64 a, .int .i64 n] 51)) = W at *
  refine Hpe.out.mono ?_
  rintro e w1 ⟨rfl, hu1⟩
  by_cases k1 : chk a n = 0
  · have Hchk := hide k1
    rw [k1]
    clear k1
    have N1 := hide (Hu.out.trans_new hu1)
    have U1 := hide hu1
    clear hu1
    have bb := Hb.out.new_ U1.out
    have c1 := bb.cell 1
    have zy := bb.lt
    simp only [List.getElem?_toArray, List.getElem?_cons_zero, List.getElem?_cons_succ] at c1
    clear bb
    go_wp2_with fail
    clear c1 zy
    go_loopw [6] (fun i wr => ∃ j : Nat, j ≤ len ∧ i = .int .i64 j ∧ New W wr ∧ ∀ (i : Nat) x, i < j → L[i]? = some x → hasP a n x = false) (fun i _ => len - (intOf i).toNat)
    case atStart => exact ⟨0, by omega, rfl, U1.out, fun i x h => absurd h (by omega)⟩
    case round =>
      obtain ⟨j, hj, rfl, hnew, hz⟩ := hrel
      have Hz := hide hz
      have Hnew := hide hnew
      have bb := Hb.out.new_ hnew
      have c1 := bb.cell 1
      have zy := bb.lt
      have fy := bb.frozen 1
      have pp := Hbp.out.new_ hnew
      have p0 := pp.cell 0
      have p1 := pp.cell 1
      have zp := pp.lt
      simp only [List.getElem?_toArray, List.getElem?_cons_zero, List.getElem?_cons_succ] at c1 p0 p1
      clear bb pp hz
      by_cases hlt : j < len
      · obtain ⟨b, o, x, hA, hb, hx, d0, d1, d2⟩ := (Hr.out.new_ hnew).e3 (k := j) (by have := Hn.out; omega)
        have Hx := hide hx
        have i3 : (j : Int) < (len : Int) := by omega
        subst hA
        have hlc : len ≤ cap := Hc.out
        have hjc : j ≤ cap := by omega
        obtain ⟨wx, rfl⟩ : ∃ wx : World, wx = wr := ⟨_, rfl⟩
        have N2 := hide hnew
        have Hrx := hide (Hr.out.new_ N2.out)
        clear hnew hx
        cases he : hasP a n x with
        | true =>
          have he2 : (x.a == a && x.n == n) = true := he
          have He := hide (rdropC_at (L := L) Hchk.out (idxB_at (hasP a n) L j x Hx.out he Hz.out))
          clear he
          by_cases hcj : cap = j + 1
          · obtain rfl : len = j + 1 := by omega
            subst hcj
            go_upto_region 7 with (fail)
            go_quiet (fail)
            go_wp2_with (at_builtin; refine append_src rfl (.tmp 32) (.tmp 38) 52 rfl wx.heap.size TRE i0 _ 3 24 Tryd.underlying52 hi0 hz0 hz1 hz2 rfl (by omega) (.slice none 0 0) 0 [] rfl (World.ownsRow_nil _ _ _ _) (some ⟨b, o, none⟩) j (j + 1) (rows (L.take j)) rfl (by rw [rows_len, List.length_take]; have := Hn.out; omega) (fun _ => ⟨_, _, rfl, part_take Hrx.out j⟩) (e3_one _) (by unfold maxLen; omega) (by omega) (Nat.le_refl _) ?_)
            intro v1 w3 ho3 hg3
            have u3 : New wx w3 := (Upd.drewN (Upd.refl _ wx) _).trans_new (grown_new hg3)
            have N3 := hide (N2.out.trans_new u3)
            have U3 := hide u3
            have Ho3 := hide (show w3.ownsRow wx.heap.size TRE 3 v1 j (rows (L.take j)) by simpa using ho3)
            have bb := Hb.out.new_ N3.out
            have c1 := bb.cell 1
            have zy := bb.lt
            have fy := bb.frozen 1
            simp only [List.getElem?_toArray, List.getElem?_cons_zero, List.getElem?_cons_succ] at c1
            have Hrx4 := hide (Hr.out.new_ N3.out)
            have z3 := u3.size
            clear bb u3 ho3 hg3
            go_wp2_with (at_builtin; refine append_src rfl (.tmp 41) (.tmp 48) 52 rfl wx.heap.size TRE i0 _ 3 24 Tryd.underlying52 hi0 hz0 hz1 hz2 rfl (by omega) v1 j (rows (L.take j)) rfl Ho3.out _ _ _ (rows (L.drop (j + 1))) rfl (by rw [rows_len, List.length_drop, Hn.out]; simp) (fun h => absurd h (by first | omega | simp)) (e3_one _) (by unfold maxLen; omega) (by omega) z3 ?_)
            intro v3 w5 ho5 hg5
            have n5 : New wx w5 := U3.out.trans (grown_upd (S := fun q => v1.ownBlock = some q) hg5 fun g h => h) fun q hq hx => by have := (Ho3.out.lt q hx).1; omega
            have N5 := hide (N2.out.trans_new n5)
            have Ho5 := hide (show w5.ownsRow wx.heap.size TRE 3 v3 (L.take j ++ L.drop (j + 1)).length (rows (L.take j ++ L.drop (j + 1))) by
              rw [rows_app]
              have e2 : (L.take j ++ L.drop (j + 1)).length = j + ((j + 1) - (j + 1)) := by
                rw [List.length_append, List.length_take, List.length_drop, Hn.out]
                omega
              rw [e2]
              first | exact ho5 | simpa using ho5)
            have bb := Hb.out.new_ N5.out
            have c1 := bb.cell 1
            have zy := bb.lt
            have fy := bb.frozen 1
            simp only [List.getElem?_toArray, List.getElem?_cons_zero, List.getElem?_cons_succ] at c1
            have HB5 := hide bb
            have N5x := hide n5
            clear bb n5 ho5 hg5
            obtain ⟨L5, hL5⟩ : ∃ L5 : List E3, L5 = L.take j ++ L.drop (j + 1) := ⟨_, rfl⟩
            rw [← hL5] at Ho5
            have HL5 := hide hL5
            clear hL5
            obtain ⟨A3, cap3, rfl, _⟩ := rws_of_own (by omega) Ho5.out (e3_size _)
            obtain ⟨N5L, hN5L⟩ : ∃ N5L, N5L = L5.length := ⟨_, rfl⟩
            rw [← hN5L] at Ho5 ⊢
            have HN5L := hide hN5L
            clear hN5L
            go_wp2_with fail
            go_ret
            have hGy : G y := by rw [HG.out]; exact .inl rfl
            have hfr := fun q (hq : (Value.slice A3 N5L cap3).ownBlock = some q) => (Ho5.out.lt q hq).1
            have hwx : w.heap.size ≤ wx.heap.size := (Hu.out.trans_new N2.out).size
            have hyx : y < wx.heap.size := Nat.lt_of_lt_of_le Hy.out hwx
            refine ⟨by rw [He.out]; rfl, fun k => k = y ∨ (Value.slice A3 N5L cap3).ownBlock = some k, ⟨⟨.slice A3 N5L cap3, ?_, ?_, rfl⟩, Hby.out⟩, ?_, ?_⟩
            · have := HB5.out.set_ 1 (.slice A3 N5L cap3)
              simpa using this
            · rw [He.out, ← HL5.out, ← HN5L.out]
              exact own_keep (S := fun k => k = y) (own_mono Ho5.out (Nat.le_trans HB0.out hwx)) ((Upd.refl (fun k => k = y) w5).setCell (p := ⟨y, 1, none⟩) (.inl rfl) _) (fun q hq e => by have := hfr q hq; omega)
            · rintro k (rfl | hk)
              · exact .inl hGy
              · exact .inr (Nat.le_trans hwx (hfr k hk))
            · exact (Upd.of_new (Hu.out.trans_new N5.out)).setCell (p := ⟨y, 1, none⟩) (.inl hGy) _

          · skip
            go_upto_region 7 with (fail)
            go_quiet (fail)
            go_wp2_with (at_builtin; refine append_src rfl (.tmp 32) (.tmp 38) 52 rfl wx.heap.size TRE i0 _ 3 24 Tryd.underlying52 hi0 hz0 hz1 hz2 rfl (by omega) (.slice none 0 0) 0 [] rfl (World.ownsRow_nil _ _ _ _) (some ⟨b, o, none⟩) j cap (rows (L.take j)) rfl (by rw [rows_len, List.length_take]; have := Hn.out; omega) (fun _ => ⟨_, _, rfl, part_take Hrx.out j⟩) (e3_one _) (by unfold maxLen; omega) (by omega) (Nat.le_refl _) ?_)
            intro v1 w3 ho3 hg3
            have u3 : New wx w3 := (Upd.drewN (Upd.refl _ wx) _).trans_new (grown_new hg3)
            have N3 := hide (N2.out.trans_new u3)
            have U3 := hide u3
            have Ho3 := hide (show w3.ownsRow wx.heap.size TRE 3 v1 j (rows (L.take j)) by simpa using ho3)
            have bb := Hb.out.new_ N3.out
            have c1 := bb.cell 1
            have zy := bb.lt
            have fy := bb.frozen 1
            simp only [List.getElem?_toArray, List.getElem?_cons_zero, List.getElem?_cons_succ] at c1
            have Hrx4 := hide (Hr.out.new_ N3.out)
            have z3 := u3.size
            clear bb u3 ho3 hg3
            go_wp2_with (at_builtin; refine append_src rfl (.tmp 41) (.tmp 48) 52 rfl wx.heap.size TRE i0 _ 3 24 Tryd.underlying52 hi0 hz0 hz1 hz2 rfl (by omega) v1 j (rows (L.take j)) rfl Ho3.out _ _ _ (rows (L.drop (j + 1))) rfl (by rw [rows_len, List.length_drop, Hn.out]) (fun h => ⟨b, o + (j + 1) * 3, (by first | rfl | (rw [if_neg (by omega)]) | (simp; omega)), part_drop Hrx4.out (j + 1)⟩) (e3_one _) (by unfold maxLen; omega) (by omega) z3 ?_)
            intro v3 w5 ho5 hg5
            have n5 : New wx w5 := U3.out.trans (grown_upd (S := fun q => v1.ownBlock = some q) hg5 fun g h => h) fun q hq hx => by have := (Ho3.out.lt q hx).1; omega
            have N5 := hide (N2.out.trans_new n5)
            have Ho5 := hide (show w5.ownsRow wx.heap.size TRE 3 v3 (L.take j ++ L.drop (j + 1)).length (rows (L.take j ++ L.drop (j + 1))) by
              rw [rows_app]
              have e2 : (L.take j ++ L.drop (j + 1)).length = j + (len - (j + 1)) := by
                rw [List.length_append, List.length_take, List.length_drop, Hn.out]
                omega
              rw [e2]
              first | exact ho5 | simpa using ho5)
            have bb := Hb.out.new_ N5.out
            have c1 := bb.cell 1
            have zy := bb.lt
            have fy := bb.frozen 1
            simp only [List.getElem?_toArray, List.getElem?_cons_zero, List.getElem?_cons_succ] at c1
            have HB5 := hide bb
            have N5x := hide n5
            clear bb n5 ho5 hg5
            obtain ⟨L5, hL5⟩ : ∃ L5 : List E3, L5 = L.take j ++ L.drop (j + 1) := ⟨_, rfl⟩
            rw [← hL5] at Ho5
            have HL5 := hide hL5
            clear hL5
            obtain ⟨A3, cap3, rfl, _⟩ := rws_of_own (by omega) Ho5.out (e3_size _)
            obtain ⟨N5L, hN5L⟩ : ∃ N5L, N5L = L5.length := ⟨_, rfl⟩
            rw [← hN5L] at Ho5 ⊢
            have HN5L := hide hN5L
            clear hN5L
            go_wp2_with fail
            go_ret
            have hGy : G y := by rw [HG.out]; exact .inl rfl
            have hfr := fun q (hq : (Value.slice A3 N5L cap3).ownBlock = some q) => (Ho5.out.lt q hq).1
            have hwx : w.heap.size ≤ wx.heap.size := (Hu.out.trans_new N2.out).size
            have hyx : y < wx.heap.size := Nat.lt_of_lt_of_le Hy.out hwx
            refine ⟨by rw [He.out]; rfl, fun k => k = y ∨ (Value.slice A3 N5L cap3).ownBlock = some k, ⟨⟨.slice A3 N5L cap3, ?_, ?_, rfl⟩, Hby.out⟩, ?_, ?_⟩
            · have := HB5.out.set_ 1 (.slice A3 N5L cap3)
              simpa using this
            · rw [He.out, ← HL5.out, ← HN5L.out]
              exact own_keep (S := fun k => k = y) (own_mono Ho5.out (Nat.le_trans HB0.out hwx)) ((Upd.refl (fun k => k = y) w5).setCell (p := ⟨y, 1, none⟩) (.inl rfl) _) (fun q hq e => by have := hfr q hq; omega)
            · rintro k (rfl | hk)
              · exact .inl hGy
              · exact .inr (Nat.le_trans hwx (hfr k hk))
            · exact (Upd.of_new (Hu.out.trans_new N5.out)).setCell (p := ⟨y, 1, none⟩) (.inl hGy) _

        | false =>
          have he2 : (x.a == a && x.n == n) = false := he
          have Hee := hide he
          clear he
          go_upto_region 7 with (fail)
          go_quiet (fail)
          go_wp2_with fail
          refine ⟨⟨j + 1, by omega, by go_num, Hnew.out.drewN _, fun i z hi hz => ?_⟩, by simp [intOf]; omega⟩
          by_cases hij : i < j
          · exact Hz.out i z hij hz
          · obtain rfl : i = j := by omega
            rw [Hx.out] at hz; injection hz with hz; subst hz; exact Hee.out
      · have He := hide (rdropC_none (L := L) Hchk.out (idxB_no (hasP a n) L fun i z hz => Hz.out i z (by have := (List.getElem?_eq_some_iff.1 hz).1; have := Hn.out; omega) hz))
        have i3 : ¬ (j : Int) < (len : Int) := by omega
        go_wp2_with fail
        go_ret
        exact ⟨by rw [He.out]; rfl, G, by rw [He.out]; exact HT.out.new (Hu.out.trans_new Hnew.out), fun k hk => .inl hk, .of_new (Hu.out.trans_new Hnew.out)⟩
  · have He := hide (rdropC_chk (L := L) k1)
    have n1 := Hu.out.trans_new hu1
    generalize chk a n = kc at *
    have k2 : 0 < kc := by omega
    have k4 : (0 : Int) < (kc : Int) := by omega
    clear k1
    go_wp2_with fail
    go_ret
    exact ⟨by rw [He.out]; rfl, G, by rw [He.out]; exact HT.out.new n1, fun k hk => .inl hk, .of_new n1⟩
end Go.Proofs.YtkljanjapcpbdaaDoor

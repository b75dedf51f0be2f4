/- The reference's Put. No condition but those that stand in each theorem. -/
import Derived.Test.YtkljanjapcpbdaaDoorTl1
import Derived.Test.YtkljanjapcpbdaaDoorRg
import Derived.Deep.Cut
namespace Go.Proofs.YtkljanjapcpbdaaDoor
open Go.RowKit

/-- How many come ahead of a prefix: the first ones. -/
def cntA (L : List E3) (a n : Int) : Nat := (L.takeWhile fun x => aheadB x.a x.n a n).length
theorem cntA_at : ∀ (L : List E3) (a n : Int) (k : Nat), k ≤ L.length → (∀ (i : Nat) x, i < k → L[i]? = some x → aheadB x.a x.n a n = true) → (∀ x, L[k]? = some x → aheadB x.a x.n a n = false) → cntA L a n = k := by
  intro L
  induction L with
  | nil => intro a n k h _ _; simp at h; subst h; rfl
  | cons y L ih =>
    intro a n k hk h1 h2
    cases k with
    | zero =>
      have := h2 y rfl
      simp [cntA, List.takeWhile, this]
    | succ k =>
      have h0 := h1 0 y (by omega) rfl
      have := ih a n k (by simpa using hk) (fun i x hi hx => h1 (i + 1) x (by omega) (by simpa using hx)) (fun x hx => h2 x (by simpa using hx))
      unfold cntA at this ⊢
      simp [List.takeWhile, h0, this]
/-- The entry there has this prefix. -/
def isAt (L : List E3) (k : Nat) (a n : Int) : Bool := match L[k]? with | some x => x.a == a && x.n == n | none => false
theorem isAt_some {L : List E3} {k : Nat} {a n : Int} {x : E3} (h : L[k]? = some x) : isAt L k a n = (x.a == a && x.n == n) := by unfold isAt; rw [h]
theorem isAt_none {L : List E3} {k : Nat} {a n : Int} (h : L[k]? = none) : isAt L k a n = false := by unfold isAt; rw [h]
/-- What the reference's Put answers, and leaves. -/
def rputC (ms : Int) (L : List E3) (a n hop : Int) : Nat × List E3 :=
  if chk a n ≠ 0 then (chk a n, L) else if isAt L (cntA L a n) a n = true then (0, L.set (cntA L a n) ⟨a, n, hop⟩)
  else if ms ≤ L.length then (7, L) else (0, L.take (cntA L a n) ++ ⟨a, n, hop⟩ :: L.drop (cntA L a n))
theorem rputC_chk {ms : Int} {L : List E3} {a n hop : Int} (h : chk a n ≠ 0) : rputC ms L a n hop = (chk a n, L) := by unfold rputC; rw [if_pos h]
theorem rputC_old {ms : Int} {L : List E3} {a n hop : Int} (h : chk a n = 0) (h1 : isAt L (cntA L a n) a n = true) : rputC ms L a n hop = (0, L.set (cntA L a n) ⟨a, n, hop⟩) := by unfold rputC; rw [if_neg (by simp [h]), if_pos h1]
theorem rputC_full {ms : Int} {L : List E3} {a n hop : Int} (h : chk a n = 0) (h1 : isAt L (cntA L a n) a n = false) (h2 : ms ≤ L.length) : rputC ms L a n hop = (7, L) := by unfold rputC; rw [if_neg (by simp [h]), if_neg (by simp [h1]), if_pos h2]
theorem rputC_new {ms : Int} {L : List E3} {a n hop : Int} (h : chk a n = 0) (h1 : isAt L (cntA L a n) a n = false) (h2 : ¬ ms ≤ L.length) : rputC ms L a n hop = (0, L.take (cntA L a n) ++ ⟨a, n, hop⟩ :: L.drop (cntA L a n)) := by unfold rputC; rw [if_neg (by simp [h]), if_neg (by simp [h1]), if_neg h2]

theorem rows_cons (x : E3) (L : List E3) : rows (x :: L) = [.int .i64 x.a, .int .i64 x.n, .int .i64 x.h] ++ rows L := by simp [rows, flat, E3.cells]
theorem rows_set : ∀ {L : List E3} {k : Nat} {x : E3} {hop : Int}, L[k]? = some x → (rows L).set (k * 3 + 2) (.int .i64 hop) = rows (L.set k ⟨x.a, x.n, hop⟩) := by
  intro L
  induction L with
  | nil => intro k x hop h; simp at h
  | cons y L ih =>
    intro k x hop h
    cases k with
    | zero =>
      simp at h
      subst h
      rw [List.set_cons_zero, rows_cons, rows_cons]
      rfl
    | succ k =>
      have h1 := ih (hop := hop) (show L[k]? = some x by simpa using h)
      rw [List.set_cons_succ, rows_cons, rows_cons, ← h1, show (k + 1) * 3 + 2 = (k * 3 + 2) + 3 by omega]
      rfl
theorem own_mono {w : World} {base base' : Nat} {e : TypeId} {size : Nat} {v : Value} {n : Nat} {xs : List Value} (h : w.ownsRow base e size v n xs) (hb : base' ≤ base) : w.ownsRow base' e size v n xs :=
  ⟨h.1, h.2.imp id fun ⟨g, cap, cur, h1, h2, h3⟩ => ⟨g, cap, cur, h1, Nat.le_trans hb h2, h3⟩⟩
theorem row_cells2 {W : World} {g : Nat} {cs : Array Value} {t : TypeId} (hg : g = W.heap.size) : ∀ (j : Nat) (u : Value), cs.toList[j]? = some u → (W.alloc (.cells cs t)).cell? ⟨g, 0 + j, none⟩ = some u := fun j u hu => by
  subst hg
  rw [Nat.zero_add, (Blk.new W t cs).cell]
  simpa using hu
/-- Part of a row. -/
theorem part_at {w : World} {b o : Nat} {L : List E3} (h : Rws w (some ⟨b, o, none⟩) 3 (L.map E3.cells)) (k m : Nat) : ∀ (j : Nat) (u : Value), (rows ((L.drop k).take m))[j]? = some u → w.cell? ⟨b, o + k * 3 + j, none⟩ = some u := fun j u hu => by
  have hj := (List.getElem?_eq_some_iff.1 hu).1
  rw [rows_len] at hj
  have hlen : ((L.drop k).take m).length ≤ L.length - k := by rw [List.length_take, List.length_drop]; exact Nat.min_le_right _ _
  have hlen2 : ((L.drop k).take m).length ≤ m := by rw [List.length_take]; exact Nat.min_le_left _ _
  obtain ⟨b', o', hA, hf⟩ := Rws.flat (by omega) h (e3_size L) (by rw [List.length_map]; omega)
  injection hA with hA
  injection hA with h1 h2
  subst h1; subst h2
  have h1 : ((L.drop k).take m)[j / 3]? = some (((L.drop k).take m)[j / 3]'(by omega)) := List.getElem?_eq_getElem (by omega)
  have h2 := rows_get h1 (j % 3) (by omega)
  rw [Nat.div_add_mod' j 3, hu] at h2
  have h3 : L[k + j / 3]? = some (((L.drop k).take m)[j / 3]'(by omega)) := by
    rw [← h1, List.getElem?_take, if_pos (by omega), List.getElem?_drop]
  have h4 := rows_get h3 (j % 3) (by omega)
  rw [← h2] at h4
  have := hf _ u h4
  rw [Nat.add_assoc, show k * 3 + j = (k + j / 3) * 3 + j % 3 by omega]
  exact this
theorem part_drop {w : World} {b o : Nat} {L : List E3} (h : Rws w (some ⟨b, o, none⟩) 3 (L.map E3.cells)) (k : Nat) : ∀ (j : Nat) (u : Value), (rows (L.drop k))[j]? = some u → w.cell? ⟨b, o + k * 3 + j, none⟩ = some u := fun j u hu =>
  part_at h k L.length j u (by rw [List.take_of_length_le (by simp)]; exact hu)
theorem part_take {w : World} {b o : Nat} {L : List E3} (h : Rws w (some ⟨b, o, none⟩) 3 (L.map E3.cells)) (m : Nat) : ∀ (j : Nat) (u : Value), (rows (L.take m))[j]? = some u → w.cell? ⟨b, o + j, none⟩ = some u := fun j u hu => by
  have := part_at h 0 m j u (by simpa using hu)
  simpa using this

set_option maxRecDepth 8000 in
set_option maxHeartbeats 4000000 in
theorem rput_any (B y : Nat) (ms : Int) (L : List E3) (G : Nat → Prop) (a n hop : Int) (w : World) (hT : TabL B w y ms L G) (hl : L.length ≤ 1000) (hB : B ≤ w.heap.size) :
    Calls Tryd.prog 26 #[.pointer (some ⟨y, 0, none⟩), .agg #[.int .i64 a, .int .i64 n], .int .i64 hop] w fun e w1 =>
      e = .returned (.int .i64 (rputC ms L a n hop).1) ∧ ∃ G', TabL B w1 y ms (rputC ms L a n hop).2 G' ∧ (∀ k, G' k → G k ∨ w.heap.size ≤ k) ∧ Upd G w w1 := by
  obtain ⟨A, cap, hb, ho, hr, hc, hG, hgy, hfo⟩ := hT.open_
  have hByy := hT.from_
  have Hby := hide hByy
  generalize hn : L.length = len at *
  have u := (Upd.refl (fun _ => False) w).alloc (.cells #[.int .i64 a, .int .i64 n] 51)
  have Hbp := hide (Blk.new w 51 #[.int .i64 a, .int .i64 n])
  have Hb := hide (hb.new_ u)
  have Hr := hide (hr.new_ u)
  have Ho := hide (own_keep ho u (fun _ _ x => x))
  have HG := hide hG
  have Hgy := hide hgy
  have Hfo := hide hfo
  have Hn := hide hn
  have Hu := hide u
  have HT := hide hT
  have Hc := hide hc
  have Hy := hide hb.lt
  have HB0 := hide hB
  clear hb hr ho hG hn u hT hc hgy hByy hfo
  have Hpe := hide (prefixError_any a n (w.alloc (.cells #[.int .i64 a, .int .i64 n] 51)))
  obtain ⟨i0, hi0, hz0, hz1, hz2⟩ := info_parts info_TRE
  have g1 := guard_pfx
  have g2 := eql_pfx
  go_enter Tryd.func26, Tryd.ntmps26
  go_wp2_with fail
  generalize (w.alloc (.cells #[.int .i64 a, .int .i64 n] 51)) = W at *
  refine Hpe.out.mono ?_
  rintro e w1 ⟨rfl, hu1⟩
  by_cases k1 : chk a n = 0
  · have Hchk := hide k1
    rw [k1]
    clear k1
    have N1 := hide (Hu.out.trans_new hu1)
    have U1 := hide hu1
    clear hu1
    have bb := Hb.out.new_ U1.out
    have c1 := bb.cell 1
    have zy := bb.lt
    simp only [List.getElem?_toArray, List.getElem?_cons_zero, List.getElem?_cons_succ] at c1
    clear bb
    go_wp2_with fail
    clear c1 zy
    go_loopw [8] (fun i wr => ∃ j : Nat, j ≤ len ∧ i = .int .i64 j ∧ New W wr ∧ ∀ (i : Nat) x, i < j → L[i]? = some x → aheadB x.a x.n a n = true) (fun i _ => len - (intOf i).toNat)
    case atStart => exact ⟨0, by omega, rfl, U1.out, fun i x h => absurd h (by omega)⟩
    case round =>
      obtain ⟨j, hj, rfl, hnew, hz⟩ := hrel
      have Hz := hide hz
      have Hnew := hide hnew
      have bb := Hb.out.new_ hnew
      have c0 := bb.cell 0
      have c1 := bb.cell 1
      have zy := bb.lt
      have fy := bb.frozen 1
      have pp := Hbp.out.new_ hnew
      have p0 := pp.cell 0
      have p1 := pp.cell 1
      have zp := pp.lt
      simp only [List.getElem?_toArray, List.getElem?_cons_zero, List.getElem?_cons_succ] at c0 c1 p0 p1
      clear bb pp hz
      by_cases hlt : j < len
      · obtain ⟨b, o, x, hA, hb, hx, d0, d1, d2⟩ := (Hr.out.new_ hnew).e3 (k := j) (by have := Hn.out; omega)
        have HA := hide hA
        have Hx := hide hx
        have i3 : (j : Int) < (len : Int) := by omega
        subst hA
        have hah := isAhead_any x.a x.n a n
        obtain ⟨wo, rfl⟩ : ∃ wo : World, wo = wr := ⟨_, rfl⟩
        clear hnew hx
        cases hah2 : aheadB x.a x.n a n with
        | true =>
          rw [hah2] at hah
          have Hah := hide hah
          have Hah2 := hide hah2
          clear hah hah2
          go_upto_region 6 with (fail)
          refine wp_region_new wo (Upd.refl _ _) (by kernel_rfl) (by kernel_rfl) ?_
          repeat (go_big_quiet_step ((go_at_call 77; exact new_call (Hah.out _))))
          refine wpQuiet_nil ?_
          rintro _ ⟨nq, rfl⟩
          have nn := nq.h
          go_wp2_with fail
          refine ⟨⟨j + 1, by omega, by go_num, Hnew.out.trans_new nn, fun i z hi hz => ?_⟩, by simp [intOf]; omega⟩
          by_cases hij : i < j
          · exact Hz.out i z hij hz
          · obtain rfl : i = j := by omega
            rw [Hx.out] at hz; injection hz with hz; subst hz; exact Hah2.out
        | false =>
          rw [hah2] at hah
          have Hah := hide hah
          have Hcn := hide (cntA_at L a n j (by have := Hn.out; omega) Hz.out (fun z hz => by rw [Hx.out] at hz; injection hz with hz; subst hz; exact hah2))
          clear hah hah2
          go_upto_region 6 with (fail)
          refine wp_region_new wo (Upd.refl _ _) (by kernel_rfl) (by kernel_rfl) ?_
          repeat (go_big_quiet_step ((go_at_call 77; exact new_call (Hah.out _))))
          refine wpQuiet_nil ?_
          rintro _ ⟨nq, rfl⟩
          have n2 := Hnew.out.trans_new nq.h
          have N2 := hide n2
          have c0 := (nq.h.cell zy (fun x => x)).trans c0
          have c1 := (nq.h.cell zy (fun x => x)).trans c1
          have p0 := (nq.h.cell zp (fun x => x)).trans p0
          have p1 := (nq.h.cell zp (fun x => x)).trans p1
          have d0 := (nq.h.cell hb (fun x => x)).trans d0
          have d1 := (nq.h.cell hb (fun x => x)).trans d1
          have d2 := (nq.h.cell hb (fun x => x)).trans d2
          have zy := Nat.lt_of_lt_of_le zy nq.h.size
          have zp := Nat.lt_of_lt_of_le zp nq.h.size
          have hb := Nat.lt_of_lt_of_le hb nq.h.size
          have fy := (nq.h.frozen ‹_› (fun x => x)).trans fy
          have N2 := hide n2
          generalize nq.w = wx at *
          clear n2
          cases he : (x.a == a && x.n == n) with
          | true =>
            have Hat := hide (show isAt L j a n = true by rw [isAt_some Hx.out]; exact he)
            have He := hide (rputC_old (ms := ms) (hop := hop) Hchk.out (by rw [Hcn.out]; exact Hat.out))
            have hfr : wx.frozen? ⟨b, o + j * 3 + 2, none⟩ = false := by
              have h := own_keep Ho.out N2.out (fun _ _ x => x)
              rcases Hfo.out with ⟨h1, h2, h3⟩ | ⟨g, h1⟩
              · cases h1
              · injection h1 with h1
                injection h1 with h4 h5
                subst h4; subst h5
                exact h.frozenAt _
            go_upto_region 10 with (fail)
            go_quiet (fail)
            go_wp2_with fail
            go_ret
            have hxa : x.a = a ∧ x.n = n := by simpa using he
            obtain ⟨hxa1, hxa2⟩ := hxa
            have hoa : Hid (o = 0) := hide (by
              rcases Hfo.out with ⟨h1, h2, h3⟩ | ⟨g, h1⟩
              · cases h1
              · injection h1 with h1
                injection h1)
            have nf := Hu.out.trans_new N2.out
            have hob := own_keep Ho.out N2.out (fun _ _ x => x)
            have hbk := Hb.out.new_ N2.out
            have hGb : G b := by rw [HG.out]; exact .inr (by rw [hoa.out]; rfl)
            have hby : b ≠ y := Hgy.out b (by rw [hoa.out]; rfl)
            rw [hoa.out] at hob hbk
            have hst := (hob.stored (j * 3 + 2) (.int .i64 hop)).1
            rw [rows_set Hx.out, hxa1, hxa2] at hst
            refine ⟨by rw [He.out]; rfl, G, ?_, fun k hk => .inl hk, ?_⟩
            · rw [He.out, Hcn.out]
              refine ⟨⟨.slice (some ⟨b, 0, none⟩) len cap, ?_, ?_, ?_⟩, Hby.out⟩
              · have h := Blk.far hbk (p := ⟨b, o + j * 3 + 2, none⟩) (fun e => hby e.symm) (.int .i64 hop)
                exact Blk.drewN h _
              · rw [hoa.out, Nat.zero_add]
                have hle : (L.set j (⟨a, n, hop⟩ : E3)).length = len := by rw [List.length_set]; exact Hn.out
                rw [hle]
                exact own_keep hst ((Upd.refl (fun _ => False) _).drewN _) (fun _ _ x => x)
              · rw [HG.out, hoa.out]
            · exact Upd.drewN ((Upd.of_new nf).setCell (p := ⟨b, o + j * 3 + 2, none⟩) (.inl hGb) _) _
          | false =>
            have Hat := hide (show isAt L j a n = false by rw [isAt_some Hx.out]; exact he)
            have hjl : j ≤ len := by omega
            have hlc : len ≤ cap := Hc.out
            have hjc : j ≤ cap := by omega
            have hcj : ¬ cap = j := by omega
            go_upto_region 10 with (fail)
            go_quiet (fail)
            by_cases hfull : ms ≤ (len : Int)
            · have He := hide (rputC_full (hop := hop) (L := L) Hchk.out (by rw [Hcn.out]; exact Hat.out) (by rw [Hn.out]; exact hfull))
              go_upto_region 13 with (fail)
              go_quiet (fail)
              go_wp2_with fail
              go_ret
              exact ⟨by rw [He.out]; rfl, G, by rw [He.out]; exact HT.out.new (Upd.drewN (Hu.out.trans_new N2.out) _), fun k hk => .inl hk, .of_new (Upd.drewN (Hu.out.trans_new N2.out) _)⟩
            · have He := hide (rputC_new (hop := hop) (L := L) Hchk.out (by rw [Hcn.out]; exact Hat.out) (by rw [Hn.out]; exact hfull))
              go_upto_region 13 with (fail)
              go_quiet (fail)
              have Hrx := hide (Hr.out.new_ N2.out)
              skip
              go_wp2_with (at_builtin; refine append_src rfl (.tmp 72) (.tmp 78) 52 rfl wx.heap.size TRE i0 _ 3 24 Tryd.underlying52 hi0 hz0 hz1 hz2 rfl (by omega) (.slice none 0 0) 0 [] rfl (World.ownsRow_nil _ _ _ _) (some ⟨b, o, none⟩) j cap (rows (L.take j)) rfl (by rw [rows_len, List.length_take]; have := Hn.out; omega) (fun _ => ⟨_, _, rfl, part_take Hrx.out j⟩) (e3_one _) (by unfold maxLen; omega) (by omega) (Nat.le_refl _) ?_)
              intro v1 w3 ho3 hg3
              have u3 : New wx w3 := (Upd.drewN (Upd.refl _ wx) _).trans_new (grown_new hg3)
              have N3 := hide (N2.out.trans_new u3)
              have U3 := hide u3
              have Ho3 := hide (show w3.ownsRow wx.heap.size TRE 3 v1 j (rows (L.take j)) by simpa using ho3)
              have bb := Hb.out.new_ N3.out
              have c1 := bb.cell 1
              have zy := bb.lt
              have fy := bb.frozen 1
              have pp := Hbp.out.new_ N3.out
              have p0 := pp.cell 0
              have p1 := pp.cell 1
              have zp := pp.lt
              simp only [List.getElem?_toArray, List.getElem?_cons_zero, List.getElem?_cons_succ] at c1 p0 p1
              have z3 : wx.heap.size ≤ (w3.alloc (.cells #[.int .i64 a, .int .i64 n, .int .i64 hop] TRE)).heap.size := (u3.alloc _).size
              clear bb pp u3 ho3 hg3
              go_wp2_with (at_builtin; refine append_src rfl (.tmp 80) (.tmp 84) 52 rfl wx.heap.size TRE i0 _ 3 24 Tryd.underlying52 hi0 hz0 hz1 hz2 rfl (by omega) v1 j (rows (L.take j)) rfl (own_keep Ho3.out ((Upd.refl (fun _ => False) _).alloc _) (fun _ _ x => x)) (some ⟨w3.heap.size, 0, none⟩) 1 1 [.int .i64 a, .int .i64 n, .int .i64 hop] rfl rfl (fun _ => ⟨_, _, rfl, row_cells2 rfl⟩) (by simp [Value.oneCell']) (by unfold maxLen; omega) (by omega) z3 ?_)
              intro v2 w4 ho4 hg4
              have n4 : New wx w4 := (U3.out.alloc _).trans (grown_upd (S := fun q => v1.ownBlock = some q) hg4 fun g h => h) fun q hq hx => by have := (Ho3.out.lt q hx).1; omega
              have N4 := hide (N2.out.trans_new n4)
              have Ho4 := hide (show w4.ownsRow wx.heap.size TRE 3 v2 (j + 1) (rows (L.take j ++ [⟨a, n, hop⟩])) by rw [rows_app]; exact ho4)
              have bb := Hb.out.new_ N4.out
              have c1 := bb.cell 1
              have zy := bb.lt
              have fy := bb.frozen 1
              simp only [List.getElem?_toArray, List.getElem?_cons_zero, List.getElem?_cons_succ] at c1
              have Hrx4 := hide (Hr.out.new_ N4.out)
              skip
              have z4 := n4.size
              clear bb p0 p1 zp z3 ho4 hg4
              go_wp2_with (at_builtin; refine append_src rfl (.tmp 87) (.tmp 93) 52 rfl wx.heap.size TRE i0 _ 3 24 Tryd.underlying52 hi0 hz0 hz1 hz2 rfl (by omega) v2 (j + 1) (rows (L.take j ++ [⟨a, n, hop⟩])) rfl Ho4.out _ _ _ (rows (L.drop j)) rfl (by rw [rows_len, List.length_drop, Hn.out]) (fun h => ⟨b, o + j * 3, (by have := Hc.out; first | rfl | (rw [if_neg (by omega)]) | (simp; omega)), part_drop Hrx4.out j⟩) (e3_one _) (by unfold maxLen; omega) (by omega) z4 ?_)
              intro v3 w5 ho5 hg5
              have n5 : New wx w5 := n4.trans (grown_upd (S := fun q => v2.ownBlock = some q) hg5 fun g h => h) fun q hq hx => by have := (Ho4.out.lt q hx).1; omega
              have N5 := hide (N2.out.trans_new n5)
              have Ho5 := hide (show w5.ownsRow wx.heap.size TRE 3 v3 (L.take j ++ ⟨a, n, hop⟩ :: L.drop j).length (rows (L.take j ++ ⟨a, n, hop⟩ :: L.drop j)) by
                have e1 : L.take j ++ ⟨a, n, hop⟩ :: L.drop j = (L.take j ++ [⟨a, n, hop⟩]) ++ L.drop j := by simp
                rw [e1, rows_app]
                have e2 : ((L.take j ++ [(⟨a, n, hop⟩ : E3)]) ++ L.drop j).length = j + 1 + (len - j) := by
                  rw [List.length_append, List.length_append, List.length_take, List.length_drop, Hn.out, List.length_singleton]
                  omega
                rw [e2]
                first | exact ho5 | simpa using ho5)
              have bb := Hb.out.new_ N5.out
              have c1 := bb.cell 1
              have zy := bb.lt
              have fy := bb.frozen 1
              simp only [List.getElem?_toArray, List.getElem?_cons_zero, List.getElem?_cons_succ] at c1
              have HB5 := hide bb
              have N5x := hide n5
              clear bb n4 n5 ho5 hg5
              obtain ⟨L5, hL5⟩ : ∃ L5 : List E3, L5 = L.take j ++ ⟨a, n, hop⟩ :: L.drop j := ⟨_, rfl⟩
              rw [← hL5] at Ho5
              have HL5 := hide hL5
              clear hL5
              obtain ⟨A3, cap3, rfl, _⟩ := rws_of_own (by omega) Ho5.out (e3_size _)
              obtain ⟨N5L, hN5L⟩ : ∃ N5L, N5L = L5.length := ⟨_, rfl⟩
              rw [← hN5L] at Ho5 ⊢
              have HN5L := hide hN5L
              clear hN5L
              go_wp2_with fail
              go_ret
              have hGy : G y := by rw [HG.out]; exact .inl rfl
              have hfr := fun q (hq : (Value.slice A3 N5L cap3).ownBlock = some q) => (Ho5.out.lt q hq).1
              have hwx : w.heap.size ≤ wx.heap.size := (Hu.out.trans_new N2.out).size
              have hyx : y < wx.heap.size := Nat.lt_of_lt_of_le Hy.out hwx
              refine ⟨by rw [He.out]; rfl, fun k => k = y ∨ (Value.slice A3 N5L cap3).ownBlock = some k, ⟨⟨.slice A3 N5L cap3, ?_, ?_, rfl⟩, Hby.out⟩, ?_, ?_⟩
              · have := HB5.out.set_ 1 (.slice A3 N5L cap3)
                simpa using this
              · rw [He.out, Hcn.out, ← HL5.out, ← HN5L.out]
                exact own_keep (S := fun k => k = y) (own_mono Ho5.out (Nat.le_trans HB0.out hwx)) ((Upd.refl (fun k => k = y) w5).setCell (p := ⟨y, 1, none⟩) (.inl rfl) _) (fun q hq e => by have := hfr q hq; omega)
              · rintro k (rfl | hk)
                · exact .inl hGy
                · exact .inr (Nat.le_trans hwx (hfr k hk))
              · exact (Upd.of_new (Hu.out.trans_new N5.out)).setCell (p := ⟨y, 1, none⟩) (.inl hGy) _
      · have hjk : j = len := by omega
        have i3 : ¬ (j : Int) < (len : Int) := by omega
        have Hcn := hide (cntA_at L a n j (by have := Hn.out; omega) Hz.out (fun z hz => by have := (List.getElem?_eq_some_iff.1 hz).1; have := Hn.out; omega))
        have Hat := hide (show isAt L j a n = false from isAt_none (List.getElem?_eq_none (by have := Hn.out; omega)))
        obtain ⟨wx, rfl⟩ : ∃ wx : World, wx = wr := ⟨_, rfl⟩
        have N2 := hide Hnew.out
        clear hlt
        subst hjk
        go_wp2_with fail
        rcases Hfo.out with ⟨h1, h2, h3⟩ | ⟨b, h1⟩
        · subst h1; subst h2; subst h3
          by_cases hfull : ms ≤ (0 : Int)
          · have He := hide (rputC_full (hop := hop) (L := L) Hchk.out (by rw [Hcn.out]; exact Hat.out) (by rw [Hn.out]; exact hfull))
            go_upto_region 13 with (fail)
            go_quiet (fail)
            go_wp2_with fail
            go_ret
            exact ⟨by rw [He.out]; rfl, G, by rw [He.out]; exact HT.out.new (Upd.drewN (Hu.out.trans_new N2.out) _), fun k hk => .inl hk, .of_new (Upd.drewN (Hu.out.trans_new N2.out) _)⟩
          · have He := hide (rputC_new (hop := hop) (L := L) Hchk.out (by rw [Hcn.out]; exact Hat.out) (by rw [Hn.out]; exact hfull))
            go_upto_region 13 with (fail)
            go_quiet (fail)
            have Hrx := hide (Hr.out.new_ N2.out)
            skip
            go_wp2_with (at_builtin; refine append_src rfl (.tmp 72) (.tmp 78) 52 rfl wx.heap.size TRE i0 _ 3 24 Tryd.underlying52 hi0 hz0 hz1 hz2 rfl (by omega) (.slice none 0 0) 0 [] rfl (World.ownsRow_nil _ _ _ _) none 0 0 (rows (L.take 0)) rfl rfl (fun h => absurd h (by omega)) (e3_one _) (by unfold maxLen; omega) (by omega) (Nat.le_refl _) ?_)
            intro v1 w3 ho3 hg3
            have u3 : New wx w3 := (Upd.drewN (Upd.refl _ wx) _).trans_new (grown_new hg3)
            have N3 := hide (N2.out.trans_new u3)
            have U3 := hide u3
            have Ho3 := hide (show w3.ownsRow wx.heap.size TRE 3 v1 0 (rows (L.take 0)) by simpa using ho3)
            have bb := Hb.out.new_ N3.out
            have c1 := bb.cell 1
            have zy := bb.lt
            have fy := bb.frozen 1
            have pp := Hbp.out.new_ N3.out
            have p0 := pp.cell 0
            have p1 := pp.cell 1
            have zp := pp.lt
            simp only [List.getElem?_toArray, List.getElem?_cons_zero, List.getElem?_cons_succ] at c1 p0 p1
            have z3 : wx.heap.size ≤ (w3.alloc (.cells #[.int .i64 a, .int .i64 n, .int .i64 hop] TRE)).heap.size := (u3.alloc _).size
            clear bb pp u3 ho3 hg3
            go_wp2_with (at_builtin; refine append_src rfl (.tmp 80) (.tmp 84) 52 rfl wx.heap.size TRE i0 _ 3 24 Tryd.underlying52 hi0 hz0 hz1 hz2 rfl (by omega) v1 0 (rows (L.take 0)) rfl (own_keep Ho3.out ((Upd.refl (fun _ => False) _).alloc _) (fun _ _ x => x)) (some ⟨w3.heap.size, 0, none⟩) 1 1 [.int .i64 a, .int .i64 n, .int .i64 hop] rfl rfl (fun _ => ⟨_, _, rfl, row_cells2 rfl⟩) (by simp [Value.oneCell']) (by unfold maxLen; omega) (by omega) z3 ?_)
            intro v2 w4 ho4 hg4
            have n4 : New wx w4 := (U3.out.alloc _).trans (grown_upd (S := fun q => v1.ownBlock = some q) hg4 fun g h => h) fun q hq hx => by have := (Ho3.out.lt q hx).1; omega
            have N4 := hide (N2.out.trans_new n4)
            have Ho4 := hide (show w4.ownsRow wx.heap.size TRE 3 v2 (0 + 1) (rows (L.take 0 ++ [⟨a, n, hop⟩])) by rw [rows_app]; exact ho4)
            have bb := Hb.out.new_ N4.out
            have c1 := bb.cell 1
            have zy := bb.lt
            have fy := bb.frozen 1
            simp only [List.getElem?_toArray, List.getElem?_cons_zero, List.getElem?_cons_succ] at c1
            have Hrx4 := hide (Hr.out.new_ N4.out)
            skip
            have z4 := n4.size
            clear bb p0 p1 zp z3 ho4 hg4
            go_wp2_with (at_builtin; refine append_src rfl (.tmp 87) (.tmp 93) 52 rfl wx.heap.size TRE i0 _ 3 24 Tryd.underlying52 hi0 hz0 hz1 hz2 rfl (by omega) v2 (0 + 1) (rows (L.take 0 ++ [⟨a, n, hop⟩])) rfl Ho4.out none 0 0 (rows (L.drop 0)) rfl (by rw [rows_len, List.length_drop, Hn.out]) (fun h => absurd h (by omega)) (e3_one _) (by unfold maxLen; omega) (by omega) z4 ?_)
            intro v3 w5 ho5 hg5
            have n5 : New wx w5 := n4.trans (grown_upd (S := fun q => v2.ownBlock = some q) hg5 fun g h => h) fun q hq hx => by have := (Ho4.out.lt q hx).1; omega
            have N5 := hide (N2.out.trans_new n5)
            have Ho5 := hide (show w5.ownsRow wx.heap.size TRE 3 v3 (L.take 0 ++ ⟨a, n, hop⟩ :: L.drop 0).length (rows (L.take 0 ++ ⟨a, n, hop⟩ :: L.drop 0)) by
              have e1 : L.take 0 ++ ⟨a, n, hop⟩ :: L.drop 0 = (L.take 0 ++ [⟨a, n, hop⟩]) ++ L.drop 0 := by simp
              rw [e1, rows_app]
              have e2 : ((L.take 0 ++ [(⟨a, n, hop⟩ : E3)]) ++ L.drop 0).length = 0 + 1 + (0 - 0) := by
                rw [List.length_append, List.length_append, List.length_take, List.length_drop, Hn.out, List.length_singleton]
                omega
              rw [e2]
              first | exact ho5 | simpa using ho5)
            have bb := Hb.out.new_ N5.out
            have c1 := bb.cell 1
            have zy := bb.lt
            have fy := bb.frozen 1
            simp only [List.getElem?_toArray, List.getElem?_cons_zero, List.getElem?_cons_succ] at c1
            have HB5 := hide bb
            have N5x := hide n5
            clear bb n4 n5 ho5 hg5
            obtain ⟨L5, hL5⟩ : ∃ L5 : List E3, L5 = L.take 0 ++ ⟨a, n, hop⟩ :: L.drop 0 := ⟨_, rfl⟩
            rw [← hL5] at Ho5
            have HL5 := hide hL5
            clear hL5
            obtain ⟨A3, cap3, rfl, _⟩ := rws_of_own (by omega) Ho5.out (e3_size _)
            obtain ⟨N5L, hN5L⟩ : ∃ N5L, N5L = L5.length := ⟨_, rfl⟩
            rw [← hN5L] at Ho5 ⊢
            have HN5L := hide hN5L
            clear hN5L
            go_wp2_with fail
            go_ret
            have hGy : G y := by rw [HG.out]; exact .inl rfl
            have hfr := fun q (hq : (Value.slice A3 N5L cap3).ownBlock = some q) => (Ho5.out.lt q hq).1
            have hwx : w.heap.size ≤ wx.heap.size := (Hu.out.trans_new N2.out).size
            have hyx : y < wx.heap.size := Nat.lt_of_lt_of_le Hy.out hwx
            refine ⟨by rw [He.out]; rfl, fun k => k = y ∨ (Value.slice A3 N5L cap3).ownBlock = some k, ⟨⟨.slice A3 N5L cap3, ?_, ?_, rfl⟩, Hby.out⟩, ?_, ?_⟩
            · have := HB5.out.set_ 1 (.slice A3 N5L cap3)
              simpa using this
            · rw [He.out, Hcn.out, ← HL5.out, ← HN5L.out]
              exact own_keep (S := fun k => k = y) (own_mono Ho5.out (Nat.le_trans HB0.out hwx)) ((Upd.refl (fun k => k = y) w5).setCell (p := ⟨y, 1, none⟩) (.inl rfl) _) (fun q hq e => by have := hfr q hq; omega)
            · rintro k (rfl | hk)
              · exact .inl hGy
              · exact .inr (Nat.le_trans hwx (hfr k hk))
            · exact (Upd.of_new (Hu.out.trans_new N5.out)).setCell (p := ⟨y, 1, none⟩) (.inl hGy) _

        · subst h1
          have hlc : j ≤ cap := Hc.out
          by_cases hcj : cap = j
          · subst hcj
            by_cases hfull : ms ≤ (cap : Int)
            · have He := hide (rputC_full (hop := hop) (L := L) Hchk.out (by rw [Hcn.out]; exact Hat.out) (by rw [Hn.out]; exact hfull))
              go_upto_region 13 with (fail)
              go_quiet (fail)
              go_wp2_with fail
              go_ret
              exact ⟨by rw [He.out]; rfl, G, by rw [He.out]; exact HT.out.new (Upd.drewN (Hu.out.trans_new N2.out) _), fun k hk => .inl hk, .of_new (Upd.drewN (Hu.out.trans_new N2.out) _)⟩
            · have He := hide (rputC_new (hop := hop) (L := L) Hchk.out (by rw [Hcn.out]; exact Hat.out) (by rw [Hn.out]; exact hfull))
              go_upto_region 13 with (fail)
              go_quiet (fail)
              have Hrx := hide (Hr.out.new_ N2.out)
              skip
              go_wp2_with (at_builtin; refine append_src rfl (.tmp 72) (.tmp 78) 52 rfl wx.heap.size TRE i0 _ 3 24 Tryd.underlying52 hi0 hz0 hz1 hz2 rfl (by omega) (.slice none 0 0) 0 [] rfl (World.ownsRow_nil _ _ _ _) (some ⟨b, 0, none⟩) cap cap (rows (L.take cap)) rfl (by rw [rows_len, List.length_take]; have := Hn.out; omega) (fun _ => ⟨_, _, rfl, part_take Hrx.out cap⟩) (e3_one _) (by unfold maxLen; omega) (by omega) (Nat.le_refl _) ?_)
              intro v1 w3 ho3 hg3
              have u3 : New wx w3 := (Upd.drewN (Upd.refl _ wx) _).trans_new (grown_new hg3)
              have N3 := hide (N2.out.trans_new u3)
              have U3 := hide u3
              have Ho3 := hide (show w3.ownsRow wx.heap.size TRE 3 v1 cap (rows (L.take cap)) by simpa using ho3)
              have bb := Hb.out.new_ N3.out
              have c1 := bb.cell 1
              have zy := bb.lt
              have fy := bb.frozen 1
              have pp := Hbp.out.new_ N3.out
              have p0 := pp.cell 0
              have p1 := pp.cell 1
              have zp := pp.lt
              simp only [List.getElem?_toArray, List.getElem?_cons_zero, List.getElem?_cons_succ] at c1 p0 p1
              have z3 : wx.heap.size ≤ (w3.alloc (.cells #[.int .i64 a, .int .i64 n, .int .i64 hop] TRE)).heap.size := (u3.alloc _).size
              clear bb pp u3 ho3 hg3
              go_wp2_with (at_builtin; refine append_src rfl (.tmp 80) (.tmp 84) 52 rfl wx.heap.size TRE i0 _ 3 24 Tryd.underlying52 hi0 hz0 hz1 hz2 rfl (by omega) v1 cap (rows (L.take cap)) rfl (own_keep Ho3.out ((Upd.refl (fun _ => False) _).alloc _) (fun _ _ x => x)) (some ⟨w3.heap.size, 0, none⟩) 1 1 [.int .i64 a, .int .i64 n, .int .i64 hop] rfl rfl (fun _ => ⟨_, _, rfl, row_cells2 rfl⟩) (by simp [Value.oneCell']) (by unfold maxLen; omega) (by omega) z3 ?_)
              intro v2 w4 ho4 hg4
              have n4 : New wx w4 := (U3.out.alloc _).trans (grown_upd (S := fun q => v1.ownBlock = some q) hg4 fun g h => h) fun q hq hx => by have := (Ho3.out.lt q hx).1; omega
              have N4 := hide (N2.out.trans_new n4)
              have Ho4 := hide (show w4.ownsRow wx.heap.size TRE 3 v2 (cap + 1) (rows (L.take cap ++ [⟨a, n, hop⟩])) by rw [rows_app]; exact ho4)
              have bb := Hb.out.new_ N4.out
              have c1 := bb.cell 1
              have zy := bb.lt
              have fy := bb.frozen 1
              simp only [List.getElem?_toArray, List.getElem?_cons_zero, List.getElem?_cons_succ] at c1
              have Hrx4 := hide (Hr.out.new_ N4.out)
              skip
              have z4 := n4.size
              clear bb p0 p1 zp z3 ho4 hg4
              go_wp2_with (at_builtin; refine append_src rfl (.tmp 87) (.tmp 93) 52 rfl wx.heap.size TRE i0 _ 3 24 Tryd.underlying52 hi0 hz0 hz1 hz2 rfl (by omega) v2 (cap + 1) (rows (L.take cap ++ [⟨a, n, hop⟩])) rfl Ho4.out _ _ _ (rows (L.drop cap)) rfl (by rw [rows_len, List.length_drop, Hn.out]; first | rfl | simp) (fun h => absurd h (by first | omega | simp)) (e3_one _) (by unfold maxLen; omega) (by omega) z4 ?_)
              intro v3 w5 ho5 hg5
              have n5 : New wx w5 := n4.trans (grown_upd (S := fun q => v2.ownBlock = some q) hg5 fun g h => h) fun q hq hx => by have := (Ho4.out.lt q hx).1; omega
              have N5 := hide (N2.out.trans_new n5)
              have Ho5 := hide (show w5.ownsRow wx.heap.size TRE 3 v3 (L.take cap ++ ⟨a, n, hop⟩ :: L.drop cap).length (rows (L.take cap ++ ⟨a, n, hop⟩ :: L.drop cap)) by
                have e1 : L.take cap ++ ⟨a, n, hop⟩ :: L.drop cap = (L.take cap ++ [⟨a, n, hop⟩]) ++ L.drop cap := by simp
                rw [e1, rows_app]
                have e2 : ((L.take cap ++ [(⟨a, n, hop⟩ : E3)]) ++ L.drop cap).length = cap + 1 + (cap - cap) := by
                  rw [List.length_append, List.length_append, List.length_take, List.length_drop, Hn.out, List.length_singleton]
                  omega
                rw [e2]
                first | exact ho5 | simpa using ho5)
              have bb := Hb.out.new_ N5.out
              have c1 := bb.cell 1
              have zy := bb.lt
              have fy := bb.frozen 1
              simp only [List.getElem?_toArray, List.getElem?_cons_zero, List.getElem?_cons_succ] at c1
              have HB5 := hide bb
              have N5x := hide n5
              clear bb n4 n5 ho5 hg5
              obtain ⟨L5, hL5⟩ : ∃ L5 : List E3, L5 = L.take cap ++ ⟨a, n, hop⟩ :: L.drop cap := ⟨_, rfl⟩
              rw [← hL5] at Ho5
              have HL5 := hide hL5
              clear hL5
              obtain ⟨A3, cap3, rfl, _⟩ := rws_of_own (by omega) Ho5.out (e3_size _)
              obtain ⟨N5L, hN5L⟩ : ∃ N5L, N5L = L5.length := ⟨_, rfl⟩
              rw [← hN5L] at Ho5 ⊢
              have HN5L := hide hN5L
              clear hN5L
              go_wp2_with fail
              go_ret
              have hGy : G y := by rw [HG.out]; exact .inl rfl
              have hfr := fun q (hq : (Value.slice A3 N5L cap3).ownBlock = some q) => (Ho5.out.lt q hq).1
              have hwx : w.heap.size ≤ wx.heap.size := (Hu.out.trans_new N2.out).size
              have hyx : y < wx.heap.size := Nat.lt_of_lt_of_le Hy.out hwx
              refine ⟨by rw [He.out]; rfl, fun k => k = y ∨ (Value.slice A3 N5L cap3).ownBlock = some k, ⟨⟨.slice A3 N5L cap3, ?_, ?_, rfl⟩, Hby.out⟩, ?_, ?_⟩
              · have := HB5.out.set_ 1 (.slice A3 N5L cap3)
                simpa using this
              · rw [He.out, Hcn.out, ← HL5.out, ← HN5L.out]
                exact own_keep (S := fun k => k = y) (own_mono Ho5.out (Nat.le_trans HB0.out hwx)) ((Upd.refl (fun k => k = y) w5).setCell (p := ⟨y, 1, none⟩) (.inl rfl) _) (fun q hq e => by have := hfr q hq; omega)
              · rintro k (rfl | hk)
                · exact .inl hGy
                · exact .inr (Nat.le_trans hwx (hfr k hk))
              · exact (Upd.of_new (Hu.out.trans_new N5.out)).setCell (p := ⟨y, 1, none⟩) (.inl hGy) _

          · skip
            by_cases hfull : ms ≤ (j : Int)
            · have He := hide (rputC_full (hop := hop) (L := L) Hchk.out (by rw [Hcn.out]; exact Hat.out) (by rw [Hn.out]; exact hfull))
              go_upto_region 13 with (fail)
              go_quiet (fail)
              go_wp2_with fail
              go_ret
              exact ⟨by rw [He.out]; rfl, G, by rw [He.out]; exact HT.out.new (Upd.drewN (Hu.out.trans_new N2.out) _), fun k hk => .inl hk, .of_new (Upd.drewN (Hu.out.trans_new N2.out) _)⟩
            · have He := hide (rputC_new (hop := hop) (L := L) Hchk.out (by rw [Hcn.out]; exact Hat.out) (by rw [Hn.out]; exact hfull))
              go_upto_region 13 with (fail)
              go_quiet (fail)
              have Hrx := hide (Hr.out.new_ N2.out)
              skip
              go_wp2_with (at_builtin; refine append_src rfl (.tmp 72) (.tmp 78) 52 rfl wx.heap.size TRE i0 _ 3 24 Tryd.underlying52 hi0 hz0 hz1 hz2 rfl (by omega) (.slice none 0 0) 0 [] rfl (World.ownsRow_nil _ _ _ _) (some ⟨b, 0, none⟩) j cap (rows (L.take j)) rfl (by rw [rows_len, List.length_take]; have := Hn.out; omega) (fun _ => ⟨_, _, rfl, part_take Hrx.out j⟩) (e3_one _) (by unfold maxLen; omega) (by omega) (Nat.le_refl _) ?_)
              intro v1 w3 ho3 hg3
              have u3 : New wx w3 := (Upd.drewN (Upd.refl _ wx) _).trans_new (grown_new hg3)
              have N3 := hide (N2.out.trans_new u3)
              have U3 := hide u3
              have Ho3 := hide (show w3.ownsRow wx.heap.size TRE 3 v1 j (rows (L.take j)) by simpa using ho3)
              have bb := Hb.out.new_ N3.out
              have c1 := bb.cell 1
              have zy := bb.lt
              have fy := bb.frozen 1
              have pp := Hbp.out.new_ N3.out
              have p0 := pp.cell 0
              have p1 := pp.cell 1
              have zp := pp.lt
              simp only [List.getElem?_toArray, List.getElem?_cons_zero, List.getElem?_cons_succ] at c1 p0 p1
              have z3 : wx.heap.size ≤ (w3.alloc (.cells #[.int .i64 a, .int .i64 n, .int .i64 hop] TRE)).heap.size := (u3.alloc _).size
              clear bb pp u3 ho3 hg3
              go_wp2_with (at_builtin; refine append_src rfl (.tmp 80) (.tmp 84) 52 rfl wx.heap.size TRE i0 _ 3 24 Tryd.underlying52 hi0 hz0 hz1 hz2 rfl (by omega) v1 j (rows (L.take j)) rfl (own_keep Ho3.out ((Upd.refl (fun _ => False) _).alloc _) (fun _ _ x => x)) (some ⟨w3.heap.size, 0, none⟩) 1 1 [.int .i64 a, .int .i64 n, .int .i64 hop] rfl rfl (fun _ => ⟨_, _, rfl, row_cells2 rfl⟩) (by simp [Value.oneCell']) (by unfold maxLen; omega) (by omega) z3 ?_)
              intro v2 w4 ho4 hg4
              have n4 : New wx w4 := (U3.out.alloc _).trans (grown_upd (S := fun q => v1.ownBlock = some q) hg4 fun g h => h) fun q hq hx => by have := (Ho3.out.lt q hx).1; omega
              have N4 := hide (N2.out.trans_new n4)
              have Ho4 := hide (show w4.ownsRow wx.heap.size TRE 3 v2 (j + 1) (rows (L.take j ++ [⟨a, n, hop⟩])) by rw [rows_app]; exact ho4)
              have bb := Hb.out.new_ N4.out
              have c1 := bb.cell 1
              have zy := bb.lt
              have fy := bb.frozen 1
              simp only [List.getElem?_toArray, List.getElem?_cons_zero, List.getElem?_cons_succ] at c1
              have Hrx4 := hide (Hr.out.new_ N4.out)
              skip
              have z4 := n4.size
              clear bb p0 p1 zp z3 ho4 hg4
              go_wp2_with (at_builtin; refine append_src rfl (.tmp 87) (.tmp 93) 52 rfl wx.heap.size TRE i0 _ 3 24 Tryd.underlying52 hi0 hz0 hz1 hz2 rfl (by omega) v2 (j + 1) (rows (L.take j ++ [⟨a, n, hop⟩])) rfl Ho4.out _ _ _ (rows (L.drop j)) rfl (by rw [rows_len, List.length_drop, Hn.out]; first | rfl | simp) (fun h => absurd h (by first | omega | simp)) (e3_one _) (by unfold maxLen; omega) (by omega) z4 ?_)
              intro v3 w5 ho5 hg5
              have n5 : New wx w5 := n4.trans (grown_upd (S := fun q => v2.ownBlock = some q) hg5 fun g h => h) fun q hq hx => by have := (Ho4.out.lt q hx).1; omega
              have N5 := hide (N2.out.trans_new n5)
              have Ho5 := hide (show w5.ownsRow wx.heap.size TRE 3 v3 (L.take j ++ ⟨a, n, hop⟩ :: L.drop j).length (rows (L.take j ++ ⟨a, n, hop⟩ :: L.drop j)) by
                have e1 : L.take j ++ ⟨a, n, hop⟩ :: L.drop j = (L.take j ++ [⟨a, n, hop⟩]) ++ L.drop j := by simp
                rw [e1, rows_app]
                have e2 : ((L.take j ++ [(⟨a, n, hop⟩ : E3)]) ++ L.drop j).length = j + 1 + (j - j) := by
                  rw [List.length_append, List.length_append, List.length_take, List.length_drop, Hn.out, List.length_singleton]
                  omega
                rw [e2]
                first | exact ho5 | simpa using ho5)
              have bb := Hb.out.new_ N5.out
              have c1 := bb.cell 1
              have zy := bb.lt
              have fy := bb.frozen 1
              simp only [List.getElem?_toArray, List.getElem?_cons_zero, List.getElem?_cons_succ] at c1
              have HB5 := hide bb
              have N5x := hide n5
              clear bb n4 n5 ho5 hg5
              obtain ⟨L5, hL5⟩ : ∃ L5 : List E3, L5 = L.take j ++ ⟨a, n, hop⟩ :: L.drop j := ⟨_, rfl⟩
              rw [← hL5] at Ho5
              have HL5 := hide hL5
              clear hL5
              obtain ⟨A3, cap3, rfl, _⟩ := rws_of_own (by omega) Ho5.out (e3_size _)
              obtain ⟨N5L, hN5L⟩ : ∃ N5L, N5L = L5.length := ⟨_, rfl⟩
              rw [← hN5L] at Ho5 ⊢
              have HN5L := hide hN5L
              clear hN5L
              go_wp2_with fail
              go_ret
              have hGy : G y := by rw [HG.out]; exact .inl rfl
              have hfr := fun q (hq : (Value.slice A3 N5L cap3).ownBlock = some q) => (Ho5.out.lt q hq).1
              have hwx : w.heap.size ≤ wx.heap.size := (Hu.out.trans_new N2.out).size
              have hyx : y < wx.heap.size := Nat.lt_of_lt_of_le Hy.out hwx
              refine ⟨by rw [He.out]; rfl, fun k => k = y ∨ (Value.slice A3 N5L cap3).ownBlock = some k, ⟨⟨.slice A3 N5L cap3, ?_, ?_, rfl⟩, Hby.out⟩, ?_, ?_⟩
              · have := HB5.out.set_ 1 (.slice A3 N5L cap3)
                simpa using this
              · rw [He.out, Hcn.out, ← HL5.out, ← HN5L.out]
                exact own_keep (S := fun k => k = y) (own_mono Ho5.out (Nat.le_trans HB0.out hwx)) ((Upd.refl (fun k => k = y) w5).setCell (p := ⟨y, 1, none⟩) (.inl rfl) _) (fun q hq e => by have := hfr q hq; omega)
              · rintro k (rfl | hk)
                · exact .inl hGy
                · exact .inr (Nat.le_trans hwx (hfr k hk))
              · exact (Upd.of_new (Hu.out.trans_new N5.out)).setCell (p := ⟨y, 1, none⟩) (.inl hGy) _


  · have He := hide (rputC_chk (ms := ms) (L := L) (hop := hop) k1)
    have n1 := Hu.out.trans_new hu1
    generalize chk a n = kc at *
    have k2 : 0 < kc := by omega
    have k4 : (0 : Int) < (kc : Int) := by omega
    clear k1
    go_wp2_with fail
    go_ret
    exact ⟨by rw [He.out]; rfl, G, by rw [He.out]; exact HT.out.new n1, fun k hk => .inl hk, .of_new n1⟩
end Go.Proofs.YtkljanjapcpbdaaDoor

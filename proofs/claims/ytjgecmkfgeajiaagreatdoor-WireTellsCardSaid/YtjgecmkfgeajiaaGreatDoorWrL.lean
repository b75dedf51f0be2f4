/- Package wire: one line of what is told. No condition but those that stand in each theorem. -/
import Derived.Test.YtjgecmkfgeajiaaGreatDoorWrI
import Derived.Test.YtjgecmkfgeajiaaGreatDoorWrT
import Derived.Test.YtjgecmkfgeajiaaGreatDoorSn0
import Derived.Deep.RegionLaw
namespace Go.Proofs.YtjgecmkfgeajiaaGreatDoor
open Go.RowKit

theorem cutN_piece (c : UInt8) : ∀ (k : Nat) (ps : List (List UInt8)), ∀ p ∈ cutN c k ps, p.length ≤ (joinC c ps).length
  | 0, ps, p, h => by
    rw [List.mem_singleton.1 (show p ∈ [joinC c ps] from h)]
    exact Nat.le_refl _
  | _ + 1, [], p, h => by simp [cutN] at h
  | _ + 1, [x], p, h => by
    rw [List.mem_singleton.1 (show p ∈ [x] from h)]
    exact Nat.le_refl _
  | k + 1, x :: y :: r, p, h => by
    have e : (joinC c (x :: y :: r)).length = x.length + 1 + (joinC c (y :: r)).length := by
      show (x ++ c :: joinC c (y :: r)).length = _
      simp
      omega
    rw [e]
    rcases List.mem_cons.1 (show p ∈ x :: cutN c k (y :: r) from h) with rfl | h
    · omega
    · have := cutN_piece c k (y :: r) p h
      omega
def lineZ (st : RdS) (w0 : List UInt8) (p : Pf) (z : List UInt8) : Option RdS :=
  if w0 = [43] then (if (readT z).1 = 0 then some { st with adds := st.adds ++ [⟨p.a, p.n, (readT z).2, 0⟩] } else some { st with more := st.more ++ [p] }) else none
def lineY (st : RdS) (w0 : List UInt8) (p : Pf) : Option RdS := if w0 = [45] ∧ st.adds = [] ∧ st.more = [] then some { st with drops := st.drops ++ [p] } else none
theorem lineP_one {st : RdS} {l : List UInt8} (h : (cutN 32 2 (cutR 32 l)).length < 2) : lineP st l = none := by
  unfold lineP
  match cutR 32 l, h with
  | [], _ => rfl
  | [x], _ => rfl
  | x :: y :: [], h => simp [cutN, joinC] at h
  | x :: y :: z :: r, h => simp [cutN] at h
theorem lineP_two {st : RdS} {l x y : List UInt8} (h : cutN 32 2 (cutR 32 l) = [x, y]) : lineP st l = if (readP ⟨y.toArray⟩).1 = 0 then lineY st x ⟨(readP ⟨y.toArray⟩).2.1, (readP ⟨y.toArray⟩).2.2⟩ else none := by
  unfold lineP
  match cutR 32 l, h with
  | [], h => simp [cutN] at h
  | [x], h => simp [cutN] at h
  | x1 :: y1 :: [], h =>
    have h : [x1, y1] = [x, y] := h
    injection h with a b
    injection b with b _
    subst a; subst b
    show (if (readP ⟨y1.toArray⟩).1 = 0 then lineQ st x1 _ [] else none) = _
    congr 1
    unfold lineQ lineY
    simp
  | x1 :: y1 :: z1 :: r, h => simp [cutN] at h
theorem lineP_three {st : RdS} {l x y z : List UInt8} (h : cutN 32 2 (cutR 32 l) = [x, y, z]) : lineP st l = if (readP ⟨y.toArray⟩).1 = 0 then lineZ st x ⟨(readP ⟨y.toArray⟩).2.1, (readP ⟨y.toArray⟩).2.2⟩ z else none := by
  unfold lineP
  match cutR 32 l, h with
  | [], h => simp [cutN] at h
  | [x], h => simp [cutN] at h
  | x1 :: y1 :: [], h => simp [cutN, joinC] at h
  | x1 :: y1 :: z1 :: r, h =>
    have h : [x1, y1, joinC 32 (z1 :: r)] = [x, y, z] := h
    injection h with a b
    injection b with b c
    injection c with c _
    subst a; subst b; subst c
    show (if (readP ⟨y1.toArray⟩).1 = 0 then lineQ st x1 _ (z1 :: r) else none) = _
    congr 1
    unfold lineQ lineZ
    simp
/-- What a line leaves. -/
def LinePost (base X : Nat) (kd : ByteArray) (nn : Int) (o : Option RdS) (w : World) (vd va vm : Value) (e : Ending) (w1 : World) : Prop :=
  e = .returned (.bool o.isSome) ∧ Upd (OwnB X vd va vm) w w1 ∧ ∀ st, o = some st → ∃ vd1 va1 vm1 rs1, RdI base X kd nn st w1 vd1 va1 vm1 rs1 ∧ ∀ z, OwnB X vd1 va1 vm1 z → OwnB X vd va vm z ∨ w.heap.size ≤ z
theorem line_none {base X : Nat} {kd : ByteArray} {nn : Int} {o : Option RdS} {w w1 : World} {vd va vm : Value} (ho : o = none) (hu : New w w1) : LinePost base X kd nn o w vd va vm (.returned (.bool false)) w1 := by
  subst ho
  exact ⟨rfl, Upd.of_new hu, fun st h => by cases h⟩

theorem rd_line_more {base X : Nat} {kd : ByteArray} {nn : Int} {st : RdS} {w w4 w5 : World} {vd va vm : Value} {rs : List RouteR} {g cap H : Nat} {o : Option RdS} {p : Pf} (h : RdI base X kd nn st w4 vd va vm rs) (hN : New w w4)
    (ho : w5.ownsRow base TPf 2 (.slice (some ⟨g, 0, none⟩) (st.more.length + 1) cap) (st.more.length + 1) (flat (st.more.map Pf.cells) ++ [.int .i64 p.a, .int .i64 p.n]))
    (hu : Upd (fun q => vm.ownBlock = some q) w4 w5) (hg : vm.ownBlock = some g ∨ g = H) (hH : w4.heap.size ≤ H) (hR : o = some { st with more := st.more ++ [p] }) :
    LinePost base X kd nn o w vd va vm (.returned (.bool true)) (w5.setCell ⟨X, 4, none⟩ (.slice (some ⟨g, 0, none⟩) (st.more.length + 1) cap)) := by
  subst hR
  have sz := hN.size
  refine ⟨rfl, ((Upd.of_new hN).trans' (hu.mono fun q _ hq => .inr (.inr (.inr hq)))).setCell (.inl (.inl rfl)) _, fun st1 e => ?_⟩
  injection e with e
  subst e
  refine ⟨_, _, _, _, h.more_ ho hu (hg.imp id fun e => by omega), fun z hz => ?_⟩
  rcases hz with hz | hz | hz | hz
  · exact .inl (.inl hz)
  · exact .inl (.inr (.inl hz))
  · exact .inl (.inr (.inr (.inl hz)))
  · have : g = z := by simpa [Value.ownBlock] using hz
    subst this
    exact hg.elim (fun x => .inl (.inr (.inr (.inr x)))) fun e => .inr (by omega)
theorem rd_line_drop {base X : Nat} {kd : ByteArray} {nn : Int} {st : RdS} {w w4 w5 : World} {vd va vm : Value} {rs : List RouteR} {g cap H : Nat} {o : Option RdS} {p : Pf} (h : RdI base X kd nn st w4 vd va vm rs) (hN : New w w4)
    (ho : w5.ownsRow base TPf 2 (.slice (some ⟨g, 0, none⟩) (st.drops.length + 1) cap) (st.drops.length + 1) (flat (st.drops.map Pf.cells) ++ [.int .i64 p.a, .int .i64 p.n]))
    (hu : Upd (fun q => vd.ownBlock = some q) w4 w5) (hg : vd.ownBlock = some g ∨ g = H) (hH : w4.heap.size ≤ H) (hR : o = some { st with drops := st.drops ++ [p] }) :
    LinePost base X kd nn o w vd va vm (.returned (.bool true)) (w5.setCell ⟨X, 2, none⟩ (.slice (some ⟨g, 0, none⟩) (st.drops.length + 1) cap)) := by
  subst hR
  have sz := hN.size
  refine ⟨rfl, ((Upd.of_new hN).trans' (hu.mono fun q _ hq => .inr (.inl hq))).setCell (.inl (.inl rfl)) _, fun st1 e => ?_⟩
  injection e with e
  subst e
  refine ⟨_, _, _, _, h.drop ho hu (hg.imp id fun e => by omega), fun z hz => ?_⟩
  rcases hz with hz | hz | hz | hz
  · exact .inl (.inl hz)
  · have : g = z := by simpa [Value.ownBlock] using hz
    subst this
    exact hg.elim (fun x => .inl (.inr (.inl x))) fun e => .inr (by omega)
  · exact .inl (.inr (.inr (.inl hz)))
  · exact .inl (.inr (.inr (.inr hz)))
theorem rd_line_add {base X : Nat} {kd : ByteArray} {nn : Int} {st : RdS} {w w4 w5 : World} {vd va vm : Value} {rs : List RouteR} {g cap H : Nat} {o : Option RdS} {r : RouteR} (h : RdI base X kd nn st w4 vd va vm rs) (hN : New w w4) (hok : AttrOk w4 r.at_) (hfar : AttrFar (OwnB X vd va vm) r.at_) (hlow : AttrFar (fun q => q < base) r.at_)
    (ho : w5.ownsRow base TRt 8 (.slice (some ⟨g, 0, none⟩) (rs.length + 1) cap) (rs.length + 1) (flat (rs.map RouteR.cells) ++ r.cells.toList))
    (hu : Upd (fun q => va.ownBlock = some q) w4 w5) (hg : va.ownBlock = some g ∨ g = H) (hH : w4.heap.size ≤ H) (hR : o = some { st with adds := st.adds ++ [r.con] }) :
    LinePost base X kd nn o w vd va vm (.returned (.bool true)) (w5.setCell ⟨X, 3, none⟩ (.slice (some ⟨g, 0, none⟩) (rs.length + 1) cap)) := by
  subst hR
  have sz := hN.size
  refine ⟨rfl, ((Upd.of_new hN).trans' (hu.mono fun q _ hq => .inr (.inr (.inl hq)))).setCell (.inl (.inl rfl)) _, fun st1 e => ?_⟩
  injection e with e
  subst e
  refine ⟨_, _, _, _, h.add rfl hok hfar hlow ho hu (hg.imp id fun e => by omega), fun z hz => ?_⟩
  rcases hz with hz | hz | hz | hz
  · exact .inl (.inl hz)
  · exact .inl (.inr (.inl hz))
  · have : g = z := by simpa [Value.ownBlock] using hz
    subst this
    exact hg.elim (fun x => .inl (.inr (.inr (.inl x)))) fun e => .inr (by omega)
  · exact .inl (.inr (.inr (.inr hz)))

set_option maxRecDepth 20000 in
set_option maxHeartbeats 2000000 in
theorem line_any (s : ByteArray) (base X : Nat) (kd : ByteArray) (nn : Int) (st : RdS) (vd va vm : Value) (rs : List RouteR) (E : Nat → Addr) (w : World) (ht : TxtOk w) (he : WEs w E) (hi : RdI base X kd nn st w vd va vm rs) (hb : base ≤ w.heap.size) (hs : s.size ≤ 10000) (hd : st.drops.length ≤ 10000) (ha : rs.length ≤ 10000) (hm : st.more.length ≤ 10000) :
    Calls Tryz.prog 26 #[.pointer (some ⟨X, 0, none⟩), .string s] w (LinePost base X kd nn (lineP st s.data.toList) w vd va vm) := by
  obtain ⟨VD, cd, rfl⟩ := own_form hi.drops (by omega)
  obtain ⟨VA, ca, rfl⟩ := own_form hi.adds (by omega)
  obtain ⟨VM, cm, rfl⟩ := own_form hi.more (by omega)
  have HT := hide ht
  have HE := hide he
  have HI := hide hi
  have HI0 := hide hi
  have hll : s.data.toList.length = s.size := by simp
  have hsp := splitN_ss s 32 w ht (by omega)
  have hpi := cutN_piece 32 2 (cutR 32 s.data.toList)
  rw [cutR_join] at hpi
  have hp1 := lineP_one (st := st) (l := s.data.toList)
  have hp2 := fun x y => lineP_two (st := st) (l := s.data.toList) (x := x) (y := y)
  have hp3 := fun x y z => lineP_three (st := st) (l := s.data.toList) (x := x) (y := y) (z := z)
  have hle := cutN_len 32 2 (cutR 32 s.data.toList)
  generalize cutN 32 2 (cutR 32 s.data.toList) = ps at *
  obtain ⟨R, hR⟩ : ∃ R, R = lineP st s.data.toList := ⟨_, rfl⟩
  simp only [← hR] at hp1 hp2 hp3 ⊢
  have Hsp := hide hsp
  have Hpi := hide hpi
  have Hp1 := hide hp1
  have Hp2 := hide hp2
  have Hp3 := hide hp3
  have Hle := hide hle
  have HL := hide (And.intro hb (And.intro hd (And.intro ha hm)))
  clear ht he hi hsp hpi hp1 hp2 hp3 hR hle hb hd ha hm
  obtain ⟨iP, hiP, hzP0, hzP1, hzP2⟩ := info_parts info_TPf
  obtain ⟨iR, hiR, hzR0, hzR1, hzR2⟩ := info_parts info_TRt
  have HiP := hide hiP
  have HzP := hide (And.intro hzP0 (And.intro hzP1 hzP2))
  have HiR := hide hiR
  have HzR := hide (And.intro hzR0 (And.intro hzR1 hzR2))
  clear hiP hzP0 hzP1 hzP2 hiR hzR0 hzR1 hzR2
  go_enter Tryz.func26, Tryz.ntmps26
  go_wp2_with fail
  refine Hsp.out.mono ?_
  rintro e w1 ⟨g, c, rfl, hlc, hss, hu⟩
  have HS := hide hss
  have N := hide hu
  clear hss hu Hsp
  by_cases h2 : ps.length < 2
  · have h0 : (ps.length : Int) < 2 := by omega
    have He := hide (Hp1.out h2)
    clear h2 Hp1 Hp2 Hp3 Hpi HS
    go_wp2_with fail
    go_ret
    exact line_none He.out N.out
  have hj := Hle.out
  by_cases h3 : ps.length = 2
  · obtain ⟨x, y, rfl⟩ : ∃ x y, ps = [x, y] := by
      match ps, h3 with
      | [x, y], _ => exact ⟨x, y, rfl⟩
    obtain ⟨bb, oo, hA, hbg, hcc⟩ := HS.out (by simp)
    injection hA with hA
    injection hA with hA1 hA2 _
    subst hA1; subst hA2
    have q0 : w1.cell? ⟨g, 0, none⟩ = some (.string ⟨x.toArray⟩) := hcc 0 x rfl
    have q1 : w1.cell? ⟨g, 1, none⟩ = some (.string ⟨y.toArray⟩) := hcc 1 y rfl
    have hyl := Hpi.out y (by simp)
    have hrd := read_any ⟨y.toArray⟩ E w1 (HT.out.new N.out) (HE.out.s1.new N.out) (HE.out.s2.new N.out) (HE.out.s3.new N.out) (by show y.toArray.size ≤ _; simp; omega)
    have he := Hp2.out x y rfl
    generalize readP ⟨y.toArray⟩ = rd at *
    obtain ⟨k, a, n⟩ := rd
    dsimp only at hrd he
    have Q0 := hide (And.intro q0 hbg)
    have Hrd := hide hrd
    have He0 := hide he
    clear he Hp1 Hp2 Hp3 Hpi HS hcc hrd hyl h2 h3 hj Hle
    go_wp2_with fail
    refine Hrd.out.mono ?_
    rintro e w2 ⟨rfl, hu⟩
    have N := hide (N.out.trans_new hu)
    have q0 : w2.cell? ⟨g, 0, none⟩ = some (.string ⟨x.toArray⟩) := (hu.cell Q0.out.2 (fun x => x)).trans Q0.out.1
    have qz : g < w2.heap.size := Nat.lt_of_lt_of_le Q0.out.2 hu.size
    clear hu Hrd q1 hbg
    by_cases hk : k = 0
    rotate_left
    · have hx : errc E k = errv (E k) := if_neg hk
      rw [hx]
      unfold errv
      have He := hide (show R = none from by rw [He0.out, if_neg hk])
      clear hk hx He0
      go_wp2_with fail
      go_ret
      exact line_none He.out (N.out.trans_new ((Upd.refl _ _).alloc _))
    subst hk
    have hx : errc E 0 = .nilIface := rfl
    rw [hx]
    have He := hide (show R = lineY st x ⟨a, n⟩ from He0.out)
    have HZ := hide (Blk.new w2 TPf #[.int .i64 a, .int .i64 n])
    have N3 := hide (N.out.trans_new ((Upd.refl _ _).alloc (.cells #[.int .i64 a, .int .i64 n] TPf)))
    have HI := hide (HI.out.new_ N3.out)
    clear hx He0
    go_upto_region 8 with (fail)
    have q0 : (w2.alloc (.cells #[.int .i64 a, .int .i64 n] TPf)).cell? ⟨g, 0, none⟩ = some (.string ⟨x.toArray⟩) := (((Upd.refl (fun _ => False) w2).alloc (.cells #[.int .i64 a, .int .i64 n] TPf)).cell qz (fun x => x)).trans q0
    have hzx : X < w2.heap.size := by
      have := HI0.out.blk.lt
      have := N.out.size
      omega
    have hzd : ∀ q, (Value.slice VD st.drops.length cd).ownBlock = some q → q < w2.heap.size := fun q hq => by
      have := (HI0.out.drops.lt q hq).2
      have := N.out.size
      omega
    have Hzd := hide hzd
    have Hzx := hide hzx
    clear qz hzd hzx
    generalize w2.alloc (.cells #[.int .i64 a, .int .i64 n] TPf) = w3 at *
    generalize w2.heap.size = Z at *
    have bq := HI.out.blk
    have c2 := bq.cell 2
    have c3 := bq.cell 3
    have c4 := bq.cell 4
    have cz := bq.lt
    have d0 := HZ.out.cell 0
    have d1 := HZ.out.cell 1
    have dz := HZ.out.lt
    simp only [List.getElem?_toArray, List.getElem?_cons_zero, List.getElem?_cons_succ] at c2 c3 c4 d0 d1
    clear bq
    obtain ⟨nA, hnA⟩ : ∃ m, m = rs.length := ⟨_, rfl⟩
    obtain ⟨nM, hnM⟩ : ∃ m, m = st.more.length := ⟨_, rfl⟩
    rw [← hnA] at c3
    rw [← hnM] at c4
    have bA : nA ≤ 10000 := by have := HL.out.2.2.1; omega
    have bM : nM ≤ 10000 := by have := HL.out.2.2.2; omega
    have HnA := hide hnA
    have HnM := hide hnM
    clear hnA hnM
    by_cases hx : x = [45]
    · obtain rfl := hx
      by_cases hz : nA = 0 ∧ nM = 0
      · obtain ⟨rfl, rfl⟩ := hz
        have hR : R = some { st with drops := st.drops ++ [⟨a, n⟩] } := by
          rw [He.out]
          have e1 : st.adds = [] := by rw [← HI.out.con, List.map_eq_nil_iff, ← List.length_eq_zero_iff]; exact HnA.out.symm
          have e2 : st.more = [] := by rw [← List.length_eq_zero_iff]; exact HnM.out.symm
          unfold lineY
          rw [if_pos ⟨rfl, e1, e2⟩]
        have HR := hide hR
        clear hR
        go_region
        have HI := hide (HI.out.new_ (Upd.refl (fun _ => False) w3).drew)
        have HZ := hide (HZ.out.new_ (Upd.refl (fun _ => False) w3).drew)
        have N3 := hide (N3.out.trans_new (Upd.refl (fun _ => False) w3).drew)
        clear c2 c3 c4 cz d0 d1 dz q0
        generalize w3.drew = w4 at *
        have c2 := HI.out.blk.cell 2
        have cz := HI.out.blk.lt
        have d0 := HZ.out.cell 0
        have d1 := HZ.out.cell 1
        have dz := HZ.out.lt
        have f2 := HI.out.blk.frozen 2
        simp only [List.getElem?_toArray, List.getElem?_cons_zero, List.getElem?_cons_succ] at c2 d0 d1
        have KK := hide (fun w' (hu : Upd (fun q => (Value.slice VD st.drops.length cd).ownBlock = some q) w4 w') => (show w'.cell? ⟨X, 2, none⟩ = some (.slice VD st.drops.length cd) ∧ w'.cell? ⟨Z, 0, none⟩ = some (.int .i64 a) ∧ w'.cell? ⟨Z, 1, none⟩ = some (.int .i64 n) from ⟨(hu.cell cz (rown_ne HI.out.drops HI.out.blk (by decide))).trans c2, (hu.cell dz (fun e => by have := Hzd.out _ e; omega)).trans d0, (hu.cell dz (fun e => by have := Hzd.out _ e; omega)).trans d1⟩))
        have hnx := rown_ne HI.out.drops HI.out.blk (by decide)
        have bD : st.drops.length ≤ 10000 := HL.out.2.1
        have bB : base ≤ w4.heap.size := by have := HL.out.1; have := N3.out.size; omega
        go_upto_region 9 with (fail)
        go_region_law ((refine step_append_lies _ (by rfl) (.tmp 55) (.tmp 57) _ (by rfl) base TPf iP _ 2 16 Tryz.underlying22 HiP.out HzP.out.1 HzP.out.2.1 HzP.out.2.2 rfl (by omega) (.slice VD st.drops.length cd) _ _ (by rfl) ((HI.out.drops.drew).alloc _) ⟨w4.heap.size, 0, none⟩ 1 1 [.int .i64 a, .int .i64 n] (by rfl) (by rfl) (World.news_of_block (cs := #[.int .i64 a, .int .i64 n]) (t := TPf) (fr := (0, 0)) (heap_alloc_new w4.drew _)) (by simp [Value.oneCell']) (by omega) (by unfold maxLen; omega) (by omega) (by simp; omega) (w4.heap.size + 1) (by simp) ?_; intro gg cap w5 hown5 hgrow hat hlt5; have hu5 : Upd (fun q => (Value.slice VD st.drops.length cd).ownBlock = some q) w4 w5 := (((Upd.refl _ w4).drew).alloc _).trans' (Upd.of_grown hgrow fun q _ hq => hq); have c5 := (KK.out _ hu5).1; have f5 : w5.frozen? ⟨X, 2, none⟩ = false := (hu5.frozen cz hnx).trans f2; have z5 : X < w5.heap.size := Nat.lt_of_lt_of_le cz hu5.size))
        all_goals
          go_wp2_with fail
          go_ret
          exact rd_line_drop HI.out N3.out hown5 hu5 hat (Nat.le_succ _) HR.out
      · have hz2 : ¬ ((nA : Int) + (nM : Int) = 0) := by omega
        have hz3 : (((nA : Int) + (nM : Int)) == 0) = false := by rw [beq_eq_false_iff_ne]; exact hz2
        have hR : R = none := by
          rw [He.out]
          unfold lineY
          refine if_neg fun h => hz ⟨?_, ?_⟩
          · rw [HnA.out]
            have := h.2.1
            rw [← HI.out.con, List.map_eq_nil_iff] at this
            rw [this]; rfl
          · rw [HnM.out, h.2.2]; rfl
        have HR := hide hR
        clear hR hz
        go_region
        go_wp2_with fail
        go_ret
        exact line_none HR.out N3.out.drew
    · have hx2 : (x == [45]) = false := beq_eq_false_iff_ne.2 hx
      have hR : R = none := by
        rw [He.out]
        unfold lineY
        exact if_neg fun h => hx h.1
      have HR := hide hR
      clear hR
      by_cases hp : x = [43]
      · obtain rfl := hp
        go_region
        have q0 : w3.drew.cell? ⟨g, 0, none⟩ = some (.string ⟨[43].toArray⟩) := q0
        go_wp2_with fail
        go_ret
        exact line_none HR.out N3.out.drew
      · have hp2 : (x == [43]) = false := beq_eq_false_iff_ne.2 hp
        go_region
        have q0 : w3.drew.cell? ⟨g, 0, none⟩ = some (.string ⟨x.toArray⟩) := q0
        go_wp2_with fail
        go_ret
        exact line_none HR.out N3.out.drew
  · obtain ⟨x, y, z, rfl⟩ : ∃ x y z, ps = [x, y, z] := by
      match ps, h2, h3, hj with
      | [x, y, z], _, _, _ => exact ⟨x, y, z, rfl⟩
      | [], h2, _, _ => exact absurd (by simp) h2
      | [x], h2, _, _ => exact absurd (by simp) h2
      | [x, y], _, h3, _ => exact absurd rfl h3
      | x :: y :: z :: u :: r, _, _, hj => simp at hj
    obtain ⟨bb, oo, hA, hbg, hcc⟩ := HS.out (by simp)
    injection hA with hA
    injection hA with hA1 hA2 _
    subst hA1; subst hA2
    have q0 : w1.cell? ⟨g, 0, none⟩ = some (.string ⟨x.toArray⟩) := hcc 0 x rfl
    have q1 : w1.cell? ⟨g, 1, none⟩ = some (.string ⟨y.toArray⟩) := hcc 1 y rfl
    have q2 : w1.cell? ⟨g, 2, none⟩ = some (.string ⟨z.toArray⟩) := hcc 2 z rfl
    have hyl := Hpi.out y (by simp)
    have hzl := Hpi.out z (by simp)
    have hrd := read_any ⟨y.toArray⟩ E w1 (HT.out.new N.out) (HE.out.s1.new N.out) (HE.out.s2.new N.out) (HE.out.s3.new N.out) (by show y.toArray.size ≤ _; simp; omega)
    have he := Hp3.out x y z rfl
    generalize readP ⟨y.toArray⟩ = rd at *
    obtain ⟨k, a, n⟩ := rd
    dsimp only at hrd he
    have Q0 := hide (And.intro q0 hbg)
    have Q2 := hide q2
    have Hzl := hide hzl
    have Hrd := hide hrd
    have He0 := hide he
    clear he Hp1 Hp2 Hp3 Hpi HS hcc hrd hyl hzl h2 h3 hj Hle
    go_wp2_with fail
    refine Hrd.out.mono ?_
    rintro e w2 ⟨rfl, hu⟩
    have N := hide (N.out.trans_new hu)
    have q0 : w2.cell? ⟨g, 0, none⟩ = some (.string ⟨x.toArray⟩) := (hu.cell Q0.out.2 (fun x => x)).trans Q0.out.1
    have qz : g < w2.heap.size := Nat.lt_of_lt_of_le Q0.out.2 hu.size
    have q2 : w2.cell? ⟨g, 2, none⟩ = some (.string ⟨z.toArray⟩) := (hu.cell Q0.out.2 (fun x => x)).trans Q2.out
    clear hu Hrd q1 hbg
    by_cases hk : k = 0
    rotate_left
    · have hx : errc E k = errv (E k) := if_neg hk
      rw [hx]
      unfold errv
      have He := hide (show R = none from by rw [He0.out, if_neg hk])
      clear hk hx He0
      go_wp2_with fail
      go_ret
      exact line_none He.out (N.out.trans_new ((Upd.refl _ _).alloc _))
    subst hk
    have hx : errc E 0 = .nilIface := rfl
    rw [hx]
    have He := hide (show R = lineZ st x ⟨a, n⟩ z from He0.out)
    have HZ := hide (Blk.new w2 TPf #[.int .i64 a, .int .i64 n])
    have N3 := hide (N.out.trans_new ((Upd.refl _ _).alloc (.cells #[.int .i64 a, .int .i64 n] TPf)))
    have HI := hide (HI.out.new_ N3.out)
    clear hx He0
    go_upto_region 8 with (fail)
    have q0 : (w2.alloc (.cells #[.int .i64 a, .int .i64 n] TPf)).cell? ⟨g, 0, none⟩ = some (.string ⟨x.toArray⟩) := (((Upd.refl (fun _ => False) w2).alloc (.cells #[.int .i64 a, .int .i64 n] TPf)).cell qz (fun x => x)).trans q0
    have q2 : (w2.alloc (.cells #[.int .i64 a, .int .i64 n] TPf)).cell? ⟨g, 2, none⟩ = some (.string ⟨z.toArray⟩) := (((Upd.refl (fun _ => False) w2).alloc (.cells #[.int .i64 a, .int .i64 n] TPf)).cell qz (fun x => x)).trans q2
    have qz3 : g < (w2.alloc (.cells #[.int .i64 a, .int .i64 n] TPf)).heap.size := Nat.lt_of_lt_of_le qz ((Upd.refl (fun _ => False) w2).alloc (.cells #[.int .i64 a, .int .i64 n] TPf)).size
    have hzx : X < w2.heap.size := by
      have := HI0.out.blk.lt
      have := N.out.size
      omega
    have hzd : ∀ q, (Value.slice VM st.more.length cm).ownBlock = some q → q < w2.heap.size := fun q hq => by
      have := (HI0.out.more.lt q hq).2
      have := N.out.size
      omega
    have Hzd := hide hzd
    have Hzx := hide hzx
    clear qz hzd hzx
    generalize w2.alloc (.cells #[.int .i64 a, .int .i64 n] TPf) = w3 at *
    generalize w2.heap.size = Z at *
    have bq := HI.out.blk
    have c2 := bq.cell 2
    have c3 := bq.cell 3
    have c4 := bq.cell 4
    have cz := bq.lt
    have d0 := HZ.out.cell 0
    have d1 := HZ.out.cell 1
    have dz := HZ.out.lt
    simp only [List.getElem?_toArray, List.getElem?_cons_zero, List.getElem?_cons_succ] at c2 c3 c4 d0 d1
    clear bq
    by_cases hx : x = [43]
    rotate_left
    · have hx2 : (x == [43]) = false := beq_eq_false_iff_ne.2 hx
      have hR : R = none := by
        rw [He.out]
        unfold lineZ
        exact if_neg hx
      have HR := hide hR
      clear hR
      by_cases hp : x = [45]
      · obtain rfl := hp
        go_region
        have q0 : w3.drew.cell? ⟨g, 0, none⟩ = some (.string ⟨[45].toArray⟩) := q0
        go_wp2_with fail
        go_ret
        exact line_none HR.out N3.out.drew
      · have hp2 : (x == [45]) = false := beq_eq_false_iff_ne.2 hp
        go_region
        have q0 : w3.drew.cell? ⟨g, 0, none⟩ = some (.string ⟨x.toArray⟩) := q0
        go_wp2_with fail
        go_ret
        exact line_none HR.out N3.out.drew
    obtain rfl := hx
    go_region
    have HI := hide (HI.out.new_ (Upd.refl (fun _ => False) w3).drew)
    have HZ := hide (HZ.out.new_ (Upd.refl (fun _ => False) w3).drew)
    have N3 := hide (N3.out.trans_new (Upd.refl (fun _ => False) w3).drew)
    have q0 : w3.drew.cell? ⟨g, 0, none⟩ = some (.string ⟨[43].toArray⟩) := q0
    have q2 : w3.drew.cell? ⟨g, 2, none⟩ = some (.string ⟨z.toArray⟩) := q2
    have qz3 : g < w3.drew.heap.size := qz3
    clear c2 c3 c4 cz d0 d1 dz
    generalize w3.drew = w4 at *
    have hat := attrRead_any ⟨z.toArray⟩ E w4 (HT.out.new N3.out) (HE.out.s1.new N3.out) (HE.out.s2.new N3.out) (HE.out.s7.new N3.out) (HE.out.s8.new N3.out) (by show z.toArray.size ≤ _; have := Hzl.out; simp; omega)
    have hat : Calls Tryz.prog 11 #[.string ⟨z.toArray⟩] w4 (ReadPost E (readT z) w4) := hat
    obtain ⟨T, hT⟩ : ∃ T, T = readT z := ⟨_, rfl⟩
    have he9 := He.out
    unfold lineZ at he9
    rw [if_pos rfl] at he9
    rw [← hT] at hat he9
    have Hat := hide hat
    have He := hide he9
    clear hat hT he9
    go_wp2_with fail
    refine Hat.out.mono ?_
    rintro e w5 ⟨a', rfl, hcon, hok, hfr, hu⟩
    have Hcon := hide hcon
    have Hok := hide (hok.new_ ((Upd.refl (fun _ => False) w5).alloc (.cells #[.slice a'.P a'.path.length a'.pc, .int .i64 a'.pref, .int .i64 a'.med, .int .i64 a'.origin, .slice a'.T a'.tags.length a'.tc] TA)))
    have Hfr := hide (hfr.low N3.out.size)
    have HY := hide (Blk.new w5 TA #[.slice a'.P a'.path.length a'.pc, .int .i64 a'.pref, .int .i64 a'.med, .int .i64 a'.origin, .slice a'.T a'.tags.length a'.tc])
    have nw := hu.trans_new ((Upd.refl (fun _ => False) w5).alloc (.cells #[.slice a'.P a'.path.length a'.pc, .int .i64 a'.pref, .int .i64 a'.med, .int .i64 a'.origin, .slice a'.T a'.tags.length a'.tc] TA))
    have HI := hide (HI.out.new_ nw)
    have HZ := hide (HZ.out.new_ nw)
    have N3 := hide (N3.out.trans_new nw)
    unfold AttrR.cells
    clear hcon hok hfr hu nw q0 q2 qz3 Hat
    by_cases hk : T.1 = 0
    rotate_left
    · have hx : errc E T.1 = errv (E T.1) := if_neg hk
      rw [hx]
      unfold errv
      have HR := hide (show R = some { st with more := st.more ++ [⟨a, n⟩] } from by rw [He.out, if_neg hk])
      clear hk hx He
      go_upto_region 13 with (fail)
      generalize w5.alloc (.cells #[.slice a'.P a'.path.length a'.pc, .int .i64 a'.pref, .int .i64 a'.med, .int .i64 a'.origin, .slice a'.T a'.tags.length a'.tc] TA) = w6 at *
      generalize w5.heap.size = Y at *
      have c2 := HI.out.blk.cell 4
      have cz := HI.out.blk.lt
      have d0 := HZ.out.cell 0
      have d1 := HZ.out.cell 1
      have dz := HZ.out.lt
      have f2 := HI.out.blk.frozen 4
      simp only [List.getElem?_toArray, List.getElem?_cons_zero, List.getElem?_cons_succ] at c2 d0 d1
      have KK := hide (fun w' (hu : Upd (fun q => (Value.slice VM st.more.length cm).ownBlock = some q) w6 w') => (show w'.cell? ⟨X, 4, none⟩ = some (.slice VM st.more.length cm) ∧ w'.cell? ⟨Z, 0, none⟩ = some (.int .i64 a) ∧ w'.cell? ⟨Z, 1, none⟩ = some (.int .i64 n) from ⟨(hu.cell cz (rown_ne HI.out.more HI.out.blk (by decide))).trans c2, (hu.cell dz (fun e => by have := Hzd.out _ e; omega)).trans d0, (hu.cell dz (fun e => by have := Hzd.out _ e; omega)).trans d1⟩))
      have hnx := rown_ne HI.out.more HI.out.blk (by decide)
      have bD : st.more.length ≤ 10000 := HL.out.2.2.2
      have bB : base ≤ w6.heap.size := by have := HL.out.1; have := N3.out.size; omega
      go_region_law ((refine step_append_lies _ (by rfl) (.tmp 85) (.tmp 87) _ (by rfl) base TPf iP _ 2 16 Tryz.underlying22 HiP.out HzP.out.1 HzP.out.2.1 HzP.out.2.2 rfl (by omega) (.slice VM st.more.length cm) _ _ (by rfl) ((HI.out.more.drew).alloc _) ⟨w6.heap.size, 0, none⟩ 1 1 [.int .i64 a, .int .i64 n] (by rfl) (by rfl) (World.news_of_block (cs := #[.int .i64 a, .int .i64 n]) (t := TPf) (fr := (0, 0)) (heap_alloc_new w6.drew _)) (by simp [Value.oneCell']) (by omega) (by unfold maxLen; omega) (by omega) (by simp; omega) (w6.heap.size + 1) (by simp) ?_; intro gg cap w7 hown7 hgrow hat hlt7; have hu7 : Upd (fun q => (Value.slice VM st.more.length cm).ownBlock = some q) w6 w7 := (((Upd.refl _ w6).drew).alloc _).trans' (Upd.of_grown hgrow fun q _ hq => hq); have c5 := (KK.out _ hu7).1; have f5 : w7.frozen? ⟨X, 4, none⟩ = false := (hu7.frozen cz hnx).trans f2; have z5 : X < w7.heap.size := Nat.lt_of_lt_of_le cz hu7.size))
      all_goals
        go_wp2_with fail
        go_ret
        exact rd_line_more HI.out N3.out hown7 hu7 hat (Nat.le_succ _) HR.out
    · rw [hk]
      have hx : errc E 0 = .nilIface := rfl
      rw [hx]
      have HR := hide (show R = some { st with adds := st.adds ++ [(⟨a, n, a', 0⟩ : RouteR).con] } from by
        rw [He.out, if_pos hk]
        unfold RouteR.con
        rw [Hcon.out])
      clear hk hx He
      go_upto_region 14 with (fail)
      have hfar : AttrFar (OwnB X (.slice VD st.drops.length cd) (.slice VA rs.length ca) (.slice VM st.more.length cm)) a' := by
        have low : ∀ q, OwnB X (.slice VD st.drops.length cd) (.slice VA rs.length ca) (.slice VM st.more.length cm) q → q < w.heap.size := fun q hq => by
          rcases hq with rfl | hq | hq | hq
          · exact HI0.out.blk.lt
          · exact (HI0.out.drops.lt q hq).2
          · exact (HI0.out.adds.lt q hq).2
          · exact (HI0.out.more.lt q hq).2
        exact ⟨fun _ b o e hq => by have := low b hq; have := Hfr.out.1 b o e; omega, fun _ b o e hq => by have := low b hq; have := Hfr.out.2 b o e; omega⟩
      have Hfar := hide hfar
      have Hlow := hide (show AttrFar (fun q => q < base) a' from ⟨fun _ b o e hq => by have := HL.out.1; have := Hfr.out.1 b o e; omega, fun _ b o e hq => by have := HL.out.1; have := Hfr.out.2 b o e; omega⟩)
      clear hfar
      generalize w5.alloc (.cells #[.slice a'.P a'.path.length a'.pc, .int .i64 a'.pref, .int .i64 a'.med, .int .i64 a'.origin, .slice a'.T a'.tags.length a'.tc] TA) = w6 at *
      generalize w5.heap.size = Y at *
      have c2 := HI.out.blk.cell 3
      have cz := HI.out.blk.lt
      have d0 := HZ.out.cell 0
      have d1 := HZ.out.cell 1
      have dz := HZ.out.lt
      have y0 := HY.out.cell 0
      have y1 := HY.out.cell 1
      have y2 := HY.out.cell 2
      have y3 := HY.out.cell 3
      have y4 := HY.out.cell 4
      have yz := HY.out.lt
      have f2 := HI.out.blk.frozen 3
      simp only [List.getElem?_toArray, List.getElem?_cons_zero, List.getElem?_cons_succ] at c2 d0 d1 y0 y1 y2 y3 y4
      have hnx := rown_ne HI.out.adds HI.out.blk (by decide)
      have KK := hide (fun w' (hu : Upd (fun q => (Value.slice VA rs.length ca).ownBlock = some q) w6 w') => (hu.cell cz hnx).trans c2)
      have bD : rs.length ≤ 10000 := HL.out.2.2.1
      have bB : base ≤ w6.heap.size := by have := HL.out.1; have := N3.out.size; omega
      go_region_law ((refine step_append_lies _ (by rfl) (.tmp 96) (.tmp 100) _ (by rfl) base TRt iR _ 8 96 Tryz.underlying23 HiR.out HzR.out.1 HzR.out.2.1 HzR.out.2.2 rfl (by omega) (.slice VA rs.length ca) _ _ (by rfl) ((HI.out.adds.drew).alloc _) ⟨w6.heap.size, 0, none⟩ 1 1 [.int .i64 a, .int .i64 n, .slice a'.P a'.path.length a'.pc, .int .i64 a'.pref, .int .i64 a'.med, .int .i64 a'.origin, .slice a'.T a'.tags.length a'.tc, .int .i64 0] (by rfl) (by rfl) (World.news_of_block (cs := #[.int .i64 a, .int .i64 n, .slice a'.P a'.path.length a'.pc, .int .i64 a'.pref, .int .i64 a'.med, .int .i64 a'.origin, .slice a'.T a'.tags.length a'.tc, .int .i64 0]) (t := TRt) (fr := (0, 0)) (heap_alloc_new w6.drew _)) (by simp [Value.oneCell']) (by omega) (by unfold maxLen; omega) (by omega) (by simp; omega) (w6.heap.size + 1) (by simp) ?_; intro gg cap w7 hown7 hgrow hat hlt7; have hu7 : Upd (fun q => (Value.slice VA rs.length ca).ownBlock = some q) w6 w7 := (((Upd.refl _ w6).drew).alloc _).trans' (Upd.of_grown hgrow fun q _ hq => hq); have c5 := KK.out _ hu7; have f5 : w7.frozen? ⟨X, 3, none⟩ = false := (hu7.frozen cz hnx).trans f2; have z5 : X < w7.heap.size := Nat.lt_of_lt_of_le cz hu7.size))
      all_goals
        go_wp2_with fail
        go_ret
        exact rd_line_add (r := ⟨a, n, a', 0⟩) HI.out N3.out Hok.out Hfar.out Hlow.out hown7 hu7 hat (Nat.le_succ _) HR.out
end Go.Proofs.YtjgecmkfgeajiaaGreatDoor

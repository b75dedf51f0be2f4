/- Package wire: Text. No condition but those that stand in each theorem. -/
import Derived.Test.YtjgecmkfgeajiaaGreatDoorWr2
import Derived.Deep.DeepCutAuto
namespace Go.Proofs.YtjgecmkfgeajiaaGreatDoor
open Go.RowKit

/-- The errors that package wire gives. -/
structure WEs (w : World) (E : Nat → Addr) : Prop where
  s1 : Sen w gText1 (E 1)
  s2 : Sen w gBound (E 2)
  s3 : Sen w gShape (E 3)
  s4 : Sen w gKind (E 4)
  s6 : Sen w gExist_ (E 6)
  s7 : Sen w gFull_ (E 7)
  s8 : Sen w gOrder (E 8)
theorem WEs.new {w w1 : World} {E : Nat → Addr} (h : WEs w E) (hu : New w w1) : WEs w1 E := ⟨h.s1.new hu, h.s2.new hu, h.s3.new hu, h.s4.new hu, h.s6.new hu, h.s7.new hu, h.s8.new hu⟩
theorem kind_tests (s : ByteArray) : (s.toList == [111, 112, 101, 110]) = decide (kindN s = 1) ∧ (s.toList == [107, 101, 101, 112]) = decide (kindN s = 2) ∧ (s.toList == [110, 101, 119, 115]) = decide (kindN s = 3) ∧ (s.toList == [110, 111, 116, 101]) = decide (kindN s = 4) := by
  have h := kind_facts s
  unfold strEq at h
  rw [tO, tK, tW, tN] at h
  exact h
theorem attrX_len (x : AtC) : (attrX x).length ≤ 1000 := by
  unfold attrX attrT
  split
  · rename_i h
    have g := attrC_good h
    dsimp only at g ⊢
    have q1 := joinT_len (c := 45) (l := x.path) (fun y hy => by have := g.path y hy; omega)
    have q2 := joinT_len (c := 32) (l := [x.pref, x.med, x.origin]) (fun y hy => by
      have a1 := g.pref; have a2 := g.med; have a3 := g.origin
      simp only [List.mem_cons, List.not_mem_nil, or_false] at hy
      rcases hy with rfl | rfl | rfl <;> omega)
    have q3 := joinT_len (c := 44) (l := x.tags) (fun y hy => by have := g.tags y hy; omega)
    have j1 := g.pl
    have j2 := g.tl
    unfold attrW
    rw [List.length_append, List.length_cons, List.length_append, List.length_cons]
    rw [List.length_cons, List.length_cons, List.length_cons, List.length_nil] at q2
    omega
  · simp
theorem dropsT_len : ∀ l : List Pf, (∀ p ∈ l, chk p.a p.n = 0) → (dropsT l).length ≤ 100 * l.length
  | [], _ => Nat.zero_le _
  | p :: l, h => by
    have h1 := prefT_len p.a p.n (h p (List.mem_cons_self ..))
    have h2 := dropsT_len l fun q hq => h q (List.mem_cons_of_mem _ hq)
    show (dropT p ++ dropsT l).length ≤ _
    rw [List.length_append, List.length_cons]
    unfold dropT
    simp only [List.length_cons, List.length_append, List.length_nil]
    omega
theorem addsT_len : ∀ l : List RtC, (∀ r ∈ l, chk r.a r.n = 0) → (addsT l).length ≤ 2000 * l.length
  | [], _ => Nat.zero_le _
  | r :: l, h => by
    have h1 := prefT_len r.a r.n (h r (List.mem_cons_self ..))
    have h2 := addsT_len l fun q hq => h q (List.mem_cons_of_mem _ hq)
    have h3 := attrX_len r.at_
    show (addT r ++ addsT l).length ≤ _
    rw [List.length_append, List.length_cons]
    unfold addT
    simp only [List.length_cons, List.length_append, List.length_nil]
    omega
theorem dropsT_snoc (l : List Pf) (p : Pf) : dropsT (l ++ [p]) = dropsT l ++ dropT p := by simp [dropsT]
theorem addsT_snoc (l : List RtC) (r : RtC) : addsT (l ++ [r]) = addsT l ++ addT r := by simp [addsT]
theorem head_app (x y : List UInt8) : ((⟨x.toArray⟩ : ByteArray) ++ (⟨#[32]⟩ ++ ⟨y.toArray⟩)) = ⟨(x ++ 32 :: y).toArray⟩ := by
  apply ByteArray.ext
  simp
theorem line_app (x : List UInt8) : ((⟨x.toArray⟩ : ByteArray) ++ ⟨#[10]⟩) = ⟨(x ++ [10]).toArray⟩ := by
  apply ByteArray.ext
  simp
theorem drop_app (x y : List UInt8) : ((⟨x.toArray⟩ : ByteArray) ++ ((⟨#[45, 32]⟩ ++ ⟨y.toArray⟩) ++ ⟨#[10]⟩)) = ⟨(x ++ (45 :: 32 :: (y ++ [10]))).toArray⟩ := by
  apply ByteArray.ext
  simp
theorem add_app (x y z : List UInt8) : ((⟨x.toArray⟩ : ByteArray) ++ ((((⟨#[43, 32]⟩ ++ ⟨y.toArray⟩) ++ ⟨#[32]⟩) ++ ⟨z.toArray⟩) ++ ⟨#[10]⟩)) = ⟨(x ++ (43 :: 32 :: (y ++ 32 :: (z ++ [10])))).toArray⟩ := by
  apply ByteArray.ext
  simp
theorem headL_short {s : ByteArray} {n : Int} (hn : 0 ≤ n ∧ n ≤ 1000) (h : s.size = 4) : (headL s.data.toList n).length ≤ 30 := by
  have e : s.data.toList.length = 4 := by rw [← h]; simp
  have := itoa_short hn.1 (by omega)
  unfold headL
  split
  · simp only [List.length_append, List.length_cons]
    omega
  · omega
def wTextT (m : MsgR) : List UInt8 := if (checkC m).1 = 0 then msgT m.con else []

set_option maxRecDepth 20000 in
set_option maxHeartbeats 2000000 in
theorem wireText_any (m : MsgR) (E : Nat → Addr) (w : World) (ht : TxtOk w) (he : WEs w E) (hm : MsgOk w m) (hs : Short m) (hl : m.drops.length ≤ 1000) (hl2 : m.adds.length ≤ 1000) :
    Calls Tryz.prog 7 #[.agg m.cells] w fun e w1 => ∃ v, e = .returned (.tuple #[.string ⟨(wTextT m).toArray⟩, v]) ∧ ErrV w1 E v (checkC m).1 (checkC m).2 ∧ New w w1 := by
  have u := (Upd.refl (fun _ => False) w).alloc (.cells m.cells TM)
  have HT := hide (ht.new u)
  have HE := hide (he.new u)
  have HM := hide (hm.new_ u)
  have HX := hide (Blk.new w TM m.cells)
  have N := hide u
  have hE := he.new u
  have Hck := hide (wireCheck_any m E _ hE.s2 hE.s3 hE.s4 hE.s6 hE.s7 hE.s8 (hm.new_ u) hs hl hl2)
  have Hg := hide (fun h => check_good (m := m) h)
  have Hwt := hide (show wTextT m = if (checkC m).1 = 0 then msgT m.con else [] from rfl)
  obtain ⟨C, hC⟩ : ∃ C, C = checkC m := ⟨_, rfl⟩
  rw [← hC] at Hck Hwt ⊢
  simp only [← hC] at Hg
  clear ht he hm u hE hC hl hl2
  unfold MsgR.cells at *
  go_enter Tryz.func7, Tryz.ntmps7
  go_upto_region 1 with (fail)
  have M := hide (Upd.refl (fun _ => False) (w.alloc (.cells #[.string m.kind, .int .i64 m.n, .slice m.D m.drops.length m.dc, .slice m.A m.adds.length m.ac] TM)))
  generalize w.alloc (.cells #[.string m.kind, .int .i64 m.n, .slice m.D m.drops.length m.dc, .slice m.A m.adds.length m.ac] TM) = W at *
  generalize w.heap.size = X at *
  have bq := HX.out
  have x0 := bq.cell 0
  have x1 := bq.cell 1
  have x2 := bq.cell 2
  have x3 := bq.cell 3
  have xz := bq.lt
  simp only [List.getElem?_toArray, List.getElem?_cons_zero, List.getElem?_cons_succ] at x0 x1 x2 x3
  clear bq
  go_wp2_with fail
  refine Hck.out.mono ?_
  rintro e w1 ⟨v, rfl, hv, hu⟩
  have M := hide (M.out.trans_new hu)
  have HV := hide hv
  clear hu Hck x0 x1 x2 x3 xz
  rcases hv.form with ⟨hk, hk2, rfl⟩ | ⟨hk, tv, pv, rfl⟩
  rotate_left
  · have hw := Hwt.out
    rw [if_neg hk] at hw
    have Hw := hide hw
    clear hv hk hw
    go_wp2_with fail
    go_ret2
    exact ⟨_, by rw [Hw.out]; rfl, HV.out, N.out.trans_new M.out⟩
  have hw := Hwt.out
  rw [if_pos hk] at hw
  have G := hide (Hg.out hk)
  have Hw := hide hw
  have HK0 := hide (And.intro hk hk2)
  clear hv hk hk2 hw Hg Hwt hs
  have bq := HX.out.new_ M.out
  have x0 := bq.cell 0
  have x1 := bq.cell 1
  have x2 := bq.cell 2
  have x3 := bq.cell 3
  have xz := bq.lt
  simp only [List.getElem?_toArray, List.getElem?_cons_zero, List.getElem?_cons_succ] at x0 x1 x2 x3
  clear bq
  go_upto_region 5 with (fail)
  obtain ⟨kt1, kt2, kt3, kt4⟩ := kind_tests m.kind
  have HK := hide (And.intro kt1 kt4)
  clear kt1 kt2 kt3 kt4
  have Q := hide (Upd.refl (fun _ => False) w1)
  go_cut [24] (fun v24_ wc => v24_ = .bool (decide (kindN m.kind = 1 ∨ kindN m.kind = 4)) ∧ w1 = wc)
  case first =>
    obtain ⟨kt1, kt4⟩ := HK.out
    by_cases h1 : kindN m.kind = 1
    · rw [decide_eq_true h1] at kt1
      have H1 := hide h1
      clear kt4 h1
      go_wp2_with fail
      go_meet
      case rel => exact ⟨by rw [decide_eq_true (.inl H1.out)], rfl⟩
    · rw [decide_eq_false h1] at kt1
      by_cases h4 : kindN m.kind = 4
      · rw [decide_eq_true h4] at kt4
        have H4 := hide h4
        clear h1 h4
        go_wp2_with fail
        go_meet
        case rel => exact ⟨by rw [decide_eq_true (.inr H4.out)], rfl⟩
      · rw [decide_eq_false h4] at kt4
        have H4 := hide (show ¬ (kindN m.kind = 1 ∨ kindN m.kind = 4) from fun h => h.elim h1 h4)
        clear h1 h4
        go_wp2_with fail
        go_meet
        case rel => exact ⟨by rw [decide_eq_false H4.out], rfl⟩
  obtain ⟨rfl, rfl⟩ := hcut
  have hlen : m.kind.size = 4 := by
    have g := G.out.kind
    obtain ⟨a1, a2, a3, a4⟩ := kind_word (s := m.kind)
    have e : m.kind.size = m.kind.data.toList.length := by simp
    rw [e]
    rcases (by omega : kindN m.kind = 1 ∨ kindN m.kind = 2 ∨ kindN m.kind = 3 ∨ kindN m.kind = 4) with h | h | h | h
    · rw [a1 h]; rfl
    · rw [a2 h]; rfl
    · rw [a3 h]; rfl
    · rw [a4 h]; rfl
  have Hlen := hide hlen
  clear hlen
  go_upto_if 24 with (fail)
  go_cut [5] (fun v5_ wc => v5_ = .string ⟨(headL m.kind.data.toList m.n).toArray⟩ ∧ New w1 wc)
  case first =>
    obtain ⟨a1, a2, a3, a4⟩ := kind_word (s := m.kind)
    by_cases h14 : kindN m.kind = 1 ∨ kindN m.kind = 4
    · rw [decide_eq_true h14]
      have hn := G.out.n
      have hh : headL m.kind.data.toList m.n = m.kind.data.toList ++ 32 :: Lib.itoa m.n := if_pos (h14.elim (fun h => .inl (a1 h)) (fun h => .inr (a4 h)))
      have Hit := hide (itoa_any m.n w1 (HT.out.new M.out) (by omega) (by omega))
      have hsh := itoa_short hn.1 (by omega)
      generalize Lib.itoa m.n = D at *
      have Hh := hide hh
      have b1 : ¬ 9223372036854775807 < 1 + D.length := by omega
      have b2 : ¬ 9223372036854775807 < m.kind.size + (1 + D.length) := by have := Hlen.out; omega
      clear hh a1 a2 a3 a4 h14 hn hsh
      go_wp2_with fail
      refine Hit.out.mono ?_
      rintro e w2 ⟨rfl, hu⟩
      have U := hide hu
      clear hu
      go_wp2_with fail
      go_meet
      case rel =>
        refine ⟨?_, U.out⟩
        rw [Hh.out, ← head_app, ba_eta]
    · rw [decide_eq_false h14]
      have hh : headL m.kind.data.toList m.n = m.kind.data.toList := by
        have g := G.out.kind
        refine if_neg ?_
        rcases (by omega : kindN m.kind = 2 ∨ kindN m.kind = 3) with h | h
        · rw [a2 h]; decide
        · rw [a3 h]; decide
      have Hh := hide hh
      clear hh a1 a2 a3 a4 h14
      go_wp2_with fail
      go_meet
      case rel => exact ⟨by rw [Hh.out, ba_eta], Upd.refl _ _⟩
  obtain ⟨rfl, hu⟩ := hcut
  have M := hide (M.out.trans_new hu)
  clear hu Q x0 x1 x2 x3 xz HK
  have HD := hide HM.out.drops
  have HA := hide HM.out.adds
  have HG := hide (show (∀ p ∈ m.drops, chk p.a p.n = 0) ∧ (∀ r ∈ m.adds, chk r.a r.n = 0 ∧ (attrC r.at_).1 = 0) ∧ m.drops.length ≤ 60 ∧ m.adds.length ≤ 60 from ⟨G.out.drops, fun r hr => ⟨(G.out.adds r hr).1, (G.out.adds r hr).2.1⟩, G.out.dl, G.out.al⟩)
  have hL := headL_short G.out.n Hlen.out
  have hT : wTextT m = ((headL m.kind.data.toList m.n ++ [10]) ++ dropsT m.drops) ++ addsT (m.adds.map RouteR.con) := by
    rw [Hw.out]
    show headT m.kind.data.toList m.n ++ (dropsT m.drops ++ addsT (m.adds.map RouteR.con)) = _
    rw [headT_L]
    simp only [List.append_assoc]
  have Hz := hide hT
  clear hT HM G Hw Hlen
  generalize headL m.kind.data.toList m.n = L0 at *
  generalize m.drops = ds at *
  generalize m.adds = rs at *
  generalize m.D = D at *
  generalize m.A = A at *
  generalize m.dc = dc at *
  generalize m.ac = ac at *
  generalize m.kind = kd at *
  generalize m.n = nn at *
  have hb0 : ¬ 9223372036854775807 < L0.length + 1 := by omega
  have HL := hide hL
  clear hL
  have bq := HX.out.new_ M.out
  have x0 := bq.cell 0
  have x1 := bq.cell 1
  have x2 := bq.cell 2
  have x3 := bq.cell 3
  have xz := bq.lt
  simp only [List.getElem?_toArray, List.getElem?_cons_zero, List.getElem?_cons_succ] at x0 x1 x2 x3
  clear bq
  go_wp2_with fail
  clear x0 x1 x2 x3 xz hb0
  go_loopw [5, 36] (fun ov iv wz => ∃ (k : Nat) (S : List UInt8), k ≤ ds.length ∧ iv = .int .i64 k ∧ ov = .string ⟨S.toArray⟩ ∧ S = (L0 ++ [10]) ++ dropsT (ds.take k) ∧ New W wz) (fun _ iv _ => ds.length - (intOf iv).toNat)
  case atStart => exact ⟨0, L0 ++ [10], by omega, rfl, by rw [← line_app], by simp [dropsT], M.out⟩
  case round =>
    obtain ⟨k, S, hk, rfl, rfl, hS, hu⟩ := hrel
    have HU := hide hu
    have dlen := dropsT_len (ds.take k) (fun q hq => HG.out.1 q (List.mem_of_mem_take hq))
    have hd9 := HG.out.2.2.1
    have hSl : S.length ≤ 31 + 100 * ds.length := by
      rw [hS, List.length_append, List.length_append]
      rw [List.length_take] at dlen
      have := HL.out
      simp only [List.length_cons, List.length_nil]
      omega
    have HS := hide hS
    clear hu dlen hS
    by_cases hlt : k < ds.length
    · obtain ⟨b, o, p, hA, hb, hpk, q0, q1⟩ := (HD.out.new_ HU.out).at_ hlt
      subst hA
      have i1 : (k : Int) < (ds.length : Int) := by omega
      have pl := prefT_len p.a p.n (HG.out.1 p (List.mem_of_getElem? hpk))
      have Htk := hide (show dropsT (ds.take (k + 1)) = dropsT (ds.take k) ++ dropT p by
        rw [List.take_add_one, hpk]; exact dropsT_snoc _ _)
      have ua := (Upd.refl (fun _ => False) wr).alloc (.cells #[.int .i64 p.a, .int .i64 p.n] TPf)
      have Htx := hide (text_any p.a p.n E _ ((HT.out.new HU.out).new ua) ((HE.out.s2.new HU.out).new ua) ((HE.out.s3.new HU.out).new ua))
      have HU := hide (HU.out.trans_new ua)
      have Hdr := hide (show dropT p = 45 :: 32 :: (prefT p.a p.n ++ [10]) from rfl)
      generalize prefT p.a p.n = Q at *
      clear hpk ua
      have b1 : ¬ 9223372036854775807 < 2 + Q.length := by omega
      have b2 : ¬ 9223372036854775807 < 2 + Q.length + 1 := by omega
      have b3 : ¬ 9223372036854775807 < S.length + (2 + Q.length + 1) := by omega
      clear pl hSl
      go_upto_region 11 with (fail)
      go_wp2_with fail
      refine Htx.out.mono ?_
      rintro e w2 ⟨rfl, hu⟩
      have HU := hide (HU.out.trans_new hu)
      clear hu
      go_wp2_with fail
      exact ⟨⟨k + 1, S ++ dropT p, by omega, by go_num, by rw [Hdr.out, drop_app], by rw [HS.out, Htk.out]; simp only [List.append_assoc], HU.out⟩, by simp [intOf]; omega⟩
    · obtain rfl : k = ds.length := by omega
      have i1 : ¬ (ds.length : Int) < (ds.length : Int) := by omega
      have hS := HS.out
      rw [List.take_length] at hS
      have HS := hide hS
      have hSl : S.length ≤ 7000 := by omega
      have HSl := hide hSl
      clear hd9 hSl hS hk hlt
      have bq := HX.out.new_ HU.out
      have x0 := bq.cell 0
      have x1 := bq.cell 1
      have x2 := bq.cell 2
      have x3 := bq.cell 3
      have xz := bq.lt
      simp only [List.getElem?_toArray, List.getElem?_cons_zero, List.getElem?_cons_succ] at x0 x1 x2 x3
      clear bq
      go_wp2_with fail
      clear x0 x1 x2 x3 xz i1
      obtain ⟨wo, rfl⟩ : ∃ wo : World, wo = wr := ⟨_, rfl⟩
      go_loopw [5, 50] (fun ov iv wz => ∃ (k : Nat) (V : List UInt8), k ≤ rs.length ∧ iv = .int .i64 k ∧ ov = .string ⟨V.toArray⟩ ∧ V = S ++ addsT ((rs.take k).map RouteR.con) ∧ New W wz) (fun _ iv _ => rs.length - (intOf iv).toNat)
      case atStart => exact ⟨0, S, by omega, rfl, rfl, by simp [addsT], HU.out⟩
      case round =>
        obtain ⟨k, V, hk, rfl, rfl, hV, hu⟩ := hrel
        have HU := hide hu
        have dlen := addsT_len ((rs.take k).map RouteR.con) (fun q hq => by
          obtain ⟨r, hr, rfl⟩ := List.mem_map.1 hq
          exact (HG.out.2.1 r (List.mem_of_mem_take hr)).1)
        have hd9 := HG.out.2.2.2
        have hVl : V.length ≤ 7000 + 2000 * rs.length := by
          rw [hV, List.length_append]
          rw [List.length_map, List.length_take] at dlen
          have := HSl.out
          omega
        have HV := hide hV
        clear hu dlen hV
        by_cases hlt : k < rs.length
        · obtain ⟨b, o, r, hA, hb, hrk, hat, q0, q1, q2, q3, q4, q5, q6, q7⟩ := (HA.out.new_ HU.out).at_ hlt
          subst hA
          have i1 : (k : Int) < (rs.length : Int) := by omega
          obtain ⟨g1, g2⟩ := HG.out.2.1 r (List.mem_of_getElem? hrk)
          have pl := prefT_len r.a r.n g1
          have al := attrX_len r.at_.con
          have ga := attrC_good g2
          have Htk := hide (show addsT ((rs.take (k + 1)).map RouteR.con) = addsT ((rs.take k).map RouteR.con) ++ addT r.con by
            rw [List.take_add_one, hrk, List.map_append]; exact addsT_snoc _ _)
          have ua := (Upd.refl (fun _ => False) wr).alloc (.cells #[.int .i64 r.a, .int .i64 r.n, .slice r.at_.P r.at_.path.length r.at_.pc, .int .i64 r.at_.pref, .int .i64 r.at_.med, .int .i64 r.at_.origin, .slice r.at_.T r.at_.tags.length r.at_.tc, .int .i64 r.frm] TRt)
          have Hbk := hide (Blk.new wr TRt #[.int .i64 r.a, .int .i64 r.n, .slice r.at_.P r.at_.path.length r.at_.pc, .int .i64 r.at_.pref, .int .i64 r.at_.med, .int .i64 r.at_.origin, .slice r.at_.T r.at_.tags.length r.at_.tc, .int .i64 r.frm])
          have Htx := hide (fun w' (nw : New (wr.alloc (.cells #[.int .i64 r.a, .int .i64 r.n, .slice r.at_.P r.at_.path.length r.at_.pc, .int .i64 r.at_.pref, .int .i64 r.at_.med, .int .i64 r.at_.origin, .slice r.at_.T r.at_.tags.length r.at_.tc, .int .i64 r.frm] TRt)) w') => text_any r.a r.n E _ (((HT.out.new HU.out).new ua).new nw) (((HE.out.s2.new HU.out).new ua).new nw) (((HE.out.s3.new HU.out).new ua).new nw))
          have hat9 := fun w' (nw : New (wr.alloc (.cells #[.int .i64 r.a, .int .i64 r.n, .slice r.at_.P r.at_.path.length r.at_.pc, .int .i64 r.at_.pref, .int .i64 r.at_.med, .int .i64 r.at_.origin, .slice r.at_.T r.at_.tags.length r.at_.tc, .int .i64 r.frm] TRt)) w') => attrText_any r.at_ E _ (((HT.out.new HU.out).new ua).new nw) (((HE.out.s2.new HU.out).new ua).new nw) (((HE.out.s7.new HU.out).new ua).new nw) (((HE.out.s8.new HU.out).new ua).new nw) ((hat.new_ ua).new_ nw) (by have := ga.pl; omega) (by have := ga.tl; omega)
          simp only [attrT_con] at hat9
          unfold AttrR.cells at hat9
          have Hat := hide hat9
          have HU := hide (HU.out.trans_new ua)
          have Hdr := hide (show addT r.con = 43 :: 32 :: (prefT r.a r.n ++ 32 :: (attrX r.at_.con ++ [10])) from rfl)
          generalize attrX r.at_.con = Y at *
          generalize prefT r.a r.n = Q at *
          clear hrk ua hat9 hat g1 g2 ga
          have b1 : ¬ 9223372036854775807 < 2 + Q.length := by omega
          have b2 : ¬ 9223372036854775807 < 2 + Q.length + 1 := by omega
          have b3 : ¬ 9223372036854775807 < 2 + Q.length + 1 + Y.length := by omega
          have b4 : ¬ 9223372036854775807 < 2 + Q.length + 1 + Y.length + 1 := by omega
          have b5 : ¬ 9223372036854775807 < V.length + (2 + Q.length + 1 + Y.length + 1) := by omega
          clear pl al hVl
          go_upto_region 16 with (fail)
          clear q0 q1 q2 q3 q4 q5 q6 q7
          generalize wr.alloc (.cells #[.int .i64 r.a, .int .i64 r.n, .slice r.at_.P r.at_.path.length r.at_.pc, .int .i64 r.at_.pref, .int .i64 r.at_.med, .int .i64 r.at_.origin, .slice r.at_.T r.at_.tags.length r.at_.tc, .int .i64 r.frm] TRt) = wa at *
          generalize wr.heap.size = Z at *
          have bq := Hbk.out
          have z0 := bq.cell 0
          have z1 := bq.cell 1
          have z2 := bq.cell 2
          have z3 := bq.cell 3
          have z4 := bq.cell 4
          have z5 := bq.cell 5
          have z6 := bq.cell 6
          have z7 := bq.cell 7
          have zz := bq.lt
          simp only [List.getElem?_toArray, List.getElem?_cons_zero, List.getElem?_cons_succ] at z0 z1 z2 z3 z4 z5 z6 z7
          clear bq
          refine wp_region_new wa (Upd.refl _ _) (by kernel_rfl) (by kernel_rfl) ?_
          repeat (go_big_quiet_step (first | (go_at_call 12; exact new_call (Htx.out _ (NewW.h _))) | (go_at_call 13; exact new_call (Hat.out _ (NewW.h _)))))
          refine wpQuiet_nil ?_
          rintro _ ⟨nq, rfl⟩
          have HU := hide (HU.out.trans_new nq.h)
          go_wp2_with fail
          exact ⟨⟨k + 1, V ++ addT r.con, by omega, by go_num, by rw [Hdr.out, add_app], by rw [HV.out, Htk.out]; simp only [List.append_assoc], HU.out⟩, by simp [intOf]; omega⟩
        · obtain rfl : k = rs.length := by omega
          have i1 : ¬ (rs.length : Int) < (rs.length : Int) := by omega
          have hV := HV.out
          rw [List.take_length] at hV
          have HV := hide hV
          clear hd9 hVl hV hk hlt
          go_wp2_with fail
          go_ret2
          refine ⟨.nilIface, ?_, by rw [HK0.out.1, HK0.out.2]; exact ErrV.nil, N.out.trans_new HU.out⟩
          rw [Hz.out, ← HS.out, ← HV.out]
          rfl
end Go.Proofs.YtjgecmkfgeajiaaGreatDoor

/- The law LiveActs: the walk. No condition but those that stand in each theorem. -/
import Derived.Test.YtkljanjapcpbdaaDoorLv9
import Derived.Test.YtkljanjapcpbdaaDoorRl2
import Derived.Test.YtkljanjapcpbdaaDoorSm1
import Derived.Test.YtkljanjapcpbdaaDoorSm2
import Derived.Test.YtkljanjapcpbdaaDoorCd3
import Derived.Deep.DeepCutAuto
import Derived.Deep.CutBlock
namespace Go.Proofs.YtkljanjapcpbdaaDoor
open Go.RowKit

theorem WSen.of_errs {w : World} {E : Nat → Addr} (h : Errs w E) : WSen w E := ⟨h.s2, h.s3, h.s4, h.s6, h.s7, h.s8⟩

set_option maxHeartbeats 400000 in
theorem isSystem_any (n : Int) (w : World) : Calls Tryd.prog 44 #[.int .i64 n] w fun e w1 => e = .returned (.bool (decide (1 ≤ n ∧ n ≤ 1000))) ∧ w = w1 := by
  by_cases h1 : 1 ≤ n
  · by_cases h2 : n ≤ 1000
    · have e : decide (1 ≤ n ∧ n ≤ 1000) = true := decide_eq_true ⟨h1, h2⟩
      have He := hide e
      clear e
      go_enter Tryd.func44, Tryd.ntmps44
      go_wp2
      go_ret
      exact ⟨ret_bool He.out.symm, rfl⟩
    · have e : decide (1 ≤ n ∧ n ≤ 1000) = false := decide_eq_false fun h => h2 h.2
      have He := hide e
      clear e
      go_enter Tryd.func44, Tryd.ntmps44
      go_wp2
      go_ret
      exact ⟨ret_bool (a := false) (by simp; omega), rfl⟩
  · have e : decide (1 ≤ n ∧ n ≤ 1000) = false := decide_eq_false fun h => h1 h.1
    have He := hide e
    clear e
    go_enter Tryd.func44, Tryd.ntmps44
    go_wp2
    go_ret
    exact ⟨ret_bool (a := false) (by simp; omega), rfl⟩

theorem OutAt.upd_y {B y : Nat} {w w1 : World} {v : Value} {l : List (ByteArray × Int)} (h : OutAt B w v l) (hu : Upd (fun k => k = y) w w1) (hy : y < B) : OutAt B w1 v l := by
  cases l with
  | nil => exact h
  | cons a l =>
    obtain ⟨g, h1, h2, h3⟩ := h
    exact ⟨g, h1, h2.upd hu (by omega), h3⟩

/-- What holds behind the switch. -/
def ActRel (w : World) (x y : Nat) (ya : Int) (wc : World) : Prop := ∃ s : LS, New w wc ∧ LvAt wc x ya s ∧ RvAt wc y ya s ∧ LvInv s
theorem ActRel.new_ {w wc w1 : World} {x y : Nat} {ya : Int} (h : ActRel w x y ya wc) (hu : New wc w1) : ActRel w x y ya w1 := by
  obtain ⟨s, h1, h2, h3, h4⟩ := h
  exact ⟨s, h1.trans_new hu, Blk.new_ h2 hu, Blk.new_ h3 hu, h4⟩

set_option maxRecDepth 8000 in
set_option maxHeartbeats 4000000 in
theorem liveActs_main (ya : Int) (A : Option Addr) (n c : Nat) (es : List EvR) (E : Nat → Addr) (w : World) (h : Errs w E) (hx : Evs w A es) (hn : es.length = n) (hl : longEs es = false) (hy : 1 ≤ ya ∧ ya ≤ 1000) :
    Calls Tryd.prog 6 #[.int .i64 ya, .slice A n c] w fun e w1 => e = .returned (.bool true) ∧ New w w1 := by
  have Hlv := hide (lived_any E w (.of_errs h))
  have hle := fun w1 (hu : New w w1) => longEvents_any A n c es w1 (hx.new_ hu) hn
  rw [hl] at hle
  have Hle := hide hle
  have hev : ∀ (i : Nat) e, es[i]? = some e → longM e.m = false := fun i e he => by
    unfold longEs at hl
    simp only [Bool.or_eq_false_iff, List.any_eq_false] at hl
    have := hl.2 e (List.mem_of_getElem? he)
    unfold longE at this
    simp at this
    exact this.2
  have Hev := hide hev
  have Hnw := hide (fun w1 => liveNew_yes ya w1 hy)
  have H := hide h
  have Hx := hide hx
  have Hn := hide hn
  have n60 : n ≤ 60 := by
    unfold longEs at hl
    simp only [Bool.or_eq_false_iff, decide_eq_false_iff_not] at hl
    omega
  have his := fun w1 => isSystem_any ya w1
  rw [decide_eq_true hy] at his
  have His := hide his
  clear hle hl hev h hx hn hy his
  go_enter Tryd.func6, Tryd.ntmps6
  go_wp2_with fail
  refine Hlv.out.mono ?_
  rintro e w1 ⟨rfl, hu1⟩
  have Hle1 := hide (Hle.out w1 hu1)
  have U1 := hide hu1
  clear hu1
  go_wp2_with fail
  refine Hle1.out.mono ?_
  rintro e w2 ⟨rfl, hu2⟩
  have n2 : New w w2 := U1.out.trans_new hu2
  have Hnw2 := hide (Hnw.out w2)
  have N2 := hide n2
  clear hu2 n2
  go_wp2_with fail
  refine Hnw2.out.mono ?_
  rintro e w3 ⟨rfl, hu3, hl3⟩
  obtain ⟨x, hxx⟩ : ∃ x, x = w2.heap.size := ⟨_, rfl⟩
  rw [← hxx] at hl3 ⊢
  have Hx0 : Hid (w.heap.size ≤ x) := hide (by rw [hxx]; exact N2.out.size)
  have N3 := hide (N2.out.trans_new hu3)
  have Hl3 := hide hl3
  clear hu3 hl3 hxx
  go_wp2_with (go_at_call 44; refine (His.out _).mono ?_; rintro e w' ⟨rfl, rfl⟩)
  obtain ⟨y, hyy⟩ : ∃ y, y = w3.heap.size := ⟨_, rfl⟩
  rw [← hyy]
  have Hxy : Hid (x < y) := hide (by rw [hyy]; exact Blk.lt Hl3.out)
  have ual := (Upd.refl (fun _ => False) w3).alloc (.cells #[.int .i64 ya, .int .i64 0, .int .i64 0, .string ⟨#[105, 100, 108, 101]⟩] TRL)
  have N4 := hide (N3.out.trans_new ual)
  have Hl4 := hide (Blk.new_ Hl3.out ual)
  have hr4 : RvAt (w3.alloc (.cells #[.int .i64 ya, .int .i64 0, .int .i64 0, .string ⟨#[105, 100, 108, 101]⟩] TRL)) y ya ⟨0, 0, 0⟩ := by rw [hyy]; exact Blk.new _ _ _
  have Hr4 := hide hr4
  clear ual hr4 hyy
  generalize (w3.alloc (.cells #[.int .i64 ya, .int .i64 0, .int .i64 0, .string ⟨#[105, 100, 108, 101]⟩] TRL)) = w4 at *
  have hxy1 : x ≠ y := by have := Hxy.out; omega
  have hxy2 : y ≠ x := fun e => hxy1 e.symm
  go_loopw [10] (fun i wr => ∃ (j : Nat) (s : LS), j ≤ n ∧ i = .int .i64 j ∧ New w wr ∧ LvAt wr x ya s ∧ RvAt wr y ya s ∧ LvInv s) (fun i _ => n - (intOf i).toNat)
  case atStart => exact ⟨0, _, by omega, rfl, N4.out, Hl4.out, Hr4.out, ⟨by simp, by simp, by simp, fun _ => rfl⟩⟩
  case round =>
    obtain ⟨j, s, hj, rfl, hnew, hlv, hrv, hinv⟩ := hrel
    have Hlv := hide hlv
    have Hrv := hide hrv
    have Hinv := hide hinv
    have Hnew := hide hnew
    by_cases hlt : j < n
    · obtain ⟨b, o, ev, hA, hb, he, hok, c0, c1, c2, c3, c4⟩ := Hx.out.at_ (k := j) (by have := Hn.out; omega)
      have Hea : Hid (EvAt w b (o + j * 5) ev) := hide ⟨c0, c1, c2, c3, c4⟩
      clear c0 c1 c2 c3 c4
      subst hA
      obtain ⟨wo, rfl⟩ : ∃ wo : World, wo = wr := ⟨_, rfl⟩
      have He := hide he
      have Hok := hide hok
      have Hb := hide hb
      have i1 : (j : Int) < (n : Int) := by omega
      obtain ⟨c0, c1, c2, c3, c4⟩ := Hea.out.new_ hnew hb
      have zb : b < wo.heap.size := Nat.lt_of_lt_of_le hb hnew.size
      have hyB : y < wo.heap.size := Blk.lt hrv
      have HyB := hide hyB
      clear hnew hlv hrv hinv he hok hb hyB
      go_upto_block 2 with (fail)
      go_cut [11] (fun sm wc => sm = .bool true ∧ ActRel w x y ya wc)
      case first =>
        rcases evK_text ev.kind with ⟨hk, ht⟩ | ⟨hk, ht⟩ | ⟨hk, ht⟩ | ⟨hk, ht1, ht2, ht3⟩
        · have Hc := hide (start_any x ya s wo Hlv.out Hinv.out.st)
          clear hk
          go_wp2_with fail
          refine Hc.out.mono ?_
          rintro e w5 ⟨v, rfl, hu5, hl5, ho5⟩
          have Hd := hide (rstart_any y ya s w5 (Hrv.out.upd hu5 hxy2) Hinv.out.st)
          have N5 := hide (new_x Hnew.out hu5 Hx0.out)
          have L5 := hide hl5
          have O5 := hide ho5
          have z5 := hu5.size
          have Z5 := hide z5
          clear hu5 hl5 ho5 z5
          go_wp2_with fail
          refine Hd.out.mono ?_
          rintro e w6 ⟨v6, rfl, hu6, hr6, ho6⟩
          have N6 := hide (new_x N5.out hu6 (by have := Hx0.out; have := Hxy.out; omega))
          have L6 := hide (L5.out.upd hu6 hxy1)
          have R6 := hide hr6
          have Hsm := hide (sameMsgs_any (O5.out.upd_y hu6 HyB.out) ho6)
          clear hu6 hr6 ho6
          go_wp2_with fail
          refine Hsm.out.mono ?_
          rintro e w7 ⟨rfl, hu7⟩
          have Hr : Hid (ActRel w x y ya w7) := hide (ActRel.new_ ⟨_, N6.out, L6.out, R6.out, inv_start Hinv.out⟩ hu7)
          clear hu7
          go_wp2_with fail
          go_meet
          exact ⟨rfl, Hr.out⟩
        · have Hc := hide (stop_any x ya s wo Hlv.out Hinv.out.st)
          clear hk
          go_wp2_with fail
          refine Hc.out.mono ?_
          rintro e w5 ⟨v, rfl, hu5, hl5, ho5⟩
          have Hd := hide (rstop_any y ya s w5 (Hrv.out.upd hu5 hxy2) Hinv.out.st)
          have N5 := hide (new_x Hnew.out hu5 Hx0.out)
          have L5 := hide hl5
          have O5 := hide ho5
          have z5 := hu5.size
          have Z5 := hide z5
          clear hu5 hl5 ho5 z5
          go_wp2_with fail
          refine Hd.out.mono ?_
          rintro e w6 ⟨v6, rfl, hu6, hr6, ho6⟩
          have N6 := hide (new_x N5.out hu6 (by have := Hx0.out; have := Hxy.out; omega))
          have L6 := hide (L5.out.upd hu6 hxy1)
          have R6 := hide hr6
          have Hsm := hide (sameMsgs_any (O5.out.upd_y hu6 HyB.out) ho6)
          clear hu6 hr6 ho6
          go_wp2_with fail
          refine Hsm.out.mono ?_
          rintro e w7 ⟨rfl, hu7⟩
          have Hr : Hid (ActRel w x y ya w7) := hide (ActRel.new_ ⟨_, N6.out, L6.out, R6.out, inv_stop Hinv.out⟩ hu7)
          clear hu7
          go_wp2_with fail
          go_meet
          exact ⟨rfl, Hr.out⟩
        · have Hc := hide (tick_any x ya s wo Hlv.out Hinv.out.st ⟨Hinv.out.t0, by have := Hinv.out.t3; omega⟩)
          clear hk
          go_wp2_with fail
          refine Hc.out.mono ?_
          rintro e w5 ⟨v, rfl, hu5, hl5, ho5⟩
          have Hd := hide (rtick_any y ya s w5 (Hrv.out.upd hu5 hxy2) Hinv.out.st ⟨Hinv.out.t0, by have := Hinv.out.t3; omega⟩)
          have N5 := hide (new_x Hnew.out hu5 Hx0.out)
          have L5 := hide hl5
          have O5 := hide ho5
          have z5 := hu5.size
          have Z5 := hide z5
          clear hu5 hl5 ho5 z5
          go_wp2_with fail
          refine Hd.out.mono ?_
          rintro e w6 ⟨v6, rfl, hu6, hr6, ho6⟩
          have N6 := hide (new_x N5.out hu6 (by have := Hx0.out; have := Hxy.out; omega))
          have L6 := hide (L5.out.upd hu6 hxy1)
          have R6 := hide hr6
          have Hsm := hide (sameMsgs_any (O5.out.upd_y hu6 HyB.out) ho6)
          clear hu6 hr6 ho6
          go_wp2_with fail
          refine Hsm.out.mono ?_
          rintro e w7 ⟨rfl, hu7⟩
          have Hr : Hid (ActRel w x y ya w7) := hide (ActRel.new_ ⟨_, N6.out, L6.out, R6.out, inv_tick Hinv.out⟩ hu7)
          clear hu7
          go_wp2_with fail
          go_meet
          exact ⟨rfl, Hr.out⟩
        · have ho := ownMsg_any ev.m wo (Hok.out.new_ Hnew.out) (HearIn.of Hlv.out (.of_errs (H.out.new Hnew.out)) (Hok.out.new_ Hnew.out) (Hev.out _ _ He.out)).sh (HearIn.of Hlv.out (.of_errs (H.out.new Hnew.out)) (Hok.out.new_ Hnew.out) (Hev.out _ _ He.out)).dl (HearIn.of Hlv.out (.of_errs (H.out.new Hnew.out)) (Hok.out.new_ Hnew.out) (Hev.out _ _ He.out)).al
          have Hin := hide (HearIn.of Hlv.out (.of_errs (H.out.new Hnew.out)) (Hok.out.new_ Hnew.out) (Hev.out _ _ He.out))
          unfold MsgR.cells at ho
          have Ho := hide ho
          have nb1 : (ev.kind.toList == [115, 116, 97, 114, 116]) = false := beq_eq_false_iff_ne.2 ht1
          have nb2 : (ev.kind.toList == [115, 116, 111, 112]) = false := beq_eq_false_iff_ne.2 ht2
          have nb3 : (ev.kind.toList == [116, 105, 99, 107]) = false := beq_eq_false_iff_ne.2 ht3
          clear hk ho
          go_wp2_with fail
          refine Ho.out.mono ?_
          rintro e w5 ⟨m', rfl, hsm, hmo, hu5⟩
          have n5 := Hnew.out.trans_new hu5
          have hh := hear_any x ya s m' E w5 ⟨Blk.new_ Hlv.out hu5, (H.out.new n5).s2, (H.out.new n5).s3, (H.out.new n5).s4, (H.out.new n5).s6, (H.out.new n5).s7, (H.out.new n5).s8, hmo, short_same hsm Hin.out.sh, by rw [hsm.2.2.1]; exact Hin.out.dl, by rw [con_len hsm.2.2.2]; exact Hin.out.al⟩ Hinv.out.st
          rw [hear_sameM ya s hsm, check_same hsm] at hh
          unfold MsgR.cells at hh
          have Hh := hide hh
          have R5 := hide (Blk.new_ Hrv.out hu5)
          have N5 := hide n5
          have Z5 := hide hu5.size
          clear hsm hmo hu5 n5 hh
          go_wp2_with fail
          refine Hh.out.mono ?_
          rintro e w6 ⟨v, u, rfl, ⟨hu6, hl6, ho6⟩, he6⟩
          have n6 := new_x N5.out hu6 Hx0.out
          have hr6 := R5.out.upd hu6 hxy2
          have hrh := rhear_any y ya s ev.m w6 ⟨hr6, Hok.out.new_ n6, Hin.out.sh, Hin.out.dl, Hin.out.al⟩ Hinv.out.st
          unfold MsgR.cells at hrh
          have Hrh := hide hrh
          have N6 := hide n6
          have R6 := hide hr6
          have L6 := hide hl6
          have O6 := hide ho6
          have E6 := hide he6
          obtain ⟨d0, d1, d2, d3, d4⟩ := Hea.out.new_ n6 Hb.out
          have zb6 : b < w6.heap.size := Nat.lt_of_lt_of_le Hb.out n6.size
          clear hu6 hl6 ho6 he6 n6 hr6 hrh c0 c1 c2 c3 c4 zb
          go_wp2_with fail
          refine Hrh.out.mono ?_
          rintro e w7 ⟨v7, rfl, hu7, hr7, ho7⟩
          have hyw : w.heap.size ≤ y := by have := Hx0.out; have := Hxy.out; omega
          have ual := (Upd.refl (fun _ => False) w7).alloc (.cells #[.int .i64 (checkC ev.m).1, .int .i64 (checkC ev.m).2] TRF)
          have n7 := new_x N6.out hu7 hyw
          have hB7 := (Blk.new w7 TRF #[.int .i64 (checkC ev.m).1, .int .i64 (checkC ev.m).2])
          have Hsm := hide (sameMsgs_any (OutAt.new_ (O6.out.upd_y hu7 (Nat.lt_of_lt_of_le HyB.out Z5.out)) ual) (OutAt.new_ ho7 ual))
          have E7 := hide ((E6.out.updx hu7 R6.out (by decide)).new ual)
          have L7 := hide (Blk.new_ (L6.out.upd hu7 hxy1) ual)
          have R7 := hide (Blk.new_ hr7 ual)
          have N7 := hide (n7.trans_new ual)
          have B7 := hide hB7
          clear hu7 hr7 ho7 n7 hB7 hyw ual d0 d1 d2 d3 d4 zb6
          go_wp2_with fail
          refine Hsm.out.mono ?_
          rintro e w8 ⟨rfl, hu8⟩
          have b8 := B7.out.new_ hu8
          have f0 := b8.cell 0
          have f1 := b8.cell 1
          have zf := b8.lt
          simp only [List.getElem?_toArray, List.getElem?_cons_zero, List.getElem?_cons_succ] at f0 f1
          have hfa := faulted3_any u (checkC ev.m).1 (checkC ev.m).2 (checkC ev.m).1 (checkC ev.m).2 w8 E (H.out.new (N7.out.trans_new hu8)) (E7.out.new hu8)
          rw [decide_eq_true ⟨rfl, .inr rfl⟩] at hfa
          have Hfa := hide hfa
          have Hr8 : Hid (ActRel w x y ya w8) := hide (ActRel.new_ ⟨_, N7.out, L7.out, R7.out, inv_hear Hinv.out⟩ hu8)
          clear b8 hfa hu8
          go_wp2_with fail
          refine Hfa.out.mono ?_
          rintro e w9 ⟨rfl, hu9⟩
          have Hr : Hid (ActRel w x y ya w9) := hide (Hr8.out.new_ hu9)
          clear hu9
          go_wp2_with fail
          go_meet
          exact ⟨rfl, Hr.out⟩
      case rest =>
        obtain ⟨rfl, s1, hn5, hl5, hr5, hi5⟩ := hcut
        have N5 := hide hn5
        have L5 := hide hl5
        have R5 := hide hr5
        have I5 := hide hi5
        have Hst := hide (fun k => state_any x ya s1 (wc.drewN k) (Blk.drewN hl5 k))
        have Hpe := hide (fun k => peer_any x ya s1 (wc.drewN k) (Blk.drewN hl5 k))
        have y1 := Blk.cell hr5 1
        have y3 := Blk.cell hr5 3
        have zy := Blk.lt hr5
        simp only [List.getElem?_toArray, List.getElem?_cons_zero, List.getElem?_cons_succ] at y1 y3
        clear hn5 hl5 hr5 hi5 c0 c1 c2 c3 c4 zb
        go_upto_region 25 with (fail)
        go_quiet ((first
          | (go_at_call 13; exact Calls.quiet_of_same ((Hst.out _).mono fun _ _ ⟨h1, h2⟩ => ⟨h1, h2.symm⟩))
          | (go_at_call 18; exact Calls.quiet_of_same ((Hpe.out _).mono fun _ _ ⟨h1, h2⟩ => ⟨h1, h2.symm⟩))))
        go_wp2_with fail
        exact ⟨⟨j + 1, s1, by omega, by go_num, N5.out.drewN _, Blk.drewN L5.out _, Blk.drewN R5.out _, I5.out⟩, by simp [intOf]; omega⟩
    · have i1 : ¬ (j : Int) < (n : Int) := by omega
      go_wp2_with fail
      go_ret
      exact ⟨rfl, Hnew.out⟩
end Go.Proofs.YtkljanjapcpbdaaDoor

/- The law LiveUp: the walk. No condition but those that stand in each theorem. -/
import Derived.Test.YtkljanjapcpbdaaDoorLv7
import Derived.Deep.DeepCutAuto
import Derived.Deep.CutBlock
namespace Go.Proofs.YtkljanjapcpbdaaDoor
open Go.RowKit

theorem HearIn.of {x : Nat} {ya : Int} {s : LS} {m : MsgR} {E : Nat → Addr} {w : World} (hl : LvAt w x ya s) (h : WSen w E) (ho : MsgOk w m) (hm : longM m = false) : HearIn x ya s m E w := by
  have hb : m.drops.length ≤ 61 ∧ m.adds.length ≤ 61 ∧ ∀ r, r ∈ m.adds → longA r.at_ = false := by
    unfold longM at hm
    simp only [Bool.or_eq_false_iff, decide_eq_false_iff_not, List.any_eq_false] at hm
    obtain ⟨_, h1, h2, h3⟩ := hm
    exact ⟨by omega, by omega, fun r hr => by simpa using h3 r hr⟩
  refine ⟨hl, h.h2, h.h3, h.h4, h.h6, h.h7, h.h8, ho, fun i r hr => ?_, by omega, by omega⟩
  have := hb.2.2 r (List.mem_of_getElem? hr)
  unfold longA at this
  have := of_decide_eq_false this
  omega

/-- An event lies here. -/
def EvAt (w : World) (b q : Nat) (e : EvR) : Prop :=
  w.cell? ⟨b, q, none⟩ = some (.string e.kind) ∧ w.cell? ⟨b, q + 1, none⟩ = some (.string e.m.kind) ∧ w.cell? ⟨b, q + 2, none⟩ = some (.int .i64 e.m.n) ∧
    w.cell? ⟨b, q + 3, none⟩ = some (.slice e.m.D e.m.drops.length e.m.dc) ∧ w.cell? ⟨b, q + 4, none⟩ = some (.slice e.m.A e.m.adds.length e.m.ac)
theorem EvAt.new_ {w w1 : World} {b q : Nat} {e : EvR} (h : EvAt w b q e) (hu : New w w1) (hb : b < w.heap.size) : EvAt w1 b q e :=
  ⟨(hu.cell hb (fun x => x)).trans h.1, (hu.cell hb (fun x => x)).trans h.2.1, (hu.cell hb (fun x => x)).trans h.2.2.1, (hu.cell hb (fun x => x)).trans h.2.2.2.1, (hu.cell hb (fun x => x)).trans h.2.2.2.2⟩

/-- What holds behind the switch. -/
def MidRel (w : World) (x : Nat) (ya : Int) (ev : EvR) (s : LS) (out : Value) (wc : World) : Prop :=
  ∃ (s1 : LS) (l : List (ByteArray × Int)) (B : Nat), New w wc ∧ LvAt wc x ya s1 ∧ LvInv s1 ∧ OutAt B wc out l ∧ OutOk l ∧ (evK ev.kind ≠ 0 → s1.st = 2 → s.st = 2)

theorem OutAt.new_ {B : Nat} {w w1 : World} {v : Value} {l : List (ByteArray × Int)} (h : OutAt B w v l) (hu : New w w1) : OutAt B w1 v l := by
  cases l with
  | nil => exact h
  | cons a l =>
    obtain ⟨g, h1, h2, h3⟩ := h
    exact ⟨g, h1, h2.new_ hu, h3⟩
theorem MidRel.new_ {w wc w1 : World} {x : Nat} {ya : Int} {ev : EvR} {s : LS} {out : Value} (h : MidRel w x ya ev s out wc) (hu : New wc w1) : MidRel w x ya ev s out w1 := by
  obtain ⟨s1, l, B, h1, h2, h3, h4, h5, h6⟩ := h
  exact ⟨s1, l, B, h1.trans_new hu, Blk.new_ h2 hu, h3, h4.new_ hu, h5, h6⟩

set_option maxRecDepth 8000 in
set_option maxHeartbeats 4000000 in
theorem liveUp_main (ya : Int) (A : Option Addr) (n c : Nat) (es : List EvR) (E : Nat → Addr) (w : World) (h : WSen w E) (hx : Evs w A es) (hn : es.length = n) (hl : longEs es = false) (hy : 1 ≤ ya ∧ ya ≤ 1000) :
    Calls Tryd.prog 3 #[.int .i64 ya, .slice A n c] w fun e w1 => e = .returned (.bool true) ∧ New w w1 := by
  have Hlv := hide (lived_any E w h)
  have hle := fun w1 (hu : New w w1) => longEvents_any A n c es w1 (hx.new_ hu) hn
  rw [hl] at hle
  have Hle := hide hle
  have hev : ∀ (i : Nat) e, es[i]? = some e → longM e.m = false := fun i e he => by
    unfold longEs at hl
    simp only [Bool.or_eq_false_iff, List.any_eq_false] at hl
    have := hl.2 e (List.mem_of_getElem? he)
    unfold longE at this
    simp at this
    exact this.2
  have Hev := hide hev
  have Hnw := hide (fun w1 => liveNew_yes ya w1 hy)
  have H := hide h
  have Hx := hide hx
  have Hn := hide hn
  have n60 : n ≤ 60 := by
    unfold longEs at hl
    simp only [Bool.or_eq_false_iff, decide_eq_false_iff_not] at hl
    omega
  have Hy := hide hy
  clear hle hl hev h hx hn hy
  go_enter Tryd.func3, Tryd.ntmps3
  go_wp2_with fail
  refine Hlv.out.mono ?_
  rintro e w1 ⟨rfl, hu1⟩
  have Hle1 := hide (Hle.out w1 hu1)
  have U1 := hide hu1
  clear hu1
  go_wp2_with fail
  refine Hle1.out.mono ?_
  rintro e w2 ⟨rfl, hu2⟩
  have n2 : New w w2 := U1.out.trans_new hu2
  have Hnw2 := hide (Hnw.out w2)
  have N2 := hide n2
  clear hu2 n2
  go_wp2_with fail
  refine Hnw2.out.mono ?_
  rintro e w3 ⟨rfl, hu3, hl3⟩
  obtain ⟨x, hxx⟩ : ∃ x, x = w2.heap.size := ⟨_, rfl⟩
  rw [← hxx] at hl3 ⊢
  have Hx0 : Hid (w.heap.size ≤ x) := hide (by rw [hxx]; exact N2.out.size)
  have N3 := hide (N2.out.trans_new hu3)
  have Hl3 := hide hl3
  clear hu3 hl3 hxx
  go_wp2_with fail
  go_loopw [8] (fun i wr => ∃ (j : Nat) (s : LS), j ≤ n ∧ i = .int .i64 j ∧ New w wr ∧ LvAt wr x ya s ∧ LvInv s) (fun i _ => n - (intOf i).toNat)
  case atStart => exact ⟨0, _, by omega, rfl, N3.out, Hl3.out, ⟨by simp, by simp, by simp, fun _ => rfl⟩⟩
  case round =>
    obtain ⟨j, s, hj, rfl, hnew, hlv, hinv⟩ := hrel
    have Hlv := hide hlv
    have Hinv := hide hinv
    have Hnew := hide hnew
    by_cases hlt : j < n
    · obtain ⟨b, o, ev, hA, hb, he, hok, c0, c1, c2, c3, c4⟩ := Hx.out.at_ (k := j) (by have := Hn.out; omega)
      have Hea : Hid (EvAt w b (o + j * 5) ev) := hide ⟨c0, c1, c2, c3, c4⟩
      clear c0 c1 c2 c3 c4
      subst hA
      obtain ⟨wo, rfl⟩ : ∃ wo : World, wo = wr := ⟨_, rfl⟩
      have He := hide he
      have Hok := hide hok
      have Hb := hide hb
      have i1 : (j : Int) < (n : Int) := by omega
      have Hst := hide (state_any x ya s wo Hlv.out)
      obtain ⟨c0, c1, c2, c3, c4⟩ := Hea.out.new_ hnew hb
      have zb : b < wo.heap.size := Nat.lt_of_lt_of_le hb hnew.size
      clear hnew hlv hinv he hok hb
      go_wp2_with fail
      refine Hst.out.mono ?_
      rintro e w' ⟨rfl, rfl⟩
      go_upto_block 2 with (fail)
      go_cut [10] (fun out wc => MidRel w x ya ev s out wc)
      case first =>
        rcases evK_text ev.kind with ⟨hk, ht⟩ | ⟨hk, ht⟩ | ⟨hk, ht⟩ | ⟨hk, ht1, ht2, ht3⟩
        · have Hc := hide (start_any x ya s wo Hlv.out Hinv.out.st)
          have Hk := hide hk
          clear hk
          go_wp2_with fail
          refine Hc.out.mono ?_
          rintro e w5 ⟨v, rfl, hu5, hl5, ho5⟩
          have Hr : Hid (MidRel w x ya ev s v w5) := hide ⟨_, _, _, new_x Hnew.out hu5 Hx0.out, hl5, inv_start Hinv.out, ho5, out_start Hy.out, fun _ h => up_start h⟩
          clear hu5 hl5 ho5
          go_wp2_with fail
          go_meet
          exact Hr.out
        · have Hc := hide (stop_any x ya s wo Hlv.out Hinv.out.st)
          have Hk := hide hk
          clear hk
          go_wp2_with fail
          refine Hc.out.mono ?_
          rintro e w5 ⟨v, rfl, hu5, hl5, ho5⟩
          have Hr : Hid (MidRel w x ya ev s v w5) := hide ⟨_, _, _, new_x Hnew.out hu5 Hx0.out, hl5, inv_stop Hinv.out, ho5, out_stop, fun _ h => up_stop h⟩
          clear hu5 hl5 ho5
          go_wp2_with fail
          go_meet
          exact Hr.out
        · have Hc := hide (tick_any x ya s wo Hlv.out Hinv.out.st ⟨Hinv.out.t0, by have := Hinv.out.t3; omega⟩)
          have Hk := hide hk
          clear hk
          go_wp2_with fail
          refine Hc.out.mono ?_
          rintro e w5 ⟨v, rfl, hu5, hl5, ho5⟩
          have Hr : Hid (MidRel w x ya ev s v w5) := hide ⟨_, _, _, new_x Hnew.out hu5 Hx0.out, hl5, inv_tick Hinv.out, ho5, out_tick, fun _ h => up_tick h⟩
          clear hu5 hl5 ho5
          go_wp2_with fail
          go_meet
          exact Hr.out
        · have hc := hear_any x ya s ev.m E wo (.of Hlv.out (H.out.new Hnew.out) (Hok.out.new_ Hnew.out) (Hev.out _ _ He.out)) Hinv.out.st
          unfold MsgR.cells at hc
          have Hc := hide hc
          have Hk := hide hk
          clear hk hc
          have nb1 : (ev.kind.toList == [115, 116, 97, 114, 116]) = false := beq_eq_false_iff_ne.2 ht1
          have nb2 : (ev.kind.toList == [115, 116, 111, 112]) = false := beq_eq_false_iff_ne.2 ht2
          have nb3 : (ev.kind.toList == [116, 105, 99, 107]) = false := beq_eq_false_iff_ne.2 ht3
          go_wp2_with fail
          refine Hc.out.mono ?_
          rintro e w5 ⟨v, u, rfl, ⟨hu5, hl5, ho5⟩, _⟩
          have n5 := new_x Hnew.out hu5 Hx0.out
          have Hr : Hid (MidRel w x ya ev s v w5) := hide ⟨_, _, _, n5, hl5, inv_hear Hinv.out, ho5, out_hear, fun h => absurd Hk.out h⟩
          have Hst5 := hide (fun k => state_any x ya _ (w5.drewN k) (Blk.drewN hl5 k))
          have Hpe5 := hide (fun k => peer_any x ya _ (w5.drewN k) (Blk.drewN hl5 k))
          obtain ⟨d0, d1, d2, d3, d4⟩ := Hea.out.new_ n5 Hb.out
          have zb5 : b < w5.heap.size := Nat.lt_of_lt_of_le Hb.out n5.size
          clear hu5 hl5 ho5 c0 c1 c2 c3 c4 zb
          have hi5 := inv_hear (ya := ya) (m := ev.m) Hinv.out
          have Hup := hide (up_hear (ya := ya) (m := ev.m) Hinv.out.st)
          rcases stB_up (hearS ya s ev.m).1.st hi5.st with ⟨q5, e5⟩ | ⟨q5, e5⟩
          · rcases stB_up s.st Hinv.out.st with ⟨q0, e0⟩ | ⟨q0, e0⟩
            · have Hq := hide (And.intro q5 q0)
              clear q5 q0 hi5
              go_upto_region 14 with (fail)
              go_quiet ((first
                | (go_at_call 13; exact Calls.quiet_of_same ((Hst5.out _).mono fun _ _ ⟨h1, h2⟩ => ⟨h1, h2.symm⟩))
                | (go_at_call 18; exact Calls.quiet_of_same ((Hpe5.out _).mono fun _ _ ⟨h1, h2⟩ => ⟨h1, h2.symm⟩))))
              go_wp2_with fail
              go_meet
              exact Hr.out.new_ ((Upd.refl _ _).drewN _)
            · obtain ⟨g1, g2, g3, g4⟩ := Hup.out q5 q0
              have e1 : (stB s.st).toList = [115, 101, 110, 116] := by rw [g1]; kernel_rfl
              have e2 := kind_text.1 g2
              have e3 : (ev.m.n == ya) = false := by simpa using g3
              have e4 : ((hearS ya s ev.m).1.peer != ev.m.n) = false := by rw [g4]; simp
              clear e0 q0 q5 g1 g2 g3 g4 hi5
              go_upto_region 14 with (fail)
              go_quiet ((first
                | (go_at_call 13; exact Calls.quiet_of_same ((Hst5.out _).mono fun _ _ ⟨h1, h2⟩ => ⟨h1, h2.symm⟩))
                | (go_at_call 18; exact Calls.quiet_of_same ((Hpe5.out _).mono fun _ _ ⟨h1, h2⟩ => ⟨h1, h2.symm⟩))))
              go_wp2_with fail
              go_meet
              exact Hr.out.new_ ((Upd.refl _ _).drewN _)
          · have nb5 : ((stB (hearS ya s ev.m).1.st).toList == [117, 112]) = false := beq_eq_false_iff_ne.2 e5
            clear q5 hi5
            go_upto_region 14 with (fail)
            go_quiet ((first
              | (go_at_call 13; exact Calls.quiet_of_same ((Hst5.out _).mono fun _ _ ⟨h1, h2⟩ => ⟨h1, h2.symm⟩))
              | (go_at_call 18; exact Calls.quiet_of_same ((Hpe5.out _).mono fun _ _ ⟨h1, h2⟩ => ⟨h1, h2.symm⟩))))
            go_wp2_with fail
            go_meet
            exact Hr.out.new_ ((Upd.refl _ _).drewN _)
      case rest =>
        obtain ⟨s1, l, B, hn5, hl5, hi5, ho5, hok5, hup5⟩ := hcut
        have N5 := hide hn5
        have L5 := hide hl5
        have I5 := hide hi5
        have O5 := hide ho5
        have K5 := hide hok5
        have Up5 := hide hup5
        obtain ⟨d0, d1, d2, d3, d4⟩ := Hea.out.new_ hn5 Hb.out
        have zb5 : b < wc.heap.size := Nat.lt_of_lt_of_le Hb.out hn5.size
        clear hn5 hl5 hi5 ho5 hok5 hup5 c0 c1 c2 c3 c4 zb d1 d2 d3 d4
        go_upto_region 22 with (fail)
        go_cut [11] (fun hv wx => hv = .bool (decide (evK ev.kind = 0)) ∧ wx = wc)
        case first =>
          rcases evK_text ev.kind with ⟨hk, ht⟩ | ⟨hk, ht⟩ | ⟨hk, ht⟩ | ⟨hk, ht1, ht2, ht3⟩
          · have Hk := hide hk
            clear hk
            go_wp2_with fail
            go_meet
            exact ⟨by rw [Hk.out]; rfl, rfl⟩
          · have Hk := hide hk
            clear hk
            go_wp2_with fail
            go_meet
            exact ⟨by rw [Hk.out]; rfl, rfl⟩
          · have Hk := hide hk
            clear hk
            go_wp2_with fail
            go_meet
            exact ⟨by rw [Hk.out]; rfl, rfl⟩
          · have Hk := hide hk
            have nb1 : (ev.kind.toList == [115, 116, 97, 114, 116]) = false := beq_eq_false_iff_ne.2 ht1
            have nb2 : (ev.kind.toList == [115, 116, 111, 112]) = false := beq_eq_false_iff_ne.2 ht2
            have nb3 : (ev.kind.toList == [116, 105, 99, 107]) = false := beq_eq_false_iff_ne.2 ht3
            clear hk
            go_wp2_with fail
            go_meet
            exact ⟨by rw [Hk.out]; simp [ht1, ht2, ht3], rfl⟩
        case rest =>
          obtain ⟨rfl, rfl⟩ := hcut
          have Hst5 := hide (state_any x ya _ wc L5.out)
          go_upto_region 23 with (fail)
          go_cut [11, 149] (fun _ v wx => v = .bool false ∧ wx = wc)
          case first =>
            rcases stB_up s1.st I5.out.st with ⟨q5, e5⟩ | ⟨q5, e5⟩
            · have Hpe5 := hide (peer_any x ya _ wc L5.out)
              by_cases hk : evK ev.kind = 0
              · have e6 : decide (evK ev.kind = 0) = true := decide_eq_true hk
                clear hk q5
                go_wp2_with (first | (go_at_call 13; refine Hst5.out.mono ?_; rintro e w' ⟨rfl, rfl⟩) | (go_at_call 18; refine Hpe5.out.mono ?_; rintro e w' ⟨rfl, rfl⟩))
                go_meet
                exact ⟨rfl, rfl⟩
              · have q0 := Up5.out hk q5
                have e0 : (stB s.st).toList = [117, 112] := by rw [q0]; kernel_rfl
                have e6 : decide (evK ev.kind = 0) = false := decide_eq_false hk
                clear hk q5 q0
                go_wp2_with (first | (go_at_call 13; refine Hst5.out.mono ?_; rintro e w' ⟨rfl, rfl⟩) | (go_at_call 18; refine Hpe5.out.mono ?_; rintro e w' ⟨rfl, rfl⟩))
                go_meet
                exact ⟨rfl, rfl⟩
            · have nb5 : ((stB s1.st).toList == [117, 112]) = false := beq_eq_false_iff_ne.2 e5
              have hp := peer_any x ya _ wc L5.out
              rw [I5.out.pr q5] at hp
              have Hpe5 := hide hp
              clear q5 hp
              by_cases hk : evK ev.kind = 0
              · have e6 : decide (evK ev.kind = 0) = true := decide_eq_true hk
                clear hk
                go_wp2_with (first | (go_at_call 13; refine Hst5.out.mono ?_; rintro e w' ⟨rfl, rfl⟩) | (go_at_call 18; refine Hpe5.out.mono ?_; rintro e w' ⟨rfl, rfl⟩))
                go_meet
                exact ⟨rfl, rfl⟩
              · have e6 : decide (evK ev.kind = 0) = false := decide_eq_false hk
                clear hk
                go_wp2_with (first | (go_at_call 13; refine Hst5.out.mono ?_; rintro e w' ⟨rfl, rfl⟩) | (go_at_call 18; refine Hpe5.out.mono ?_; rintro e w' ⟨rfl, rfl⟩))
                go_meet
                exact ⟨rfl, rfl⟩
          case rest =>
            obtain ⟨rfl, rfl⟩ := hcut
            clear Hst5
            cases l with
            | nil =>
              have ho := O5.out
              obtain rfl : u10 = .slice none 0 0 := ho
              go_wp2_with fail
              refine wp_loop_rounds 1 ?_
              rw [rounds_succ]
              go_wp2_with fail
              exact ⟨⟨j + 1, s1, by omega, by go_num, N5.out, L5.out, I5.out⟩, by simp [intOf]; omega⟩
            | cons p l =>
              obtain ⟨k, nn⟩ := p
              obtain ⟨g, rfl, hg, _⟩ : ∃ g, u10 = .slice (some ⟨g, 0, none⟩) 1 1 ∧ Blk wc g TM (msgCells k nn) ∧ B ≤ g := O5.out
              have hck := K5.out (k, nn) (by simp)
              have hs := H.out.new N5.out
              have hc := wireCheck_any (plainMsg k nn) E wc hs.h2 hs.h3 hs.h4 hs.h6 hs.h7 hs.h8 (plainMsg_ok _ _ _) (plainMsg_short _ _) (by simp [plainMsg]) (by simp [plainMsg])
              rw [hck, plainMsg_cells] at hc
              unfold msgCells at hc
              have Hc := hide hc
              have d0 := hg.cell 0
              have d1 := hg.cell 1
              have d2 := hg.cell 2
              have d3 := hg.cell 3
              have zg := hg.lt
              unfold msgCells at d0 d1 d2 d3
              simp only [List.getElem?_toArray, List.getElem?_cons_zero, List.getElem?_cons_succ] at d0 d1 d2 d3
              clear hg hck hs hc
              go_wp2_with fail
              refine wp_loop_rounds 2 ?_
              rw [rounds_succ]
              go_wp2_with fail
              refine Hc.out.mono ?_
              rintro e w6 ⟨v6, rfl, hv6, hu6⟩
              obtain rfl : v6 = .nilIface := by
                rcases hv6.form with ⟨_, _, h⟩ | ⟨h1, _⟩
                · exact h
                · exact absurd rfl h1
              have N6 := hide (N5.out.trans_new hu6)
              have L6 := hide (Blk.new_ L5.out hu6)
              clear hv6 hu6 d0 d1 d2 d3 zg
              go_wp2_with fail
              rw [rounds_succ]
              go_wp2_with fail
              exact ⟨⟨j + 1, s1, by omega, by go_num, N6.out, L6.out, I5.out⟩, by simp [intOf]; omega⟩
    · have hjn : j = n := by omega
      subst hjn
      have Ht1 := hide (tick_any x ya s wr Hlv.out Hinv.out.st ⟨Hinv.out.t0, by have := Hinv.out.t3; omega⟩)
      have hi1 := inv_tick Hinv.out
      have hi2 := inv_tick hi1
      have hi3 := inv_tick hi2
      have hi4 := inv_tick hi3
      have I1 := hide hi1
      have I2 := hide hi2
      have I3 := hide hi3
      have I4 := hide hi4
      have I0 := hide (four_ticks Hinv.out)
      clear hi1 hi2 hi3 hi4 hnew hlv hinv
      go_wp2_with fail
      refine wp_loop_rounds 5 ?_
      rw [rounds_succ]
      go_wp2_with fail
      refine Ht1.out.mono ?_
      rintro e x1 ⟨v1, rfl, hu1, hl1, _⟩
      have n1 := new_x Hnew.out hu1 Hx0.out
      have N1 := hide n1
      have Ht2 := hide (tick_any x ya _ x1 hl1 I1.out.st ⟨I1.out.t0, by have := I1.out.t3; omega⟩)
      clear hu1 hl1 n1
      go_wp2_with fail
      rw [rounds_succ]
      go_wp2_with fail
      refine Ht2.out.mono ?_
      rintro e x2 ⟨v2, rfl, hu1, hl1, _⟩
      have n1 := new_x N1.out hu1 Hx0.out
      have N2 := hide n1
      have Ht3 := hide (tick_any x ya _ x2 hl1 I2.out.st ⟨I2.out.t0, by have := I2.out.t3; omega⟩)
      clear hu1 hl1 n1
      go_wp2_with fail
      rw [rounds_succ]
      go_wp2_with fail
      refine Ht3.out.mono ?_
      rintro e x3 ⟨v3, rfl, hu1, hl1, _⟩
      have n1 := new_x N2.out hu1 Hx0.out
      have N3 := hide n1
      have Ht4 := hide (tick_any x ya _ x3 hl1 I3.out.st ⟨I3.out.t0, by have := I3.out.t3; omega⟩)
      clear hu1 hl1 n1
      go_wp2_with fail
      rw [rounds_succ]
      go_wp2_with fail
      refine Ht4.out.mono ?_
      rintro e x4 ⟨v4, rfl, hu1, hl1, _⟩
      have n1 := new_x N3.out hu1 Hx0.out
      have N4 := hide n1
      have ht5 := tick_any x ya _ x4 hl1 I4.out.st ⟨I4.out.t0, by have := I4.out.t3; omega⟩
      have hs4 := state_any x ya _ x4 hl1
      rw [stB_idle I0.out] at hs4
      unfold stI at hs4
      have Hs4 := hide hs4
      have Ht5 := hide ht5
      clear hu1 hl1 n1 ht5 hs4
      go_wp2_with fail
      rw [rounds_succ]
      go_wp2_with fail
      refine Hs4.out.mono ?_
      rintro e w' ⟨rfl, rfl⟩
      go_wp2_with fail
      refine Ht5.out.mono ?_
      rintro e x5 ⟨v5, rfl, hu1, hl1, ho⟩
      have hz : (tickS (tickS (tickS (tickS (tickS s).1).1).1).1).2 = [] := by
        have h0 := I0.out
        generalize (tickS (tickS (tickS (tickS s).1).1).1).1 = q at h0
        unfold tickS
        rw [if_pos h0]
      rw [hz] at ho
      obtain rfl : v5 = .slice none 0 0 := ho
      have n5 := new_x N4.out hu1 Hx0.out
      clear hu1 hl1 hz
      go_wp2_with fail
      go_ret
      exact ⟨rfl, n5⟩
end Go.Proofs.YtkljanjapcpbdaaDoor

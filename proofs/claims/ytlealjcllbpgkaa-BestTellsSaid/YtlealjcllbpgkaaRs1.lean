/- The reference's sameness: of prefixes, of what is told, of routes. No condition but those that stand in each theorem. -/
import Derived.Test.YtlealjcllbpgkaaWi1
import Derived.Test.YtlealjcllbpgkaaEq
import Derived.Deep.Cut
namespace Go.Proofs.Ytlealjcllbpgkaa
open Go.RowKit

/-- What a route's attributes say, wherever they lie. -/
structure AtC where
  path : List Int
  pref : Int
  med : Int
  origin : Int
  tags : List Int
deriving DecidableEq
def AttrR.con (a : AttrR) : AtC := ⟨a.path, a.pref, a.med, a.origin, a.tags⟩
/-- What a route says. -/
structure RtC where
  a : Int
  n : Int
  at_ : AtC
  frm : Int
deriving DecidableEq
def RouteR.con (r : RouteR) : RtC := ⟨r.a, r.n, r.at_.con, r.frm⟩

theorem con_pref {a b : AttrR} (h : ¬ a.pref = b.pref) : decide (a.con = b.con) = false := decide_eq_false fun e => h (by have := congrArg AtC.pref e; exact this)
theorem con_med {a b : AttrR} (h : ¬ a.med = b.med) : decide (a.con = b.con) = false := decide_eq_false fun e => h (by have := congrArg AtC.med e; exact this)
theorem con_origin {a b : AttrR} (h : ¬ a.origin = b.origin) : decide (a.con = b.con) = false := decide_eq_false fun e => h (by have := congrArg AtC.origin e; exact this)
theorem con_path {a b : AttrR} (h : ¬ a.path = b.path) : decide (a.con = b.con) = false := decide_eq_false fun e => h (by have := congrArg AtC.path e; exact this)
theorem con_tags {a b : AttrR} (h1 : a.pref = b.pref) (h2 : a.med = b.med) (h3 : a.origin = b.origin) (h4 : a.path = b.path) : decide (a.con = b.con) = decide (a.tags = b.tags) := by
  unfold AttrR.con
  rw [h1, h2, h3, h4]
  simp

set_option maxRecDepth 8000 in
set_option maxHeartbeats 1000000 in
theorem sameAttr_any (a b : AttrR) (w : World) (ha : AttrOk w a) (hb : AttrOk w b) (la : a.path.length ≤ 1000) (la2 : a.tags.length ≤ 1000) (lb : b.path.length ≤ 1000) (lb2 : b.tags.length ≤ 1000) :
    Calls Try.prog 18 #[.agg a.cells, .agg b.cells] w fun e w1 => e = .returned (.bool (decide (a.con = b.con))) ∧ New w w1 := by
  have u := ((Upd.refl (fun _ => False) w).alloc (.cells a.cells 29)).alloc (.cells b.cells 29)
  have b0 := (Blk.new w 29 a.cells).alloc (.cells b.cells 29)
  have b1 := Blk.at_ (w.alloc (.cells a.cells 29)) 29 b.cells (w.heap.size + 1) (by simp)
  have Ha := hide (ha.new_ u)
  have Hb := hide (hb.new_ u)
  have Hu := hide u
  have Hb0 := hide b0
  have Hb1 := hide b1
  clear ha hb u b0 b1
  unfold AttrR.cells at *
  by_cases h1 : a.pref = b.pref
  · by_cases h2 : a.med = b.med
    · by_cases h3 : a.origin = b.origin
      · have He := hide (con_tags h1 h2 h3)
        have k1 : (a.pref != b.pref) = false := by simp [h1]
        have k2 : (a.med != b.med) = false := by simp [h2]
        have k3 : (a.origin != b.origin) = false := by simp [h3]
        clear h1 h2 h3
        go_enter Try.func18, Try.ntmps18
        go_upto_region 3 with (fail)
        generalize ((w.alloc (.cells #[.slice a.P a.path.length a.pc, .int .i64 a.pref, .int .i64 a.med, .int .i64 a.origin, .slice a.T a.tags.length a.tc] 29)).alloc (.cells #[.slice b.P b.path.length b.pc, .int .i64 b.pref, .int .i64 b.med, .int .i64 b.origin, .slice b.T b.tags.length b.tc] 29)) = W at *
        have c0 := Hb0.out.cell 0
        have c4 := Hb0.out.cell 4
        have d0 := Hb1.out.cell 0
        have d4 := Hb1.out.cell 4
        have z0 := Hb0.out.lt
        have z1 := Hb1.out.lt
        simp only [List.getElem?_toArray, List.getElem?_cons_zero, List.getElem?_cons_succ] at c0 c4 d0 d4
        have h1 := fun w1 (n : New W w1) => sameInts_any a.P b.P a.path.length b.path.length a.pc b.pc a.path b.path w1 (Ha.out.path.new_ n) (Hb.out.path.new_ n) rfl rfl (by omega) (by omega)
        have h2 := fun w1 (n : New W w1) => sameInts_any a.T b.T a.tags.length b.tags.length a.tc b.tc a.tags b.tags w1 (Ha.out.tags.new_ n) (Hb.out.tags.new_ n) rfl rfl (by omega) (by omega)
        by_cases hp : a.path = b.path
        · have He2 := hide (He.out hp)
          rw [decide_eq_true hp] at h1
          have H1 := hide h1
          have H2 := hide h2
          clear h1 h2 hp
          refine wp_region_seq W (Upd.refl _ _) ?_
          iterate 5 (go_big_quiet_step ((go_at_call 28; exact new_call (H1.out _ (NewW.h _)))))
          repeat (go_big_quiet_step ((go_at_call 28; exact new_call (H2.out _ (NewW.h _)))))
          refine wpQuiet_nil ?_
          rintro _ ⟨nq, rfl⟩
          go_wp2_with fail
          go_ret
          exact ⟨ret_bool He2.out.symm, Hu.out.trans_new nq.h⟩
        · have He2 := hide (con_path hp)
          rw [decide_eq_false hp] at h1
          have H1 := hide h1
          clear h1 h2 hp
          refine wp_region_seq W (Upd.refl _ _) ?_
          repeat (go_big_quiet_step ((go_at_call 28; exact new_call (H1.out _ (NewW.h _)))))
          refine wpQuiet_nil ?_
          rintro _ ⟨nq, rfl⟩
          go_wp2_with fail
          go_ret
          exact ⟨ret_bool He2.out.symm, Hu.out.trans_new nq.h⟩
      · have He := hide (con_origin h3)
        have k1 : (a.pref != b.pref) = false := by simp [h1]
        have k2 : (a.med != b.med) = false := by simp [h2]
        have k3 : (a.origin != b.origin) = true := by simp [h3]
        clear h1 h2 h3
        go_enter Try.func18, Try.ntmps18
        go_wp2_with fail
        go_ret
        exact ⟨ret_bool He.out.symm, Hu.out⟩
    · have He := hide (con_med h2)
      have k1 : (a.pref != b.pref) = false := by simp [h1]
      have k2 : (a.med != b.med) = true := by simp [h2]
      clear h1 h2
      go_enter Try.func18, Try.ntmps18
      go_wp2_with fail
      go_ret
      exact ⟨ret_bool He.out.symm, Hu.out⟩
  · have He := hide (con_pref h1)
    have k1 : (a.pref != b.pref) = true := by simp [h1]
    clear h1
    go_enter Try.func18, Try.ntmps18
    go_wp2_with fail
    go_ret
    exact ⟨ret_bool He.out.symm, Hu.out⟩
end Go.Proofs.Ytlealjcllbpgkaa

namespace Go.Proofs.Ytlealjcllbpgkaa
open Go.RowKit

theorem con_ne {r s : RouteR} (h : ¬ ((r.a == s.a && r.n == s.n) = true ∧ r.frm = s.frm ∧ r.at_.con = s.at_.con)) : r.con ≠ s.con := fun e => h (by
  have e1 := congrArg RtC.a e
  have e2 := congrArg RtC.n e
  have e3 := congrArg RtC.frm e
  have e4 := congrArg RtC.at_ e
  refine ⟨?_, e3, e4⟩
  simp only [Bool.and_eq_true, beq_iff_eq]
  exact ⟨e1, e2⟩)
theorem con_eq {r s : RouteR} (h1 : (r.a == s.a && r.n == s.n) = true) (h2 : r.frm = s.frm) (h3 : r.at_.con = s.at_.con) : r.con = s.con := by
  simp only [Bool.and_eq_true, beq_iff_eq] at h1
  unfold RouteR.con
  rw [h1.1, h1.2, h2, h3]
theorem cons_ne {rs ss : List RouteR} {j : Nat} {r s : RouteR} (hr : rs[j]? = some r) (hs : ss[j]? = some s) (h : r.con ≠ s.con) : decide (rs.map RouteR.con = ss.map RouteR.con) = false := decide_eq_false fun e => h (by
  have e1 : (rs.map RouteR.con)[j]? = (ss.map RouteR.con)[j]? := by rw [e]
  rw [List.getElem?_map, List.getElem?_map, hr, hs] at e1
  simpa using e1)
theorem cons_eq {rs ss : List RouteR} (hl : rs.length = ss.length) (h : ∀ (i : Nat) r s, i < rs.length → rs[i]? = some r → ss[i]? = some s → r.con = s.con) : decide (rs.map RouteR.con = ss.map RouteR.con) = true := decide_eq_true (by
  apply List.ext_getElem?
  intro i
  by_cases hi : i < rs.length
  · have h1 : rs[i]? = some rs[i] := List.getElem?_eq_getElem hi
    have h2 : ss[i]? = some (ss[i]'(by omega)) := List.getElem?_eq_getElem (by omega)
    rw [List.getElem?_map, List.getElem?_map, h1, h2]
    simpa using h i _ _ hi h1 h2
  · rw [List.getElem?_map, List.getElem?_map, List.getElem?_eq_none (by omega), List.getElem?_eq_none (by omega)])

set_option maxRecDepth 8000 in
set_option maxHeartbeats 2000000 in
theorem sameRoutes_any (A B : Option Addr) (n m c d : Nat) (rs ss : List RouteR) (w : World) (hx : Rts w A rs) (hy : Rts w B ss) (hn : rs.length = n) (hm : ss.length = m) (hl : n ≤ 1000000) (hl2 : m ≤ 1000000)
    (hs : ∀ (i : Nat) (r : RouteR), rs[i]? = some r → r.at_.path.length ≤ 1000 ∧ r.at_.tags.length ≤ 1000) (ht : ∀ (i : Nat) (r : RouteR), ss[i]? = some r → r.at_.path.length ≤ 1000 ∧ r.at_.tags.length ≤ 1000) :
    Calls Try.prog 8 #[.slice A n c, .slice B m d] w fun e w1 => e = .returned (.bool (decide (rs.map RouteR.con = ss.map RouteR.con))) ∧ New w w1 := by
  have Hx := hide hx
  have Hy := hide hy
  have Hn := hide hn
  have Hm := hide hm
  have Hs := hide hs
  have Ht := hide ht
  clear hx hy hn hm hs ht
  by_cases hnm : n = m
  · subst hnm
    have g1 := guard_pfx
    have g3 := neq_pfx
    go_enter Try.func8, Try.ntmps8
    go_wp2_with fail
    go_loopw [5] (fun i wr => ∃ k : Nat, k ≤ n ∧ i = .int .i64 k ∧ New w wr ∧ ∀ (i : Nat) r s, i < k → rs[i]? = some r → ss[i]? = some s → r.con = s.con) (fun i _ => n - (intOf i).toNat)
    case atStart => exact ⟨0, by omega, rfl, Upd.refl _ _, fun j r s h => absurd h (by omega)⟩
    case round =>
      obtain ⟨k, hk, rfl, hnew, hz⟩ := hrel
      have Hz := hide hz
      have Hnew := hide hnew
      clear hz
      by_cases hlt : k < n
      · obtain ⟨b, o, r, hA, hb, hr, hok, q0, q1, q2, q3, q4, q5, q6, q7⟩ := (Hx.out.new_ hnew).at_ (k := k) (by have := Hn.out; omega)
        obtain ⟨b2, o2, s, hB, hb2, hs, hok2, p0, p1, p2, p3, p4, p5, p6, p7⟩ := (Hy.out.new_ hnew).at_ (k := k) (by have := Hm.out; omega)
        subst hA; subst hB
        have Hr := hide hr
        have Hs2 := hide hs
        have i1 : (k : Int) < (n : Int) := by omega
        have hc := fun w1 (nw : New wr w1) => sameAttr_any r.at_ s.at_ w1 (hok.new_ nw) (hok2.new_ nw) (Hs.out k r hr).1 (Hs.out k r hr).2 (Ht.out k s hs).1 (Ht.out k s hs).2
        unfold AttrR.cells at hc
        have Hc := hide hc
        have Hb := hide hb
        have Hb2 := hide hb2
        have Q := hide (And.intro (And.intro q0 q1) q7)
        have R := hide (And.intro (And.intro p0 p1) p7)
        clear hc hok hok2 hr hs hnew
        go_upto_region 6 with (fail)
        obtain ⟨wo, rfl⟩ : ∃ wo : World, wo = wr := ⟨_, rfl⟩
        refine wp_region_new wo (Upd.refl _ _) (by kernel_rfl) (by kernel_rfl) ?_
        repeat (go_big_quiet_step ((go_at_call 18; exact new_call (Hc.out _ (NewW.h _)))))
        refine wpQuiet_nil ?_
        rintro _ ⟨nq, rfl⟩
        clear q0 q1 q2 q3 q4 q5 q6 q7 p0 p1 p2 p3 p4 p5 p6 p7
        have hnq := nq.h
        have q0 := (hnq.cell Hb.out (fun x => x)).trans Q.out.1.1
        have q1 := (hnq.cell Hb.out (fun x => x)).trans Q.out.1.2
        have q7 := (hnq.cell Hb.out (fun x => x)).trans Q.out.2
        have p0 := (hnq.cell Hb2.out (fun x => x)).trans R.out.1.1
        have p1 := (hnq.cell Hb2.out (fun x => x)).trans R.out.1.2
        have p7 := (hnq.cell Hb2.out (fun x => x)).trans R.out.2
        have hb := Nat.lt_of_lt_of_le Hb.out hnq.size
        have hb2 := Nat.lt_of_lt_of_le Hb2.out hnq.size
        have Nq := hide hnq
        have N2 := hide (Hnew.out.trans_new hnq)
        clear hnq
        generalize nq.w = W at *
        cases h1 : (r.a == s.a && r.n == s.n) with
        | false =>
          have Hne := hide (cons_ne Hr.out Hs2.out (con_ne (r := r) (s := s) fun h => by rw [h1] at h; exact absurd h.1 (by simp)))
          go_upto_region 7 with (fail)
          refine wp_region_new W (Upd.refl _ _) (by kernel_rfl) (by kernel_rfl) ?_
          repeat (go_big_quiet_step (fail))
          refine wpQuiet_nil ?_
          rintro _ ⟨nq2, rfl⟩
          go_wp2_with fail
          go_ret
          exact ⟨ret_bool Hne.out.symm, N2.out.trans_new nq2.h⟩

        | true =>
          by_cases h2 : r.frm = s.frm
          · have f1 : (r.frm != s.frm) = false := by simp [h2]
            by_cases h3 : r.at_.con = s.at_.con
            · have He := hide (con_eq h1 h2 h3)
              have h4 := decide_eq_true h3
              clear h2 h3
              go_upto_region 7 with (fail)
              refine wp_region_new W (Upd.refl _ _) (by kernel_rfl) (by kernel_rfl) ?_
              repeat (go_big_quiet_step (fail))
              refine wpQuiet_nil ?_
              rintro _ ⟨nq2, rfl⟩
              go_wp2_with fail
              refine ⟨⟨k + 1, by omega, by go_num, N2.out.trans_new nq2.h, fun i x y hi hx hy => ?_⟩, by simp [intOf]; omega⟩
              by_cases hij : i < k
              · exact Hz.out i x y hij hx hy
              · obtain rfl : i = k := by omega
                rw [Hr.out] at hx; injection hx with hx; subst hx
                rw [Hs2.out] at hy; injection hy with hy; subst hy
                exact He.out

            · have Hne := hide (cons_ne Hr.out Hs2.out (con_ne (r := r) (s := s) fun h => h3 h.2.2))
              have h4 := decide_eq_false h3
              clear h2 h3
              go_upto_region 7 with (fail)
              refine wp_region_new W (Upd.refl _ _) (by kernel_rfl) (by kernel_rfl) ?_
              repeat (go_big_quiet_step (fail))
              refine wpQuiet_nil ?_
              rintro _ ⟨nq2, rfl⟩
              go_wp2_with fail
              go_ret
              exact ⟨ret_bool Hne.out.symm, N2.out.trans_new nq2.h⟩

          · have Hne := hide (cons_ne Hr.out Hs2.out (con_ne (r := r) (s := s) fun h => h2 h.2.1))
            have f1 : (r.frm != s.frm) = true := by simp [h2]
            clear h2
            go_upto_region 7 with (fail)
            refine wp_region_new W (Upd.refl _ _) (by kernel_rfl) (by kernel_rfl) ?_
            repeat (go_big_quiet_step (fail))
            refine wpQuiet_nil ?_
            rintro _ ⟨nq2, rfl⟩
            go_wp2_with fail
            go_ret
            exact ⟨ret_bool Hne.out.symm, N2.out.trans_new nq2.h⟩

      · have i1 : ¬ (k : Int) < (n : Int) := by omega
        have He := hide (cons_eq (rs := rs) (ss := ss) (by have := Hn.out; have := Hm.out; omega) fun i r s hi hr hs => Hz.out i r s (by have := Hn.out; omega) hr hs)
        go_wp2_with fail
        go_ret
        exact ⟨ret_bool He.out.symm, Hnew.out⟩
  · have He : Hid (decide (rs.map RouteR.con = ss.map RouteR.con) = false) := hide (decide_eq_false fun e => hnm (by
      have := congrArg List.length e
      simp only [List.length_map] at this
      have h1 := Hn.out
      have h2 := Hm.out
      omega))
    have i1 : ((n : Int) != (m : Int)) = true := by simp; omega
    go_enter Try.func8, Try.ntmps8
    go_wp2_with fail
    go_ret
    exact ⟨ret_bool He.out.symm, Upd.refl _ _⟩

theorem sameRoutes_nil (c d : Nat) (w : World) : Calls Try.prog 8 #[.slice none 0 c, .slice none 0 d] w fun e w1 => e = .returned (.bool true) ∧ New w w1 :=
  sameRoutes_any none none 0 0 c d [] [] w ⟨fun h => absurd h (by simp), fun i r h => by simp at h⟩ ⟨fun h => absurd h (by simp), fun i r h => by simp at h⟩ rfl rfl (by omega) (by omega) (fun i r h => by simp at h) (fun i r h => by simp at h)
end Go.Proofs.Ytlealjcllbpgkaa

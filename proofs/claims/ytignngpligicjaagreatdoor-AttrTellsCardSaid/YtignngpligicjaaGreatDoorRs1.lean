/- The reference's sameness: of prefixes, of what is told, of routes. No condition but those that stand in each theorem. -/
import Derived.Test.YtignngpligicjaaGreatDoorWi1
import Derived.Test.YtignngpligicjaaGreatDoorEq
import Derived.Deep.Cut
namespace Go.Proofs.YtignngpligicjaaGreatDoor
open Go.RowKit

/-- What a route's attributes say, wherever they lie. -/
structure AtC where
  path : List Int
  pref : Int
  med : Int
  origin : Int
  tags : List Int
deriving DecidableEq
def AttrR.con (a : AttrR) : AtC := ⟨a.path, a.pref, a.med, a.origin, a.tags⟩
/-- What a route says. -/
structure RtC where
  a : Int
  n : Int
  at_ : AtC
  frm : Int
deriving DecidableEq
def RouteR.con (r : RouteR) : RtC := ⟨r.a, r.n, r.at_.con, r.frm⟩

theorem con_pref {a b : AttrR} (h : ¬ a.pref = b.pref) : decide (a.con = b.con) = false := decide_eq_false fun e => h (by have := congrArg AtC.pref e; exact this)
theorem con_med {a b : AttrR} (h : ¬ a.med = b.med) : decide (a.con = b.con) = false := decide_eq_false fun e => h (by have := congrArg AtC.med e; exact this)
theorem con_origin {a b : AttrR} (h : ¬ a.origin = b.origin) : decide (a.con = b.con) = false := decide_eq_false fun e => h (by have := congrArg AtC.origin e; exact this)
theorem con_path {a b : AttrR} (h : ¬ a.path = b.path) : decide (a.con = b.con) = false := decide_eq_false fun e => h (by have := congrArg AtC.path e; exact this)
theorem con_tags {a b : AttrR} (h1 : a.pref = b.pref) (h2 : a.med = b.med) (h3 : a.origin = b.origin) (h4 : a.path = b.path) : decide (a.con = b.con) = decide (a.tags = b.tags) := by
  unfold AttrR.con
  rw [h1, h2, h3, h4]
  simp

set_option maxRecDepth 8000 in
set_option maxHeartbeats 1000000 in
theorem sameAttr_any (a b : AttrR) (w : World) (ha : AttrOk w a) (hb : AttrOk w b) (la : a.path.length ≤ 1000) (la2 : a.tags.length ≤ 1000) (lb : b.path.length ≤ 1000) (lb2 : b.tags.length ≤ 1000) :
    Calls Tryz.prog 49 #[.agg a.cells, .agg b.cells] w fun e w1 => e = .returned (.bool (decide (a.con = b.con))) ∧ New w w1 := by
  have u := ((Upd.refl (fun _ => False) w).alloc (.cells a.cells 62)).alloc (.cells b.cells 62)
  have b0 := (Blk.new w 62 a.cells).alloc (.cells b.cells 62)
  have b1 := Blk.at_ (w.alloc (.cells a.cells 62)) 62 b.cells (w.heap.size + 1) (by simp)
  have Ha := hide (ha.new_ u)
  have Hb := hide (hb.new_ u)
  have Hu := hide u
  have Hb0 := hide b0
  have Hb1 := hide b1
  clear ha hb u b0 b1
  unfold AttrR.cells at *
  by_cases h1 : a.pref = b.pref
  · by_cases h2 : a.med = b.med
    · by_cases h3 : a.origin = b.origin
      · have He := hide (con_tags h1 h2 h3)
        have k1 : (a.pref != b.pref) = false := by simp [h1]
        have k2 : (a.med != b.med) = false := by simp [h2]
        have k3 : (a.origin != b.origin) = false := by simp [h3]
        clear h1 h2 h3
        go_enter Tryz.func49, Tryz.ntmps49
        go_upto_region 3 with (fail)
        generalize ((w.alloc (.cells #[.slice a.P a.path.length a.pc, .int .i64 a.pref, .int .i64 a.med, .int .i64 a.origin, .slice a.T a.tags.length a.tc] 62)).alloc (.cells #[.slice b.P b.path.length b.pc, .int .i64 b.pref, .int .i64 b.med, .int .i64 b.origin, .slice b.T b.tags.length b.tc] 62)) = W at *
        have c0 := Hb0.out.cell 0
        have c4 := Hb0.out.cell 4
        have d0 := Hb1.out.cell 0
        have d4 := Hb1.out.cell 4
        have z0 := Hb0.out.lt
        have z1 := Hb1.out.lt
        simp only [List.getElem?_toArray, List.getElem?_cons_zero, List.getElem?_cons_succ] at c0 c4 d0 d4
        have h1 := fun w1 (n : New W w1) => sameInts_any a.P b.P a.path.length b.path.length a.pc b.pc a.path b.path w1 (Ha.out.path.new_ n) (Hb.out.path.new_ n) rfl rfl (by omega) (by omega)
        have h2 := fun w1 (n : New W w1) => sameInts_any a.T b.T a.tags.length b.tags.length a.tc b.tc a.tags b.tags w1 (Ha.out.tags.new_ n) (Hb.out.tags.new_ n) rfl rfl (by omega) (by omega)
        by_cases hp : a.path = b.path
        · have He2 := hide (He.out hp)
          rw [decide_eq_true hp] at h1
          have H1 := hide h1
          have H2 := hide h2
          clear h1 h2 hp
          refine wp_region_seq W (Upd.refl _ _) ?_
          iterate 5 (go_big_quiet_step ((go_at_call 93; exact new_call (H1.out _ (NewW.h _)))))
          repeat (go_big_quiet_step ((go_at_call 93; exact new_call (H2.out _ (NewW.h _)))))
          refine wpQuiet_nil ?_
          rintro _ ⟨nq, rfl⟩
          go_wp2_with fail
          go_ret
          exact ⟨ret_bool He2.out.symm, Hu.out.trans_new nq.h⟩
        · have He2 := hide (con_path hp)
          rw [decide_eq_false hp] at h1
          have H1 := hide h1
          clear h1 h2 hp
          refine wp_region_seq W (Upd.refl _ _) ?_
          repeat (go_big_quiet_step ((go_at_call 93; exact new_call (H1.out _ (NewW.h _)))))
          refine wpQuiet_nil ?_
          rintro _ ⟨nq, rfl⟩
          go_wp2_with fail
          go_ret
          exact ⟨ret_bool He2.out.symm, Hu.out.trans_new nq.h⟩
      · have He := hide (con_origin h3)
        have k1 : (a.pref != b.pref) = false := by simp [h1]
        have k2 : (a.med != b.med) = false := by simp [h2]
        have k3 : (a.origin != b.origin) = true := by simp [h3]
        clear h1 h2 h3
        go_enter Tryz.func49, Tryz.ntmps49
        go_wp2_with fail
        go_ret
        exact ⟨ret_bool He.out.symm, Hu.out⟩
    · have He := hide (con_med h2)
      have k1 : (a.pref != b.pref) = false := by simp [h1]
      have k2 : (a.med != b.med) = true := by simp [h2]
      clear h1 h2
      go_enter Tryz.func49, Tryz.ntmps49
      go_wp2_with fail
      go_ret
      exact ⟨ret_bool He.out.symm, Hu.out⟩
  · have He := hide (con_pref h1)
    have k1 : (a.pref != b.pref) = true := by simp [h1]
    clear h1
    go_enter Tryz.func49, Tryz.ntmps49
    go_wp2_with fail
    go_ret
    exact ⟨ret_bool He.out.symm, Hu.out⟩
end Go.Proofs.YtignngpligicjaaGreatDoor

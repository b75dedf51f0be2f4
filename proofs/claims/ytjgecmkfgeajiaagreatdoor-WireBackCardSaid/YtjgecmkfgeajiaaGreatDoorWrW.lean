/- Package herepathlaw2: wired, a closed fact; what a message that is not too long is bound by. No condition but those that stand in each theorem. -/
import Derived.Test.YtjgecmkfgeajiaaGreatDoorWrR
import Derived.Test.YtjgecmkfgeajiaaGreatDoorLv1
import Derived.Test.YtjgecmkfgeajiaaGreatDoorSmC
namespace Go.Proofs.YtjgecmkfgeajiaaGreatDoor
open Go.RowKit

theorem longM_no {m : MsgR} (h : longM m = false) : m.drops.length ≤ 61 ∧ m.adds.length ≤ 61 ∧ Short m := by
  unfold longM at h
  simp only [Bool.or_eq_false_iff, decide_eq_false_iff_not, List.any_eq_false] at h
  obtain ⟨_, h2, h3, h4⟩ := h
  refine ⟨by omega, by omega, fun i r hr => ?_⟩
  have := h4 r (List.mem_of_getElem? hr)
  unfold longA at this
  simp only [decide_eq_true_eq] at this
  omega
theorem short_con {m m' : MsgR} (e : m'.adds.map RouteR.con = m.adds.map RouteR.con) (h : Short m) : Short m' := fun i r hr => by
  have h1 : (m'.adds.map RouteR.con)[i]? = some r.con := by rw [List.getElem?_map, hr]; rfl
  rw [e, List.getElem?_map] at h1
  obtain ⟨x, hx, hc⟩ := Option.map_eq_some_iff.1 h1
  have h2 := h i x hx
  have e1 : x.at_.path = r.at_.path := congrArg (fun y : RtC => y.at_.path) hc
  have e2 : x.at_.tags = r.at_.tags := congrArg (fun y : RtC => y.at_.tags) hc
  rw [← e1, ← e2]
  exact h2
theorem sameM_con {m m' : MsgR} (h : SameM m m') : m'.con = m.con := by
  obtain ⟨h1, h2, h3, h4⟩ := h
  unfold MsgR.con
  rw [h1, h2, h3, h4]
theorem wTextT_con {m m' : MsgR} (h : SameM m m') : wTextT m' = wTextT m := by
  unfold wTextT
  rw [check_same h, sameM_con h]
def wiredM : MsgR := ⟨⟨kNews.toArray⟩, 0, none, 0, [⟨167772160, 8⟩], none, 0, [⟨184549376, 8, ⟨none, 0, [1], 100, 0, 0, none, 0, []⟩, 0⟩]⟩
def wiredL : List UInt8 := [110, 101, 119, 115, 10, 45, 32, 49, 48, 46, 48, 46, 48, 46, 48, 47, 56, 10, 43, 32, 49, 49, 46, 48, 46, 48, 46, 48, 47, 56, 32, 49, 32, 49, 48, 48, 32, 48, 32, 48, 32, 45, 10]
theorem wired_c : (checkC wiredM).1 = 0 := by kernel_rfl
theorem wired_t : msgT wiredM.con = wiredL := by kernel_rfl
theorem wired_r : readM wiredL = ((0, -1), wiredM.con) := by
  rw [← wired_t]
  exact readM_msgT wired_c (by rw [wired_t]; decide)
def openM : MsgR := ⟨⟨kOpen.toArray⟩, 5, none, 0, [], none, 0, []⟩
theorem open_c : (checkC openM).1 = 0 := by kernel_rfl
theorem open_t : wTextT openM = [111, 112, 101, 110, 32, 53, 10] := by
  unfold wTextT
  rw [if_pos open_c]
  kernel_rfl
theorem open_ok (w : World) : MsgOk w openM := ⟨fun h => by simp [openM] at h, ⟨fun h => by simp [openM] at h, fun i r h => by simp [openM] at h⟩, Nat.le_refl _, Nat.le_refl _⟩

set_option maxRecDepth 20000 in
set_option maxHeartbeats 2000000 in
theorem wired_any (E : Nat → Addr) (w : World) (ht : TxtOk w) (he : WEs w E) :
    Calls Tryz.prog 5 #[] w fun e w1 => e = .returned (.bool true) ∧ New w w1 := by
  have hr := wireRead_any ⟨wiredL.toArray⟩ E w ht he (by decide)
  have hr : Calls Tryz.prog 9 #[.string ⟨wiredL.toArray⟩] w (MReadPost E (readM wiredL) w) := hr
  rw [wired_r] at hr
  have Hr : Hid (Calls Tryz.prog 9 #[.string ⟨#[110, 101, 119, 115, 10, 45, 32, 49, 48, 46, 48, 46, 48, 46, 48, 47, 56, 10, 43, 32, 49, 49, 46, 48, 46, 48, 46, 48, 47, 56, 32, 49, 32, 49, 48, 48, 32, 48, 32, 48, 32, 45, 10]⟩] w (MReadPost E ((0, -1), wiredM.con) w)) := hide hr
  have HT := hide ht
  have HE := hide he
  clear hr ht he
  go_enter Tryz.func5, Tryz.ntmps5
  go_wp2_with fail
  refine Hr.out.mono ?_
  rintro e w1 ⟨m', v, rfl, hv, hc, hok, hu⟩
  obtain rfl : v = .nilIface := errV_nil9 hv rfl
  obtain ⟨kd, nn, D, dc, ds, A, ac, rs⟩ := m'
  have hd : ds = [⟨167772160, 8⟩] := congrArg MsgC.drops hc
  have ha : rs.length = 1 := by
    have := congrArg (fun x : MsgC => x.adds.length) hc
    simpa [MsgR.con, wiredM] using this
  obtain ⟨r, rfl⟩ := List.length_eq_one_iff.1 ha
  subst hd
  have hb := Blk.new w1 TM #[.string kd, .int .i64 nn, .slice D 1 dc, .slice A 1 ac]
  have ua := (Upd.refl (fun _ => False) w1).alloc (.cells #[.string kd, .int .i64 nn, .slice D 1 dc, .slice A 1 ac] TM)
  have N := hide (hu.trans_new ua)
  have HB := hide hb
  have ht := wireText_any openM E (w1.alloc (.cells #[.string kd, .int .i64 nn, .slice D 1 dc, .slice A 1 ac] TM)) (HT.out.new N.out) (HE.out.new N.out) (open_ok _) (fun i r h => by simp [openM] at h) (by decide) (by decide)
  rw [open_t] at ht
  have Ht : Hid (Calls Tryz.prog 7 #[.agg #[.string ⟨#[111, 112, 101, 110]⟩, .int .i64 5, .slice none 0 0, .slice none 0 0]] (w1.alloc (.cells #[.string kd, .int .i64 nn, .slice D 1 dc, .slice A 1 ac] TM)) fun e w2 => ∃ v, e = .returned (.tuple #[.string ⟨#[111, 112, 101, 110, 32, 53, 10]⟩, v]) ∧ ErrV w2 E v (checkC openM).1 (checkC openM).2 ∧ New (w1.alloc (.cells #[.string kd, .int .i64 nn, .slice D 1 dc, .slice A 1 ac] TM)) w2) := hide ht
  clear hv hc hok hu ha ua hb ht
  unfold MsgR.cells
  dsimp only [List.length_cons, List.length_nil]
  go_upto_region 2 with (fail)
  generalize w1.alloc (.cells #[.string kd, .int .i64 nn, .slice D 1 dc, .slice A 1 ac] TM) = W at *
  generalize w1.heap.size = X at *
  go_wp2_with fail
  refine Ht.out.mono ?_
  rintro e w2 ⟨v, rfl, hv, hu⟩
  obtain rfl : v = .nilIface := errV_nil9 hv open_c
  have bq := HB.out.new_ hu
  have c2 := bq.cell 2
  have c3 := bq.cell 3
  have zz := bq.lt
  simp only [List.getElem?_toArray, List.getElem?_cons_zero, List.getElem?_cons_succ] at c2 c3
  have N := hide (N.out.trans_new hu)
  clear bq hu hv
  go_wp2_with fail
  go_ret
  exact ⟨rfl, N.out⟩
end Go.Proofs.YtjgecmkfgeajiaaGreatDoor

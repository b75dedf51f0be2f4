/- Package wire: news, Check. No condition but those that stand in each theorem. -/
import Derived.Test.YtjgecmkfgeajiaaGreatDoorWi1
import Derived.KernelRfl
namespace Go.Proofs.YtjgecmkfgeajiaaGreatDoor
open Go.RowKit

abbrev gKind : Nat := 2
abbrev gExist_ : Nat := 7

set_option maxRecDepth 8000 in
set_option maxHeartbeats 1000000 in
theorem news5_any (m : MsgR) (q : Nat) (r : RouteR) (w : World) (hq : Blk w q TM m.cells) (hm : MsgOk w m) (hl : m.drops.length ≤ 100000) :
    Calls Tryz.prog 85 #[.agg r.cells, .pointer (some ⟨q, 0, none⟩)] w fun e w1 => e = .returned (.bool (m.drops.any (samePf (rtPf r)))) ∧ New w w1 := by
  have u := (Upd.refl (fun _ => False) w).alloc (.cells r.cells 46)
  have Hc := hide (containsPf_any m.D m.drops.length m.dc m.drops (rtPf r) _ (hm.drops.new_ u) rfl (by omega))
  have Hu := hide u
  have d2 := hq.cell 2
  have zq := hq.lt
  unfold MsgR.cells at d2
  simp only [List.getElem?_toArray, List.getElem?_cons_zero, List.getElem?_cons_succ] at d2
  generalize m.drops.length = n at *
  clear hq hm u
  unfold rtPf at Hc
  unfold RouteR.cells at *
  go_enter Tryz.func85, Tryz.ntmps85
  go_wp2_with fail
  refine Hc.out.mono ?_
  rintro e w1 ⟨rfl, hu⟩
  go_wp2_with fail
  go_ret
  exact ⟨rfl, Hu.out.trans_new hu⟩

/-- Is the prefix of a route among the drops? -/
def dropped (m : MsgR) (r : RouteR) : Bool := m.drops.any (samePf (rtPf r))

set_option maxRecDepth 8000 in
set_option maxHeartbeats 1000000 in
theorem idxAdds_any (m : MsgR) (q n : Nat) (w : World) (hq : Blk w q TM m.cells) (hm : MsgOk w m) (hn : m.adds.length = n) (hl : m.drops.length ≤ 100000) (hl2 : n ≤ 100000) :
    Calls Tryz.prog 84 #[.slice m.A n m.ac, .func (.func 85) #[] #[.pointer (some ⟨q, 0, none⟩)]] w fun e w1 => e = .returned (.int .i64 (idxB (dropped m) m.adds)) ∧ New w w1 := by
  have Hq := hide hq
  have Hm := hide hm
  have Hn := hide hn
  have Hl := hide hl
  clear hq hm hn hl
  go_enter Tryz.func84, Tryz.ntmps84
  go_wp2_with fail
  go_loopw [8] (fun i wr => ∃ k : Nat, k ≤ n ∧ i = .int .i64 k ∧ New w wr ∧ ∀ (j : Nat) x, j < k → m.adds[j]? = some x → dropped m x = false) (fun i _ => n - (intOf i).toNat)
  case atStart => exact ⟨0, by omega, rfl, Upd.refl _ _, fun j x h => absurd h (by omega)⟩
  case round =>
    obtain ⟨k, hk, rfl, hnew, hz⟩ := hrel
    have Hz := hide hz
    clear hz
    by_cases hlt : k < n
    · obtain ⟨b, o, r, hA, hb, hrk, hr, c0, c1, c2, c3, c4, c5, c6, c7⟩ := (Hm.out.new_ hnew).adds.at_ (k := k) (by have := Hn.out; omega)
      have Hrk := hide hrk
      have i1 : (k : Int) < (n : Int) := by omega
      have hc := news5_any m q r wr (Hq.out.new_ hnew) (Hm.out.new_ hnew) Hl.out
      unfold RouteR.cells at hc
      rw [hA]
      clear hrk hr
      cases hp : dropped m r with
      | true =>
        rw [show m.drops.any (samePf (rtPf r)) = true from hp] at hc
        have Hc := hide hc
        have Hp := hide hp
        clear hc hp
        go_wp2_with fail
        refine Hc.out.mono ?_
        rintro e w2 ⟨rfl, hu2⟩
        go_wp2_with fail
        go_ret
        exact ⟨ret_int (idxB_at (dropped m) m.adds k r Hrk.out Hp.out Hz.out).symm, hnew.trans_new hu2⟩
      | false =>
        rw [show m.drops.any (samePf (rtPf r)) = false from hp] at hc
        have Hc := hide hc
        have Hp := hide hp
        clear hc hp
        go_wp2_with fail
        refine Hc.out.mono ?_
        rintro e w2 ⟨rfl, hu2⟩
        go_wp2_with fail
        refine ⟨⟨k + 1, by omega, by go_num, hnew.trans_new hu2, fun j y hj hy => ?_⟩, by simp [intOf]; omega⟩
        by_cases hjk : j < k
        · exact Hz.out j y hjk hy
        · obtain rfl : j = k := by omega
          rw [Hrk.out] at hy; injection hy with hy; subst hy; exact Hp.out
    · have hkn : k = n := by omega
      subst hkn
      go_wp2_with fail
      go_ret
      exact ⟨ret_int (idxB_no (dropped m) m.adds fun j y hy => Hz.out j y (by have := (List.getElem?_eq_some_iff.1 hy).1; have := Hn.out; omega) hy).symm, hnew⟩

def dropsC (m : MsgR) : Nat × Int := firstC (riseC (dropF m) (dropM m)) m.drops.length 0
def addsC (m : MsgR) : Nat × Int := firstC (riseC (addF m) (addM m)) m.adds.length 0
/-- What is wrong with news. -/
def newsC (m : MsgR) : Nat × Int :=
  if 60 < m.drops.length ∨ 60 < m.adds.length then (7, -1) else if (dropsC m).1 ≠ 0 then dropsC m else if (addsC m).1 ≠ 0 then addsC m
  else if 0 ≤ idxB (dropped m) m.adds then (6, idxB (dropped m) m.adds) else (0, -1)

/-- Its routes are told shortly. -/
def Short (m : MsgR) : Prop := ∀ (i : Nat) (r : RouteR), m.adds[i]? = some r → r.at_.path.length ≤ 1000 ∧ r.at_.tags.length ≤ 1000

set_option maxRecDepth 8000 in
set_option maxHeartbeats 2000000 in
theorem news_any (m : MsgR) (E : Nat → Addr) (w : World) (h2 : Sen w gBound (E 2)) (h3 : Sen w gShape (E 3)) (h6 : Sen w gExist_ (E 6)) (h7 : Sen w gFull_ (E 7)) (h8 : Sen w gOrder (E 8)) (hm : MsgOk w m) (hs : Short m) (hl : m.drops.length ≤ 100000) (hl2 : m.adds.length ≤ 100000) :
    Calls Tryz.prog 46 #[.agg m.cells] w (ErrPost E (newsC m).1 (newsC m).2 w) := by
  have u := (Upd.refl (fun _ => False) w).alloc (.cells m.cells TM)
  have Hq := hide (Blk.new w TM m.cells)
  have Hm := hide (hm.new_ u)
  have H2 := hide (h2.new u)
  have H3 := hide (h3.new u)
  have H6 := hide (h6.new u)
  have H7 := hide (h7.new u)
  have H8 := hide (h8.new u)
  have Hu := hide u
  have Hs := hide hs
  have z7 : 4 < w.heap.size := h7.lt
  have c7 : w.cell? ⟨4, 0, none⟩ = some (errv (E 7)) := h7
  clear hm h2 h3 h6 h7 h8 u hs
  generalize hn : m.drops.length = n at *
  generalize hk : m.adds.length = k at *
  have Hn := hide hn
  have Hk := hide hk
  clear hn hk
  have Hcs : Hid (m.cells = #[.string m.kind, .int .i64 m.n, .slice m.D n m.dc, .slice m.A k m.ac]) := hide (by unfold MsgR.cells; rw [Hn.out, Hk.out])
  rw [Hcs.out]
  by_cases h60 : 60 < n
  · have He : Hid (newsC m = (7, -1)) := hide (by unfold newsC; rw [if_pos (.inl (by have := Hn.out; omega))])
    have i1 : (60 : Int) < (n : Int) := by omega
    go_enter Tryz.func46, Tryz.ntmps46
    go_wp2_with fail
    go_ret
    exact ⟨_, rfl, by rw [He.out]; exact .sent (by omega) (by omega), by have := Hu.out; rw [Hcs.out] at this; exact this⟩
  · by_cases k60 : 60 < k
    · have He : Hid (newsC m = (7, -1)) := hide (by unfold newsC; rw [if_pos (.inr (by have := Hk.out; omega))])
      have i1 : ¬ (60 : Int) < (n : Int) := by omega
      have i2 : (60 : Int) < (k : Int) := by omega
      go_enter Tryz.func46, Tryz.ntmps46
      go_wp2_with fail
      go_ret
      exact ⟨_, rfl, by rw [He.out]; exact .sent (by omega) (by omega), by have := Hu.out; rw [Hcs.out] at this; exact this⟩
    · have Hlen : Hid (¬ (60 < m.drops.length ∨ 60 < m.adds.length)) := hide (by have := Hn.out; have := Hk.out; omega)
      have i1 : ¬ (60 : Int) < (n : Int) := by omega
      have i2 : ¬ (60 : Int) < (k : Int) := by omega
      have hd := riseDrops_any m w.heap.size n E _ H2.out H3.out H7.out H8.out Hq.out Hm.out Hn.out (by omega)
      rw [show firstC (riseC (dropF m) (dropM m)) n 0 = dropsC m from by unfold dropsC; rw [Hn.out]] at hd
      rw [Hcs.out] at hd
      have Hd := hide hd
      have hq2 := Hq.out
      rw [Hcs.out] at hq2
      have Hq2 := hide hq2
      have hu2 := Hu.out
      rw [Hcs.out] at hu2
      have Hu2 := hide hu2
      have Hx := hide (And.intro (And.intro H2.out H3.out) (And.intro (And.intro H6.out H7.out) (And.intro H8.out Hm.out)))
      have hx2 := Hx.out
      rw [Hcs.out] at hx2
      have Hx2 := hide hx2
      clear hd hq2 hu2 hx2 Hx H2 H3 H6 H7 H8 Hm Hu Hq c7 z7
      go_enter Tryz.func46, Tryz.ntmps46
      go_wp2_with fail
      refine Hd.out.mono ?_
      rintro e w1 ⟨v, rfl, hv, hu1⟩
      have n1 : New w w1 := Hu2.out.trans_new hu1
      obtain ⟨⟨h2, h3⟩, ⟨h6, h7⟩, h8, hm⟩ := Hx2.out
      have H2 := hide (h2.new hu1)
      have H3 := hide (h3.new hu1)
      have H6 := hide (h6.new hu1)
      have H7 := hide (h7.new hu1)
      have H8 := hide (h8.new hu1)
      have Hm := hide (hm.new_ hu1)
      have Hb := hide (Hq2.out.new_ hu1)
      have b3 := Hb.out.cell 3
      have zb := Hb.out.lt
      simp only [List.getElem?_toArray, List.getElem?_cons_zero, List.getElem?_cons_succ] at b3
      clear h2 h3 h6 h7 h8 hm hu1
      rcases hv.form with ⟨hd0, _, rfl⟩ | ⟨hd0, t, p, rfl⟩
      · have ha := riseAdds_any m w.heap.size k E w1 H2.out H3.out H7.out H8.out (by rw [Hcs.out]; exact Hb.out) Hm.out Hk.out (by omega) Hs.out
        rw [show firstC (riseC (addF m) (addM m)) k 0 = addsC m from by unfold addsC; rw [Hk.out]] at ha
        have Ha := hide ha
        have Hd0 := hide hd0
        clear ha hd0 hv
        go_wp2_with fail
        refine Ha.out.mono ?_
        rintro e w2 ⟨v, rfl, hv2, hu2⟩
        have n2 : New w w2 := n1.trans_new hu2
        have Hb2 := hide (Hb.out.new_ hu2)
        have b3 := Hb2.out.cell 3
        have zb := Hb2.out.lt
        simp only [List.getElem?_toArray, List.getElem?_cons_zero, List.getElem?_cons_succ] at b3
        rcases hv2.form with ⟨ha0, _, rfl⟩ | ⟨ha0, t, p, rfl⟩
        · have Hi := hide (idxAdds_any m w.heap.size k w2 (by rw [Hcs.out]; exact Hb2.out) (Hm.out.new_ hu2) Hk.out (by have := Hn.out; omega) (by omega))
          have Ha0 := hide ha0
          have H6b := hide (H6.out.new hu2)
          clear ha0 hv2
          go_wp2_with fail
          refine Hi.out.mono ?_
          rintro e w3 ⟨rfl, hu3⟩
          have z6 : 7 < w3.heap.size := (H6b.out.new hu3).lt
          have c6 : w3.cell? ⟨7, 0, none⟩ = some (errv (E 6)) := H6b.out.new hu3
          unfold errv at c6
          by_cases hp : 0 ≤ idxB (dropped m) m.adds
          · have He : Hid (newsC m = (6, idxB (dropped m) m.adds)) := hide (by unfold newsC; rw [if_neg Hlen.out, if_neg (by simpa using Hd0.out), if_neg (by simpa using Ha0.out), if_pos hp])
            go_wp2_with fail
            go_ret
            exact ⟨_, rfl, by rw [He.out]; exact .fault (by omega) (by omega) (Blk.new _ _ _), (n2.trans_new hu3).alloc _⟩
          · have He : Hid (newsC m = (0, -1)) := hide (by unfold newsC; rw [if_neg Hlen.out, if_neg (by simpa using Hd0.out), if_neg (by simpa using Ha0.out), if_neg hp])
            go_wp2_with fail
            go_ret
            exact ⟨_, rfl, by rw [He.out]; exact .nil, n2.trans_new hu3⟩
        · have He : Hid (newsC m = addsC m) := hide (by unfold newsC; rw [if_neg Hlen.out, if_neg (by simpa using Hd0.out), if_pos ha0])
          have Hv := hide hv2
          clear hv2 ha0
          go_wp2_with fail
          go_ret
          exact ⟨_, rfl, by rw [He.out]; exact Hv.out, n2⟩
      · have He : Hid (newsC m = dropsC m) := hide (by unfold newsC; rw [if_neg Hlen.out, if_pos hd0])
        have Hv := hide hv
        clear hv hd0
        go_wp2_with fail
        go_ret
        exact ⟨_, rfl, by rw [He.out]; exact Hv.out, n1⟩
end Go.Proofs.YtjgecmkfgeajiaaGreatDoor

namespace Go.Proofs.YtjgecmkfgeajiaaGreatDoor
open Go.RowKit

def sOpen : ByteArray := ⟨#[111, 112, 101, 110]⟩
def sKeep : ByteArray := ⟨#[107, 101, 101, 112]⟩
def sNews : ByteArray := ⟨#[110, 101, 119, 115]⟩
def sNote : ByteArray := ⟨#[110, 111, 116, 101]⟩

/-- A message's kind by its number; 0: none. -/
def kindN (s : ByteArray) : Nat := if strEq s sOpen then 1 else if strEq s sKeep then 2 else if strEq s sNews then 3 else if strEq s sNote then 4 else 0
theorem strEq_of {s t u : ByteArray} (h : strEq s t = true) : strEq s u = strEq t u := by
  unfold strEq at *
  rw [beq_iff_eq.1 h]
theorem oK : strEq sOpen sKeep = false := by kernel_rfl
theorem oW : strEq sOpen sNews = false := by kernel_rfl
theorem oN : strEq sOpen sNote = false := by kernel_rfl
theorem kW : strEq sKeep sNews = false := by kernel_rfl
theorem kN : strEq sKeep sNote = false := by kernel_rfl
theorem wN : strEq sNews sNote = false := by kernel_rfl
theorem kind_facts (s : ByteArray) : strEq s sOpen = decide (kindN s = 1) ∧ strEq s sKeep = decide (kindN s = 2) ∧ strEq s sNews = decide (kindN s = 3) ∧ strEq s sNote = decide (kindN s = 4) := by
  unfold kindN
  cases h1 : strEq s sOpen with
  | true => simp [strEq_of h1, oK, oW, oN]
  | false =>
    cases h2 : strEq s sKeep with
    | true => simp [strEq_of h2, kW, kN]
    | false =>
      cases h3 : strEq s sNews with
      | true => simp [strEq_of h3, wN]
      | false => cases h4 : strEq s sNote <;> simp
theorem kindN_le (s : ByteArray) : kindN s ≤ 4 := by unfold kindN; split; omega; split; omega; split; omega; split <;> omega

/-- What is wrong with a message. -/
def checkC (m : MsgR) : Nat × Int :=
  if kindN m.kind = 0 then (4, -1)
  else if (kindN m.kind = 1 ∧ (m.n < 1 ∨ 1000 < m.n)) ∨ (kindN m.kind = 4 ∧ (m.n < 0 ∨ 1000 < m.n)) then (2, -1)
  else if (kindN m.kind = 2 ∨ kindN m.kind = 3) ∧ m.n ≠ 0 then (3, -1)
  else if kindN m.kind ≠ 3 ∧ 0 < m.drops.length + m.adds.length then (3, -1)
  else if kindN m.kind = 3 then newsC m else (0, -1)

def fourKinds : List ByteArray := [sOpen, sKeep, sNews, sNote]
theorem four_any (s : ByteArray) : (fourKinds.any fun t => strEq s t) = decide (kindN s ≠ 0) := by
  obtain ⟨h1, h2, h3, h4⟩ := kind_facts s
  have hl := kindN_le s
  simp only [fourKinds, List.any_cons, List.any_nil, h1, h2, h3, h4]
  generalize kindN s = k at *
  match k, hl with
  | 0, _ => rfl
  | 1, _ => rfl
  | 2, _ => rfl
  | 3, _ => rfl
  | 4, _ => rfl

theorem tO : sOpen.toList = [111, 112, 101, 110] := by kernel_rfl
theorem tK : sKeep.toList = [107, 101, 101, 112] := by kernel_rfl
theorem tW : sNews.toList = [110, 101, 119, 115] := by kernel_rfl
theorem tN : sNote.toList = [110, 111, 116, 101] := by kernel_rfl
theorem kind_text {s : ByteArray} : (kindN s = 1 → s.toList = [111, 112, 101, 110]) ∧ (kindN s = 2 → s.toList = [107, 101, 101, 112]) ∧ (kindN s = 3 → s.toList = [110, 101, 119, 115]) ∧ (kindN s = 4 → s.toList = [110, 111, 116, 101]) := by
  obtain ⟨h1, h2, h3, h4⟩ := kind_facts s
  refine ⟨fun h => ?_, fun h => ?_, fun h => ?_, fun h => ?_⟩
  · rw [h] at h1; rw [← tO]; exact beq_iff_eq.1 h1
  · rw [h] at h2; rw [← tK]; exact beq_iff_eq.1 h2
  · rw [h] at h3; rw [← tW]; exact beq_iff_eq.1 h3
  · rw [h] at h4; rw [← tN]; exact beq_iff_eq.1 h4

set_option maxRecDepth 8000 in
set_option maxHeartbeats 4000000 in
theorem wireCheck_big (m : MsgR) (E : Nat → Addr) (w : World) (h2 : Sen w gBound (E 2)) (h3 : Sen w gShape (E 3)) (h4 : Sen w gKind (E 4)) (h6 : Sen w gExist_ (E 6)) (h7 : Sen w gFull_ (E 7)) (h8 : Sen w gOrder (E 8)) (hm : MsgOk w m) (hs : Short m) (hl : m.drops.length ≤ 100000) (hl2 : m.adds.length ≤ 100000) :
    Calls Tryz.prog 17 #[.agg m.cells] w (ErrPost E (checkC m).1 (checkC m).2 w) := by
  have u := (Upd.refl (fun _ => False) w).alloc (.cells m.cells TM)
  have u2 := u.alloc (.cells #[.string ⟨#[111, 112, 101, 110]⟩, .string ⟨#[107, 101, 101, 112]⟩, .string ⟨#[110, 101, 119, 115]⟩, .string ⟨#[110, 111, 116, 101]⟩] 9)
  have hst : Strs ((w.alloc (.cells m.cells TM)).alloc (.cells #[.string ⟨#[111, 112, 101, 110]⟩, .string ⟨#[107, 101, 101, 112]⟩, .string ⟨#[110, 101, 119, 115]⟩, .string ⟨#[110, 111, 116, 101]⟩] 9)) (some ⟨w.heap.size + 1, 0, none⟩) fourKinds := fun _ => by
    have hb := Blk.at_ (w.alloc (.cells m.cells TM)) 9 #[.string ⟨#[111, 112, 101, 110]⟩, .string ⟨#[107, 101, 101, 112]⟩, .string ⟨#[110, 101, 119, 115]⟩, .string ⟨#[110, 111, 116, 101]⟩] (w.heap.size + 1) (by simp)
    refine ⟨_, _, rfl, hb.lt, fun i s hs => ?_⟩
    rw [Nat.zero_add, hb.cell i]
    match i, hs with
    | 0, hs => injection hs with hs; subst hs; rfl
    | 1, hs => injection hs with hs; subst hs; rfl
    | 2, hs => injection hs with hs; subst hs; rfl
    | 3, hs => injection hs with hs; subst hs; rfl
  have hc := containsStr_any _ 4 4 fourKinds m.kind _ hst rfl (by omega)
  rw [four_any] at hc
  have hq := (Blk.new w TM m.cells).alloc (.cells #[.string ⟨#[111, 112, 101, 110]⟩, .string ⟨#[107, 101, 101, 112]⟩, .string ⟨#[110, 101, 119, 115]⟩, .string ⟨#[110, 111, 116, 101]⟩] 9)
  have hw := news_any m E _ (h2.new u2) (h3.new u2) (h6.new u2) (h7.new u2) (h8.new u2) (hm.new_ u2) hs hl hl2
  have z2 : 0 < w.heap.size := h2.lt
  have z3 : 3 < w.heap.size := h3.lt
  have z4 : 2 < w.heap.size := h4.lt
  have c2 : w.cell? ⟨0, 0, none⟩ = some (errv (E 2)) := h2
  have c3 : w.cell? ⟨3, 0, none⟩ = some (errv (E 3)) := h3
  have c4 : w.cell? ⟨2, 0, none⟩ = some (errv (E 4)) := h4
  clear u h2 h3 h4 h6 h7 h8 hst hq hm hs
  generalize hn : m.drops.length = n at *
  generalize hk : m.adds.length = k at *
  have Hn := hide hn
  have Hk := hide hk
  clear hn hk
  have hcs : m.cells = #[.string m.kind, .int .i64 m.n, .slice m.D n m.dc, .slice m.A k m.ac] := by unfold MsgR.cells; rw [Hn.out, Hk.out]
  rw [hcs] at hc hw u2 ⊢
  have hck : checkC m = if kindN m.kind = 0 then (4, -1)
    else if (kindN m.kind = 1 ∧ (m.n < 1 ∨ 1000 < m.n)) ∨ (kindN m.kind = 4 ∧ (m.n < 0 ∨ 1000 < m.n)) then (2, -1)
    else if (kindN m.kind = 2 ∨ kindN m.kind = 3) ∧ m.n ≠ 0 then (3, -1)
    else if kindN m.kind ≠ 3 ∧ 0 < n + k then (3, -1)
    else if kindN m.kind = 3 then newsC m else (0, -1) := by rw [← Hn.out, ← Hk.out]; rfl
  obtain ⟨f1, f2, f3, f4⟩ := kind_text (s := m.kind)
  have hle := kindN_le m.kind
  have Hc := hide hc
  have Hw := hide hw
  have U2 := hide u2
  have Hck := hide hck
  clear hc hw u2 hcs hck
  have y0 : 0 < w.heap.size := by omega
  have y1 : 1 < w.heap.size := by omega
  generalize kindN m.kind = K at *
  unfold errv at c2 c3 c4
  match K, hle with
  | 0, _ =>
    clear f1 f2 f3 f4
    have He := Hck.out
    rw [if_pos rfl] at He
    have He := hide He
    go_enter Tryz.func17, Tryz.ntmps17
    go_wp2_with fail
    refine Hc.out.mono ?_
    rintro e w1 ⟨rfl, rfl⟩
    go_wp2_with fail
    go_ret
    exact ⟨_, rfl, by rw [He.out]; exact .sent (by omega) (by omega), U2.out⟩
  | 1, _ =>
    have e1 := f1 rfl
    clear f1 f2 f3 f4
    by_cases a1 : m.n < 1
    · have He : Hid (checkC m = (2, -1)) := hide (by rw [Hck.out]; repeat (first | rw [if_pos (by omega)] | rw [if_neg (by omega)]))
      go_enter Tryz.func17, Tryz.ntmps17
      go_wp2_with fail
      refine Hc.out.mono ?_
      rintro e w1 ⟨rfl, rfl⟩
      go_wp2_with fail
      go_ret
      exact ⟨_, rfl, by rw [He.out]; exact .sent (by omega) (by omega), U2.out⟩
    · by_cases a2 : 1000 < m.n
      · have He : Hid (checkC m = (2, -1)) := hide (by rw [Hck.out]; repeat (first | rw [if_pos (by omega)] | rw [if_neg (by omega)]))
        go_enter Tryz.func17, Tryz.ntmps17
        go_wp2_with fail
        refine Hc.out.mono ?_
        rintro e w1 ⟨rfl, rfl⟩
        go_wp2_with fail
        go_ret
        exact ⟨_, rfl, by rw [He.out]; exact .sent (by omega) (by omega), U2.out⟩
      · by_cases a3 : 0 < n + k
        · have a4 : (0 : Int) < (n : Int) + (k : Int) := by omega
          have He : Hid (checkC m = (3, -1)) := hide (by rw [Hck.out]; repeat (first | rw [if_pos (by omega)] | rw [if_neg (by omega)]))
          go_enter Tryz.func17, Tryz.ntmps17
          go_wp2_with fail
          refine Hc.out.mono ?_
          rintro e w1 ⟨rfl, rfl⟩
          go_wp2_with fail
          go_ret
          exact ⟨_, rfl, by rw [He.out]; exact .sent (by omega) (by omega), U2.out⟩
        · have a4 : ¬ (0 : Int) < (n : Int) + (k : Int) := by omega
          have He : Hid (checkC m = (0, -1)) := hide (by rw [Hck.out]; repeat (first | rw [if_pos (by omega)] | rw [if_neg (by omega)]))
          go_enter Tryz.func17, Tryz.ntmps17
          go_wp2_with fail
          refine Hc.out.mono ?_
          rintro e w1 ⟨rfl, rfl⟩
          go_wp2_with fail
          go_ret
          exact ⟨_, rfl, by rw [He.out]; exact .nil, U2.out⟩
  | 2, _ =>
    have e1 := f2 rfl
    clear f1 f2 f3 f4
    by_cases a1 : m.n = 0
    · have b1 : (m.n != 0) = false := by simpa using a1
      have A1 := hide a1
      by_cases a3 : 0 < n + k
      · have a4 : (0 : Int) < (n : Int) + (k : Int) := by omega
        have He : Hid (checkC m = (3, -1)) := hide (by rw [Hck.out]; repeat (first | rw [if_pos (by omega)] | rw [if_neg (by omega)]))
        clear a1
        go_enter Tryz.func17, Tryz.ntmps17
        go_wp2_with fail
        refine Hc.out.mono ?_
        rintro e w1 ⟨rfl, rfl⟩
        go_wp2_with fail
        go_ret
        exact ⟨_, rfl, by rw [He.out]; exact .sent (by omega) (by omega), U2.out⟩
      · have a4 : ¬ (0 : Int) < (n : Int) + (k : Int) := by omega
        have He : Hid (checkC m = (0, -1)) := hide (by rw [Hck.out]; repeat (first | rw [if_pos (by omega)] | rw [if_neg (by omega)]))
        clear a1
        go_enter Tryz.func17, Tryz.ntmps17
        go_wp2_with fail
        refine Hc.out.mono ?_
        rintro e w1 ⟨rfl, rfl⟩
        go_wp2_with fail
        go_ret
        exact ⟨_, rfl, by rw [He.out]; exact .nil, U2.out⟩
    · have b1 : (m.n != 0) = true := by simpa using a1
      have A1 := hide a1
      have He : Hid (checkC m = (3, -1)) := hide (by rw [Hck.out]; repeat (first | rw [if_pos (by omega)] | rw [if_neg (by omega)]))
      clear a1
      go_enter Tryz.func17, Tryz.ntmps17
      go_wp2_with fail
      refine Hc.out.mono ?_
      rintro e w1 ⟨rfl, rfl⟩
      go_wp2_with fail
      go_ret
      exact ⟨_, rfl, by rw [He.out]; exact .sent (by omega) (by omega), U2.out⟩
  | 3, _ =>
    have e1 := f3 rfl
    clear f1 f2 f3 f4
    by_cases a1 : m.n = 0
    · have b1 : (m.n != 0) = false := by simpa using a1
      have A1 := hide a1
      have He : Hid (checkC m = newsC m) := hide (by rw [Hck.out]; repeat (first | rw [if_pos (by omega)] | rw [if_neg (by omega)]))
      clear a1
      go_enter Tryz.func17, Tryz.ntmps17
      go_wp2_with fail
      refine Hc.out.mono ?_
      rintro e w1 ⟨rfl, rfl⟩
      go_wp2_with fail
      refine Hw.out.mono ?_
      rintro e w2 ⟨v, rfl, hv, hu⟩
      have Hv := hide hv
      clear hv
      go_wp2_with fail
      go_ret
      exact ⟨_, rfl, by rw [He.out]; exact Hv.out, U2.out.trans_new hu⟩
    · have b1 : (m.n != 0) = true := by simpa using a1
      have A1 := hide a1
      have He : Hid (checkC m = (3, -1)) := hide (by rw [Hck.out]; repeat (first | rw [if_pos (by omega)] | rw [if_neg (by omega)]))
      clear a1
      go_enter Tryz.func17, Tryz.ntmps17
      go_wp2_with fail
      refine Hc.out.mono ?_
      rintro e w1 ⟨rfl, rfl⟩
      go_wp2_with fail
      go_ret
      exact ⟨_, rfl, by rw [He.out]; exact .sent (by omega) (by omega), U2.out⟩
  | 4, _ =>
    have e1 := f4 rfl
    clear f1 f2 f3 f4
    by_cases a1 : m.n < 0
    · have He : Hid (checkC m = (2, -1)) := hide (by rw [Hck.out]; repeat (first | rw [if_pos (by omega)] | rw [if_neg (by omega)]))
      go_enter Tryz.func17, Tryz.ntmps17
      go_wp2_with fail
      refine Hc.out.mono ?_
      rintro e w1 ⟨rfl, rfl⟩
      go_wp2_with fail
      go_ret
      exact ⟨_, rfl, by rw [He.out]; exact .sent (by omega) (by omega), U2.out⟩
    · by_cases a2 : 1000 < m.n
      · have He : Hid (checkC m = (2, -1)) := hide (by rw [Hck.out]; repeat (first | rw [if_pos (by omega)] | rw [if_neg (by omega)]))
        go_enter Tryz.func17, Tryz.ntmps17
        go_wp2_with fail
        refine Hc.out.mono ?_
        rintro e w1 ⟨rfl, rfl⟩
        go_wp2_with fail
        go_ret
        exact ⟨_, rfl, by rw [He.out]; exact .sent (by omega) (by omega), U2.out⟩
      · by_cases a3 : 0 < n + k
        · have a4 : (0 : Int) < (n : Int) + (k : Int) := by omega
          have He : Hid (checkC m = (3, -1)) := hide (by rw [Hck.out]; repeat (first | rw [if_pos (by omega)] | rw [if_neg (by omega)]))
          go_enter Tryz.func17, Tryz.ntmps17
          go_wp2_with fail
          refine Hc.out.mono ?_
          rintro e w1 ⟨rfl, rfl⟩
          go_wp2_with fail
          go_ret
          exact ⟨_, rfl, by rw [He.out]; exact .sent (by omega) (by omega), U2.out⟩
        · have a4 : ¬ (0 : Int) < (n : Int) + (k : Int) := by omega
          have He : Hid (checkC m = (0, -1)) := hide (by rw [Hck.out]; repeat (first | rw [if_pos (by omega)] | rw [if_neg (by omega)]))
          go_enter Tryz.func17, Tryz.ntmps17
          go_wp2_with fail
          refine Hc.out.mono ?_
          rintro e w1 ⟨rfl, rfl⟩
          go_wp2_with fail
          go_ret
          exact ⟨_, rfl, by rw [He.out]; exact .nil, U2.out⟩
theorem wireCheck_any (m : MsgR) (E : Nat → Addr) (w : World) (h2 : Sen w gBound (E 2)) (h3 : Sen w gShape (E 3)) (h4 : Sen w gKind (E 4)) (h6 : Sen w gExist_ (E 6)) (h7 : Sen w gFull_ (E 7)) (h8 : Sen w gOrder (E 8)) (hm : MsgOk w m) (hs : Short m) (hl : m.drops.length ≤ 1000) (hl2 : m.adds.length ≤ 1000) :
    Calls Tryz.prog 17 #[.agg m.cells] w (ErrPost E (checkC m).1 (checkC m).2 w) := wireCheck_big m E w h2 h3 h4 h6 h7 h8 hm hs (by omega) (by omega)
end Go.Proofs.YtjgecmkfgeajiaaGreatDoor

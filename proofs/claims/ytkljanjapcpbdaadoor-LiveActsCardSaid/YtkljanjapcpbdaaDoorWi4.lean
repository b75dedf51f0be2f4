/- Package wire: Check. No condition but those that stand in each theorem. -/
import Derived.Test.YtkljanjapcpbdaaDoorWi3
import Derived.KernelRfl
namespace Go.Proofs.YtkljanjapcpbdaaDoor
open Go.RowKit

def sOpen : ByteArray := ⟨#[111, 112, 101, 110]⟩
def sKeep : ByteArray := ⟨#[107, 101, 101, 112]⟩
def sNews : ByteArray := ⟨#[110, 101, 119, 115]⟩
def sNote : ByteArray := ⟨#[110, 111, 116, 101]⟩

/-- A message's kind by its number; 0: none. -/
def kindN (s : ByteArray) : Nat := if strEq s sOpen then 1 else if strEq s sKeep then 2 else if strEq s sNews then 3 else if strEq s sNote then 4 else 0
theorem strEq_of {s t u : ByteArray} (h : strEq s t = true) : strEq s u = strEq t u := by
  unfold strEq at *
  rw [beq_iff_eq.1 h]
theorem oK : strEq sOpen sKeep = false := by kernel_rfl
theorem oW : strEq sOpen sNews = false := by kernel_rfl
theorem oN : strEq sOpen sNote = false := by kernel_rfl
theorem kW : strEq sKeep sNews = false := by kernel_rfl
theorem kN : strEq sKeep sNote = false := by kernel_rfl
theorem wN : strEq sNews sNote = false := by kernel_rfl
theorem kind_facts (s : ByteArray) : strEq s sOpen = decide (kindN s = 1) ∧ strEq s sKeep = decide (kindN s = 2) ∧ strEq s sNews = decide (kindN s = 3) ∧ strEq s sNote = decide (kindN s = 4) := by
  unfold kindN
  cases h1 : strEq s sOpen with
  | true => simp [strEq_of h1, oK, oW, oN]
  | false =>
    cases h2 : strEq s sKeep with
    | true => simp [strEq_of h2, kW, kN]
    | false =>
      cases h3 : strEq s sNews with
      | true => simp [strEq_of h3, wN]
      | false => cases h4 : strEq s sNote <;> simp
theorem kindN_le (s : ByteArray) : kindN s ≤ 4 := by unfold kindN; split; omega; split; omega; split; omega; split <;> omega

/-- What is wrong with a message. -/
def checkC (m : MsgR) : Nat × Int :=
  if kindN m.kind = 0 then (4, -1)
  else if (kindN m.kind = 1 ∧ (m.n < 1 ∨ 1000 < m.n)) ∨ (kindN m.kind = 4 ∧ (m.n < 0 ∨ 1000 < m.n)) then (2, -1)
  else if (kindN m.kind = 2 ∨ kindN m.kind = 3) ∧ m.n ≠ 0 then (3, -1)
  else if kindN m.kind ≠ 3 ∧ 0 < m.drops.length + m.adds.length then (3, -1)
  else if kindN m.kind = 3 then newsC m else (0, -1)

def fourKinds : List ByteArray := [sOpen, sKeep, sNews, sNote]
theorem four_any (s : ByteArray) : (fourKinds.any fun t => strEq s t) = decide (kindN s ≠ 0) := by
  obtain ⟨h1, h2, h3, h4⟩ := kind_facts s
  have hl := kindN_le s
  simp only [fourKinds, List.any_cons, List.any_nil, h1, h2, h3, h4]
  generalize kindN s = k at *
  match k, hl with
  | 0, _ => rfl
  | 1, _ => rfl
  | 2, _ => rfl
  | 3, _ => rfl
  | 4, _ => rfl

theorem tO : sOpen.toList = [111, 112, 101, 110] := by kernel_rfl
theorem tK : sKeep.toList = [107, 101, 101, 112] := by kernel_rfl
theorem tW : sNews.toList = [110, 101, 119, 115] := by kernel_rfl
theorem tN : sNote.toList = [110, 111, 116, 101] := by kernel_rfl
theorem kind_text {s : ByteArray} : (kindN s = 1 → s.toList = [111, 112, 101, 110]) ∧ (kindN s = 2 → s.toList = [107, 101, 101, 112]) ∧ (kindN s = 3 → s.toList = [110, 101, 119, 115]) ∧ (kindN s = 4 → s.toList = [110, 111, 116, 101]) := by
  obtain ⟨h1, h2, h3, h4⟩ := kind_facts s
  refine ⟨fun h => ?_, fun h => ?_, fun h => ?_, fun h => ?_⟩
  · rw [h] at h1; rw [← tO]; exact beq_iff_eq.1 h1
  · rw [h] at h2; rw [← tK]; exact beq_iff_eq.1 h2
  · rw [h] at h3; rw [← tW]; exact beq_iff_eq.1 h3
  · rw [h] at h4; rw [← tN]; exact beq_iff_eq.1 h4

set_option maxRecDepth 8000 in
set_option maxHeartbeats 4000000 in
theorem wireCheck_any (m : MsgR) (E : Nat → Addr) (w : World) (h2 : Sen w gBound (E 2)) (h3 : Sen w gShape (E 3)) (h4 : Sen w gKind (E 4)) (h6 : Sen w gExist_ (E 6)) (h7 : Sen w gFull_ (E 7)) (h8 : Sen w gOrder (E 8)) (hm : MsgOk w m) (hs : Short m) (hl : m.drops.length ≤ 1000) (hl2 : m.adds.length ≤ 1000) :
    Calls Tryd.prog 19 #[.agg m.cells] w (ErrPost E (checkC m).1 (checkC m).2 w) := by
  have u := (Upd.refl (fun _ => False) w).alloc (.cells m.cells TM)
  have u2 := u.alloc (.cells #[.string ⟨#[111, 112, 101, 110]⟩, .string ⟨#[107, 101, 101, 112]⟩, .string ⟨#[110, 101, 119, 115]⟩, .string ⟨#[110, 111, 116, 101]⟩] 9)
  have hst : Strs ((w.alloc (.cells m.cells TM)).alloc (.cells #[.string ⟨#[111, 112, 101, 110]⟩, .string ⟨#[107, 101, 101, 112]⟩, .string ⟨#[110, 101, 119, 115]⟩, .string ⟨#[110, 111, 116, 101]⟩] 9)) (some ⟨w.heap.size + 1, 0, none⟩) fourKinds := fun _ => by
    have hb := Blk.at_ (w.alloc (.cells m.cells TM)) 9 #[.string ⟨#[111, 112, 101, 110]⟩, .string ⟨#[107, 101, 101, 112]⟩, .string ⟨#[110, 101, 119, 115]⟩, .string ⟨#[110, 111, 116, 101]⟩] (w.heap.size + 1) (by simp)
    refine ⟨_, _, rfl, hb.lt, fun i s hs => ?_⟩
    rw [Nat.zero_add, hb.cell i]
    match i, hs with
    | 0, hs => injection hs with hs; subst hs; rfl
    | 1, hs => injection hs with hs; subst hs; rfl
    | 2, hs => injection hs with hs; subst hs; rfl
    | 3, hs => injection hs with hs; subst hs; rfl
  have hc := containsStr_any _ 4 4 fourKinds m.kind _ hst rfl (by omega)
  rw [four_any] at hc
  have hq := (Blk.new w TM m.cells).alloc (.cells #[.string ⟨#[111, 112, 101, 110]⟩, .string ⟨#[107, 101, 101, 112]⟩, .string ⟨#[110, 101, 119, 115]⟩, .string ⟨#[110, 111, 116, 101]⟩] 9)
  have hw := news_any m E _ (h2.new u2) (h3.new u2) (h6.new u2) (h7.new u2) (h8.new u2) (hm.new_ u2) hs hl hl2
  have z2 : 0 < w.heap.size := h2.lt
  have z3 : 2 < w.heap.size := h3.lt
  have z4 : 1 < w.heap.size := h4.lt
  have c2 : w.cell? ⟨0, 0, none⟩ = some (errv (E 2)) := h2
  have c3 : w.cell? ⟨2, 0, none⟩ = some (errv (E 3)) := h3
  have c4 : w.cell? ⟨1, 0, none⟩ = some (errv (E 4)) := h4
  clear u h2 h3 h4 h6 h7 h8 hst hq hm hs
  generalize hn : m.drops.length = n at *
  generalize hk : m.adds.length = k at *
  have Hn := hide hn
  have Hk := hide hk
  clear hn hk
  have hcs : m.cells = #[.string m.kind, .int .i64 m.n, .slice m.D n m.dc, .slice m.A k m.ac] := by unfold MsgR.cells; rw [Hn.out, Hk.out]
  rw [hcs] at hc hw u2 ⊢
  have hck : checkC m = if kindN m.kind = 0 then (4, -1)
    else if (kindN m.kind = 1 ∧ (m.n < 1 ∨ 1000 < m.n)) ∨ (kindN m.kind = 4 ∧ (m.n < 0 ∨ 1000 < m.n)) then (2, -1)
    else if (kindN m.kind = 2 ∨ kindN m.kind = 3) ∧ m.n ≠ 0 then (3, -1)
    else if kindN m.kind ≠ 3 ∧ 0 < n + k then (3, -1)
    else if kindN m.kind = 3 then newsC m else (0, -1) := by rw [← Hn.out, ← Hk.out]; rfl
  obtain ⟨f1, f2, f3, f4⟩ := kind_text (s := m.kind)
  have hle := kindN_le m.kind
  have Hc := hide hc
  have Hw := hide hw
  have U2 := hide u2
  have Hck := hide hck
  clear hc hw u2 hcs hck
  have y0 : 0 < w.heap.size := by omega
  have y1 : 1 < w.heap.size := by omega
  generalize kindN m.kind = K at *
  unfold errv at c2 c3 c4
  match K, hle with
  | 0, _ =>
    clear f1 f2 f3 f4
    have He := Hck.out
    rw [if_pos rfl] at He
    have He := hide He
    go_enter Tryd.func19, Tryd.ntmps19
    go_wp2_with fail
    refine Hc.out.mono ?_
    rintro e w1 ⟨rfl, rfl⟩
    go_wp2_with fail
    go_ret
    exact ⟨_, rfl, by rw [He.out]; exact .sent (by omega) (by omega), U2.out⟩
  | 1, _ =>
    have e1 := f1 rfl
    clear f1 f2 f3 f4
    by_cases a1 : m.n < 1
    · have He : Hid (checkC m = (2, -1)) := hide (by rw [Hck.out]; repeat (first | rw [if_pos (by omega)] | rw [if_neg (by omega)]))
      go_enter Tryd.func19, Tryd.ntmps19
      go_wp2_with fail
      refine Hc.out.mono ?_
      rintro e w1 ⟨rfl, rfl⟩
      go_wp2_with fail
      go_ret
      exact ⟨_, rfl, by rw [He.out]; exact .sent (by omega) (by omega), U2.out⟩
    · by_cases a2 : 1000 < m.n
      · have He : Hid (checkC m = (2, -1)) := hide (by rw [Hck.out]; repeat (first | rw [if_pos (by omega)] | rw [if_neg (by omega)]))
        go_enter Tryd.func19, Tryd.ntmps19
        go_wp2_with fail
        refine Hc.out.mono ?_
        rintro e w1 ⟨rfl, rfl⟩
        go_wp2_with fail
        go_ret
        exact ⟨_, rfl, by rw [He.out]; exact .sent (by omega) (by omega), U2.out⟩
      · by_cases a3 : 0 < n + k
        · have a4 : (0 : Int) < (n : Int) + (k : Int) := by omega
          have He : Hid (checkC m = (3, -1)) := hide (by rw [Hck.out]; repeat (first | rw [if_pos (by omega)] | rw [if_neg (by omega)]))
          go_enter Tryd.func19, Tryd.ntmps19
          go_wp2_with fail
          refine Hc.out.mono ?_
          rintro e w1 ⟨rfl, rfl⟩
          go_wp2_with fail
          go_ret
          exact ⟨_, rfl, by rw [He.out]; exact .sent (by omega) (by omega), U2.out⟩
        · have a4 : ¬ (0 : Int) < (n : Int) + (k : Int) := by omega
          have He : Hid (checkC m = (0, -1)) := hide (by rw [Hck.out]; repeat (first | rw [if_pos (by omega)] | rw [if_neg (by omega)]))
          go_enter Tryd.func19, Tryd.ntmps19
          go_wp2_with fail
          refine Hc.out.mono ?_
          rintro e w1 ⟨rfl, rfl⟩
          go_wp2_with fail
          go_ret
          exact ⟨_, rfl, by rw [He.out]; exact .nil, U2.out⟩
  | 2, _ =>
    have e1 := f2 rfl
    clear f1 f2 f3 f4
    by_cases a1 : m.n = 0
    · have b1 : (m.n != 0) = false := by simpa using a1
      have A1 := hide a1
      by_cases a3 : 0 < n + k
      · have a4 : (0 : Int) < (n : Int) + (k : Int) := by omega
        have He : Hid (checkC m = (3, -1)) := hide (by rw [Hck.out]; repeat (first | rw [if_pos (by omega)] | rw [if_neg (by omega)]))
        clear a1
        go_enter Tryd.func19, Tryd.ntmps19
        go_wp2_with fail
        refine Hc.out.mono ?_
        rintro e w1 ⟨rfl, rfl⟩
        go_wp2_with fail
        go_ret
        exact ⟨_, rfl, by rw [He.out]; exact .sent (by omega) (by omega), U2.out⟩
      · have a4 : ¬ (0 : Int) < (n : Int) + (k : Int) := by omega
        have He : Hid (checkC m = (0, -1)) := hide (by rw [Hck.out]; repeat (first | rw [if_pos (by omega)] | rw [if_neg (by omega)]))
        clear a1
        go_enter Tryd.func19, Tryd.ntmps19
        go_wp2_with fail
        refine Hc.out.mono ?_
        rintro e w1 ⟨rfl, rfl⟩
        go_wp2_with fail
        go_ret
        exact ⟨_, rfl, by rw [He.out]; exact .nil, U2.out⟩
    · have b1 : (m.n != 0) = true := by simpa using a1
      have A1 := hide a1
      have He : Hid (checkC m = (3, -1)) := hide (by rw [Hck.out]; repeat (first | rw [if_pos (by omega)] | rw [if_neg (by omega)]))
      clear a1
      go_enter Tryd.func19, Tryd.ntmps19
      go_wp2_with fail
      refine Hc.out.mono ?_
      rintro e w1 ⟨rfl, rfl⟩
      go_wp2_with fail
      go_ret
      exact ⟨_, rfl, by rw [He.out]; exact .sent (by omega) (by omega), U2.out⟩
  | 3, _ =>
    have e1 := f3 rfl
    clear f1 f2 f3 f4
    by_cases a1 : m.n = 0
    · have b1 : (m.n != 0) = false := by simpa using a1
      have A1 := hide a1
      have He : Hid (checkC m = newsC m) := hide (by rw [Hck.out]; repeat (first | rw [if_pos (by omega)] | rw [if_neg (by omega)]))
      clear a1
      go_enter Tryd.func19, Tryd.ntmps19
      go_wp2_with fail
      refine Hc.out.mono ?_
      rintro e w1 ⟨rfl, rfl⟩
      go_wp2_with fail
      refine Hw.out.mono ?_
      rintro e w2 ⟨v, rfl, hv, hu⟩
      have Hv := hide hv
      clear hv
      go_wp2_with fail
      go_ret
      exact ⟨_, rfl, by rw [He.out]; exact Hv.out, U2.out.trans_new hu⟩
    · have b1 : (m.n != 0) = true := by simpa using a1
      have A1 := hide a1
      have He : Hid (checkC m = (3, -1)) := hide (by rw [Hck.out]; repeat (first | rw [if_pos (by omega)] | rw [if_neg (by omega)]))
      clear a1
      go_enter Tryd.func19, Tryd.ntmps19
      go_wp2_with fail
      refine Hc.out.mono ?_
      rintro e w1 ⟨rfl, rfl⟩
      go_wp2_with fail
      go_ret
      exact ⟨_, rfl, by rw [He.out]; exact .sent (by omega) (by omega), U2.out⟩
  | 4, _ =>
    have e1 := f4 rfl
    clear f1 f2 f3 f4
    by_cases a1 : m.n < 0
    · have He : Hid (checkC m = (2, -1)) := hide (by rw [Hck.out]; repeat (first | rw [if_pos (by omega)] | rw [if_neg (by omega)]))
      go_enter Tryd.func19, Tryd.ntmps19
      go_wp2_with fail
      refine Hc.out.mono ?_
      rintro e w1 ⟨rfl, rfl⟩
      go_wp2_with fail
      go_ret
      exact ⟨_, rfl, by rw [He.out]; exact .sent (by omega) (by omega), U2.out⟩
    · by_cases a2 : 1000 < m.n
      · have He : Hid (checkC m = (2, -1)) := hide (by rw [Hck.out]; repeat (first | rw [if_pos (by omega)] | rw [if_neg (by omega)]))
        go_enter Tryd.func19, Tryd.ntmps19
        go_wp2_with fail
        refine Hc.out.mono ?_
        rintro e w1 ⟨rfl, rfl⟩
        go_wp2_with fail
        go_ret
        exact ⟨_, rfl, by rw [He.out]; exact .sent (by omega) (by omega), U2.out⟩
      · by_cases a3 : 0 < n + k
        · have a4 : (0 : Int) < (n : Int) + (k : Int) := by omega
          have He : Hid (checkC m = (3, -1)) := hide (by rw [Hck.out]; repeat (first | rw [if_pos (by omega)] | rw [if_neg (by omega)]))
          go_enter Tryd.func19, Tryd.ntmps19
          go_wp2_with fail
          refine Hc.out.mono ?_
          rintro e w1 ⟨rfl, rfl⟩
          go_wp2_with fail
          go_ret
          exact ⟨_, rfl, by rw [He.out]; exact .sent (by omega) (by omega), U2.out⟩
        · have a4 : ¬ (0 : Int) < (n : Int) + (k : Int) := by omega
          have He : Hid (checkC m = (0, -1)) := hide (by rw [Hck.out]; repeat (first | rw [if_pos (by omega)] | rw [if_neg (by omega)]))
          go_enter Tryd.func19, Tryd.ntmps19
          go_wp2_with fail
          refine Hc.out.mono ?_
          rintro e w1 ⟨rfl, rfl⟩
          go_wp2_with fail
          go_ret
          exact ⟨_, rfl, by rw [He.out]; exact .nil, U2.out⟩
end Go.Proofs.YtkljanjapcpbdaaDoor

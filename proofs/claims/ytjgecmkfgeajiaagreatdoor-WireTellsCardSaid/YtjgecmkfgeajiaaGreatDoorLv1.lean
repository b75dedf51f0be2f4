/- Package live: what a session's calls do. No condition but those that stand in each theorem. -/
import Derived.Test.YtjgecmkfgeajiaaGreatDoorWi3
namespace Go.Proofs.YtjgecmkfgeajiaaGreatDoor
open Go.RowKit

def stI : ByteArray := ⟨#[105, 100, 108, 101]⟩
def stS : ByteArray := ⟨#[115, 101, 110, 116]⟩
def stU : ByteArray := ⟨#[117, 112]⟩
def stB (n : Nat) : ByteArray := if n = 0 then stI else if n = 1 then stS else stU

/-- A session: whom it hears, ticks without a word, its state (0: idle; 1: sent; 2: up). -/
structure LS where
  peer : Int
  ticks : Int
  st : Nat
def msgCells (k : ByteArray) (n : Int) : Array Value := #[.string k, .int .i64 n, .slice none 0 0, .slice none 0 0]
/-- What is sent: nothing, or one message in a block of its own. -/
def OutAt (B : Nat) (w : World) (v : Value) : List (ByteArray × Int) → Prop
  | [] => v = .slice none 0 0
  | (k, n) :: _ => ∃ g, v = .slice (some ⟨g, 0, none⟩) 1 1 ∧ Blk w g TM (msgCells k n) ∧ B ≤ g

def idleS (c : Int) : LS × List (ByteArray × Int) := (⟨0, 0, 0⟩, [(sNote, c)])
def startS (ya : Int) (s : LS) : LS × List (ByteArray × Int) := if s.st = 0 then (⟨s.peer, 0, 1⟩, [(sOpen, ya)]) else (s, [])
def stopS (s : LS) : LS × List (ByteArray × Int) := if s.st = 0 then (s, []) else idleS 6
def tickS (s : LS) : LS × List (ByteArray × Int) :=
  if s.st = 0 then (s, []) else if 3 < s.ticks + 1 then idleS 4 else (⟨s.peer, s.ticks + 1, s.st⟩, if s.st = 2 then [(sKeep, 0)] else [])

theorem stB0 : stB 0 = stI := rfl
theorem stB1 : stB 1 = stS := rfl
theorem stB2 : stB 2 = stU := rfl

end Go.Proofs.YtjgecmkfgeajiaaGreatDoor

namespace Go.Proofs.YtjgecmkfgeajiaaGreatDoor
open Go.RowKit

/-- Is what is told too long for a statement? -/
def longA (a : AttrR) : Bool := decide (20 < a.path.length ∨ 15 < a.tags.length)
def longN (a : AttrR) : Int := if longA a then 1 else 0
set_option maxHeartbeats 1000000 in
theorem longAttr_any (a : AttrR) (w : World) : Calls Tryz.prog 20 #[.agg a.cells] w fun e w1 => e = .returned (.int .i64 (longN a)) ∧ New w w1 := by
  unfold AttrR.cells
  generalize hn : a.path.length = n
  generalize hm : a.tags.length = m
  have Hn := hide hn
  have Hm := hide hm
  clear hn hm
  by_cases h1 : 20 < n
  · have Hl : Hid (longA a = true) := hide (by unfold longA; rw [Hn.out]; simp [h1])
    have i1 : (20 : Int) < (n : Int) := by omega
    go_enter Tryz.func20, Tryz.ntmps20
    go_wp2_with fail
    go_ret
    exact ⟨ret_int (by unfold longN; rw [Hl.out]; rfl), (Upd.refl _ _).alloc _⟩
  · have i1 : ¬ (20 : Int) < (n : Int) := by omega
    by_cases h2 : 15 < m
    · have Hl : Hid (longA a = true) := hide (by unfold longA; rw [Hm.out]; simp [h2])
      have i2 : (15 : Int) < (m : Int) := by omega
      go_enter Tryz.func20, Tryz.ntmps20
      go_wp2_with fail
      go_ret
      exact ⟨ret_int (by unfold longN; rw [Hl.out]; rfl), (Upd.refl _ _).alloc _⟩
    · have Hl : Hid (longA a = false) := hide (by unfold longA; rw [Hn.out, Hm.out]; simp; omega)
      have i2 : ¬ (15 : Int) < (m : Int) := by omega
      go_enter Tryz.func20, Tryz.ntmps20
      go_wp2_with fail
      go_ret
      exact ⟨ret_int (by unfold longN; rw [Hl.out]; rfl), (Upd.refl _ _).alloc _⟩
end Go.Proofs.YtjgecmkfgeajiaaGreatDoor

namespace Go.Proofs.YtjgecmkfgeajiaaGreatDoor
open Go.RowKit

/-- Is a message too long for a statement? -/
def longM (m : MsgR) : Bool := decide (20 < m.kind.size) || (decide (30 < m.drops.length ∧ m.drops.length ≠ 61) || (decide (30 < m.adds.length ∧ m.adds.length ≠ 61) || m.adds.any fun r => longA r.at_))
def longMN (m : MsgR) : Int := if longM m then 1 else 0

theorem longMN_1 {m : MsgR} (h : longM m = true) : longMN m = 1 := by unfold longMN; rw [h]; rfl
theorem longMN_0 {m : MsgR} (h : longM m = false) : longMN m = 0 := by unfold longMN; rw [h]; rfl
theorem longN_1 {a : AttrR} (h : longA a = true) : longN a = 1 := by unfold longN; rw [h]; rfl
theorem longN_0 {a : AttrR} (h : longA a = false) : longN a = 0 := by unfold longN; rw [h]; rfl

set_option maxRecDepth 8000 in
set_option maxHeartbeats 4000000 in
theorem longMsg_any (m : MsgR) (w : World) (hm : MsgOk w m) : Calls Tryz.prog 6 #[.agg m.cells] w fun e w1 => e = .returned (.int .i64 (longMN m)) ∧ New w w1 := by
  have u := (Upd.refl (fun _ => False) w).alloc (.cells m.cells TM)
  have Hq := hide (Blk.new w TM m.cells)
  have Hm := hide (hm.new_ u)
  have Hu := hide u
  clear hm u
  generalize hn : m.drops.length = n at *
  generalize hk : m.adds.length = k at *
  have hcs : m.cells = #[.string m.kind, .int .i64 m.n, .slice m.D n m.dc, .slice m.A k m.ac] := by unfold MsgR.cells; rw [hn, hk]
  rw [hcs] at Hq Hm Hu ⊢
  have Hn := hide hn
  have Hk := hide hk
  clear hn hk hcs
  by_cases a0 : 20 < m.kind.size
  · have Hl : Hid (longM m = true) := hide (by unfold longM; simp [a0])
    have i0 : (20 : Int) < (m.kind.size : Int) := by omega
    go_enter Tryz.func6, Tryz.ntmps6
    go_wp2_with fail
    go_ret
    exact ⟨ret_int (longMN_1 Hl.out).symm, Hu.out⟩
  · have i0 : ¬ (20 : Int) < (m.kind.size : Int) := by omega
    by_cases a1 : 30 < n ∧ n ≠ 61
    · have Hl : Hid (longM m = true) := hide (by unfold longM; rw [Hn.out]; simp [a1])
      obtain ⟨a1, a2⟩ := a1
      have i1 : (30 : Int) < (n : Int) := by omega
      have i2 : ((n : Int) != 61) = true := by simp; omega
      go_enter Tryz.func6, Tryz.ntmps6
      go_wp2_with fail
      go_ret
      exact ⟨ret_int (longMN_1 Hl.out).symm, Hu.out⟩
    · by_cases b1 : 30 < k ∧ k ≠ 61
      · have Hl : Hid (longM m = true) := hide (by unfold longM; rw [Hk.out]; simp [b1])
        obtain ⟨b1, b2⟩ := b1
        have j1 : (30 : Int) < (k : Int) := by omega
        have j2 : ((k : Int) != 61) = true := by simp; omega
        rcases (show n ≤ 30 ∨ n = 61 by omega) with h | rfl
        · have i1 : ¬ (30 : Int) < (n : Int) := by omega
          clear a1
          go_enter Tryz.func6, Tryz.ntmps6
          go_wp2_with fail
          go_ret
          exact ⟨ret_int (longMN_1 Hl.out).symm, Hu.out⟩
        · clear a1
          go_enter Tryz.func6, Tryz.ntmps6
          go_wp2_with fail
          go_ret
          exact ⟨ret_int (longMN_1 Hl.out).symm, Hu.out⟩
      · have Hdec : Hid (longM m = m.adds.any fun r => longA r.at_) := hide (by
          have h1 : decide (20 < m.kind.size) = false := by simpa using a0
          have h2 : decide (30 < n ∧ n ≠ 61) = false := decide_eq_false a1
          have h3 : decide (30 < k ∧ k ≠ 61) = false := decide_eq_false b1
          unfold longM
          rw [Hn.out, Hk.out, h1, h2, h3]
          rfl)
        have hx : (¬ (30 : Int) < (n : Int)) ∨ n = 61 := by omega
        have hy : (¬ (30 : Int) < (k : Int)) ∨ k = 61 := by omega
        clear a1 b1 a0
        rcases hx with hx | rfl <;> rcases hy with hy | rfl
        all_goals
          have q3 := Hq.out.cell 3
          have zq := Hq.out.lt
          simp only [List.getElem?_toArray, List.getElem?_cons_zero, List.getElem?_cons_succ] at q3
          go_enter Tryz.func6, Tryz.ntmps6
          go_wp2_with fail
          clear q3
          generalize (w.alloc (.cells _ TM)) = w2 at *
          go_loopw [3] (fun i wr => ∃ j : Nat, j ≤ m.adds.length ∧ i = .int .i64 j ∧ New w2 wr ∧ ∀ (i : Nat) r, i < j → m.adds[i]? = some r → longA r.at_ = false) (fun i _ => m.adds.length - (intOf i).toNat)
          case atStart => exact ⟨0, by omega, rfl, Upd.refl _ _, fun i r h => absurd h (by omega)⟩
          case round =>
            obtain ⟨j, hj, rfl, hnew, hz⟩ := hrel
            have Hz := hide hz
            clear hz
            have bb := Hq.out.new_ hnew
            have q3 := bb.cell 3
            have zq := bb.lt
            simp only [List.getElem?_toArray, List.getElem?_cons_zero, List.getElem?_cons_succ] at q3
            clear bb
            by_cases hlt : j < m.adds.length
            · obtain ⟨b, o, r, hA, hb, hr, hok, c0, c1, c2, c3, c4, c5, c6, c7⟩ := (Hm.out.new_ hnew).adds.at_ hlt
              rw [hA] at q3
              clear hA
              have Hr := hide hr
              have i1 : (j : Int) < (m.adds.length : Int) := by omega
              rw [Hk.out] at i1
              try simp only [Int.cast_ofNat_Int] at i1
              have hc := longAttr_any r.at_ wr
              unfold AttrR.cells at hc
              cases hl : longA r.at_ with
              | true =>
                rw [longN_1 hl] at hc
                have Hc := hide hc
                have Hl : Hid (longM m = true) := hide (by rw [Hdec.out]; exact List.any_eq_true.2 ⟨r, List.mem_of_getElem? Hr.out, hl⟩)
                clear hc hl hr hok c0 c1 c7
                go_wp2_with fail
                refine Hc.out.mono ?_
                rintro e w3 ⟨rfl, hu3⟩
                go_wp2_with fail
                go_ret
                exact ⟨ret_int (longMN_1 Hl.out).symm, (Hu.out.trans_new hnew).trans_new hu3⟩
              | false =>
                rw [longN_0 hl] at hc
                have Hc := hide hc
                have Hl := hide hl
                clear hc hl hr hok c0 c1 c7
                go_wp2_with fail
                refine Hc.out.mono ?_
                rintro e w3 ⟨rfl, hu3⟩
                go_wp2_with fail
                refine ⟨⟨j + 1, by omega, by go_num, hnew.trans_new hu3, fun i y hi hy => ?_⟩, by simp [intOf]; omega⟩
                by_cases hij : i < j
                · exact Hz.out i y hij hy
                · obtain rfl : i = j := by omega
                  rw [Hr.out] at hy; injection hy with hy; subst hy; exact Hl.out
            · have hjk : j = m.adds.length := by omega
              have i1 : ¬ (j : Int) < (m.adds.length : Int) := by omega
              rw [Hk.out] at i1
              try simp only [Int.cast_ofNat_Int] at i1
              have Hl : Hid (longM m = false) := hide (by
                rw [Hdec.out, List.any_eq_false]
                intro r hr
                obtain ⟨i, hi⟩ := List.getElem?_of_mem hr
                have := Hz.out i r (by have := (List.getElem?_eq_some_iff.1 hi).1; omega) hi
                simp [this])
              have Hjk := hide hjk
              clear hjk
              go_wp2_with fail
              go_ret
              exact ⟨ret_int (longMN_0 Hl.out).symm, Hu.out.trans_new hnew⟩

/-- An event. -/
structure EvR where
  kind : ByteArray
  m : MsgR
def EvR.cells (e : EvR) : Array Value := #[.string e.kind, .string e.m.kind, .int .i64 e.m.n, .slice e.m.D e.m.drops.length e.m.dc, .slice e.m.A e.m.adds.length e.m.ac]
structure Evs (w : World) (A : Option Addr) (es : List EvR) : Prop where
  rows : Rws w A 5 (es.map EvR.cells)
  ok : ∀ (i : Nat) (e : EvR), es[i]? = some e → MsgOk w e.m
theorem Evs.new_ {w w1 : World} {A : Option Addr} {es : List EvR} (h : Evs w A es) (hu : New w w1) : Evs w1 A es := ⟨h.rows.new_ hu, fun i e he => (h.ok i e he).new_ hu⟩
theorem Evs.at_ {w : World} {A : Option Addr} {es : List EvR} (h : Evs w A es) {k : Nat} (hk : k < es.length) : ∃ b o e, A = some ⟨b, o, none⟩ ∧ b < w.heap.size ∧ es[k]? = some e ∧ MsgOk w e.m ∧
    w.cell? ⟨b, o + k * 5, none⟩ = some (.string e.kind) ∧ w.cell? ⟨b, o + k * 5 + 1, none⟩ = some (.string e.m.kind) ∧ w.cell? ⟨b, o + k * 5 + 2, none⟩ = some (.int .i64 e.m.n) ∧
    w.cell? ⟨b, o + k * 5 + 3, none⟩ = some (.slice e.m.D e.m.drops.length e.m.dc) ∧ w.cell? ⟨b, o + k * 5 + 4, none⟩ = some (.slice e.m.A e.m.adds.length e.m.ac) := by
  obtain ⟨b, o, hA, hb, hc⟩ := h.rows (by simpa using by omega)
  have hp : es[k]? = some es[k] := List.getElem?_eq_getElem hk
  have h1 := hc k es[k].cells (by simp [hp])
  exact ⟨b, o, es[k], hA, hb, hp, h.ok k _ hp, h1 0 _ rfl, h1 1 _ rfl, h1 2 _ rfl, h1 3 _ rfl, h1 4 _ rfl⟩

def longE (e : EvR) : Bool := decide (20 < e.kind.size) || longM e.m
/-- Are events too many, or too long, for a statement? -/
def longEs (es : List EvR) : Bool := decide (60 < es.length) || es.any longE

end Go.Proofs.YtjgecmkfgeajiaaGreatDoor

/- Messages as texts, plainly: what is written, what is read. No condition but those that stand in each theorem. -/
import Derived.Test.YtjgecmkfgeajiaaGreatDoorLgA
import Derived.Test.YtjgecmkfgeajiaaGreatDoorWi3
namespace Go.Proofs.YtjgecmkfgeajiaaGreatDoor
open Go.RowKit

/-- What a message says. -/
structure MsgC where
  kind : List UInt8
  n : Int
  drops : List Pf
  adds : List RtC
def MsgR.con (m : MsgR) : MsgC := ⟨m.kind.data.toList, m.n, m.drops, m.adds.map RouteR.con⟩
def zeroM : MsgC := ⟨[], 0, [], []⟩
def kOpen : List UInt8 := [111, 112, 101, 110]
def kKeep : List UInt8 := [107, 101, 101, 112]
def kNews : List UInt8 := [110, 101, 119, 115]
def kNote : List UInt8 := [110, 111, 116, 101]

/-- A line of what is dropped, of what is added; the first line; all. -/
def dropT (p : Pf) : List UInt8 := 45 :: 32 :: (prefT p.a p.n ++ [10])
def attrX (x : AtC) : List UInt8 := attrT ⟨none, 0, x.path, x.pref, x.med, x.origin, none, 0, x.tags⟩
theorem attrT_con (a : AttrR) : attrT a = attrX a.con := rfl
def addT (r : RtC) : List UInt8 := 43 :: 32 :: (prefT r.a r.n ++ 32 :: (attrX r.at_ ++ [10]))
def headT (k : List UInt8) (n : Int) : List UInt8 := if k = kOpen ∨ k = kNote then k ++ 32 :: (Lib.itoa n ++ [10]) else k ++ [10]
def dropsT (l : List Pf) : List UInt8 := (l.map dropT).flatten
def addsT (l : List RtC) : List UInt8 := (l.map addT).flatten
def msgT (m : MsgC) : List UInt8 := headT m.kind m.n ++ (dropsT m.drops ++ addsT m.adds)

/-- The first line as it is read. -/
def headP (l : List UInt8) : Option (List UInt8 × Int) :=
  if l = kKeep ∨ l = kNews then some (l, 0) else
  match cutR 32 l with
  | [k, x] => if (k = kOpen ∨ k = kNote) ∧ 0 ≤ numR x then some (k, numR x) else none
  | _ => none
/-- What was read so far: dropped, added, told wrongly. -/
structure RdS where
  drops : List Pf
  adds : List RtC
  more : List Pf
def lineQ (st : RdS) (w0 : List UInt8) (p : Pf) (r : List (List UInt8)) : Option RdS :=
  if w0 = [45] ∧ r = [] ∧ st.adds = [] ∧ st.more = [] then some { st with drops := st.drops ++ [p] }
  else if w0 = [43] ∧ r ≠ [] then
    (if (readT (joinC 32 r)).1 = 0 then some { st with adds := st.adds ++ [⟨p.a, p.n, (readT (joinC 32 r)).2, 0⟩] } else some { st with more := st.more ++ [p] })
  else none
def lineP (st : RdS) (l : List UInt8) : Option RdS :=
  match cutR 32 l with
  | w0 :: w1 :: r => if (readP ⟨w1.toArray⟩).1 = 0 then lineQ st w0 ⟨(readP ⟨w1.toArray⟩).2.1, (readP ⟨w1.toArray⟩).2.2⟩ r else none
  | _ => none
/-- The lines behind the first one, from the i-th on: what was read, or the place that is wrong. -/
def restP (news : Bool) : List (List UInt8) → Nat → RdS → RdS ⊕ Nat
  | [], _, st => .inl st
  | [x], i, st => if x = [] then .inl st else .inr i
  | x :: y :: r, i, st => if news then (match lineP st x with | some s => restP news (y :: r) (i + 1) s | none => .inr i) else .inr i
/-- Where a prefix comes among others, once. -/
def geP (p q : Pf) : Bool := decide (0 ≤ cmpP q.a q.n p.a p.n)
def dropIn (l : List Pf) (p : Pf) : List Pf := if idxB (geP p) l < 0 then l ++ [p] else if l[(idxB (geP p) l).toNat]? = some p then l else l.take (idxB (geP p) l).toNat ++ p :: l.drop (idxB (geP p) l).toNat
def dropAll (l more : List Pf) : List Pf := more.foldl dropIn l
/-- A message's rows, where they lie does not matter. -/
def rtR (r : RtC) : RouteR := ⟨r.a, r.n, ⟨none, 0, r.at_.path, r.at_.pref, r.at_.med, r.at_.origin, none, 0, r.at_.tags⟩, r.frm⟩
def checkX (m : MsgC) : Nat × Int := checkC ⟨⟨m.kind.toArray⟩, m.n, none, 0, m.drops, none, 0, m.adds.map rtR⟩
def endP (k : List UInt8) (n : Int) (st : RdS) : (Nat × Int) × MsgC :=
  if (checkX ⟨k, n, dropAll st.drops st.more, st.adds⟩).1 = 0 then ((0, -1), ⟨k, n, dropAll st.drops st.more, st.adds⟩) else (((checkX ⟨k, n, dropAll st.drops st.more, st.adds⟩).1, -1), zeroM)
/-- What a text reads as. -/
def readM (l : List UInt8) : (Nat × Int) × MsgC :=
  if 8000 < l.length then ((2, -1), zeroM) else
  match cutR 10 l with
  | x :: y :: r =>
    match headP x with
    | some (k, n) => (match restP (decide (k = kNews)) (y :: r) 1 ⟨[], [], []⟩ with | .inl st => endP k n st | .inr i => ((1, (i : Int)), zeroM))
    | none => ((1, 0), zeroM)
  | _ => ((1, 0), zeroM)
end Go.Proofs.YtjgecmkfgeajiaaGreatDoor

namespace Go.Proofs.YtjgecmkfgeajiaaGreatDoor
open Go.RowKit

theorem restP_last {news : Bool} {ls : List (List UInt8)} {i : Nat} {x : List UInt8} {st : RdS} (h : ls[i]? = some x) (hl : i + 1 = ls.length) : restP news (ls.drop i) i st = if x = [] then .inl st else .inr i := by
  have hi := (List.getElem?_eq_some_iff.1 h).1
  have e : ls.drop i = [x] := by
    rw [List.drop_eq_getElem_cons hi, (List.getElem?_eq_some_iff.1 h).2, List.drop_eq_nil_of_le (by omega)]
  rw [e]
  rfl
theorem restP_step {news : Bool} {ls : List (List UInt8)} {i : Nat} {x : List UInt8} {st : RdS} (h : ls[i]? = some x) (hl : i + 1 < ls.length) : restP news (ls.drop i) i st = if news then (match lineP st x with | some s => restP news (ls.drop (i + 1)) (i + 1) s | none => .inr i) else .inr i := by
  have hi := (List.getElem?_eq_some_iff.1 h).1
  have e : ls.drop i = x :: ls.drop (i + 1) := by
    rw [List.drop_eq_getElem_cons hi, (List.getElem?_eq_some_iff.1 h).2]
  have e2 : ls.drop (i + 1) = ls[i + 1] :: ls.drop (i + 1 + 1) := List.drop_eq_getElem_cons hl
  rw [e, e2]
  rfl
/-- What a state is bound by. -/
structure RdB (k : Nat) (st : RdS) : Prop where
  dl : st.drops.length ≤ k
  al : st.adds.length ≤ k
  ml : st.more.length ≤ k
  short : ∀ x ∈ st.adds, x.at_.path.length ≤ 1000 ∧ x.at_.tags.length ≤ 1000
  frm : ∀ x ∈ st.adds, x.frm = 0
theorem RdB.zero : RdB 0 ⟨[], [], []⟩ := ⟨Nat.le_refl _, Nat.le_refl _, Nat.le_refl _, fun x h => by simp at h, fun x h => by simp at h⟩
theorem RdB.up {k : Nat} {st : RdS} (h : RdB k st) : RdB (k + 1) st := ⟨Nat.le_succ_of_le h.dl, Nat.le_succ_of_le h.al, Nat.le_succ_of_le h.ml, h.short, h.frm⟩
theorem RdB.line {k : Nat} {st st1 : RdS} {l : List UInt8} (h : RdB k st) (hb : ∀ z, (readT z).1 = 0 → (readT z).2.path.length ≤ 1000 ∧ (readT z).2.tags.length ≤ 1000) (hl : lineP st l = some st1) : RdB (k + 1) st1 := by
  have hd := h.dl
  have ha := h.al
  have hm := h.ml
  unfold lineP at hl
  split at hl
  · split at hl
    · unfold lineQ at hl
      split at hl
      · injection hl with hl
        subst hl
        exact ⟨by simp; omega, by simp; omega, by simp; omega, h.short, h.frm⟩
      · split at hl
        · split at hl
          · rename_i hz
            injection hl with hl
            subst hl
            refine ⟨by simp; omega, by simp; omega, by simp; omega, fun x hx => ?_, fun x hx => ?_⟩
            · rcases List.mem_append.1 hx with hx | hx
              · exact h.short x hx
              · rw [List.mem_singleton.1 hx]
                exact hb _ hz
            · rcases List.mem_append.1 hx with hx | hx
              · exact h.frm x hx
              · rw [List.mem_singleton.1 hx]
          · injection hl with hl
            subst hl
            exact ⟨by simp; omega, by simp; omega, by simp; omega, h.short, h.frm⟩
        · cases hl
    · cases hl
  · cases hl
theorem readM_one {l x : List UInt8} (h : cutR 10 l = [x]) : readM l = if 8000 < l.length then ((2, -1), zeroM) else ((1, 0), zeroM) := by
  unfold readM
  rw [h]
theorem readM_bad {l x y : List UInt8} {r : List (List UInt8)} (h : cutR 10 l = x :: y :: r) (h8 : ¬ 8000 < l.length) (hh : headP x = none) : readM l = ((1, 0), zeroM) := by
  unfold readM
  rw [if_neg h8, h]
  dsimp only
  rw [hh]
theorem readM_rest {l x y : List UInt8} {r : List (List UInt8)} {k : List UInt8} {n : Int} (h : cutR 10 l = x :: y :: r) (h8 : ¬ 8000 < l.length) (hh : headP x = some (k, n)) :
    readM l = match restP (decide (k = kNews)) ((cutR 10 l).drop 1) 1 ⟨[], [], []⟩ with | .inl st => endP k n st | .inr i => ((1, (i : Int)), zeroM) := by
  unfold readM
  rw [if_neg h8, h]
  dsimp only
  rw [hh]
  rfl
end Go.Proofs.YtjgecmkfgeajiaaGreatDoor

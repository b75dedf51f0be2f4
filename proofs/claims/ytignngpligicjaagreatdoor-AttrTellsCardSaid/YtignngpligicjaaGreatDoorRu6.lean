/- slices.Repeat of one number. No condition but those that stand in each theorem. -/
import Derived.Test.YtignngpligicjaaGreatDoorShl
import Derived.Laws.CopyOwn
import Derived.Deep.RegionLaw
import Derived.Laws.CopyRow
import Derived.Laws.OwnMore
import Derived.Test.YtignngpligicjaaGreatDoorWi1
import Derived.Deep.AppendLies
import Derived.BigRegion
namespace Go.Proofs.YtignngpligicjaaGreatDoor
open Go.RowKit

theorem mul1_any (n : Nat) (hn : n ≤ 1000) (w : World) : Calls Tryz.prog 125 #[.int .u64 1, .int .u64 n] w fun e w' => e = .returned (.tuple #[.int .u64 0, .int .u64 n]) ∧ w = w' := by
  have h := mul_any 1 n (by omega) (by omega) w
  rw [Nat.one_mul, Nat.mod_eq_of_lt (by omega), Nat.div_eq_of_lt (by omega)] at h
  refine h.mono ?_
  rintro e w' ⟨rfl, rfl⟩
  exact ⟨rfl, rfl⟩

def rep (v : Int) (k n : Nat) : List Value := List.replicate k (.int .i64 v) ++ List.replicate (n - k) (.int .i64 0)
theorem rep_len (v : Int) {k n : Nat} (h : k ≤ n) : (rep v k n).length = n := by simp [rep]; omega
theorem rep_splice (v : Int) {k m n : Nat} (h : k + m ≤ n) : splice (rep v k n) k (List.replicate m (.int .i64 v)) = rep v (k + m) n := by
  unfold splice rep
  rw [List.length_replicate, List.take_append_of_le_length (by simp), List.take_of_length_le (by simp), ← List.append_assoc, List.replicate_append_replicate]
  congr 1
  rw [List.drop_append, List.length_replicate]
  simp
  omega
theorem rep_at (v : Int) {k n j : Nat} (h : j < k) : (rep v k n)[j]? = some (.int .i64 v) := by
  unfold rep
  rw [List.getElem?_append_left (by simpa using h)]
  simp [h]
theorem make_ints (n : Nat) (hn : n ≤ 1000) (w : World) : (Instr.makeSlice 60 (.int .i64 n) (.int .i64 n)).run Tryz.prog w = .ok (.slice (some ⟨w.heap.size, 0, none⟩) n n) (w.alloc (.cells (rep 0 0 n).toArray 3)) := by
  obtain ⟨i0, hi0, hz0, hz1, hz2⟩ := info_parts info_TI
  have h := run_make (P := Tryz.prog) w 60 3 i0 _ Tryz.underlying60 hi0 hz0 .i64 .i64 n n (by omega) (by omega) (by rw [hz2]; omega) (by omega)
  rw [h, hz1]
  have e : madeCells (Value.int .i64 0).cells ((n : Int).toNat * 1) = (rep 0 0 n).toArray := by
    apply Array.toList_inj.1
    have h2 := toList_madeCells_one (Value.int .i64 0) n
    rw [Int.toNat_natCast, Nat.mul_one]
    rw [show (Value.int .i64 0).cells = #[Value.int .i64 0] from rfl, h2]
    simp [rep]
  rw [e]
  simp

theorem copy_rep (v : Int) {w : World} {g1 k m n dl dc sl sc : Nat} {a : Addr} (hb : Blk w g1 3 (rep v k n).toArray) (hkm : k + m ≤ n) (hm : m = Nat.min sl dl) (hs : ∀ j, j < m → w.cell? (a.add j) = some (.int .i64 v)) :
    ∃ w', (Builtin.copy_ #[60, 60] 3 #[.slice (some ⟨g1, k, none⟩) dl dc, .slice (some a) sl sc]).run Tryz.prog w = .ok (.int .i64 (m : Int)) w' ∧ Blk w' g1 3 (rep v (k + m) n).toArray ∧ Upd (fun b => b = g1) w w' := by
  have h := run_copy_row (P := Tryz.prog) w 60 60 3 3 g1 k dl dc a sl sc _ _ (List.replicate m (.int .i64 v)) Tryz.underlying60 (by kernel_rfl) hb (by simpa using hm)
    (fun j u hj => by
      have hj2 : j < m := by have := (List.getElem?_eq_some_iff.1 hj).1; simpa using this
      rw [List.getElem?_replicate, if_pos hj2] at hj
      injection hj with hj
      subst hj
      exact hs j hj2) (by simp [rep_len v (show k ≤ n by omega)]; omega) (fun u hu => by rw [List.mem_replicate] at hu; rw [hu.2]; rfl)
  rw [List.append_assoc] at h
  refine ⟨w.setRow g1 ((rep v k n).take k ++ (List.replicate m (Value.int .i64 v) ++ (rep v k n).drop (k + m))).toArray, ?_, ?_, ?_⟩
  rotate_left
  · have h2 := setRow_heap w g1 _ ((rep v k n).take k ++ (List.replicate m (Value.int .i64 v) ++ (rep v k n).drop (k + m))).toArray _ _ hb
    rw [← rep_splice v hkm]
    unfold splice
    rw [List.length_replicate]
    exact h2
  · exact ⟨rfl, rfl, rfl, by simp [World.setRow], fun q _ hq => setRow_other w g1 q _ hq⟩
  · rw [h]
    simp [goInt]

set_option maxRecDepth 20000 in
set_option maxHeartbeats 1000000 in
theorem repeat_any (v : Int) (n g : Nat) (w : World) (hb : Blk w g 3 #[.int .i64 v]) (hn : n ≤ 1000) :
    Calls Tryz.prog 95 #[.slice (some ⟨g, 0, none⟩) 1 1, .int .i64 n] w fun e w1 => ∃ g1, e = .returned (.slice (some ⟨g1, 0, none⟩) n n) ∧ Blk w1 g1 3 (rep v n n).toArray ∧ w.heap.size ≤ g1 ∧ New w w1 := by
  have Hm := hide (mul1_any n hn)
  have Hmk := hide (make_ints n hn)
  have Hb := hide hb
  have i1 : ¬ ((n : Int) < 0) := by omega
  have i2 : ¬ ((9223372036854775807 : Int) < (n : Int)) := by omega
  have i3 : decide ((9223372036854775807 : Int) < (n : Int)) = false := decide_eq_false i2
  obtain ⟨g1, hg1⟩ : ∃ g1, g1 = w.heap.size := ⟨_, rfl⟩
  have G1 := hide hg1
  have hsz : (Tryz.prog.info? 3).map (·.size) = some 1 := by kernel_rfl
  have hmk := make_ints n hn w
  rw [← hg1] at hmk
  have B1 := hide (show Blk (w.alloc (.cells (rep 0 0 n).toArray 3)) g1 3 (rep 0 0 n).toArray by rw [hg1]; exact Blk.new w _ _)
  have U1 := hide ((Upd.refl (fun _ => False) w).alloc (.cells (rep 0 0 n).toArray 3))
  generalize hW : w.alloc (.cells (rep 0 0 n).toArray 3) = W at *
  clear hb hW hg1
  by_cases h0 : n = 0
  · subst h0
    have hcp : (Builtin.copy_ #[60, 60] 3 #[.slice (some ⟨g1, 0, none⟩) 0 0, .slice (some ⟨g, 0, none⟩) 1 1]).run Tryz.prog W = .ok (goInt 0) W := run_copy_none W _ _ _ 3 _ _ 0 0 1 1 Tryz.underlying60 hsz rfl
    have hmk0 : (Instr.makeSlice 60 (.int .i64 0) (.int .i64 0)).run Tryz.prog w = .ok (.slice (some ⟨g1, 0, none⟩) 0 0) W := hmk
    have hz : goInt 0 = .int .i64 0 := rfl
    rw [hz] at hcp
    clear i1 i2 i3 hmk hz
    go_enter Tryz.func95, Tryz.ntmps95
    go_wp2_with (go_at_call 125; refine (Hm.out _).mono ?_; rintro e w' ⟨rfl, rfl⟩)
    go_loopw [8] (fun i wr => i = .int .i64 0 ∧ wr = W) (fun _ _ => 0)
    case atStart => exact ⟨rfl, rfl⟩
    case round =>
      obtain ⟨rfl, rfl⟩ := hrel
      go_wp2_with fail
      go_ret
      exact ⟨g1, rfl, by have := B1.out; rwa [show rep 0 0 0 = rep v 0 0 from rfl] at this, by have := G1.out; omega, U1.out⟩
  · have Hr : ∃ W2, (Builtin.copy_ #[60, 60] 3 #[.slice (some ⟨g1, 0, none⟩) n n, .slice (some ⟨g, 0, none⟩) 1 1]).run Tryz.prog W = .ok (.int .i64 ((1 : Nat) : Int)) W2 ∧ Blk W2 g1 3 (rep v (0 + 1) n).toArray ∧ Upd (fun b => b = g1) W W2 :=
      copy_rep v (k := 0) (by have := B1.out; rwa [show rep 0 0 n = rep v 0 n from rfl] at this) (by omega) (show 1 = min 1 n by rw [Nat.min_eq_left (by omega)]) (fun j hj => by
        obtain rfl : j = 0 := by omega
        exact ((Hb.out.new_ U1.out).cell 0).trans rfl)
    obtain ⟨W2, hcp, hb2, hu2⟩ := Hr
    have B2 := hide hb2
    have U2 := hide (U1.out.trans hu2 (fun q hq hx => absurd hx (by have := G1.out; omega)))
    have n1 : 1 ≤ n := by omega
    clear hb2 hu2 h0
    go_enter Tryz.func95, Tryz.ntmps95
    go_wp2_with (go_at_call 125; refine (Hm.out _).mono ?_; rintro e w' ⟨rfl, rfl⟩)
    clear hmk hcp
    go_loopw [8] (fun i wr => ∃ k : Nat, 1 ≤ k ∧ k ≤ n ∧ i = .int .i64 k ∧ Blk wr g1 3 (rep v k n).toArray ∧ New w wr) (fun i _ => n - (intOf i).toNat)
    case atStart => exact ⟨1, by omega, n1, rfl, B2.out, U2.out⟩
    case round =>
      obtain ⟨k, hk1, hkn, rfl, hbk, huk⟩ := hrel
      have Bk := hide hbk
      have Uk := hide huk
      clear hbk huk
      by_cases hlt : k < n
      · obtain ⟨m, hm⟩ : ∃ m, m = min k (n - k) := ⟨_, rfl⟩
        have hm1 : m ≤ k := by rw [hm]; exact Nat.min_le_left _ _
        have hm2 : m ≤ n - k := by rw [hm]; exact Nat.min_le_right _ _
        have hm3 : 1 ≤ m := by rw [hm]; exact Nat.le_min.2 ⟨hk1, by omega⟩
        obtain ⟨w2, hcp, hb2, hu2⟩ := copy_rep v (w := wr.drew) (g1 := g1) (k := k) (m := m) (n := n) (dl := n - k) (dc := n - k) (sl := k) (sc := n) (a := ⟨g1, 0, none⟩) Bk.out.drew (by omega) hm (fun j hj => by
          have h1 := Bk.out.cell j
          rw [List.getElem?_toArray, rep_at v (by omega)] at h1
          rw [Addr.add_lit, Nat.zero_add]
          exact h1)
        have Hcp := hide hcp
        have B3 := hide hb2
        have U3 := hide (Uk.out.trans (Upd.trans ((Upd.refl (fun b => b = g1) wr).drew) hu2 (fun _ _ h => h)) (fun q hq hx => absurd hx (by have := G1.out; omega)))
        have i5 : (k : Int) < (n : Int) := by omega
        have i6 : (k : Int) ≤ (n : Int) := by omega
        have i7 : ¬ n = k := by omega
        clear hm hcp hb2 hu2
        go_upto_region 9 with (fail)
        have hcp := Hcp.out
        go_region
        go_wp2_with fail
        exact ⟨⟨k + m, by omega, by omega, by go_num, B3.out, U3.out⟩, by simp [intOf]; omega⟩
      · have hkn2 : n = k := by omega
        subst hkn2
        go_wp2_with fail
        go_ret
        exact ⟨g1, rfl, Bk.out, by have := G1.out; omega, Uk.out⟩
end Go.Proofs.YtignngpligicjaaGreatDoor

namespace Go.Proofs.YtignngpligicjaaGreatDoor
open Go.RowKit

theorem step_append_src {P : Program} {w : World} {ops : Array Oper} {o : Oper} {a : Act} {K : Act → World → Prop} {Q : Exit → Act → World → Prop} {E : Prop} (hgd : o.guard = none) (s x : Operand) (t : TypeId)
    (ho : o.op = .call { callee := .builtin .append, args := #[s, x], argTypes := #[t, t] })
    (base : Nat) (e : TypeId) (i : TypeInfo) (z : Value) (size bytes : Nat) (ht : P.underlying t = some (.slice e)) (hi : P.info? e = some i) (hz : i.zero = some z)
    (hsize : i.size = size) (hby : i.bytes = bytes) (hzs : z.cells.size = size) (hsz : 0 < size)
    (v : Value) (n : Nat) (xs : List Value) (hs : a.eval s = v) (hown : w.ownsRow base e size v n xs)
    (A : Option Addr) (m c : Nat) (news : List Value) (hx : a.eval x = .slice A m c) (hl : news.length = m * size)
    (hnews : 0 < m → ∃ b q, A = some ⟨b, q, none⟩ ∧ ∀ (j : Nat) (u : Value), news[j]? = some u → w.cell? ⟨b, q + j, none⟩ = some u) (h1 : ∀ u ∈ news, u.oneCell' = true)
    (h63 : n + m ≤ maxLen) (hbytes : (n + m) * bytes ≤ 140737488355328) (hbase : base ≤ w.heap.size)
    (h : ∀ v' w', w'.ownsRow base e size v' (n + m) (xs ++ news) → w.grownBy w' v.ownBlock → K (a.put o.dst v') w') : if Region.wanted o (yielded ops a.tmps) = true then Oper.wp P o a w K Q else E := by
  have hw : Region.wanted o (yielded ops a.tmps) = true := by simp [Region.wanted, hgd]
  rw [if_pos hw]
  have empty : m = 0 → news = [] := fun h0 => by
    subst h0
    rw [Nat.zero_mul] at hl
    exact List.eq_nil_of_length_eq_zero hl
  cases A with
  | none =>
    have h0 : m = 0 := by
      rcases Nat.eq_zero_or_pos m with h0 | h0
      · exact h0
      · obtain ⟨b, q, hA, _⟩ := hnews h0
        cases hA
    have hn := empty h0
    subst h0
    subst hn
    have h2 := h v w (by simpa using hown) (grown_refl _ _)
    have hrun := run_append_none (P := P) (w := w) (base := base) (t := t) (ty := o.type) (c := c) ht hi hown
    unfold Oper.wp
    simp [execOp, ho, resolve, invoke, builtin, hs, hx, hrun, Result.andThen]
    exact h2
  | some ad =>
    obtain ⟨v', w', hrun, h2, h3, _⟩ := run_append_own (P := P) w base t o.type e i z size bytes ht hi hz hsize hby hzs hsz v n xs hown ad m c news hl (fun j u hj => by
      rcases Nat.eq_zero_or_pos m with h0 | h0
      · rw [empty h0] at hj; simp at hj
      · obtain ⟨b, q, hA, hc⟩ := hnews h0
        injection hA with hA
        subst hA
        rw [show (⟨b, q, none⟩ : Addr).add j = ⟨b, q + j, none⟩ by unfold Addr.add; split <;> simp_all]
        exact hc j u hj) h1 h63 hbytes hbase
    unfold Oper.wp
    simp [execOp, ho, resolve, invoke, builtin, hs, hx, hrun, Result.andThen]
    exact h _ _ h2 h3

/-- What is wrong with what is told, of its content alone. -/
def conC (x : AtC) : Nat × Int := attrC ⟨none, 0, x.path, x.pref, x.med, x.origin, none, 0, x.tags⟩
theorem attrC_con (a : AttrR) : attrC a = conC a.con := rfl
def zeroC : AtC := ⟨[], 0, 0, 0, []⟩
def zeroR : AttrR := ⟨none, 0, [], 0, 0, 0, none, 0, []⟩
theorem zeroR_con : zeroR.con = zeroC := rfl
theorem zeroR_ok (w : World) : AttrOk w zeroR := ⟨Ints.nil, Ints.nil, Nat.le_refl _, Nat.le_refl _⟩
/-- Lead: the error, what it gives. -/
def leadK (x : AtC) (s n : Int) : Nat := if (conC x).1 ≠ 0 then (conC x).1 else if inR s 1 1000 = false ∨ inR n 0 12 = false then 2 else if 12 < (x.path.length : Int) + n then 7 else 0
def leadX (x : AtC) (s n : Int) : AtC := if leadK x s n = 0 then { x with path := List.replicate n.toNat s ++ x.path } else zeroC
def tagK (x : AtC) (t : Int) : Nat := if (conC x).1 ≠ 0 then (conC x).1 else if inR t 1 9999 = false then 2 else if x.tags.contains t = false ∧ 8 ≤ x.tags.length then 7 else 0
def tagsX (l : List Int) (t : Int) : List Int := if l.contains t then l else l.take (l.countP (· < t)) ++ t :: l.drop (l.countP (· < t))
def tagX (x : AtC) (t : Int) : AtC := if tagK x t = 0 then { x with tags := tagsX x.tags t } else zeroC

theorem attr_err_out {fn : Func} {p t : Tmp} {tmps : Array Value} {w : World} {R : Nat} {x0 x1 x2 x3 x4 : Value} (h : fn.results = #[.cell p TA, .tmp t]) (hp : tmps.getD p undef = .pointer (some ⟨R, 0, none⟩)) (hb : Blk w R TA #[x0, x1, x2, x3, x4]) :
    (results fn tmps).run Tryz.prog w = .ok (.tuple #[.agg #[x0, x1, x2, x3, x4], tmps.getD t undef]) w := by
  have hp' : tmps[p]?.getD undef = .pointer (some ⟨R, 0, none⟩) := by simpa using hp
  simp [results, h, hp', asAddr, run_loadVar_row w R TA TA #[x0, x1, x2, x3, x4] (0, 0) _ hb Tryz.underlying62 rfl (by rw [TA_info]; rfl)]
theorem attr_out3 {fn : Func} {p t u : Tmp} {tmps : Array Value} {w : World} {R : Nat} {x0 x1 x2 x3 x4 : Value} (h : fn.results = #[.cell p TA, .tmp t, .tmp u]) (hp : tmps.getD p undef = .pointer (some ⟨R, 0, none⟩)) (hb : Blk w R TA #[x0, x1, x2, x3, x4]) :
    (results fn tmps).run Tryz.prog w = .ok (.tuple #[.agg #[x0, x1, x2, x3, x4], tmps.getD t undef, tmps.getD u undef]) w := by
  have hp' : tmps[p]?.getD undef = .pointer (some ⟨R, 0, none⟩) := by simpa using hp
  simp [results, h, hp', asAddr, run_loadVar_row w R TA TA #[x0, x1, x2, x3, x4] (0, 0) _ hb Tryz.underlying62 rfl (by rw [TA_info]; rfl)]
theorem leadK_con {x : AtC} {s n : Int} (h : (conC x).1 ≠ 0) : leadK x s n = (conC x).1 := by unfold leadK; rw [if_pos h]
theorem leadK_bound {x : AtC} {s n : Int} (h : (conC x).1 = 0) (h2 : inR s 1 1000 = false ∨ inR n 0 12 = false) : leadK x s n = 2 := by unfold leadK; rw [if_neg (by simp [h]), if_pos h2]
theorem leadK_full {x : AtC} {s n : Int} (h : (conC x).1 = 0) (h2 : inR s 1 1000 = true) (h3 : inR n 0 12 = true) (h4 : 12 < (x.path.length : Int) + n) : leadK x s n = 7 := by unfold leadK; rw [if_neg (by simp [h]), if_neg (by simp [h2, h3]), if_pos h4]
theorem leadK_ok {x : AtC} {s n : Int} (h : (conC x).1 = 0) (h2 : inR s 1 1000 = true) (h3 : inR n 0 12 = true) (h4 : ¬ 12 < (x.path.length : Int) + n) : leadK x s n = 0 := by unfold leadK; rw [if_neg (by simp [h]), if_neg (by simp [h2, h3]), if_neg h4]
theorem leadX_err {x : AtC} {s n : Int} (h : leadK x s n ≠ 0) : leadX x s n = zeroC := by unfold leadX; rw [if_neg h]
theorem leadX_ok {x : AtC} {s n : Int} (h : leadK x s n = 0) : leadX x s n = { x with path := List.replicate n.toNat s ++ x.path } := by unfold leadX; rw [if_pos h]
theorem tagK_con {x : AtC} {t : Int} (h : (conC x).1 ≠ 0) : tagK x t = (conC x).1 := by unfold tagK; rw [if_pos h]
theorem tagK_bound {x : AtC} {t : Int} (h : (conC x).1 = 0) (h2 : inR t 1 9999 = false) : tagK x t = 2 := by unfold tagK; rw [if_neg (by simp [h]), if_pos h2]
theorem tagK_full {x : AtC} {t : Int} (h : (conC x).1 = 0) (h2 : inR t 1 9999 = true) (h3 : x.tags.contains t = false) (h4 : 8 ≤ x.tags.length) : tagK x t = 7 := by unfold tagK; rw [if_neg (by simp [h]), if_neg (by simp [h2]), if_pos ⟨h3, h4⟩]
theorem tagK_ok {x : AtC} {t : Int} (h : (conC x).1 = 0) (h2 : inR t 1 9999 = true) (h3 : ¬ (x.tags.contains t = false ∧ 8 ≤ x.tags.length)) : tagK x t = 0 := by unfold tagK; rw [if_neg (by simp [h]), if_neg (by simp [h2]), if_neg h3]
theorem tagX_err {x : AtC} {t : Int} (h : tagK x t ≠ 0) : tagX x t = zeroC := by unfold tagX; rw [if_neg h]
theorem tagX_ok {x : AtC} {t : Int} (h : tagK x t = 0) : tagX x t = { x with tags := tagsX x.tags t } := by unfold tagX; rw [if_pos h]
theorem attrC_le2 (a : AttrR) : (attrC a).1 ≤ 8 := by
  unfold attrC
  have : ∀ (l : List Int) (p i : Int), (tagC p l i).1 ≤ 8 := by
    intro l
    induction l with
    | nil => intro p i; simp [tagC]
    | cons t l ih => intro p i; unfold tagC; split; · simp
                     · split; · simp
                       · exact ih _ _
  split; · simp
  · split; · simp
    · split; · simp
      · exact this _ _ _
theorem conC_le (x : AtC) : (conC x).1 ≤ 8 := attrC_le2 _
theorem tagC_pw : ∀ (l : List Int) (p i : Int), 0 ≤ i → (tagC p l i).1 = 0 → l.Pairwise (· < ·) ∧ (0 < i → ∀ t ∈ l, p < t)
  | [], p, i, _, _ => ⟨List.Pairwise.nil, by simp⟩
  | t :: l, p, i, hi, h => by
    unfold tagC at h
    split at h
    · simp at h
    · split at h
      · simp at h
      · rename_i h1 h2
        obtain ⟨q1, q2⟩ := tagC_pw l t (i + 1) (by omega) h
        have q3 := q2 (by omega)
        refine ⟨List.pairwise_cons.2 ⟨q3, q1⟩, fun h0 s hs => ?_⟩
        have hpt : p < t := by omega
        rcases List.mem_cons.1 hs with rfl | hs
        · exact hpt
        · have := q3 s hs; omega
theorem conC_zero {x : AtC} (h : (conC x).1 = 0) : x.path.length ≤ 12 ∧ x.tags.length ≤ 8 ∧ x.tags.Pairwise (· < ·) := by
  unfold conC attrC at h
  split at h
  · simp at h
  · rename_i h1
    split at h
    · simp at h
    · split at h
      · simp at h
      · exact ⟨by have := h1; dsimp only at this; omega, by have := h1; dsimp only at this; omega, (tagC_pw _ _ _ (by omega) h).1⟩
end Go.Proofs.YtignngpligicjaaGreatDoor

namespace Go.Proofs.YtignngpligicjaaGreatDoor
open Go.RowKit

/-- Its rows are new. -/
def Fresh (w : World) (a : AttrR) : Prop := (∀ b o, a.P = some ⟨b, o, none⟩ → w.heap.size ≤ b) ∧ (∀ b o, a.T = some ⟨b, o, none⟩ → w.heap.size ≤ b)
theorem zeroR_fresh (w : World) : Fresh w zeroR := ⟨fun b o e => by simp [zeroR] at e, fun b o e => by simp [zeroR] at e⟩
theorem Fresh.low {w w1 : World} {a : AttrR} (h : Fresh w1 a) (hs : w.heap.size ≤ w1.heap.size) : Fresh w a := ⟨fun b o e => Nat.le_trans hs (h.1 b o e), fun b o e => Nat.le_trans hs (h.2 b o e)⟩
theorem lead_end {w W : World} {x : AtC} {E : Nat → Addr} {k : Nat} {K : Nat} (hn : New w W) (hk : K = k) (hx : x = zeroC) :
    ∃ a' : AttrR, Ending.returned (.tuple #[.agg #[.slice none 0 0, .int .i64 0, .int .i64 0, .int .i64 0, .slice none 0 0], errc E k]) = .returned (.tuple #[.agg a'.cells, errc E K]) ∧ a'.con = x ∧ AttrOk W a' ∧ Fresh w a' ∧ New w W := by
  subst hk; subst hx
  exact ⟨zeroR, rfl, rfl, zeroR_ok _, zeroR_fresh _, hn⟩

theorem set5_one (w : World) (M : Nat) (y0 y1 y2 y3 y4 : Value) : Upd (fun b => b = M) w (((((w.setCell ⟨M, 0, none⟩ y0).setCell ⟨M, 1, none⟩ y1).setCell ⟨M, 2, none⟩ y2).setCell ⟨M, 3, none⟩ y3).setCell ⟨M, 4, none⟩ y4) :=
  (((((Upd.refl (fun b => b = M) w).setCell (p := ⟨M, 0, none⟩) (.inl rfl) y0).setCell (p := ⟨M, 1, none⟩) (.inl rfl) y1).setCell (p := ⟨M, 2, none⟩) (.inl rfl) y2).setCell (p := ⟨M, 3, none⟩) (.inl rfl) y3).setCell (p := ⟨M, 4, none⟩) (.inl rfl) y4
theorem own_of_blk {base : Nat} {w : World} {g n : Nat} {t : TypeId} {cs : List Value} (h : Blk w g t cs.toArray) (hl : cs.length = n) (hb : base ≤ g) (hn : n ≤ maxLen) : w.ownsRow base t 1 (.slice (some ⟨g, 0, none⟩) n n) n cs :=
  ⟨by omega, .inr ⟨g, n, cs.toArray, rfl, hb, h, Nat.le_refl _, hn, by simp [hl], by simp [← hl]⟩⟩
theorem drew_alloc_size (W : World) (o : Obj) : ((W.alloc o).drew).heap.size = W.heap.size + 1 := by
  show (W.alloc o).heap.size = _
  simp
theorem rep_path (s : Int) (N : Nat) (l : List Int) : rep s N N ++ l.map (Value.int .i64) = (List.replicate N s ++ l).map (.int .i64) := by simp [rep]

set_option maxRecDepth 20000 in
set_option maxHeartbeats 4000000 in
theorem lead_any (a : AttrR) (s n : Int) (E : Nat → Addr) (w : World) (h2 : Sen w gBound (E 2)) (h7 : Sen w gFull_ (E 7)) (h8 : Sen w gOrder (E 8)) (ha : AttrOk w a) (hl : a.path.length ≤ 1000) (hl2 : a.tags.length ≤ 1000) :
    Calls Tryz.prog 50 #[.agg a.cells, .int .i64 s, .int .i64 n] w fun e w1 => ∃ a' : AttrR, e = .returned (.tuple #[.agg a'.cells, errc E (leadK a.con s n)]) ∧ a'.con = leadX a.con s n ∧ AttrOk w1 a' ∧ Fresh w a' ∧ New w w1 := by
  have u := ((Upd.refl (fun _ => False) w).alloc (.cells a.cells TA)).alloc (.cells #[.slice none 0 0, .int .i64 0, .int .i64 0, .int .i64 0, .slice none 0 0] TA)
  have b0 := (Blk.new w TA a.cells).alloc (.cells #[.slice none 0 0, .int .i64 0, .int .i64 0, .int .i64 0, .slice none 0 0] TA)
  have b1 := Blk.at_ (w.alloc (.cells a.cells TA)) TA #[.slice none 0 0, .int .i64 0, .int .i64 0, .int .i64 0, .slice none 0 0] (w.heap.size + 1) (by simp)
  have hz7 : 3 < w.heap.size := h7.lt
  have q7 : ¬ (w.heap.size + 1 = 3) := by omega
  have q71 : ¬ (3 = w.heap.size + 1) := by omega
  have Hck := hide (attrCheck_any a E _ (h2.new u) (h7.new u) (h8.new u) (ha.new_ u) hl hl2)
  have Ha := hide (ha.new_ u)
  have H2 := hide (h2.new u)
  have H7 := hide (h7.new u)
  have Hu := hide u
  have HM := hide b0
  have HR := hide b1
  obtain ⟨i0, hi0, hz0, hz1, hz2⟩ := info_parts info_TI
  clear ha u b0 b1 h2 h7 h8
  obtain ⟨x, hx⟩ : ∃ x, x = a.con := ⟨_, rfl⟩
  rw [← hx]
  have HX := hide hx
  clear hx
  unfold AttrR.cells at *
  go_enter Tryz.func50, Tryz.ntmps50
  go_upto_region 1 with (fail)
  generalize ((w.alloc (.cells #[.slice a.P a.path.length a.pc, .int .i64 a.pref, .int .i64 a.med, .int .i64 a.origin, .slice a.T a.tags.length a.tc] TA)).alloc (.cells #[.slice none 0 0, .int .i64 0, .int .i64 0, .int .i64 0, .slice none 0 0] TA)) = W at *
  have bq := HM.out
  have m0 := bq.cell 0
  have m1 := bq.cell 1
  have m2 := bq.cell 2
  have m3 := bq.cell 3
  have m4 := bq.cell 4
  have zM := bq.lt
  simp only [List.getElem?_toArray, List.getElem?_cons_zero, List.getElem?_cons_succ] at m0 m1 m2 m3 m4
  clear bq
  go_wp2_with fail
  refine Hck.out.mono ?_
  rintro e w2 ⟨v, rfl, hv, hu2⟩
  have N2 := hide (Hu.out.trans_new hu2)
  have U2 := hide hu2
  clear m0 m1 m2 m3 m4 zM hu2 Hck
  have HM2 := hide (HM.out.new_ U2.out)
  have HR2 := hide (HR.out.new_ U2.out)
  have hMR : w.heap.size ≠ w.heap.size + 1 := by omega
  have hMR2 : w.heap.size + 1 ≠ w.heap.size := by omega
  have bq := HR2.out
  have r0 := bq.cell 0
  have r1 := bq.cell 1
  have r2 := bq.cell 2
  have r3 := bq.cell 3
  have r4 := bq.cell 4
  have s0 := bq.frozen 0
  have s1 := bq.frozen 1
  have s2 := bq.frozen 2
  have s3 := bq.frozen 3
  have s4 := bq.frozen 4
  have zR := bq.lt
  simp only [List.getElem?_toArray, List.getElem?_cons_zero, List.getElem?_cons_succ] at r0 r1 r2 r3 r4
  clear bq
  rw [attrC_con] at hv
  rw [← HX.out] at hv
  rcases hv.form with ⟨hk, _, rfl⟩ | ⟨hk, t, p, rfl⟩
  · have Hk := hide hk
    clear hv hk
    have z2 : 1 < w2.heap.size := (H2.out.new U2.out).lt
    have c2 : w2.cell? ⟨1, 0, none⟩ = some (errv (E 2)) := H2.out.new U2.out
    have z7 : 3 < w2.heap.size := (H7.out.new U2.out).lt
    have c7 : w2.cell? ⟨3, 0, none⟩ = some (errv (E 7)) := H7.out.new U2.out
    unfold errv at c2 c7
    cases h1 : inR s 1 1000 with
    | false =>
      have HK := hide (leadK_bound Hk.out (n := n) (.inl h1))
      have H1 := hide h1
      clear h1
      go_upto_region 4 with (fail)
      go_wp2_with (go_at_call 84; refine (attrIn_any _ _ _ _).mono ?_; rintro e w' ⟨rfl, rfl⟩; rw [H1.out])
      go_region
      all_goals
        go_wp2_with fail
        refine bodyPost_ret (attr_err_out Tryz.results50 rfl (set5 HR2.out).drew) rfl ?_
        exact lead_end (k := 2) (set5_new N2.out (Nat.le_succ _)).drew HK.out (leadX_err (by rw [HK.out]; omega))
    | true =>
      have H1 := hide h1
      cases h3 : inR n 0 12 with
      | false =>
        have HK := hide (leadK_bound Hk.out (s := s) (.inr h3))
        have H3 := hide h3
        clear h1 h3
        go_upto_region 4 with (fail)
        go_wp2_with (go_at_call 84; refine (attrIn_any _ _ _ _).mono ?_; rintro e w' ⟨rfl, rfl⟩; first | rw [H1.out] | rw [H3.out])
        go_region
        all_goals
          go_wp2_with fail
          refine bodyPost_ret (attr_err_out Tryz.results50 rfl (set5 HR2.out).drew) rfl ?_
          exact lead_end (k := 2) (set5_new N2.out (Nat.le_succ _)).drew HK.out (leadX_err (by rw [HK.out]; omega))
      | true =>
        have H3 := hide h3
        obtain ⟨N, rfl⟩ : ∃ N : Nat, n = N := ⟨n.toNat, by have := of_decide_eq_true h3; omega⟩
        have hN : N ≤ 12 := by have := of_decide_eq_true h3; omega
        have hpl : x.path.length = a.path.length := by rw [HX.out]; rfl
        have bq := HM2.out
        have m0 := bq.cell 0
        have m1 := bq.cell 1
        have m2 := bq.cell 2
        have m3 := bq.cell 3
        have m4 := bq.cell 4
        have e0 := bq.frozen 0
        have e1 := bq.frozen 1
        have e2 := bq.frozen 2
        have e3 := bq.frozen 3
        have e4 := bq.frozen 4
        have zM := bq.lt
        simp only [List.getElem?_toArray, List.getElem?_cons_zero, List.getElem?_cons_succ] at m0 m1 m2 m3 m4
        clear bq
        by_cases h4 : 12 < (a.path.length : Int) + (N : Int)
        · have HK := hide (leadK_full Hk.out h1 h3 (by rw [hpl]; exact h4))
          clear h1 h3
          go_upto_region 4 with (fail)
          go_wp2_with (go_at_call 84; refine (attrIn_any _ _ _ _).mono ?_; rintro e w' ⟨rfl, rfl⟩; first | rw [H1.out] | rw [H3.out])
          go_region
          all_goals
            go_wp2_with fail
            refine bodyPost_ret (attr_err_out Tryz.results50 rfl (set5 HR2.out).drew) rfl ?_
            exact lead_end (k := 7) (set5_new N2.out (Nat.le_succ _)).drew HK.out (leadX_err (by rw [HK.out]; omega))
        · have HK := hide (leadK_ok Hk.out h1 h3 (by rw [hpl]; exact h4))
          have Hcp := hide (copy_any a w2 (Ha.out.new_ U2.out) hl hl2)
          unfold AttrR.cells at Hcp
          clear h1 h3
          go_upto_region 4 with (fail)
          go_wp2_with (go_at_call 84; refine (attrIn_any _ _ _ _).mono ?_; rintro e w' ⟨rfl, rfl⟩; first | rw [H1.out] | rw [H3.out])
          refine Hcp.out.mono ?_
          rintro e w3 ⟨⟨P1, pc1, p1, f1, d1, o1, T1, tc1, t1⟩, z, rfl, hcon, hok, hown, hPz, hz, hu3⟩
          obtain ⟨rfl, rfl, rfl, rfl, rfl⟩ : p1 = a.path ∧ f1 = a.pref ∧ d1 = a.med ∧ o1 = a.origin ∧ t1 = a.tags := by
            unfold AttrR.con at hcon
            injection hcon with h1 h2 h3 h4 h5
            exact ⟨h1, h2, h3, h4, h5⟩
          dsimp only at hown hPz ⊢
          obtain ⟨T9, k9, hT9, _, hct, hTi, hTz, _⟩ := ints_of_own hown
          injection hT9 with q1 q2 q3
          subst q1; subst q3
          have zM2 := HM2.out.lt
          have zR2 := HR2.out.lt
          have hTlt : ∀ b o, T1 = some ⟨b, o, none⟩ → b < w3.heap.size := fun b o e => ownLt hown (by rw [e]; rfl)
          have uS := set5_one w3 w.heap.size (.slice P1 a.path.length pc1) (.int .i64 a.pref) (.int .i64 a.med) (.int .i64 a.origin) (.slice T1 a.tags.length tc1)
          have HM3 := hide (set5 (y0 := .slice P1 a.path.length pc1) (y1 := .int .i64 a.pref) (y2 := .int .i64 a.med) (y3 := .int .i64 a.origin) (y4 := .slice T1 a.tags.length tc1) (HM2.out.new_ hu3))
          have HR3 := hide ((HR2.out.new_ hu3).upd uS (by omega))
          have HP3 := hide (hok.path.upd uS fun b o e => by have := hPz b o e; omega)
          have HT3 := hide (hTi.upd uS fun b o e => by have := hTz b o e; omega)
          have HTz := hide (show ∀ b o, T1 = some ⟨b, o, none⟩ → w2.heap.size ≤ b from fun b o e => by have := hTz b o e; omega)
          have N3 := hide (set5_new (y0 := .slice P1 a.path.length pc1) (y1 := .int .i64 a.pref) (y2 := .int .i64 a.med) (y3 := .int .i64 a.origin) (y4 := .slice T1 a.tags.length tc1) (N2.out.trans_new hu3) (Nat.le_refl w.heap.size))
          have HTl := hide (show ∀ b o, T1 = some ⟨b, o, none⟩ → b < (((((w3.setCell ⟨w.heap.size, 0, none⟩ (.slice P1 a.path.length pc1)).setCell ⟨w.heap.size, 1, none⟩ (.int .i64 a.pref)).setCell ⟨w.heap.size, 2, none⟩ (.int .i64 a.med)).setCell ⟨w.heap.size, 3, none⟩ (.int .i64 a.origin)).setCell ⟨w.heap.size, 4, none⟩ (.slice T1 a.tags.length tc1)).heap.size from fun b o e => Nat.lt_of_lt_of_le (hTlt b o e) uS.size)
          have bq := (HM2.out.new_ hu3)
          have m0 := bq.cell 0
          have m1 := bq.cell 1
          have m2 := bq.cell 2
          have m3 := bq.cell 3
          have m4 := bq.cell 4
          have e0 := bq.frozen 0
          have e1 := bq.frozen 1
          have e2 := bq.frozen 2
          have e3 := bq.frozen 3
          have e4 := bq.frozen 4
          have zM := bq.lt
          simp only [List.getElem?_toArray, List.getElem?_cons_zero, List.getElem?_cons_succ] at m0 m1 m2 m3 m4
          clear bq
          clear hown hPz hTi hTz hTlt hok uS hz hcon z
          go_upto_region 9 with (fail)
          clear m0 m1 m2 m3 m4 e0 e1 e2 e3 e4 zM r0 r1 r2 r3 r4 s0 s1 s2 s3 s4 zR hu3
          generalize ((((w3.setCell ⟨w.heap.size, 0, none⟩ (.slice P1 a.path.length pc1)).setCell ⟨w.heap.size, 1, none⟩ (.int .i64 a.pref)).setCell ⟨w.heap.size, 2, none⟩ (.int .i64 a.med)).setCell ⟨w.heap.size, 3, none⟩ (.int .i64 a.origin)).setCell ⟨w.heap.size, 4, none⟩ (.slice T1 a.tags.length tc1) = W3 at *
          have bq := HM3.out
          have m0 := bq.cell 0
          have m1 := bq.cell 1
          have m2 := bq.cell 2
          have m3 := bq.cell 3
          have m4 := bq.cell 4
          have e0 := bq.frozen 0
          have e1 := bq.frozen 1
          have e2 := bq.frozen 2
          have e3 := bq.frozen 3
          have e4 := bq.frozen 4
          have zM := bq.lt
          simp only [List.getElem?_toArray, List.getElem?_cons_zero, List.getElem?_cons_succ] at m0 m1 m2 m3 m4
          clear bq
          have zR3 := HR3.out.lt
          have zM3 := HM3.out.lt
          have sN := N3.out.size
          go_region_law (first
            | (refine step_append_src rfl (.tmp 41) (.tmp 43) 60 rfl W3.heap.size 3 i0 (.int .i64 0) 1 8 Tryz.underlying60 hi0 hz0 hz1 hz2 rfl (by omega) (.slice (some ⟨g1, 0, none⟩) N N) N (rep s N N) (by simp [Act.eval, Act.put]) OW.out P1 a.path.length pc1 (a.path.map (.int .i64)) (by simp [Act.eval, Act.put]) (by simp) (HP4.out) (ints_one _) (by unfold maxLen; omega) (by omega) (by omega) ?_; intro v5 w5 ho5 hg5; obtain ⟨P5, pc5, rfl, _, hc5, hP5, hz5, _⟩ := ints_of_own (by rw [rep_path] at ho5; exact ho5); have U5 := hide (grown_upd (S := fun k => k = g1) hg5 (fun g hg => by simpa [Value.ownBlock] using hg.symm)); have HM5 := hide (HM4.out.upd U5.out (by omega)); have n0 := HM5.out.cell 0; have y0 := HM5.out.frozen 0; have zn := HM5.out.lt; simp only [List.getElem?_toArray, List.getElem?_cons_zero, List.getElem?_cons_succ] at n0; have HP5 := hide hP5; have HC5 := hide hc5; have HZ5 := hide hz5; clear ho5 hg5 hP5 hc5 hz5)
            | (go_simp; go_at_call 95; refine (repeat_any s N _ _ (Blk.new _ _ _).drew (by omega)).mono ?_; rintro e w4 ⟨g1, rfl, hb4, hg1, hu4⟩; have U4 := hide ((((Upd.refl (fun _ => False) W3).alloc _).drew).trans_new hu4); have hg2 := Nat.le_trans (Nat.le_of_eq (drew_alloc_size W3 _).symm) hg1; have OW := hide (own_of_blk (base := W3.heap.size) hb4 (rep_len s (Nat.le_refl N)) (by omega) (by unfold maxLen; omega)); have HP4 := hide (HP3.out.new_ U4.out).cells; have HM4 := hide (HM3.out.new_ U4.out); have k0 := HM4.out.cell 0; have zk := HM4.out.lt; simp only [List.getElem?_toArray, List.getElem?_cons_zero, List.getElem?_cons_succ] at k0; have sU := U4.out.size; clear hb4 hu4))
          all_goals
            have HR5 := hide (Blk.far ((HR3.out.new_ U4.out).upd U5.out (by omega)) (p := ⟨w.heap.size, 0, none⟩) (fun e : w.heap.size + 1 = w.heap.size => absurd e (Nat.succ_ne_self _)) (.slice P5 (N + a.path.length) pc5))
            have bq := HR5.out
            have r0 := bq.cell 0
            have r1 := bq.cell 1
            have r2 := bq.cell 2
            have r3 := bq.cell 3
            have r4 := bq.cell 4
            have s0 := bq.frozen 0
            have s1 := bq.frozen 1
            have s2 := bq.frozen 2
            have s3 := bq.frozen 3
            have s4 := bq.frozen 4
            have zR := bq.lt
            simp only [List.getElem?_toArray, List.getElem?_cons_zero, List.getElem?_cons_succ] at r0 r1 r2 r3 r4
            clear bq
            have bq := HM5.out
            have n0 := bq.cell 0
            have n1 := bq.cell 1
            have n2 := bq.cell 2
            have n3 := bq.cell 3
            have n4 := bq.cell 4
            have y0 := bq.frozen 0
            have y1 := bq.frozen 1
            have y2 := bq.frozen 2
            have y3 := bq.frozen 3
            have y4 := bq.frozen 4
            have zn := bq.lt
            simp only [List.getElem?_toArray, List.getElem?_cons_zero, List.getElem?_cons_succ] at n0 n1 n2 n3 n4
            clear bq
            go_wp2_with fail
            refine bodyPost_ret (attr_err_out Tryz.results50 rfl (set5 HR5.out)) rfl ?_
            have uF := set5_upd (y0 := .slice P5 (N + a.path.length) pc5) (y1 := .int .i64 a.pref) (y2 := .int .i64 a.med) (y3 := .int .i64 a.origin) (y4 := .slice T1 a.tags.length tc1) w5 w.heap.size (w.heap.size + 1) 0 (.slice P5 (N + a.path.length) pc5)
            have nB : New w w5 := (N3.out.trans_new U4.out).trans U5.out (fun q hq hx => absurd hx (by show ¬ q = g1; omega))
            have nF := nB.trans uF (fun q hq hx => absurd hx (by show ¬ (q = w.heap.size ∨ q = w.heap.size + 1); omega))
            have hlen : (List.replicate N s ++ a.path).length = N + a.path.length := by simp
            refine ⟨⟨P5, pc5, List.replicate N s ++ a.path, a.pref, a.med, a.origin, T1, tc1, a.tags⟩, ?_, ?_, ⟨?_, ?_, ?_, ?_⟩, ⟨fun b o e => Nat.le_trans N3.out.size (HZ5.out b o e), fun b o e => Nat.le_trans N2.out.size (HTz.out b o e)⟩, nF⟩
            · rw [HK.out]
              show Ending.returned (.tuple #[.agg #[.slice P5 (N + a.path.length) pc5, .int .i64 a.pref, .int .i64 a.med, .int .i64 a.origin, .slice T1 a.tags.length tc1], .nilIface]) = .returned (.tuple #[.agg #[.slice P5 (List.replicate N s ++ a.path).length pc5, .int .i64 a.pref, .int .i64 a.med, .int .i64 a.origin, .slice T1 a.tags.length tc1], .nilIface])
              rw [hlen]
            · rw [leadX_ok HK.out, HX.out]; rfl
            · exact HP5.out.upd uF fun b o e => by have := HZ5.out b o e; omega
            · exact ((HT3.out.new_ U4.out).upd U5.out fun b o e => by have := HTl.out b o e; omega).upd uF fun b o e => by have := HTz.out b o e; omega
            · show (List.replicate N s ++ a.path).length ≤ pc5
              rw [hlen]; exact HC5.out
            · exact hct
  · have Hb := hide (bare_any _ _ _ w2 E hv)
    have HK := hide (leadK_con hk (s := s) (n := n))
    have Hk := hide hk
    clear hv hk
    go_wp2_with fail
    refine Hb.out.mono ?_
    rintro e w3 ⟨rfl, rfl⟩
    go_wp2_with fail
    refine bodyPost_ret (attr_err_out Tryz.results50 rfl (set5 HR2.out)) rfl ?_
    exact lead_end (set5_new N2.out (Nat.le_succ _)) HK.out (leadX_err (by rw [HK.out]; exact Hk.out))
end Go.Proofs.YtignngpligicjaaGreatDoor

namespace Go.Proofs.YtignngpligicjaaGreatDoor
open Go.RowKit

theorem ins_len (l : List Int) (t : Int) : (l.take (l.countP (· < t)) ++ t :: l.drop (l.countP (· < t))).length = l.length + 1 := by
  have := List.countP_le_length (p := fun v => decide (v < t)) (l := l)
  rw [List.length_append, List.length_cons, List.length_take, List.length_drop]
  omega
theorem tagsX_in {l : List Int} {t : Int} (h : l.contains t = true) : tagsX l t = l := by unfold tagsX; rw [if_pos h]
theorem tagsX_new {l : List Int} {t : Int} (h : l.contains t = false) : tagsX l t = l.take (l.countP (· < t)) ++ t :: l.drop (l.countP (· < t)) := by unfold tagsX; rw [if_neg (by rw [h]; simp)]
theorem own_mono {w : World} {base base1 : Nat} {e : TypeId} {size n : Nat} {v : Value} {xs : List Value} (h : w.ownsRow base e size v n xs) (hb : base1 ≤ base) : w.ownsRow base1 e size v n xs := by
  refine ⟨h.1, ?_⟩
  rcases h.2 with h2 | ⟨g, cap, cur, h1, h2, r⟩
  · exact .inl h2
  · exact .inr ⟨g, cap, cur, h1, Nat.le_trans hb h2, r⟩

set_option maxRecDepth 20000 in
set_option maxHeartbeats 4000000 in
theorem tag_any (a : AttrR) (t : Int) (E : Nat → Addr) (w : World) (h2 : Sen w gBound (E 2)) (h7 : Sen w gFull_ (E 7)) (h8 : Sen w gOrder (E 8)) (ha : AttrOk w a) (hl : a.path.length ≤ 1000) (hl2 : a.tags.length ≤ 1000) :
    Calls Tryz.prog 52 #[.agg a.cells, .int .i64 t] w fun e w1 => ∃ a' : AttrR, e = .returned (.tuple #[.agg a'.cells, errc E (tagK a.con t)]) ∧ a'.con = tagX a.con t ∧ AttrOk w1 a' ∧ Fresh w a' ∧ New w w1 := by
  have u := ((Upd.refl (fun _ => False) w).alloc (.cells a.cells TA)).alloc (.cells #[.slice none 0 0, .int .i64 0, .int .i64 0, .int .i64 0, .slice none 0 0] TA)
  have b0 := (Blk.new w TA a.cells).alloc (.cells #[.slice none 0 0, .int .i64 0, .int .i64 0, .int .i64 0, .slice none 0 0] TA)
  have b1 := Blk.at_ (w.alloc (.cells a.cells TA)) TA #[.slice none 0 0, .int .i64 0, .int .i64 0, .int .i64 0, .slice none 0 0] (w.heap.size + 1) (by simp)
  have hz7 : 3 < w.heap.size := h7.lt
  have q7 : ¬ (w.heap.size + 1 = 3) := by omega
  have q71 : ¬ (3 = w.heap.size + 1) := by omega
  have Hck := hide (attrCheck_any a E _ (h2.new u) (h7.new u) (h8.new u) (ha.new_ u) hl hl2)
  have Ha := hide (ha.new_ u)
  have H2 := hide (h2.new u)
  have H7 := hide (h7.new u)
  have Hu := hide u
  have HM := hide b0
  have HR := hide b1
  clear ha u b0 b1 h2 h7 h8
  obtain ⟨x, hx⟩ : ∃ x, x = a.con := ⟨_, rfl⟩
  rw [← hx]
  have HX := hide hx
  clear hx
  unfold AttrR.cells at *
  go_enter Tryz.func52, Tryz.ntmps52
  go_upto_region 1 with (fail)
  generalize ((w.alloc (.cells #[.slice a.P a.path.length a.pc, .int .i64 a.pref, .int .i64 a.med, .int .i64 a.origin, .slice a.T a.tags.length a.tc] TA)).alloc (.cells #[.slice none 0 0, .int .i64 0, .int .i64 0, .int .i64 0, .slice none 0 0] TA)) = W at *
  have bq := HM.out
  have m0 := bq.cell 0
  have m1 := bq.cell 1
  have m2 := bq.cell 2
  have m3 := bq.cell 3
  have m4 := bq.cell 4
  have zM := bq.lt
  simp only [List.getElem?_toArray, List.getElem?_cons_zero, List.getElem?_cons_succ] at m0 m1 m2 m3 m4
  clear bq
  go_wp2_with fail
  refine Hck.out.mono ?_
  rintro e w2 ⟨v, rfl, hv, hu2⟩
  have N2 := hide (Hu.out.trans_new hu2)
  have U2 := hide hu2
  clear m0 m1 m2 m3 m4 zM hu2 Hck
  have HM2 := hide (HM.out.new_ U2.out)
  have HR2 := hide (HR.out.new_ U2.out)
  have hMR : w.heap.size ≠ w.heap.size + 1 := by omega
  have hMR2 : w.heap.size + 1 ≠ w.heap.size := by omega
  have bq := HR2.out
  have r0 := bq.cell 0
  have r1 := bq.cell 1
  have r2 := bq.cell 2
  have r3 := bq.cell 3
  have r4 := bq.cell 4
  have s0 := bq.frozen 0
  have s1 := bq.frozen 1
  have s2 := bq.frozen 2
  have s3 := bq.frozen 3
  have s4 := bq.frozen 4
  have zR := bq.lt
  simp only [List.getElem?_toArray, List.getElem?_cons_zero, List.getElem?_cons_succ] at r0 r1 r2 r3 r4
  clear bq
  have bq := HM2.out
  have m0 := bq.cell 0
  have m1 := bq.cell 1
  have m2 := bq.cell 2
  have m3 := bq.cell 3
  have m4 := bq.cell 4
  have e0 := bq.frozen 0
  have e1 := bq.frozen 1
  have e2 := bq.frozen 2
  have e3 := bq.frozen 3
  have e4 := bq.frozen 4
  have zM := bq.lt
  simp only [List.getElem?_toArray, List.getElem?_cons_zero, List.getElem?_cons_succ] at m0 m1 m2 m3 m4
  clear bq
  rw [attrC_con] at hv
  rw [← HX.out] at hv
  rcases hv.form with ⟨hk, _, rfl⟩ | ⟨hk, tv, p, rfl⟩
  · have Hk := hide hk
    have hs := conC_zero hk
    have hxt : x.tags = a.tags := by rw [HX.out]; rfl
    rw [hxt] at hs
    have Hbs := hide (bsearch_any a.T a.tags.length a.tc a.tags t w2 (Ha.out.new_ U2.out).tags rfl hl2 (hs.2.2.imp (fun h => Int.le_of_lt h)))
    have h88 : a.tags.length ≤ 8 := hs.2.1
    obtain ⟨i, hi⟩ : ∃ i, a.tags.countP (· < t) = i := ⟨_, rfl⟩
    have hin : i ≤ a.tags.length := by rw [← hi]; exact List.countP_le_length
    have Hi := hide hi
    clear hv hk hs hi
    cases h1 : inR t 1 9999 with
    | false =>
      have HK := hide (tagK_bound Hk.out h1)
      have H1 := hide h1
      clear h1
      go_upto_region 4 with (fail)
      go_wp2_with fail
      refine Hbs.out.mono ?_
      rintro e w3 ⟨rfl, hu3⟩
      rw [Hi.out]
      have N3 := hide (N2.out.trans_new hu3)
      have U3 := hide hu3
      have HM3 := hide (HM2.out.new_ hu3)
      have HR3 := hide (HR2.out.new_ hu3)
      have z2 : 1 < w3.heap.size := ((H2.out.new U2.out).new hu3).lt
      have c2 : w3.cell? ⟨1, 0, none⟩ = some (errv (E 2)) := (H2.out.new U2.out).new hu3
      have z7 : 3 < w3.heap.size := ((H7.out.new U2.out).new hu3).lt
      have c7 : w3.cell? ⟨3, 0, none⟩ = some (errv (E 7)) := (H7.out.new U2.out).new hu3
      unfold errv at c2 c7
      clear hu3 m0 m1 m2 m3 m4 e0 e1 e2 e3 e4 zM r0 r1 r2 r3 r4 s0 s1 s2 s3 s4 zR
      have bq := HR3.out
      have r0 := bq.cell 0
      have r1 := bq.cell 1
      have r2 := bq.cell 2
      have r3 := bq.cell 3
      have r4 := bq.cell 4
      have s0 := bq.frozen 0
      have s1 := bq.frozen 1
      have s2 := bq.frozen 2
      have s3 := bq.frozen 3
      have s4 := bq.frozen 4
      have zR := bq.lt
      simp only [List.getElem?_toArray, List.getElem?_cons_zero, List.getElem?_cons_succ] at r0 r1 r2 r3 r4
      clear bq
      have bq := HM3.out
      have m0 := bq.cell 0
      have m1 := bq.cell 1
      have m2 := bq.cell 2
      have m3 := bq.cell 3
      have m4 := bq.cell 4
      have e0 := bq.frozen 0
      have e1 := bq.frozen 1
      have e2 := bq.frozen 2
      have e3 := bq.frozen 3
      have e4 := bq.frozen 4
      have zM := bq.lt
      simp only [List.getElem?_toArray, List.getElem?_cons_zero, List.getElem?_cons_succ] at m0 m1 m2 m3 m4
      clear bq
      go_wp2_with (go_at_call 84; refine (attrIn_any _ _ _ _).mono ?_; rintro e w' ⟨rfl, rfl⟩; rw [H1.out])
      go_region
      all_goals
        go_wp2_with fail
        refine bodyPost_ret (attr_err_out Tryz.results52 rfl (set5 HR3.out).drew) rfl ?_
        exact lead_end (k := 2) (set5_new N3.out (Nat.le_succ _)).drew HK.out (tagX_err (by rw [HK.out]; omega))
    | true =>
      have H1 := hide h1
      cases hc : a.tags.contains t with
      | false =>
        by_cases h9 : 8 ≤ a.tags.length
        · have HK := hide (tagK_full Hk.out h1 (by rw [hxt]; exact hc) (by rw [hxt]; exact h9))
          have HC := hide hc
          have h91 : (8 : Int) ≤ (a.tags.length : Int) := by omega
          rw [hc] at Hbs
          clear h1 hc
          go_upto_region 4 with (fail)
          go_wp2_with fail
          refine Hbs.out.mono ?_
          rintro e w3 ⟨rfl, hu3⟩
          rw [Hi.out]
          have N3 := hide (N2.out.trans_new hu3)
          have U3 := hide hu3
          have HM3 := hide (HM2.out.new_ hu3)
          have HR3 := hide (HR2.out.new_ hu3)
          have z2 : 1 < w3.heap.size := ((H2.out.new U2.out).new hu3).lt
          have c2 : w3.cell? ⟨1, 0, none⟩ = some (errv (E 2)) := (H2.out.new U2.out).new hu3
          have z7 : 3 < w3.heap.size := ((H7.out.new U2.out).new hu3).lt
          have c7 : w3.cell? ⟨3, 0, none⟩ = some (errv (E 7)) := (H7.out.new U2.out).new hu3
          unfold errv at c2 c7
          clear hu3 m0 m1 m2 m3 m4 e0 e1 e2 e3 e4 zM r0 r1 r2 r3 r4 s0 s1 s2 s3 s4 zR
          have bq := HR3.out
          have r0 := bq.cell 0
          have r1 := bq.cell 1
          have r2 := bq.cell 2
          have r3 := bq.cell 3
          have r4 := bq.cell 4
          have s0 := bq.frozen 0
          have s1 := bq.frozen 1
          have s2 := bq.frozen 2
          have s3 := bq.frozen 3
          have s4 := bq.frozen 4
          have zR := bq.lt
          simp only [List.getElem?_toArray, List.getElem?_cons_zero, List.getElem?_cons_succ] at r0 r1 r2 r3 r4
          clear bq
          have bq := HM3.out
          have m0 := bq.cell 0
          have m1 := bq.cell 1
          have m2 := bq.cell 2
          have m3 := bq.cell 3
          have m4 := bq.cell 4
          have e0 := bq.frozen 0
          have e1 := bq.frozen 1
          have e2 := bq.frozen 2
          have e3 := bq.frozen 3
          have e4 := bq.frozen 4
          have zM := bq.lt
          simp only [List.getElem?_toArray, List.getElem?_cons_zero, List.getElem?_cons_succ] at m0 m1 m2 m3 m4
          clear bq
          go_wp2_with (go_at_call 84; refine (attrIn_any _ _ _ _).mono ?_; rintro e w' ⟨rfl, rfl⟩; rw [H1.out])
          go_region
          all_goals
            go_wp2_with fail
            refine bodyPost_ret (attr_err_out Tryz.results52 rfl (set5 HR3.out).drew) rfl ?_
            exact lead_end (k := 7) (set5_new N3.out (Nat.le_succ _)).drew HK.out (tagX_err (by rw [HK.out]; omega))
        · have HK := hide (tagK_ok Hk.out h1 (by rw [hxt]; exact fun h => h9 h.2))
          have HC := hide hc
          have HXt := hide hxt
          have h91 : ¬ (8 : Int) ≤ (a.tags.length : Int) := by omega
          rw [hc] at Hbs
          clear h1 hc
          go_upto_region 4 with (fail)
          go_wp2_with fail
          refine Hbs.out.mono ?_
          rintro e w3 ⟨rfl, hu3⟩
          rw [Hi.out]
          have N3 := hide (N2.out.trans_new hu3)
          have U3 := hide hu3
          have HM3 := hide (HM2.out.new_ hu3)
          have HR3 := hide (HR2.out.new_ hu3)
          have z2 : 1 < w3.heap.size := ((H2.out.new U2.out).new hu3).lt
          have c2 : w3.cell? ⟨1, 0, none⟩ = some (errv (E 2)) := (H2.out.new U2.out).new hu3
          have z7 : 3 < w3.heap.size := ((H7.out.new U2.out).new hu3).lt
          have c7 : w3.cell? ⟨3, 0, none⟩ = some (errv (E 7)) := (H7.out.new U2.out).new hu3
          unfold errv at c2 c7
          clear hu3 m0 m1 m2 m3 m4 e0 e1 e2 e3 e4 zM r0 r1 r2 r3 r4 s0 s1 s2 s3 s4 zR
          have bq := HR3.out
          have r0 := bq.cell 0
          have r1 := bq.cell 1
          have r2 := bq.cell 2
          have r3 := bq.cell 3
          have r4 := bq.cell 4
          have s0 := bq.frozen 0
          have s1 := bq.frozen 1
          have s2 := bq.frozen 2
          have s3 := bq.frozen 3
          have s4 := bq.frozen 4
          have zR := bq.lt
          simp only [List.getElem?_toArray, List.getElem?_cons_zero, List.getElem?_cons_succ] at r0 r1 r2 r3 r4
          clear bq
          have bq := HM3.out
          have m0 := bq.cell 0
          have m1 := bq.cell 1
          have m2 := bq.cell 2
          have m3 := bq.cell 3
          have m4 := bq.cell 4
          have e0 := bq.frozen 0
          have e1 := bq.frozen 1
          have e2 := bq.frozen 2
          have e3 := bq.frozen 3
          have e4 := bq.frozen 4
          have zM := bq.lt
          simp only [List.getElem?_toArray, List.getElem?_cons_zero, List.getElem?_cons_succ] at m0 m1 m2 m3 m4
          clear bq
          have Hcp := hide (copy_any a w3 ((Ha.out.new_ U2.out).new_ U3.out) hl hl2)
          unfold AttrR.cells at Hcp
          go_wp2_with (go_at_call 84; refine (attrIn_any _ _ _ _).mono ?_; rintro e w' ⟨rfl, rfl⟩; rw [H1.out])
          refine Hcp.out.mono ?_
          rintro e w4 ⟨⟨P1, pc1, p1, f1, d1, o1, T1, tc1, t1⟩, z, rfl, hcon, hok, hown, hPz, hz, hu4⟩
          obtain ⟨rfl, rfl, rfl, rfl, rfl⟩ : p1 = a.path ∧ f1 = a.pref ∧ d1 = a.med ∧ o1 = a.origin ∧ t1 = a.tags := by
            unfold AttrR.con at hcon
            injection hcon with h1 h2 h3 h4 h5
            exact ⟨h1, h2, h3, h4, h5⟩
          dsimp only at hown hPz ⊢
          obtain ⟨T9, k9, hT9, _, hct, hTi, hTz, _⟩ := ints_of_own hown
          injection hT9 with q1 q2 q3
          subst q1; subst q3
          have zM2 := HM3.out.lt
          have zR2 := HR3.out.lt
          have hTlt : ∀ b o, T1 = some ⟨b, o, none⟩ → b < w4.heap.size := fun b o e => ownLt hown (by rw [e]; rfl)
          have uS := set5_one w4 w.heap.size (.slice P1 a.path.length pc1) (.int .i64 a.pref) (.int .i64 a.med) (.int .i64 a.origin) (.slice T1 a.tags.length tc1)
          have HM4 := hide (set5 (y0 := .slice P1 a.path.length pc1) (y1 := .int .i64 a.pref) (y2 := .int .i64 a.med) (y3 := .int .i64 a.origin) (y4 := .slice T1 a.tags.length tc1) (HM3.out.new_ hu4))
          have HR4 := hide ((HR3.out.new_ hu4).upd uS (by omega))
          have HP4 := hide (hok.path.upd uS fun b o e => by have := hPz b o e; omega)
          have HT4 := hide (hTi.upd uS fun b o e => by have := hTz b o e; omega)
          have HTz := hide (show ∀ b o, T1 = some ⟨b, o, none⟩ → w3.heap.size ≤ b from fun b o e => by have := hTz b o e; omega)
          have HPz := hide (show ∀ b o, P1 = some ⟨b, o, none⟩ → w3.heap.size ≤ b from fun b o e => by have := hPz b o e; omega)
          have HPT := hide (show ∀ b o c q, P1 = some ⟨b, o, none⟩ → T1 = some ⟨c, q, none⟩ → b ≠ c from fun b o c q e f => by have := hPz b o e; have := hTz c q f; omega)
          have hpl : a.path.length ≤ pc1 := hok.pl
          have HO4 := hide (own_mono (ownKeep hown uS (fun g hg => by
            show ¬ g = w.heap.size
            have := (World.ownsRow.lt hown g hg).1
            omega)) hz)
          have N4 := hide (set5_new (y0 := .slice P1 a.path.length pc1) (y1 := .int .i64 a.pref) (y2 := .int .i64 a.med) (y3 := .int .i64 a.origin) (y4 := .slice T1 a.tags.length tc1) (N3.out.trans_new hu4) (Nat.le_refl w.heap.size))
          have HTl := hide (show ∀ b o, T1 = some ⟨b, o, none⟩ → b < (((((w4.setCell ⟨w.heap.size, 0, none⟩ (.slice P1 a.path.length pc1)).setCell ⟨w.heap.size, 1, none⟩ (.int .i64 a.pref)).setCell ⟨w.heap.size, 2, none⟩ (.int .i64 a.med)).setCell ⟨w.heap.size, 3, none⟩ (.int .i64 a.origin)).setCell ⟨w.heap.size, 4, none⟩ (.slice T1 a.tags.length tc1)).heap.size from fun b o e => Nat.lt_of_lt_of_le (hTlt b o e) uS.size)
          have HSz := hide (show w3.heap.size ≤ (((((w4.setCell ⟨w.heap.size, 0, none⟩ (.slice P1 a.path.length pc1)).setCell ⟨w.heap.size, 1, none⟩ (.int .i64 a.pref)).setCell ⟨w.heap.size, 2, none⟩ (.int .i64 a.med)).setCell ⟨w.heap.size, 3, none⟩ (.int .i64 a.origin)).setCell ⟨w.heap.size, 4, none⟩ (.slice T1 a.tags.length tc1)).heap.size from Nat.le_trans hu4.size uS.size)
          have bq := (HM3.out.new_ hu4)
          have m0 := bq.cell 0
          have m1 := bq.cell 1
          have m2 := bq.cell 2
          have m3 := bq.cell 3
          have m4 := bq.cell 4
          have e0 := bq.frozen 0
          have e1 := bq.frozen 1
          have e2 := bq.frozen 2
          have e3 := bq.frozen 3
          have e4 := bq.frozen 4
          have zM := bq.lt
          simp only [List.getElem?_toArray, List.getElem?_cons_zero, List.getElem?_cons_succ] at m0 m1 m2 m3 m4
          clear bq
          clear hown hPz hTi hTz hTlt hok uS hz hcon z
          go_upto_region 10 with (fail)
          clear m0 m1 m2 m3 m4 e0 e1 e2 e3 e4 zM r0 r1 r2 r3 r4 s0 s1 s2 s3 s4 zR hu4
          generalize ((((w4.setCell ⟨w.heap.size, 0, none⟩ (.slice P1 a.path.length pc1)).setCell ⟨w.heap.size, 1, none⟩ (.int .i64 a.pref)).setCell ⟨w.heap.size, 2, none⟩ (.int .i64 a.med)).setCell ⟨w.heap.size, 3, none⟩ (.int .i64 a.origin)).setCell ⟨w.heap.size, 4, none⟩ (.slice T1 a.tags.length tc1) = W4 at *
          have bq := HM4.out
          have m0 := bq.cell 0
          have m1 := bq.cell 1
          have m2 := bq.cell 2
          have m3 := bq.cell 3
          have m4 := bq.cell 4
          have e0 := bq.frozen 0
          have e1 := bq.frozen 1
          have e2 := bq.frozen 2
          have e3 := bq.frozen 3
          have e4 := bq.frozen 4
          have zM := bq.lt
          simp only [List.getElem?_toArray, List.getElem?_cons_zero, List.getElem?_cons_succ] at m0 m1 m2 m3 m4
          clear bq
          have sN := N4.out.size
          have sZ := HSz.out
          have hin2 := insert_any w3.heap.size a.tags.length tc1 i W4.heap.size T1 a.tags t (W4.alloc (.cells #[.int .i64 t] 3)) (HO4.out.alloc _) hin (by omega) (Blk.new _ _ _) (fun b o e => by have := HTl.out b o e; omega) (by simp; omega)
          have HIn := hide hin2
          clear hin2
          go_wp2_with fail
          refine HIn.out.mono ?_
          rintro e w5 ⟨T5, tc5, rfl, hT5, hc5, hz5, hu5⟩
          have HT5 := hide hT5
          have U5 := hide (((Upd.refl (fun k => ∃ o, T1 = some ⟨k, o, none⟩) W4).alloc (.cells #[.int .i64 t] 3)).trans hu5 (fun q _ h => h))
          have HZ5 := hide hz5
          have HC5 := hide hc5
          clear hT5 hc5 hz5 hu5 m0 m1 m2 m3 m4 e0 e1 e2 e3 e4 zM
          have HM5 := hide (HM4.out.upd U5.out (fun ⟨o, e⟩ => by have := HTz.out _ _ e; omega))
          have HR5 := hide (Blk.far (HR4.out.upd U5.out (fun ⟨o, e⟩ => by have := HTz.out _ _ e; omega)) (p := ⟨w.heap.size, 4, none⟩) (fun e : w.heap.size + 1 = w.heap.size => absurd e (Nat.succ_ne_self _)) (.slice T5 (a.tags.length + 1) tc5))
          have bq := HR5.out
          have r0 := bq.cell 0
          have r1 := bq.cell 1
          have r2 := bq.cell 2
          have r3 := bq.cell 3
          have r4 := bq.cell 4
          have s0 := bq.frozen 0
          have s1 := bq.frozen 1
          have s2 := bq.frozen 2
          have s3 := bq.frozen 3
          have s4 := bq.frozen 4
          have zR := bq.lt
          simp only [List.getElem?_toArray, List.getElem?_cons_zero, List.getElem?_cons_succ] at r0 r1 r2 r3 r4
          clear bq
          have bq := HM5.out
          have n0 := bq.cell 0
          have n1 := bq.cell 1
          have n2 := bq.cell 2
          have n3 := bq.cell 3
          have n4 := bq.cell 4
          have y0 := bq.frozen 0
          have y1 := bq.frozen 1
          have y2 := bq.frozen 2
          have y3 := bq.frozen 3
          have y4 := bq.frozen 4
          have zn := bq.lt
          simp only [List.getElem?_toArray, List.getElem?_cons_zero, List.getElem?_cons_succ] at n0 n1 n2 n3 n4
          clear bq
          go_wp2_with fail
          refine bodyPost_ret (attr_err_out Tryz.results52 rfl (set5 HR5.out)) rfl ?_
          have uF := set5_upd (y0 := .slice P1 a.path.length pc1) (y1 := .int .i64 a.pref) (y2 := .int .i64 a.med) (y3 := .int .i64 a.origin) (y4 := .slice T5 (a.tags.length + 1) tc5) w5 w.heap.size (w.heap.size + 1) 4 (.slice T5 (a.tags.length + 1) tc5)
          have nB : New w w5 := N4.out.trans U5.out (fun q hq ⟨o, e⟩ => by have := HTz.out _ _ e; have := N3.out.size; omega)
          have nF := nB.trans uF (fun q hq hx => absurd hx (by show ¬ (q = w.heap.size ∨ q = w.heap.size + 1); omega))
          have zM3 := HM3.out.lt
          have zR3 := HR3.out.lt
          have hlen := ins_len a.tags t
          rw [Hi.out] at hlen
          refine ⟨⟨P1, pc1, a.path, a.pref, a.med, a.origin, T5, tc5, a.tags.take i ++ t :: a.tags.drop i⟩, ?_, ?_, ⟨?_, ?_, ?_, ?_⟩, ⟨fun b o e => Nat.le_trans N3.out.size (HPz.out b o e), fun b o e => Nat.le_trans N3.out.size (HZ5.out b o e)⟩, nF⟩
          · rw [HK.out]
            show Ending.returned (.tuple #[.agg #[.slice P1 a.path.length pc1, .int .i64 a.pref, .int .i64 a.med, .int .i64 a.origin, .slice T5 (a.tags.length + 1) tc5], .nilIface]) = .returned (.tuple #[.agg #[.slice P1 a.path.length pc1, .int .i64 a.pref, .int .i64 a.med, .int .i64 a.origin, .slice T5 (a.tags.take i ++ t :: a.tags.drop i).length tc5], .nilIface])
            rw [hlen]
          · rw [tagX_ok HK.out, HX.out]
            show AtC.mk _ _ _ _ _ = AtC.mk _ _ _ _ (tagsX a.tags t)
            rw [tagsX_new HC.out, Hi.out]
            rfl
          · exact (HP4.out.upd U5.out fun b o e ⟨q, f⟩ => HPT.out b o b q e f rfl).upd uF fun b o e => by have := HPz.out b o e; omega
          · exact HT5.out.upd uF fun b o e => by have := HZ5.out b o e; omega
          · exact hpl
          · show (a.tags.take i ++ t :: a.tags.drop i).length ≤ tc5
            rw [hlen]; exact HC5.out
      | true =>
        have HK := hide (tagK_ok Hk.out h1 (by rw [hxt]; rw [hc]; simp))
        have HC := hide hc
        rw [hc] at Hbs
        clear h1 hc
        go_upto_region 4 with (fail)
        go_wp2_with fail
        refine Hbs.out.mono ?_
        rintro e w3 ⟨rfl, hu3⟩
        rw [Hi.out]
        have N3 := hide (N2.out.trans_new hu3)
        have U3 := hide hu3
        have HM3 := hide (HM2.out.new_ hu3)
        have HR3 := hide (HR2.out.new_ hu3)
        have z2 : 1 < w3.heap.size := ((H2.out.new U2.out).new hu3).lt
        have c2 : w3.cell? ⟨1, 0, none⟩ = some (errv (E 2)) := (H2.out.new U2.out).new hu3
        have z7 : 3 < w3.heap.size := ((H7.out.new U2.out).new hu3).lt
        have c7 : w3.cell? ⟨3, 0, none⟩ = some (errv (E 7)) := (H7.out.new U2.out).new hu3
        unfold errv at c2 c7
        clear hu3 m0 m1 m2 m3 m4 e0 e1 e2 e3 e4 zM r0 r1 r2 r3 r4 s0 s1 s2 s3 s4 zR
        have bq := HR3.out
        have r0 := bq.cell 0
        have r1 := bq.cell 1
        have r2 := bq.cell 2
        have r3 := bq.cell 3
        have r4 := bq.cell 4
        have s0 := bq.frozen 0
        have s1 := bq.frozen 1
        have s2 := bq.frozen 2
        have s3 := bq.frozen 3
        have s4 := bq.frozen 4
        have zR := bq.lt
        simp only [List.getElem?_toArray, List.getElem?_cons_zero, List.getElem?_cons_succ] at r0 r1 r2 r3 r4
        clear bq
        have bq := HM3.out
        have m0 := bq.cell 0
        have m1 := bq.cell 1
        have m2 := bq.cell 2
        have m3 := bq.cell 3
        have m4 := bq.cell 4
        have e0 := bq.frozen 0
        have e1 := bq.frozen 1
        have e2 := bq.frozen 2
        have e3 := bq.frozen 3
        have e4 := bq.frozen 4
        have zM := bq.lt
        simp only [List.getElem?_toArray, List.getElem?_cons_zero, List.getElem?_cons_succ] at m0 m1 m2 m3 m4
        clear bq
        have Hcp := hide (copy_any a w3 ((Ha.out.new_ U2.out).new_ U3.out) hl hl2)
        unfold AttrR.cells at Hcp
        go_wp2_with (go_at_call 84; refine (attrIn_any _ _ _ _).mono ?_; rintro e w' ⟨rfl, rfl⟩; rw [H1.out])
        refine Hcp.out.mono ?_
        rintro e w4 ⟨⟨P1, pc1, p1, f1, d1, o1, T1, tc1, t1⟩, z, rfl, hcon, hok, hown, hPz, hz, hu4⟩
        obtain ⟨rfl, rfl, rfl, rfl, rfl⟩ : p1 = a.path ∧ f1 = a.pref ∧ d1 = a.med ∧ o1 = a.origin ∧ t1 = a.tags := by
          unfold AttrR.con at hcon
          injection hcon with h1 h2 h3 h4 h5
          exact ⟨h1, h2, h3, h4, h5⟩
        dsimp only at hown hPz ⊢
        obtain ⟨T9, k9, hT9, _, hct, hTi, hTz, _⟩ := ints_of_own hown
        injection hT9 with q1 q2 q3
        subst q1; subst q3
        have zM2 := HM3.out.lt
        have zR2 := HR3.out.lt
        have hTlt : ∀ b o, T1 = some ⟨b, o, none⟩ → b < w4.heap.size := fun b o e => ownLt hown (by rw [e]; rfl)
        have uS := set5_one w4 w.heap.size (.slice P1 a.path.length pc1) (.int .i64 a.pref) (.int .i64 a.med) (.int .i64 a.origin) (.slice T1 a.tags.length tc1)
        have HM4 := hide (set5 (y0 := .slice P1 a.path.length pc1) (y1 := .int .i64 a.pref) (y2 := .int .i64 a.med) (y3 := .int .i64 a.origin) (y4 := .slice T1 a.tags.length tc1) (HM3.out.new_ hu4))
        have HR4 := hide ((HR3.out.new_ hu4).upd uS (by omega))
        have HP4 := hide (hok.path.upd uS fun b o e => by have := hPz b o e; omega)
        have HT4 := hide (hTi.upd uS fun b o e => by have := hTz b o e; omega)
        have HTz := hide (show ∀ b o, T1 = some ⟨b, o, none⟩ → w3.heap.size ≤ b from fun b o e => by have := hTz b o e; omega)
        have HPz := hide (show ∀ b o, P1 = some ⟨b, o, none⟩ → w3.heap.size ≤ b from fun b o e => by have := hPz b o e; omega)
        have HPT := hide (show ∀ b o c q, P1 = some ⟨b, o, none⟩ → T1 = some ⟨c, q, none⟩ → b ≠ c from fun b o c q e f => by have := hPz b o e; have := hTz c q f; omega)
        have hpl : a.path.length ≤ pc1 := hok.pl
        have HO4 := hide (own_mono (ownKeep hown uS (fun g hg => by
          show ¬ g = w.heap.size
          have := (World.ownsRow.lt hown g hg).1
          omega)) hz)
        have N4 := hide (set5_new (y0 := .slice P1 a.path.length pc1) (y1 := .int .i64 a.pref) (y2 := .int .i64 a.med) (y3 := .int .i64 a.origin) (y4 := .slice T1 a.tags.length tc1) (N3.out.trans_new hu4) (Nat.le_refl w.heap.size))
        have HTl := hide (show ∀ b o, T1 = some ⟨b, o, none⟩ → b < (((((w4.setCell ⟨w.heap.size, 0, none⟩ (.slice P1 a.path.length pc1)).setCell ⟨w.heap.size, 1, none⟩ (.int .i64 a.pref)).setCell ⟨w.heap.size, 2, none⟩ (.int .i64 a.med)).setCell ⟨w.heap.size, 3, none⟩ (.int .i64 a.origin)).setCell ⟨w.heap.size, 4, none⟩ (.slice T1 a.tags.length tc1)).heap.size from fun b o e => Nat.lt_of_lt_of_le (hTlt b o e) uS.size)
        have HSz := hide (show w3.heap.size ≤ (((((w4.setCell ⟨w.heap.size, 0, none⟩ (.slice P1 a.path.length pc1)).setCell ⟨w.heap.size, 1, none⟩ (.int .i64 a.pref)).setCell ⟨w.heap.size, 2, none⟩ (.int .i64 a.med)).setCell ⟨w.heap.size, 3, none⟩ (.int .i64 a.origin)).setCell ⟨w.heap.size, 4, none⟩ (.slice T1 a.tags.length tc1)).heap.size from Nat.le_trans hu4.size uS.size)
        have bq := (HM3.out.new_ hu4)
        have m0 := bq.cell 0
        have m1 := bq.cell 1
        have m2 := bq.cell 2
        have m3 := bq.cell 3
        have m4 := bq.cell 4
        have e0 := bq.frozen 0
        have e1 := bq.frozen 1
        have e2 := bq.frozen 2
        have e3 := bq.frozen 3
        have e4 := bq.frozen 4
        have zM := bq.lt
        simp only [List.getElem?_toArray, List.getElem?_cons_zero, List.getElem?_cons_succ] at m0 m1 m2 m3 m4
        clear bq
        clear hown hPz hTi hTz hTlt hok uS hz hcon z
        go_upto_region 10 with (fail)
        clear m0 m1 m2 m3 m4 e0 e1 e2 e3 e4 zM r0 r1 r2 r3 r4 s0 s1 s2 s3 s4 zR hu4
        generalize ((((w4.setCell ⟨w.heap.size, 0, none⟩ (.slice P1 a.path.length pc1)).setCell ⟨w.heap.size, 1, none⟩ (.int .i64 a.pref)).setCell ⟨w.heap.size, 2, none⟩ (.int .i64 a.med)).setCell ⟨w.heap.size, 3, none⟩ (.int .i64 a.origin)).setCell ⟨w.heap.size, 4, none⟩ (.slice T1 a.tags.length tc1) = W4 at *
        have bq := HM4.out
        have m0 := bq.cell 0
        have m1 := bq.cell 1
        have m2 := bq.cell 2
        have m3 := bq.cell 3
        have m4 := bq.cell 4
        have e0 := bq.frozen 0
        have e1 := bq.frozen 1
        have e2 := bq.frozen 2
        have e3 := bq.frozen 3
        have e4 := bq.frozen 4
        have zM := bq.lt
        simp only [List.getElem?_toArray, List.getElem?_cons_zero, List.getElem?_cons_succ] at m0 m1 m2 m3 m4
        clear bq
        have sN := N4.out.size
        have sZ := HSz.out
        have bq := HR4.out
        have r0 := bq.cell 0
        have r1 := bq.cell 1
        have r2 := bq.cell 2
        have r3 := bq.cell 3
        have r4 := bq.cell 4
        have s0 := bq.frozen 0
        have s1 := bq.frozen 1
        have s2 := bq.frozen 2
        have s3 := bq.frozen 3
        have s4 := bq.frozen 4
        have zR := bq.lt
        simp only [List.getElem?_toArray, List.getElem?_cons_zero, List.getElem?_cons_succ] at r0 r1 r2 r3 r4
        clear bq
        go_wp2_with fail
        refine bodyPost_ret (attr_err_out Tryz.results52 rfl (set5 HR4.out)) rfl ?_
        have uF := set5_one W4 (w.heap.size + 1) (.slice P1 a.path.length pc1) (.int .i64 a.pref) (.int .i64 a.med) (.int .i64 a.origin) (.slice T1 a.tags.length tc1)
        have nF := N4.out.trans uF (fun q hq hx => absurd hx (by show ¬ (q = w.heap.size + 1); omega))
        have zM3 := HM3.out.lt
        have zR3 := HR3.out.lt
        refine ⟨⟨P1, pc1, a.path, a.pref, a.med, a.origin, T1, tc1, a.tags⟩, ?_, ?_, ⟨?_, ?_, ?_, ?_⟩, ⟨fun b o e => Nat.le_trans N3.out.size (HPz.out b o e), fun b o e => Nat.le_trans N3.out.size (HTz.out b o e)⟩, nF⟩
        · rw [HK.out]; rfl
        · rw [tagX_ok HK.out, HX.out]
          show AtC.mk _ _ _ _ _ = AtC.mk _ _ _ _ (tagsX a.tags t)
          rw [tagsX_in HC.out]
          rfl
        · exact HP4.out.upd uF fun b o e => by have := HPz.out b o e; omega
        · exact HT4.out.upd uF fun b o e => by have := HTz.out b o e; omega
        · exact hpl
        · exact hct
  · have Hb := hide (bare_any _ _ _ w2 E hv)
    have HK := hide (tagK_con hk (t := t))
    have Hk := hide hk
    clear hv hk
    go_wp2_with fail
    refine Hb.out.mono ?_
    rintro e w3 ⟨rfl, rfl⟩
    go_wp2_with fail
    refine bodyPost_ret (attr_err_out Tryz.results52 rfl (set5 HR2.out)) rfl ?_
    exact lead_end (set5_new N2.out (Nat.le_succ _)) HK.out (tagX_err (by rw [HK.out]; exact Hk.out))
end Go.Proofs.YtignngpligicjaaGreatDoor

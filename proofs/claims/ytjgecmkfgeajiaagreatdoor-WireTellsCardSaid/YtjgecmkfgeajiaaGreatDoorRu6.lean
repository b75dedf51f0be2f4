/- slices.Repeat of one number. No condition but those that stand in each theorem. -/
import Derived.Test.YtjgecmkfgeajiaaGreatDoorShl
import Derived.Laws.CopyOwn
import Derived.Deep.RegionLaw
import Derived.Laws.CopyRow
import Derived.Laws.OwnMore
import Derived.Test.YtjgecmkfgeajiaaGreatDoorWi1
import Derived.Deep.AppendLies
import Derived.BigRegion
namespace Go.Proofs.YtjgecmkfgeajiaaGreatDoor
open Go.RowKit

def rep (v : Int) (k n : Nat) : List Value := List.replicate k (.int .i64 v) ++ List.replicate (n - k) (.int .i64 0)
theorem rep_len (v : Int) {k n : Nat} (h : k ≤ n) : (rep v k n).length = n := by simp [rep]; omega
theorem rep_splice (v : Int) {k m n : Nat} (h : k + m ≤ n) : splice (rep v k n) k (List.replicate m (.int .i64 v)) = rep v (k + m) n := by
  unfold splice rep
  rw [List.length_replicate, List.take_append_of_le_length (by simp), List.take_of_length_le (by simp), ← List.append_assoc, List.replicate_append_replicate]
  congr 1
  rw [List.drop_append, List.length_replicate]
  simp
  omega
theorem rep_at (v : Int) {k n j : Nat} (h : j < k) : (rep v k n)[j]? = some (.int .i64 v) := by
  unfold rep
  rw [List.getElem?_append_left (by simpa using h)]
  simp [h]
theorem make_ints (n : Nat) (hn : n ≤ 1000) (w : World) : (Instr.makeSlice 36 (.int .i64 n) (.int .i64 n)).run Tryz.prog w = .ok (.slice (some ⟨w.heap.size, 0, none⟩) n n) (w.alloc (.cells (rep 0 0 n).toArray 3)) := by
  obtain ⟨i0, hi0, hz0, hz1, hz2⟩ := info_parts info_TI
  have h := run_make (P := Tryz.prog) w 36 3 i0 _ Tryz.underlying36 hi0 hz0 .i64 .i64 n n (by omega) (by omega) (by rw [hz2]; omega) (by omega)
  rw [h, hz1]
  have e : madeCells (Value.int .i64 0).cells ((n : Int).toNat * 1) = (rep 0 0 n).toArray := by
    apply Array.toList_inj.1
    have h2 := toList_madeCells_one (Value.int .i64 0) n
    rw [Int.toNat_natCast, Nat.mul_one]
    rw [show (Value.int .i64 0).cells = #[Value.int .i64 0] from rfl, h2]
    simp [rep]
  rw [e]
  simp

theorem copy_rep (v : Int) {w : World} {g1 k m n dl dc sl sc : Nat} {a : Addr} (hb : Blk w g1 3 (rep v k n).toArray) (hkm : k + m ≤ n) (hm : m = Nat.min sl dl) (hs : ∀ j, j < m → w.cell? (a.add j) = some (.int .i64 v)) :
    ∃ w', (Builtin.copy_ #[36, 36] 3 #[.slice (some ⟨g1, k, none⟩) dl dc, .slice (some a) sl sc]).run Tryz.prog w = .ok (.int .i64 (m : Int)) w' ∧ Blk w' g1 3 (rep v (k + m) n).toArray ∧ Upd (fun b => b = g1) w w' := by
  have h := run_copy_row (P := Tryz.prog) w 36 36 3 3 g1 k dl dc a sl sc _ _ (List.replicate m (.int .i64 v)) Tryz.underlying36 (by kernel_rfl) hb (by simpa using hm)
    (fun j u hj => by
      have hj2 : j < m := by have := (List.getElem?_eq_some_iff.1 hj).1; simpa using this
      rw [List.getElem?_replicate, if_pos hj2] at hj
      injection hj with hj
      subst hj
      exact hs j hj2) (by simp [rep_len v (show k ≤ n by omega)]; omega) (fun u hu => by rw [List.mem_replicate] at hu; rw [hu.2]; rfl)
  rw [List.append_assoc] at h
  refine ⟨w.setRow g1 ((rep v k n).take k ++ (List.replicate m (Value.int .i64 v) ++ (rep v k n).drop (k + m))).toArray, ?_, ?_, ?_⟩
  rotate_left
  · have h2 := setRow_heap w g1 _ ((rep v k n).take k ++ (List.replicate m (Value.int .i64 v) ++ (rep v k n).drop (k + m))).toArray _ _ hb
    rw [← rep_splice v hkm]
    unfold splice
    rw [List.length_replicate]
    exact h2
  · exact ⟨rfl, rfl, rfl, by simp [World.setRow], fun q _ hq => setRow_other w g1 q _ hq⟩
  · rw [h]
    simp [goInt]

end Go.Proofs.YtjgecmkfgeajiaaGreatDoor

namespace Go.Proofs.YtjgecmkfgeajiaaGreatDoor
open Go.RowKit

theorem step_append_src {P : Program} {w : World} {ops : Array Oper} {o : Oper} {a : Act} {K : Act → World → Prop} {Q : Exit → Act → World → Prop} {E : Prop} (hgd : o.guard = none) (s x : Operand) (t : TypeId)
    (ho : o.op = .call { callee := .builtin .append, args := #[s, x], argTypes := #[t, t] })
    (base : Nat) (e : TypeId) (i : TypeInfo) (z : Value) (size bytes : Nat) (ht : P.underlying t = some (.slice e)) (hi : P.info? e = some i) (hz : i.zero = some z)
    (hsize : i.size = size) (hby : i.bytes = bytes) (hzs : z.cells.size = size) (hsz : 0 < size)
    (v : Value) (n : Nat) (xs : List Value) (hs : a.eval s = v) (hown : w.ownsRow base e size v n xs)
    (A : Option Addr) (m c : Nat) (news : List Value) (hx : a.eval x = .slice A m c) (hl : news.length = m * size)
    (hnews : 0 < m → ∃ b q, A = some ⟨b, q, none⟩ ∧ ∀ (j : Nat) (u : Value), news[j]? = some u → w.cell? ⟨b, q + j, none⟩ = some u) (h1 : ∀ u ∈ news, u.oneCell' = true)
    (h63 : n + m ≤ maxLen) (hbytes : (n + m) * bytes ≤ 140737488355328) (hbase : base ≤ w.heap.size)
    (h : ∀ v' w', w'.ownsRow base e size v' (n + m) (xs ++ news) → w.grownBy w' v.ownBlock → K (a.put o.dst v') w') : if Region.wanted o (yielded ops a.tmps) = true then Oper.wp P o a w K Q else E := by
  have hw : Region.wanted o (yielded ops a.tmps) = true := by simp [Region.wanted, hgd]
  rw [if_pos hw]
  have empty : m = 0 → news = [] := fun h0 => by
    subst h0
    rw [Nat.zero_mul] at hl
    exact List.eq_nil_of_length_eq_zero hl
  cases A with
  | none =>
    have h0 : m = 0 := by
      rcases Nat.eq_zero_or_pos m with h0 | h0
      · exact h0
      · obtain ⟨b, q, hA, _⟩ := hnews h0
        cases hA
    have hn := empty h0
    subst h0
    subst hn
    have h2 := h v w (by simpa using hown) (grown_refl _ _)
    have hrun := run_append_none (P := P) (w := w) (base := base) (t := t) (ty := o.type) (c := c) ht hi hown
    unfold Oper.wp
    simp [execOp, ho, resolve, invoke, builtin, hs, hx, hrun, Result.andThen]
    exact h2
  | some ad =>
    obtain ⟨v', w', hrun, h2, h3, _⟩ := run_append_own (P := P) w base t o.type e i z size bytes ht hi hz hsize hby hzs hsz v n xs hown ad m c news hl (fun j u hj => by
      rcases Nat.eq_zero_or_pos m with h0 | h0
      · rw [empty h0] at hj; simp at hj
      · obtain ⟨b, q, hA, hc⟩ := hnews h0
        injection hA with hA
        subst hA
        rw [show (⟨b, q, none⟩ : Addr).add j = ⟨b, q + j, none⟩ by unfold Addr.add; split <;> simp_all]
        exact hc j u hj) h1 h63 hbytes hbase
    unfold Oper.wp
    simp [execOp, ho, resolve, invoke, builtin, hs, hx, hrun, Result.andThen]
    exact h _ _ h2 h3

/-- What is wrong with what is told, of its content alone. -/
def conC (x : AtC) : Nat × Int := attrC ⟨none, 0, x.path, x.pref, x.med, x.origin, none, 0, x.tags⟩
theorem attrC_con (a : AttrR) : attrC a = conC a.con := rfl
def zeroC : AtC := ⟨[], 0, 0, 0, []⟩
def zeroR : AttrR := ⟨none, 0, [], 0, 0, 0, none, 0, []⟩
theorem zeroR_con : zeroR.con = zeroC := rfl
theorem zeroR_ok (w : World) : AttrOk w zeroR := ⟨Ints.nil, Ints.nil, Nat.le_refl _, Nat.le_refl _⟩
/-- Lead: the error, what it gives. -/
def leadK (x : AtC) (s n : Int) : Nat := if (conC x).1 ≠ 0 then (conC x).1 else if inR s 1 1000 = false ∨ inR n 0 12 = false then 2 else if 12 < (x.path.length : Int) + n then 7 else 0
def leadX (x : AtC) (s n : Int) : AtC := if leadK x s n = 0 then { x with path := List.replicate n.toNat s ++ x.path } else zeroC
def tagK (x : AtC) (t : Int) : Nat := if (conC x).1 ≠ 0 then (conC x).1 else if inR t 1 9999 = false then 2 else if x.tags.contains t = false ∧ 8 ≤ x.tags.length then 7 else 0
def tagsX (l : List Int) (t : Int) : List Int := if l.contains t then l else l.take (l.countP (· < t)) ++ t :: l.drop (l.countP (· < t))
def tagX (x : AtC) (t : Int) : AtC := if tagK x t = 0 then { x with tags := tagsX x.tags t } else zeroC

theorem attr_err_out {fn : Func} {p t : Tmp} {tmps : Array Value} {w : World} {R : Nat} {x0 x1 x2 x3 x4 : Value} (h : fn.results = #[.cell p TA, .tmp t]) (hp : tmps.getD p undef = .pointer (some ⟨R, 0, none⟩)) (hb : Blk w R TA #[x0, x1, x2, x3, x4]) :
    (results fn tmps).run Tryz.prog w = .ok (.tuple #[.agg #[x0, x1, x2, x3, x4], tmps.getD t undef]) w := by
  have hp' : tmps[p]?.getD undef = .pointer (some ⟨R, 0, none⟩) := by simpa using hp
  simp [results, h, hp', asAddr, run_loadVar_row w R TA TA #[x0, x1, x2, x3, x4] (0, 0) _ hb Tryz.underlying38 rfl (by rw [TA_info]; rfl)]
theorem attr_out3 {fn : Func} {p t u : Tmp} {tmps : Array Value} {w : World} {R : Nat} {x0 x1 x2 x3 x4 : Value} (h : fn.results = #[.cell p TA, .tmp t, .tmp u]) (hp : tmps.getD p undef = .pointer (some ⟨R, 0, none⟩)) (hb : Blk w R TA #[x0, x1, x2, x3, x4]) :
    (results fn tmps).run Tryz.prog w = .ok (.tuple #[.agg #[x0, x1, x2, x3, x4], tmps.getD t undef, tmps.getD u undef]) w := by
  have hp' : tmps[p]?.getD undef = .pointer (some ⟨R, 0, none⟩) := by simpa using hp
  simp [results, h, hp', asAddr, run_loadVar_row w R TA TA #[x0, x1, x2, x3, x4] (0, 0) _ hb Tryz.underlying38 rfl (by rw [TA_info]; rfl)]
theorem leadK_con {x : AtC} {s n : Int} (h : (conC x).1 ≠ 0) : leadK x s n = (conC x).1 := by unfold leadK; rw [if_pos h]
theorem leadK_bound {x : AtC} {s n : Int} (h : (conC x).1 = 0) (h2 : inR s 1 1000 = false ∨ inR n 0 12 = false) : leadK x s n = 2 := by unfold leadK; rw [if_neg (by simp [h]), if_pos h2]
theorem leadK_full {x : AtC} {s n : Int} (h : (conC x).1 = 0) (h2 : inR s 1 1000 = true) (h3 : inR n 0 12 = true) (h4 : 12 < (x.path.length : Int) + n) : leadK x s n = 7 := by unfold leadK; rw [if_neg (by simp [h]), if_neg (by simp [h2, h3]), if_pos h4]
theorem leadK_ok {x : AtC} {s n : Int} (h : (conC x).1 = 0) (h2 : inR s 1 1000 = true) (h3 : inR n 0 12 = true) (h4 : ¬ 12 < (x.path.length : Int) + n) : leadK x s n = 0 := by unfold leadK; rw [if_neg (by simp [h]), if_neg (by simp [h2, h3]), if_neg h4]
theorem leadX_err {x : AtC} {s n : Int} (h : leadK x s n ≠ 0) : leadX x s n = zeroC := by unfold leadX; rw [if_neg h]
theorem leadX_ok {x : AtC} {s n : Int} (h : leadK x s n = 0) : leadX x s n = { x with path := List.replicate n.toNat s ++ x.path } := by unfold leadX; rw [if_pos h]
theorem tagK_con {x : AtC} {t : Int} (h : (conC x).1 ≠ 0) : tagK x t = (conC x).1 := by unfold tagK; rw [if_pos h]
theorem tagK_bound {x : AtC} {t : Int} (h : (conC x).1 = 0) (h2 : inR t 1 9999 = false) : tagK x t = 2 := by unfold tagK; rw [if_neg (by simp [h]), if_pos h2]
theorem tagK_full {x : AtC} {t : Int} (h : (conC x).1 = 0) (h2 : inR t 1 9999 = true) (h3 : x.tags.contains t = false) (h4 : 8 ≤ x.tags.length) : tagK x t = 7 := by unfold tagK; rw [if_neg (by simp [h]), if_neg (by simp [h2]), if_pos ⟨h3, h4⟩]
theorem tagK_ok {x : AtC} {t : Int} (h : (conC x).1 = 0) (h2 : inR t 1 9999 = true) (h3 : ¬ (x.tags.contains t = false ∧ 8 ≤ x.tags.length)) : tagK x t = 0 := by unfold tagK; rw [if_neg (by simp [h]), if_neg (by simp [h2]), if_neg h3]
theorem tagX_err {x : AtC} {t : Int} (h : tagK x t ≠ 0) : tagX x t = zeroC := by unfold tagX; rw [if_neg h]
theorem tagX_ok {x : AtC} {t : Int} (h : tagK x t = 0) : tagX x t = { x with tags := tagsX x.tags t } := by unfold tagX; rw [if_pos h]
theorem attrC_le2 (a : AttrR) : (attrC a).1 ≤ 8 := by
  unfold attrC
  have : ∀ (l : List Int) (p i : Int), (tagC p l i).1 ≤ 8 := by
    intro l
    induction l with
    | nil => intro p i; simp [tagC]
    | cons t l ih => intro p i; unfold tagC; split; · simp
                     · split; · simp
                       · exact ih _ _
  split; · simp
  · split; · simp
    · split; · simp
      · exact this _ _ _
theorem conC_le (x : AtC) : (conC x).1 ≤ 8 := attrC_le2 _
theorem tagC_pw : ∀ (l : List Int) (p i : Int), 0 ≤ i → (tagC p l i).1 = 0 → l.Pairwise (· < ·) ∧ (0 < i → ∀ t ∈ l, p < t)
  | [], p, i, _, _ => ⟨List.Pairwise.nil, by simp⟩
  | t :: l, p, i, hi, h => by
    unfold tagC at h
    split at h
    · simp at h
    · split at h
      · simp at h
      · rename_i h1 h2
        obtain ⟨q1, q2⟩ := tagC_pw l t (i + 1) (by omega) h
        have q3 := q2 (by omega)
        refine ⟨List.pairwise_cons.2 ⟨q3, q1⟩, fun h0 s hs => ?_⟩
        have hpt : p < t := by omega
        rcases List.mem_cons.1 hs with rfl | hs
        · exact hpt
        · have := q3 s hs; omega
theorem conC_zero {x : AtC} (h : (conC x).1 = 0) : x.path.length ≤ 12 ∧ x.tags.length ≤ 8 ∧ x.tags.Pairwise (· < ·) := by
  unfold conC attrC at h
  split at h
  · simp at h
  · rename_i h1
    split at h
    · simp at h
    · split at h
      · simp at h
      · exact ⟨by have := h1; dsimp only at this; omega, by have := h1; dsimp only at this; omega, (tagC_pw _ _ _ (by omega) h).1⟩
end Go.Proofs.YtjgecmkfgeajiaaGreatDoor

namespace Go.Proofs.YtjgecmkfgeajiaaGreatDoor
open Go.RowKit

/-- Its rows are new. -/
def Fresh (w : World) (a : AttrR) : Prop := (∀ b o, a.P = some ⟨b, o, none⟩ → w.heap.size ≤ b) ∧ (∀ b o, a.T = some ⟨b, o, none⟩ → w.heap.size ≤ b)
theorem zeroR_fresh (w : World) : Fresh w zeroR := ⟨fun b o e => by simp [zeroR] at e, fun b o e => by simp [zeroR] at e⟩
theorem Fresh.low {w w1 : World} {a : AttrR} (h : Fresh w1 a) (hs : w.heap.size ≤ w1.heap.size) : Fresh w a := ⟨fun b o e => Nat.le_trans hs (h.1 b o e), fun b o e => Nat.le_trans hs (h.2 b o e)⟩
theorem lead_end {w W : World} {x : AtC} {E : Nat → Addr} {k : Nat} {K : Nat} (hn : New w W) (hk : K = k) (hx : x = zeroC) :
    ∃ a' : AttrR, Ending.returned (.tuple #[.agg #[.slice none 0 0, .int .i64 0, .int .i64 0, .int .i64 0, .slice none 0 0], errc E k]) = .returned (.tuple #[.agg a'.cells, errc E K]) ∧ a'.con = x ∧ AttrOk W a' ∧ Fresh w a' ∧ New w W := by
  subst hk; subst hx
  exact ⟨zeroR, rfl, rfl, zeroR_ok _, zeroR_fresh _, hn⟩

theorem set5_one (w : World) (M : Nat) (y0 y1 y2 y3 y4 : Value) : Upd (fun b => b = M) w (((((w.setCell ⟨M, 0, none⟩ y0).setCell ⟨M, 1, none⟩ y1).setCell ⟨M, 2, none⟩ y2).setCell ⟨M, 3, none⟩ y3).setCell ⟨M, 4, none⟩ y4) :=
  (((((Upd.refl (fun b => b = M) w).setCell (p := ⟨M, 0, none⟩) (.inl rfl) y0).setCell (p := ⟨M, 1, none⟩) (.inl rfl) y1).setCell (p := ⟨M, 2, none⟩) (.inl rfl) y2).setCell (p := ⟨M, 3, none⟩) (.inl rfl) y3).setCell (p := ⟨M, 4, none⟩) (.inl rfl) y4
theorem own_of_blk {base : Nat} {w : World} {g n : Nat} {t : TypeId} {cs : List Value} (h : Blk w g t cs.toArray) (hl : cs.length = n) (hb : base ≤ g) (hn : n ≤ maxLen) : w.ownsRow base t 1 (.slice (some ⟨g, 0, none⟩) n n) n cs :=
  ⟨by omega, .inr ⟨g, n, cs.toArray, rfl, hb, h, Nat.le_refl _, hn, by simp [hl], by simp [← hl]⟩⟩
theorem drew_alloc_size (W : World) (o : Obj) : ((W.alloc o).drew).heap.size = W.heap.size + 1 := by
  show (W.alloc o).heap.size = _
  simp
theorem rep_path (s : Int) (N : Nat) (l : List Int) : rep s N N ++ l.map (Value.int .i64) = (List.replicate N s ++ l).map (.int .i64) := by simp [rep]

end Go.Proofs.YtjgecmkfgeajiaaGreatDoor

namespace Go.Proofs.YtjgecmkfgeajiaaGreatDoor
open Go.RowKit

theorem ins_len (l : List Int) (t : Int) : (l.take (l.countP (· < t)) ++ t :: l.drop (l.countP (· < t))).length = l.length + 1 := by
  have := List.countP_le_length (p := fun v => decide (v < t)) (l := l)
  rw [List.length_append, List.length_cons, List.length_take, List.length_drop]
  omega
theorem tagsX_in {l : List Int} {t : Int} (h : l.contains t = true) : tagsX l t = l := by unfold tagsX; rw [if_pos h]
theorem tagsX_new {l : List Int} {t : Int} (h : l.contains t = false) : tagsX l t = l.take (l.countP (· < t)) ++ t :: l.drop (l.countP (· < t)) := by unfold tagsX; rw [if_neg (by rw [h]; simp)]
theorem own_mono {w : World} {base base1 : Nat} {e : TypeId} {size n : Nat} {v : Value} {xs : List Value} (h : w.ownsRow base e size v n xs) (hb : base1 ≤ base) : w.ownsRow base1 e size v n xs := by
  refine ⟨h.1, ?_⟩
  rcases h.2 with h2 | ⟨g, cap, cur, h1, h2, r⟩
  · exact .inl h2
  · exact .inr ⟨g, cap, cur, h1, Nat.le_trans hb h2, r⟩

end Go.Proofs.YtjgecmkfgeajiaaGreatDoor

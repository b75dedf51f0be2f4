/- Prefixes as results: how they lie. No condition but those that stand in each theorem. -/
import Derived.Test.YtlealjcllbpgkaaRg
import Derived.Test.YtlealjcllbpgkaaProg
import Derived.Test.YtlealjcllbpgkaaWi0
import Derived.Deep.AppendLies
import Derived.Laws.AppendOwnNone
import Derived.OwnWalk
namespace Go.Proofs.Ytlealjcllbpgkaa
open Go.RowKit

abbrev TPf : TypeId := 26
theorem TPf_info : (Try.prog.info? TPf).map (·.size) = some 2 := by kernel_rfl
theorem pf_err_out {fn : Func} {p t : Tmp} {tmps : Array Value} {w : World} {R : Nat} {x y : Value} (h : fn.results = #[.cell p TPf, .tmp t]) (hp : tmps.getD p undef = .pointer (some ⟨R, 0, none⟩)) (hb : Blk w R TPf #[x, y]) :
    (results fn tmps).run Try.prog w = .ok (.tuple #[.agg #[x, y], tmps.getD t undef]) w := by
  have hp' : tmps[p]?.getD undef = .pointer (some ⟨R, 0, none⟩) := by simpa using hp
  simp [results, h, hp', asAddr, run_loadVar_row w R TPf TPf #[x, y] (0, 0) _ hb Try.underlying26 rfl (by rw [TPf_info]; rfl)]
theorem pf_set {w : World} {R : Nat} {x y u v : Value} {t : TypeId} (hb : Blk w R t #[x, y]) : Blk ((w.setCell ⟨R, 0, none⟩ u).setCell ⟨R, 1, none⟩ v) R t #[u, v] := by
  have := (hb.set_ 0 u).set_ 1 v
  simpa using this
theorem pf_new {w w2 : World} {R : Nat} {u v : Value} (hn : New w w2) (hR : w.heap.size ≤ R) : New w ((w2.setCell ⟨R, 0, none⟩ u).setCell ⟨R, 1, none⟩ v) :=
  (hn.setCell (p := ⟨R, 0, none⟩) (.inr hR) u).setCell (p := ⟨R, 1, none⟩) (.inr hR) v
end Go.Proofs.Ytlealjcllbpgkaa

namespace Go.Proofs.Ytlealjcllbpgkaa
open Go.RowKit

theorem run_append_none {P : Program} {w : World} {base : Nat} {t ty e : TypeId} {i : TypeInfo} {size c : Nat} (ht : P.underlying t = some (.slice e)) (hi : P.info? e = some i) {v : Value} {n : Nat} {xs : List Value} (hown : w.ownsRow base e size v n xs) :
    (Builtin.append_ #[t, t] ty #[v, .slice none 0 c]).run P w = .ok v w := by
  rcases hown.2 with ⟨rfl, rfl⟩ | ⟨g, cap, cur, rfl, _, _, hnc, _⟩
  · simp [Builtin.append_, run_underlying ht, sizeOf, typeInfo, hi, Builtin.lenOf, Builtin.firstCells]
  · simp [Builtin.append_, run_underlying ht, sizeOf, typeInfo, hi, Builtin.lenOf, Builtin.firstCells, hnc, storeCells]

theorem grown_refl (w : World) (r : Option Nat) : w.grownBy w r := ⟨rfl, rfl, rfl, Nat.le_refl _, fun _ _ _ => rfl⟩

/-- 'append(own, src...)': whatever the source is, if its cells can be read. -/
theorem append_src {P : Program} {w : World} {ops : Array Oper} {rest : List Oper} {o : Oper} {a : Act} {Q : Exit → Act → World → Prop} (hgd : o.guard = none) (s x : Operand) (t : TypeId)
    (ho : o.op = .call { callee := .builtin .append, args := #[s, x], argTypes := #[t, t] })
    (base : Nat) (e : TypeId) (i : TypeInfo) (z : Value) (size bytes : Nat) (ht : P.underlying t = some (.slice e)) (hi : P.info? e = some i) (hz : i.zero = some z)
    (hsize : i.size = size) (hby : i.bytes = bytes) (hzs : z.cells.size = size) (hsz : 0 < size)
    (v : Value) (n : Nat) (xs : List Value) (hs : a.eval s = v) (hown : w.ownsRow base e size v n xs)
    (A : Option Addr) (m c : Nat) (news : List Value) (hx : a.eval x = .slice A m c) (hl : news.length = m * size)
    (hnews : 0 < m → ∃ b q, A = some ⟨b, q, none⟩ ∧ ∀ (j : Nat) (u : Value), news[j]? = some u → w.cell? ⟨b, q + j, none⟩ = some u) (h1 : ∀ u ∈ news, u.oneCell' = true)
    (h63 : n + m ≤ maxLen) (hbytes : (n + m) * bytes ≤ 140737488355328) (hbase : base ≤ w.heap.size)
    (h : ∀ v' w', w'.ownsRow base e size v' (n + m) (xs ++ news) → w.grownBy w' v.ownBlock → wpList P ops Q rest (a.put o.dst v') w') : wpList P ops Q (o :: rest) a w := by
  have empty : m = 0 → news = [] := fun h0 => by
    subst h0
    rw [Nat.zero_mul] at hl
    exact List.eq_nil_of_length_eq_zero hl
  cases A with
  | none =>
    have h0 : m = 0 := by
      rcases Nat.eq_zero_or_pos m with h0 | h0
      · exact h0
      · obtain ⟨b, q, hA, _⟩ := hnews h0
        cases hA
    have hn := empty h0
    subst h0
    subst hn
    have h2 := h v w (by simpa using hown) (grown_refl _ _)
    refine wpList_plain hgd fun K hK => ?_
    have hrun := run_append_none (P := P) (w := w) (base := base) (t := t) (ty := o.type) (c := c) ht hi hown
    unfold Oper.wp
    simp [execOp, ho, resolve, invoke, builtin, hs, hx, hrun, Result.andThen]
    exact hK _ _ h2
  | some ad =>
    refine wpList_append_own w hgd s x t ho base e i z size bytes ht hi hz hsize hby hzs hsz v n xs hs hown ad m c news hx hl ?_ h1 h63 hbytes hbase fun v' w' h2 h3 _ => h v' w' h2 h3
    intro j u hj
    rcases Nat.eq_zero_or_pos m with h0 | h0
    · rw [empty h0] at hj; simp at hj
    · obtain ⟨b, q, hA, hc⟩ := hnews h0
      injection hA with hA
      subst hA
      rw [show (⟨b, q, none⟩ : Addr).add j = ⟨b, q + j, none⟩ by unfold Addr.add; split <;> simp_all]
      exact hc j u hj

/-- All cells of rows, one behind the other. -/
def flat (rs : List (Array Value)) : List Value := rs.flatMap Array.toList
theorem flat_append (rs ss : List (Array Value)) : flat (rs ++ ss) = flat rs ++ flat ss := by simp [flat]
theorem flat_one (r : Array Value) : flat [r] = r.toList := by simp [flat]
theorem flat_length {sz : Nat} : ∀ (rs : List (Array Value)), (∀ r ∈ rs, r.size = sz) → (flat rs).length = rs.length * sz := by
  intro rs
  induction rs with
  | nil => intro _; simp [flat]
  | cons r rs ih =>
    intro h
    have h1 := h r (by simp)
    have h2 := ih fun x hx => h x (by simp [hx])
    have h3 : flat (r :: rs) = r.toList ++ flat rs := by simp [flat]
    rw [h3, List.length_append, h2, List.length_cons, Array.length_toList, h1, Nat.add_mul, Nat.one_mul]
    omega
theorem flat_get {sz : Nat} : ∀ (rs : List (Array Value)), (∀ r ∈ rs, r.size = sz) → ∀ (i : Nat) (r : Array Value), rs[i]? = some r → ∀ k, k < sz → (flat rs)[i * sz + k]? = r[k]? := by
  intro rs
  induction rs with
  | nil => intro _ i r h; simp at h
  | cons r0 rs ih =>
    intro h i r hr k hk
    have h1 := h r0 (by simp)
    have h3 : flat (r0 :: rs) = r0.toList ++ flat rs := by simp [flat]
    rw [h3]
    cases i with
    | zero =>
      simp at hr; subst hr
      rw [Nat.zero_mul, Nat.zero_add, List.getElem?_append_left (by simp; omega)]
      simp
    | succ i =>
      rw [List.getElem?_append_right (by simp [h1, Nat.add_mul]; omega)]
      rw [show (i + 1) * sz + k - r0.toList.length = i * sz + k by simp [h1, Nat.add_mul]; omega]
      exact ih (fun x hx => h x (by simp [hx])) i r (by simpa using hr) k hk
theorem flat_inv {sz : Nat} (hz : 0 < sz) : ∀ (rs : List (Array Value)), (∀ r ∈ rs, r.size = sz) → ∀ (j : Nat) (u : Value), (flat rs)[j]? = some u → ∃ r, rs[j / sz]? = some r ∧ r[j % sz]? = some u := by
  intro rs h j u hu
  have hlt : j < rs.length * sz := by
    have := (List.getElem?_eq_some_iff.1 hu).1
    rw [flat_length rs h] at this
    exact this
  have hi : j / sz < rs.length := (Nat.div_lt_iff_lt_mul hz).2 hlt
  have hr : rs[j / sz]? = some rs[j / sz] := List.getElem?_eq_getElem hi
  have h2 := flat_get rs h (j / sz) _ hr (j % sz) (Nat.mod_lt _ hz)
  rw [Nat.div_add_mod' j sz] at h2
  exact ⟨_, hr, h2.symm.trans hu⟩

/-- Rows in memory, cell by cell. -/
theorem Rws.flat {w : World} {A : Option Addr} {sz : Nat} {rs : List (Array Value)} (hz : 0 < sz) (h : Rws w A sz rs) (hs : ∀ r ∈ rs, r.size = sz) : 0 < rs.length → ∃ b q, A = some ⟨b, q, none⟩ ∧ ∀ (j : Nat) (u : Value), (Go.Proofs.Ytlealjcllbpgkaa.flat rs)[j]? = some u → w.cell? ⟨b, q + j, none⟩ = some u := fun h0 => by
  obtain ⟨b, o, hA, _, hc⟩ := h h0
  refine ⟨b, o, hA, fun j u hu => ?_⟩
  obtain ⟨r, hr, hk⟩ := flat_inv hz rs hs j u hu
  have := hc _ r hr _ u hk
  rw [Nat.add_assoc, Nat.div_add_mod' j sz] at this
  exact this
/-- The block lies there, with its type. -/
def Typed (w : World) (A : Option Addr) (t : TypeId) : Prop := ∀ b o, A = some ⟨b, o, none⟩ → ∃ cs, Blk w b t cs
theorem Typed.upd {S : Nat → Prop} {w w1 : World} {A : Option Addr} {t : TypeId} (h : Typed w A t) (hu : Upd S w w1) (hn : ∀ b o, A = some ⟨b, o, none⟩ → ¬ S b) : Typed w1 A t := fun b o e => by
  obtain ⟨cs, hb⟩ := h b o e
  exact ⟨cs, hb.upd hu (hn b o e)⟩
theorem Typed.new_ {w w1 : World} {A : Option Addr} {t : TypeId} (h : Typed w A t) (hu : New w w1) : Typed w1 A t := h.upd hu fun _ _ _ x => x
theorem Typed.ne_ {w : World} {A : Option Addr} {t e : TypeId} {base sz n : Nat} {v : Value} {xs : List Value} (h : Typed w A t) (ho : w.ownsRow base e sz v n xs) (hne : t ≠ e) : ∀ b o, A = some ⟨b, o, none⟩ → ¬ v.ownBlock = some b := fun b o e1 => by
  obtain ⟨cs, hb⟩ := h b o e1
  rcases ho.2 with ⟨rfl, _⟩ | ⟨g, cap, cur, rfl, _, hh, _⟩
  · simp [Value.ownBlock]
  · intro hg
    have hgb : g = b := by simpa [Value.ownBlock] using hg
    subst hgb
    exact Blk.ne_ (t := t) (t1 := e) hb hh hne rfl
/-- A row that the call made reads as its rows. -/
theorem rws_of_own {w : World} {base : Nat} {e : TypeId} {sz : Nat} {v : Value} {n : Nat} {rs : List (Array Value)} (hz : 0 < sz) (h : w.ownsRow base e sz v n (flat rs)) (hs : ∀ r ∈ rs, r.size = sz) :
    ∃ A cap, v = .slice A n cap ∧ rs.length = n ∧ n ≤ cap ∧ Rws w A sz rs ∧ (∀ b o, A = some ⟨b, o, none⟩ → base ≤ b) ∧ Typed w A e := by
  have hn : rs.length = n := by
    have h1 := h.1
    rw [flat_length rs hs] at h1
    exact Nat.eq_of_mul_eq_mul_right hz h1
  rcases h.2 with ⟨rfl, h0⟩ | ⟨g, cap, cur, rfl, hb, hh, hc, _, hcur, ht⟩
  · subst h0
    exact ⟨none, 0, rfl, hn, Nat.le_refl _, fun h => absurd h (by omega), (fun _ _ h => by cases h), (fun _ _ h => by cases h)⟩
  · have hlt : g < w.heap.size := by
      rcases Nat.lt_or_ge g w.heap.size with hlt | hge
      · exact hlt
      · rw [Array.getElem?_eq_none hge] at hh; cases hh
    refine ⟨some ⟨g, 0, none⟩, cap, rfl, hn, hc, fun _ => ⟨g, 0, rfl, hlt, fun i r hr j u hu => ?_⟩, fun b o hA => by injection hA with hA; injection hA with hA; omega, fun b o hA => by injection hA with hA; injection hA with hA; subst hA; exact ⟨cur, hh⟩⟩
    have hj : j < sz := by
      rw [← hs r (List.mem_of_getElem? hr)]
      exact (Array.getElem?_eq_some_iff.1 hu).1
    have h2 := flat_get rs hs i r hr j hj
    rw [hu, ← ht] at h2
    have h3 : cur[i * sz + j]? = some u := by
      rw [List.getElem?_take] at h2
      split at h2
      · simpa using h2
      · cases h2
    have hblk : Blk w g e cur := hh
    rw [Nat.zero_add, hblk.cell]
    exact h3

/-- Ints as rows. -/
theorem ints_flat (xs : List Int) : flat (xs.map fun x => #[Value.int .i64 x]) = xs.map (Value.int .i64) := by
  induction xs with
  | nil => rfl
  | cons x xs ih =>
    rw [List.map_cons, List.map_cons, ← ih]
    rfl
theorem Ints.cells {w : World} {A : Option Addr} {xs : List Int} (h : Ints w A xs) : 0 < xs.length → ∃ b q, A = some ⟨b, q, none⟩ ∧ ∀ (j : Nat) (u : Value), (xs.map (Value.int .i64))[j]? = some u → w.cell? ⟨b, q + j, none⟩ = some u := fun h0 => by
  obtain ⟨b, o, hA, _, hc⟩ := h h0
  refine ⟨b, o, hA, fun j u hu => ?_⟩
  rw [List.getElem?_map] at hu
  obtain ⟨x, hx, rfl⟩ := Option.map_eq_some_iff.1 hu
  exact hc j x hx
theorem ints_of_own {w : World} {base : Nat} {e : TypeId} {v : Value} {n : Nat} {xs : List Int} (h : w.ownsRow base e 1 v n (xs.map (Value.int .i64))) :
    ∃ A cap, v = .slice A n cap ∧ xs.length = n ∧ n ≤ cap ∧ Ints w A xs ∧ (∀ b o, A = some ⟨b, o, none⟩ → base ≤ b) ∧ Typed w A e := by
  rw [← ints_flat] at h
  obtain ⟨A, cap, rfl, hn, hc, hr, hb, ht⟩ := rws_of_own (by omega) h (by intro r hr; obtain ⟨x, _, rfl⟩ := List.mem_map.1 hr; rfl)
  refine ⟨A, cap, rfl, by simpa using hn, hc, fun h0 => ?_, hb, ht⟩
  obtain ⟨b, o, hA, hlt, hcc⟩ := hr (by simpa using h0)
  refine ⟨b, o, hA, hlt, fun i x hx => ?_⟩
  have := hcc i #[Value.int .i64 x] (by simp [hx]) 0 _ rfl
  simpa using this
theorem ints_one (xs : List Int) : ∀ u ∈ xs.map (Value.int .i64), u.oneCell' = true := fun u hu => by
  obtain ⟨x, _, rfl⟩ := List.mem_map.1 hu
  rfl
theorem grown_upd {S : Nat → Prop} {w w1 : World} {v : Value} (h : w.grownBy w1 v.ownBlock) (hv : ∀ g, v.ownBlock = some g → S g) : Upd S w w1 := Upd.of_grown h fun k _ hk => hv k hk
theorem grown_new {w w1 : World} (h : w.grownBy w1 (Value.slice none 0 0).ownBlock) : New w w1 := grown_upd h fun g hg => by simp [Value.ownBlock] at hg
theorem grown_own_new {w w1 w2 : World} {e : TypeId} {size n : Nat} {v : Value} {xs : List Value} (h1 : New w w1) (ho : w1.ownsRow w.heap.size e size v n xs) (hg : w1.grownBy w2 v.ownBlock) : New w w2 :=
  h1.trans (grown_upd (S := fun g => v.ownBlock = some g) hg (fun _ h => h)) (fun q hq hx => by have := (World.ownsRow.lt ho q hx).1; omega)
end Go.Proofs.Ytlealjcllbpgkaa

/- The trie and the reference's table, side by side: what each act does to both. No condition but those that stand in each theorem. -/
import Derived.Test.YtkljanjapcpbdaaDoorTl8
import Derived.Test.YtkljanjapcpbdaaDoorCd1
import Derived.Test.YtkljanjapcpbdaaDoorFb4
namespace Go.Proofs.YtkljanjapcpbdaaDoor
open Go.RowKit

/-- Both tables hold the same. -/
structure FA (B : Nat) (w : World) (t y : Nat) (ms : Int) (V : Fm.VM) (F G : Nat → Prop) : Prop where
  tab : TabB B w t ms (allX V).length V F
  ref : TabL B w y ms (allX V) G
  dis : Dis F G
  val : Val V
  le : (allX V).length ≤ 60
  ms0 : 0 ≤ ms
  ms60 : ms ≤ 60
theorem FA.new {B : Nat} {w w1 : World} {t y : Nat} {ms : Int} {V : Fm.VM} {F G : Nat → Prop} (h : FA B w t y ms V F G) (hu : New w w1) : FA B w1 t y ms V F G :=
  ⟨h.tab.new hu, h.ref.new hu, h.dis, h.val, h.le, h.ms0, h.ms60⟩

theorem chk_le3 (a n : Int) : chk a n ≤ 3 := by unfold chk; split <;> (try split) <;> omega
theorem allX_num (V : Fm.VM) : ((allX V).length : Int) = ((allT V).length : Int) := by rw [allX_len]

/-- Put on the trie, whatever comes. -/
theorem tput_any (B t : Nat) (ms a n hop : Int) (V : Fm.VM) (F : Nat → Prop) (E : Nat → Addr) (w : World) (h2 : Sen w gBound (E 2)) (h3 : Sen w gShape (E 3)) (h7 : Sen w gFull (E 7))
    (hT : TabB B w t ms (allX V).length V F) (hV : Val V) (hle : (allX V).length ≤ 60) (hms : ms ≤ 60) (hB : B ≤ w.heap.size) :
    Calls Tryd.prog 25 #[.pointer (some ⟨t, 0, none⟩), .agg #[.int .i64 a, .int .i64 n], .int .i64 hop] w fun e w1 =>
      ∃ v V' F', e = .returned v ∧ ErrV w1 E v (rputC ms (allX V) a n hop).1 (-1) ∧ (rputC ms (allX V) a n hop).2 = allX V' ∧ Val V' ∧ (allX V').length ≤ 60 ∧ TabB B w1 t ms (allX V').length V' F' ∧ (∀ k, F' k → F k ∨ w.heap.size ≤ k) ∧ Upd F w w1 := by
  by_cases k1 : chk a n = 0
  · cases hv : at1 V a n with
    | some x =>
      obtain ⟨r, N, hT1, rfl⟩ := hT.ex
      refine (put_old a n hop ms _ x t r N V E w h2 h3 k1 hT1 hv).mono ?_
      rintro e w1 ⟨rfl, hM, hu⟩
      have hl := len_old (hop := hop) k1 hv
      rw [rput_old hV k1 hv ms hop]
      exact ⟨_, put1 V a n (some hop), _, rfl, .nil, rfl, hV.put k1 _, by rw [hl]; exact hle, ⟨⟨r, N, by rw [hl]; exact hM, rfl⟩, hT.from_⟩, fun k hk => .inl hk, hu⟩
    | none =>
      by_cases hf : ms ≤ (allX V).length
      · obtain ⟨r, N, hT1, rfl⟩ := hT.ex
        rw [rput_full hV k1 hv hf hop]
        refine (put_full a n hop ms _ t r N V E w h2 h3 h7 k1 hT1 hv (by omega)).mono ?_
        rintro e w1 ⟨rfl, hu⟩
        exact ⟨_, V, _, rfl, .sent (by omega) (by omega), rfl, hV, hle, hT.new hu, fun k hk => .inl hk, .of_new hu⟩
      · rw [rput_new hV k1 hv hf hop]
        refine (put_tab B a n hop ms _ t V F E w h2 h3 k1 hT hv (by omega) (by omega) hms hB).mono ?_
        rintro e w1 ⟨G, rfl, hM, hG, hu⟩
        have hl := len_new (hop := hop) k1 hv
        exact ⟨_, put1 V a n (some hop), G, rfl, .nil, rfl, hV.put k1 _, by rw [hl]; omega, by rw [hl]; exact hM, hG, hu⟩
  · rw [rputC_chk k1]
    refine (put_bad a n hop t E w h2 h3 k1).mono ?_
    rintro e w1 ⟨rfl, hu⟩
    have := chk_le3 a n
    exact ⟨_, V, F, rfl, .sent (by omega) (by omega), rfl, hV, hle, hT.new hu, fun k hk => .inl hk, .of_new hu⟩

/-- Drop on the trie, whatever comes. -/
theorem tdrop_any (B t : Nat) (ms a n : Int) (V : Fm.VM) (F : Nat → Prop) (E : Nat → Addr) (w : World) (h2 : Sen w gBound (E 2)) (h3 : Sen w gShape (E 3)) (h5 : Sen w gNone (E 5))
    (hT : TabB B w t ms (allX V).length V F) (hV : Val V) (hle : (allX V).length ≤ 60) :
    Calls Tryd.prog 27 #[.pointer (some ⟨t, 0, none⟩), .agg #[.int .i64 a, .int .i64 n]] w fun e w1 =>
      ∃ v V' F', e = .returned v ∧ ErrV w1 E v (rdropC (allX V) a n).1 (-1) ∧ (rdropC (allX V) a n).2 = allX V' ∧ Val V' ∧ (allX V').length ≤ 60 ∧ TabB B w1 t ms (allX V').length V' F' ∧ (∀ k, F' k → F k ∨ w.heap.size ≤ k) ∧ Upd F w w1 := by
  by_cases k1 : chk a n = 0
  · cases hv : at1 V a n with
    | some x =>
      have hl := len_drop k1 hv
      rw [rdrop_old hV k1 hv]
      refine (drop_tab B a n ms _ x t V F E w h2 h3 k1 hT hv (by omega) (by omega)).mono ?_
      rintro e w1 ⟨rfl, hM, hu⟩
      exact ⟨_, put1 V a n none, F, rfl, .nil, rfl, hV.put k1 _, by omega, by rw [show ((allX (put1 V a n none)).length : Int) = ((allX V).length : Int) - 1 by omega]; exact hM, fun k hk => .inl hk, hu⟩
    | none =>
      obtain ⟨r, N, hT1, rfl⟩ := hT.ex
      rw [rdrop_none hV k1 hv]
      refine (drop_none a n ms _ t r N V E w h2 h3 h5 k1 hT1 hv).mono ?_
      rintro e w1 ⟨rfl, hu⟩
      exact ⟨_, V, _, rfl, .sent (by omega) (by omega), rfl, hV, hle, hT.new hu, fun k hk => .inl hk, .of_new hu⟩
  · rw [rdropC_chk k1]
    refine (drop_bad a n t E w h2 h3 k1).mono ?_
    rintro e w1 ⟨rfl, hu⟩
    have := chk_le3 a n
    exact ⟨_, V, F, rfl, .sent (by omega) (by omega), rfl, hV, hle, hT.new hu, fun k hk => .inl hk, .of_new hu⟩

theorem ErrV.updG {B y : Nat} {w w1 : World} {ms : Int} {L : List E3} {G : Nat → Prop} {E : Nat → Addr} {v : Value} {k : Nat} {i : Int} (h : ErrV w E v k i) (hT : TabL B w y ms L G) (hu : Upd G w w1) : ErrV w1 E v k i := by
  rcases h with h | h | ⟨h1, h9, p, hv, hb⟩
  · exact .inl h
  · exact .inr (.inl h)
  · refine .inr (.inr ⟨h1, h9, p, hv, hb.upd hu fun hp => ?_⟩)
    obtain ⟨u, hy, ho, rfl⟩ := hT.ex
    rcases hp with rfl | hp
    · exact Blk.ne_ hb hy (by decide) rfl
    · exact own_ne2 ho hb (by decide) hp

/-- Both go on side by side. -/
theorem FA.step {B : Nat} {w w1 w2 : World} {t y : Nat} {ms : Int} {V V' : Fm.VM} {F G F' G' : Nat → Prop} (h : FA B w t y ms V F G) (hF : TabB B w1 t ms (allX V').length V' F') (hF2 : ∀ k, F' k → F k ∨ w.heap.size ≤ k) (hu1 : Upd F w w1)
    (hG : TabL B w2 y ms (allX V') G') (hG2 : ∀ k, G' k → G k ∨ w1.heap.size ≤ k) (hu2 : Upd G w1 w2) (hV : Val V') (hle : (allX V').length ≤ 60) : FA B w2 t y ms V' F' G' := by
  have hdis : Dis F' G := fun k hk hg => by
    rcases hF2 k hk with h1 | h1
    · exact h.dis k h1 hg
    · have := h.ref.lt hg; omega
  refine ⟨hF.upd hu2 fun k hk hg => hdis k hk hg, hG, fun k hk hg => ?_, hV, hle, h.ms0, h.ms60⟩
  rcases hG2 k hg with h1 | h1
  · exact hdis k hk h1
  · have := hF.lt hk; omega
/-- What Set answers. -/
def SR (ms : Int) (xs : List E3) (c : Nat) (i : Int) : Prop :=
  (∃ (k : Nat) (x : E3), xs[k]? = some x ∧ setC ms xs k x ≠ 0 ∧ (∀ j z, j < k → xs[j]? = some z → setC ms xs j z = 0) ∧ c = setC ms xs k x ∧ i = k) ∨ ((∀ j z, xs[j]? = some z → setC ms xs j z = 0) ∧ c = 0 ∧ i = -1)
theorem SR.uniq {ms : Int} {xs : List E3} {c c' : Nat} {i i' : Int} (h : SR ms xs c i) (h' : SR ms xs c' i') : c = c' ∧ i = i' := by
  rcases h with ⟨k, x, h1, h2, h3, rfl, rfl⟩ | ⟨h1, rfl, rfl⟩ <;> rcases h' with ⟨k', x', g1, g2, g3, rfl, rfl⟩ | ⟨g1, rfl, rfl⟩
  · rcases Nat.lt_trichotomy k k' with hlt | rfl | hlt
    · exact absurd (g3 k x hlt h1) h2
    · rw [h1] at g1; injection g1 with g1; subst g1; exact ⟨rfl, rfl⟩
    · exact absurd (h3 k' x' hlt g1) g2
  · exact absurd (g1 k x h1) h2
  · exact absurd (h1 k' x' g1) g2
  · exact ⟨rfl, rfl⟩
theorem setC_le (ms : Int) (xs : List E3) (k : Nat) (x : E3) : setC ms xs k x ≤ 9 := by
  have := chk_le3 x.a x.n
  unfold setC
  split
  · omega
  · split
    · omega
    · split <;> omega
theorem setC_0 {ms : Int} {xs : List E3} {k : Nat} {x : E3} (h : setC ms xs k x = 0) : chk x.a x.n = 0 ∧ (xs.take k).any (sameP x) = false ∧ ¬ ms ≤ k := by
  unfold setC at h
  by_cases h1 : chk x.a x.n = 0
  · rw [if_neg (by simp [h1])] at h
    by_cases h2 : (xs.take k).any (sameP x) = true
    · rw [if_pos h2] at h; cases h
    · rw [if_neg h2] at h
      by_cases h3 : ms ≤ k
      · rw [if_pos h3] at h; cases h
      · exact ⟨h1, by simpa using h2, h3⟩
  · rw [if_pos (by simpa using h1)] at h; exact absurd h h1
theorem set_fine {ms : Int} {xs : List E3} (h : ∀ j z, xs[j]? = some z → setC ms xs j z = 0) : ∀ k, k ≤ xs.length → Good xs k ∧ Val (VI xs (js1 k)) ∧ (allX (VI xs (js1 k))).length = k := by
  intro k
  induction k with
  | zero => intro _; exact ⟨Good.zero _, by rw [VI_0]; exact Val.zero, by rw [VI_0, allX_zero]; rfl⟩
  | succ k ih =>
    intro hk
    obtain ⟨hg, hV, hl⟩ := ih (by omega)
    have hx : xs[k]? = some (xs[k]'(by omega)) := List.getElem?_eq_getElem (by omega)
    obtain ⟨h1, h2, _⟩ := setC_0 (h k _ hx)
    have hg2 := hg.any hx h1 h2
    have hf := VI_free1 hg2 hx
    refine ⟨hg2, ?_, ?_⟩
    · rw [← VI_snoc1 hg2 hx]; exact hV.put h1 _
    · rw [← VI_snoc1 hg2 hx, len_new h1 hf, hl]
theorem set_len {ms : Int} {xs : List E3} (h : ∀ j z, xs[j]? = some z → setC ms xs j z = 0) (hms : 0 ≤ ms) : (xs.length : Int) ≤ ms := by
  by_cases h0 : xs.length = 0
  · omega
  · have hx : xs[xs.length - 1]? = some (xs[xs.length - 1]'(by omega)) := List.getElem?_eq_getElem (by omega)
    obtain ⟨_, _, h3⟩ := setC_0 (h _ _ hx)
    omega
theorem ents_of_rws {w : World} {A : Option Addr} {xs : List E3} (h : Rws w A 3 (xs.map E3.cells)) : 0 < xs.length → ∃ b o, A = some ⟨b, o, none⟩ ∧ Ents w b o xs ∧ b < w.heap.size := fun h0 => by
  obtain ⟨b, o, hA, hb, hc⟩ := h (by simpa using h0)
  refine ⟨b, o, hA, fun i x hx => ?_, hb⟩
  have h1 := hc i x.cells (by simp [hx])
  exact ⟨h1 0 _ rfl, h1 1 _ rfl, h1 2 _ rfl⟩

theorem tset_any (B t n c : Nat) (A : Option Addr) (ms : Int) (xs : List E3) (V : Fm.VM) (F : Nat → Prop) (E : Nat → Addr) (w : World) (h2 : Sen w gBound (E 2)) (h3 : Sen w gShape (E 3)) (h6 : Sen w gExist (E 6)) (h7 : Sen w gFull (E 7))
    (hx : Rws w A 3 (xs.map E3.cells)) (hn : xs.length = n) (hl : n ≤ 1000) (hc : n ≤ c) (hms : 0 ≤ ms ∧ ms ≤ 60) (hT : TabB B w t ms (allX V).length V F) (hV : Val V) (hle : (allX V).length ≤ 60) (hB : B ≤ w.heap.size) :
    Calls Tryd.prog 30 #[.pointer (some ⟨t, 0, none⟩), .slice A n c] w fun e w1 =>
      ∃ v k i V' F', e = .returned v ∧ ErrV w1 E v k i ∧ SR ms xs k i ∧ (k = 0 → V' = VI xs (js1 xs.length)) ∧ (k ≠ 0 → V' = V) ∧ Val V' ∧ (allX V').length ≤ 60 ∧ TabB B w1 t ms (allX V').length V' F' ∧ (∀ k, F' k → F k ∨ w.heap.size ≤ k) ∧ Upd F w w1 := by
  have hA : ∃ b o, 0 < n → A = some ⟨b, o, none⟩ ∧ Ents w b o xs ∧ b < w.heap.size := by
    by_cases h0 : 0 < n
    · obtain ⟨b, o, h1⟩ := ents_of_rws hx (by omega)
      exact ⟨b, o, fun _ => h1⟩
    · exact ⟨0, 0, fun h => absurd h h0⟩
  obtain ⟨b, o, hA⟩ := hA
  refine (set_any B b o c t n A ms _ xs V F E w h2 h3 h6 h7 hA hn hl hc hms hT hB).mono ?_
  rintro e w1 (⟨k, f, x, hk, hne, hz, rfl, hb, hu⟩ | ⟨hz, rfl, G, hG, hG2, hu⟩)
  · exact ⟨_, setC ms xs k x, k, V, F, rfl, .fault (by omega) (setC_le _ _ _ _) hb, .inl ⟨k, x, hk, hne, hz, rfl, rfl⟩, fun h => absurd h hne, fun _ => rfl, hV, hle, hT.new hu, fun k hk => .inl hk, .of_new hu⟩
  · obtain ⟨_, hV2, hl2⟩ := set_fine hz xs.length (Nat.le_refl _)
    have hl3 := set_len hz hms.1
    exact ⟨_, 0, -1, VI xs (js1 xs.length), G, rfl, .nil, .inr ⟨hz, rfl, rfl⟩, fun _ => rfl, fun h => absurd rfl h, hV2, by omega, by rw [hl2]; exact hG, hG2, hu⟩

theorem rset2_any (B y n c : Nat) (A : Option Addr) (ms : Int) (V : Fm.VM) (G : Nat → Prop) (xs : List E3) (w : World) (hT : TabL B w y ms (allX V) G) (hms : 0 ≤ ms ∧ ms ≤ 60) (hx : Rws w A 3 (xs.map E3.cells)) (hn : xs.length = n) (hl : n ≤ 1000) (hB : B ≤ w.heap.size) {k : Nat} {i : Int} {V' : Fm.VM}
    (hs : SR ms xs k i) (h0 : k = 0 → V' = VI xs (js1 xs.length)) (h1 : k ≠ 0 → V' = V) :
    Calls Tryd.prog 32 #[.pointer (some ⟨y, 0, none⟩), .slice A n c] w fun e w1 =>
      ∃ G', e = .returned (.agg #[.int .i64 (k : Int), .int .i64 i]) ∧ TabL B w1 y ms (allX V') G' ∧ (∀ k, G' k → G k ∨ w.heap.size ≤ k) ∧ Upd G w w1 := by
  refine (rset_any B y n c A ms (allX V) G xs w hT hms hx hn hl hB).mono ?_
  rintro e w1 (⟨j, x, hk, hne, hz, rfl, hT1, hu⟩ | ⟨hz, rfl, G', hG, hG2, hu⟩)
  · obtain ⟨rfl, rfl⟩ := hs.uniq (.inl ⟨j, x, hk, hne, hz, rfl, rfl⟩)
    rw [h1 hne]
    exact ⟨G, rfl, hT1, fun k hk => .inl hk, .of_new hu⟩
  · obtain ⟨rfl, rfl⟩ := hs.uniq (.inr ⟨hz, rfl, rfl⟩)
    rw [h0 rfl]
    exact ⟨G', rfl, hG, hG2, hu⟩

theorem coded_same (v : Value) (k : Nat) (w : World) (E : Nat → Addr) (h : Errs w E) (hv : ErrV w E v k (-1)) : Calls Tryd.prog 24 #[v, .int .i64 (k : Int)] w fun e w1 => e = .returned (.bool true) ∧ New w w1 := by
  have := coded1_any v k (-1) k w E h hv
  rw [decide_eq_true ⟨rfl, rfl⟩] at this
  exact this
theorem faulted_same (v : Value) (k : Nat) (i : Int) (w : World) (E : Nat → Addr) (h : Errs w E) (hv : ErrV w E v k i) : Calls Tryd.prog 29 #[v, .agg #[.int .i64 (k : Int), .int .i64 i]] w fun e w1 => e = .returned (.bool true) ∧ New w w1 := by
  have := faulted1_any v k i k i w E h hv
  rw [decide_eq_true ⟨rfl, .inr rfl⟩] at this
  exact this
end Go.Proofs.YtkljanjapcpbdaaDoor

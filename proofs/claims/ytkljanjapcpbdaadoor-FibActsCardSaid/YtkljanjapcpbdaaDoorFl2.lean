/- Package fib: what is found is the longest; all of it set anew. Plain laws. No condition but those that stand in each theorem. -/
import Derived.Test.YtkljanjapcpbdaaDoorFl1
namespace Go.Proofs.YtkljanjapcpbdaaDoor
open Go.RowKit

def e3 (e : Nat × Nat × Int) : E3 := ⟨adr e.1 e.2.1, e.1, e.2.2⟩
/-- All of a table, as entries. -/
def allX (V : Fm.VM) : List E3 := (allT V).map e3

theorem allX_len (V : Fm.VM) : (allX V).length = (allT V).length := by simp [allX]

theorem adr_nat (i v : Nat) : (adr i v).toNat = v * 2 ^ (32 - i) := by unfold adr; exact Int.toNat_natCast _
theorem top_adr (i v : Nat) : Fm.top (adr i v).toNat i = v := by
  rw [adr_nat]; unfold Fm.top
  exact Nat.mul_div_cancel _ (pow_pos2 _)

theorem allX_get {V : Fm.VM} (hV : Val V) {k : Nat} {x : E3} (hx : (allX V)[k]? = some x) : ∃ i v, (allT V)[k]? = some (i, v, x.h) ∧ x.a = adr i v ∧ x.n = i ∧ i ≤ 32 ∧ v < 2 ^ i ∧ V i v = some x.h := by
  unfold allX at hx
  rw [List.getElem?_map] at hx
  cases he : (allT V)[k]? with
  | none => rw [he] at hx; cases hx
  | some e =>
    rw [he] at hx
    simp only [Option.map_some, Option.some.injEq] at hx
    subst hx
    have hm := (all_mem hV e.1 e.2.1 e.2.2).1 (List.mem_of_getElem? he)
    exact ⟨e.1, e.2.1, rfl, rfl, rfl, (hV _ _ _ hm).1, (hV _ _ _ hm).2, hm⟩

theorem allX_chk {V : Fm.VM} (hV : Val V) {k : Nat} {x : E3} (hx : (allX V)[k]? = some x) : chk x.a x.n = 0 := by
  obtain ⟨i, v, _, ha, hn, h1, h2, _⟩ := allX_get hV hx
  rw [ha, hn]
  exact adr_chk i v h1 h2

theorem allX_lt {V : Fm.VM} (hV : Val V) {j k : Nat} {x y : E3} (hjk : j < k) (hy : (allX V)[j]? = some y) (hx : (allX V)[k]? = some x) : y.a < x.a ∨ y.a = x.a ∧ y.n < x.n := by
  obtain ⟨i, v, h1, ha, hn, _⟩ := allX_get hV hx
  obtain ⟨i2, v2, h2, ha2, hn2, _⟩ := allX_get hV hy
  have hs := lst_sorted V 33 0 0 (by omega)
  rw [List.pairwise_iff_getElem] at hs
  obtain ⟨l1, g1⟩ := List.getElem?_eq_some_iff.1 h1
  obtain ⟨l2, g2⟩ := List.getElem?_eq_some_iff.1 h2
  have := hs j k l2 l1 hjk
  rw [g1, g2] at this
  rw [ha, hn, ha2, hn2]
  rcases this with h | h
  · exact .inl h
  · exact .inr ⟨h.1, by have := h.2; simp only at this; omega⟩

theorem allX_less {V : Fm.VM} (hV : Val V) {j k : Nat} {x y : E3} (hjk : j < k) (hy : (allX V)[j]? = some y) (hx : (allX V)[k]? = some x) : lessB y.a y.n x.a x.n = true := by
  unfold lessB
  refine decide_eq_true ⟨allX_chk hV hy, allX_chk hV hx, ?_⟩
  have := allX_lt hV hjk hy hx
  unfold cmpP
  rcases this with h | h
  · have e : sgn y.a x.a = -1 := by unfold sgn; rw [if_pos h]
    rw [e]; simp [firstNZ]
  · have e : sgn y.a x.a = 0 := by unfold sgn; rw [if_neg (by omega), if_neg (by omega)]
    have e1 : sgn y.n x.n = -1 := by unfold sgn; rw [if_pos h.2]
    rw [e, e1]; simp [firstNZ]

theorem allX_good {V : Fm.VM} (hV : Val V) : ∀ n, Good (allX V) n := by
  intro n j x hj hx
  refine ⟨allX_chk hV hx, fun m y hm hy he => ?_⟩
  have := allX_lt hV hm hy hx
  omega

theorem allX_set {V : Fm.VM} (hV : Val V) (hlen : (allT V).length ≤ 60) {k : Nat} {x : E3} (hx : (allX V)[k]? = some x) : setC 60 (allX V) k x = 0 := by
  have hk : k < (allX V).length := (List.getElem?_eq_some_iff.1 hx).1
  rw [allX_len] at hk
  refine setC_ok (allX_chk hV hx) ?_ (by omega)
  rw [List.any_eq_false]
  intro y hy
  obtain ⟨j, hj⟩ := List.getElem?_of_mem hy
  have hjk : j < k := by
    have := (List.getElem?_eq_some_iff.1 hj).1
    rw [List.length_take] at this; omega
  rw [List.getElem?_take_of_lt hjk] at hj
  have := allX_lt hV hjk hj hx
  simp only [sameP, Bool.and_eq_true, beq_iff_eq, not_and]
  omega

theorem filterMap_range {α : Type} (l : List α) : (List.range l.length).filterMap (l[·]?) = l := by
  have h : ∀ (m : List α) (f : Nat → Option α), (∀ i, i < m.length → f i = m[i]?) → (List.range m.length).filterMap f = m := by
    intro m
    induction m with
    | nil => intro f _; rfl
    | cons a m ih =>
      intro f hf
      rw [List.length_cons, List.range_succ_eq_map, List.filterMap_cons, hf 0 (by simp)]
      simp only [List.getElem?_cons_zero, List.filterMap_map]
      rw [ih _ fun i hi => by have := hf (i + 1) (by simp; omega); simpa using this]
  exact h l _ fun i _ => rfl

theorem allX_VI {V : Fm.VM} (hV : Val V) : VI (allX V) (js1 (allX V).length) = V := by
  have hd := VI_dist (allX_good hV (allX V).length) (Nat.le_refl _) (js1_nodup (allX V).length)
  have e : (js1 (allX V).length).filterMap ((allX V)[·]?) = allX V := filterMap_range _
  unfold VI
  rw [e] at hd ⊢
  funext i v
  have key : ∀ h, Fm.VL ((allX V).map E3.en) i v = some h ↔ V i v = some h := by
    intro h
    rw [Fm.VL_mem hd]
    constructor
    · rintro ⟨e, he, h1, h2, h3⟩
      rw [List.mem_map] at he
      obtain ⟨x, hx, rfl⟩ := he
      obtain ⟨k, hk⟩ := List.getElem?_of_mem hx
      obtain ⟨i2, v2, _, ha, hn, _, _, hm⟩ := allX_get hV hk
      simp only [E3.en] at h1 h2 h3
      rw [hn] at h1 h2
      rw [ha] at h2
      simp only [Int.toNat_natCast] at h1 h2
      rw [top_adr] at h2
      rw [← h1, ← h2, ← h3]; exact hm
    · intro hm
      have hin := (all_mem hV i v h).2 hm
      refine ⟨(e3 (i, v, h)).en, List.mem_map.2 ⟨_, List.mem_map.2 ⟨_, hin, rfl⟩, rfl⟩, ?_, ?_, rfl⟩
      · simp [E3.en, e3]
      · simp [E3.en, e3, top_adr]
  cases hx : V i v with
  | some h => exact (key h).2 hx
  | none =>
    cases hy : Fm.VL ((allX V).map E3.en) i v with
    | none => rfl
    | some h => rw [(key h).1 hy] at hx; cases hx

theorem fnd_some (V : Fm.VM) (a : Nat) : ∀ (n i : Nat) (h : Int), Fm.fnd V a n = some (i, h) → V i (Fm.top a i) = some h ∧ ∀ j, i < j → j < n → V j (Fm.top a j) = none := by
  intro n
  induction n with
  | zero => intro i h e; cases e
  | succ n ih =>
    intro i h e
    cases hv : V n (Fm.top a n) with
    | some x =>
      rw [fnd_step V a n x hv] at e
      injection e with e
      injection e with e1 e2
      subst e1; subst e2
      exact ⟨hv, fun j h1 h2 => by omega⟩
    | none =>
      rw [fnd_skip V a n hv] at e
      obtain ⟨h1, h2⟩ := ih i h e
      refine ⟨h1, fun j h3 h4 => ?_⟩
      by_cases hj : j = n
      · subst hj; exact hv
      · exact h2 j h3 (by omega)
theorem fnd_none (V : Fm.VM) (a : Nat) : ∀ (n : Nat), Fm.fnd V a n = none → ∀ j, j < n → V j (Fm.top a j) = none := by
  intro n
  induction n with
  | zero => intro _ j hj; omega
  | succ n ih =>
    intro e j hj
    cases hv : V n (Fm.top a n) with
    | some x => rw [fnd_step V a n x hv] at e; cases e
    | none =>
      rw [fnd_skip V a n hv] at e
      by_cases hjn : j = n
      · subst hjn; exact hv
      · exact ih e j (by omega)

/-- A place has an address. -/
theorem has_adr {i v : Nat} (hi : i ≤ 32) (hv : v < 2 ^ i) (a : Int) : hasB (adr i v) i a = decide ((0 ≤ a ∧ a < 4294967296) ∧ Fm.top a.toNat i = v) := by
  unfold hasB
  rw [decide_eq_decide]
  constructor
  · rintro ⟨_, h1, h2⟩
    refine ⟨h1, ?_⟩
    rw [Int.toNat_natCast] at h2
    have h3 := Nat.div_add_mod a.toNat (2 ^ (32 - i))
    unfold low adr at h2
    unfold Fm.top
    have h4 : a.toNat - a.toNat % 2 ^ (32 - i) = v * 2 ^ (32 - i) := by omega
    have h5 : 2 ^ (32 - i) * (a.toNat / 2 ^ (32 - i)) = v * 2 ^ (32 - i) := by omega
    rw [Nat.mul_comm] at h5
    exact Nat.eq_of_mul_eq_mul_right (pow_pos2 _) h5
  · rintro ⟨h1, h2⟩
    refine ⟨adr_chk i v hi hv, h1, ?_⟩
    rw [Int.toNat_natCast]
    have h3 := Nat.div_add_mod a.toNat (2 ^ (32 - i))
    unfold Fm.top at h2
    rw [h2, Nat.mul_comm] at h3
    unfold low adr
    omega

theorem found_in {V : Fm.VM} {a : Int} {i : Nat} {h : Int} (hf : found V a = some (i, h)) : (0 ≤ a ∧ a < 4294967296) ∧ Fm.fnd V a.toNat 33 = some (i, h) := by
  unfold found at hf
  split at hf
  · rename_i hr; exact ⟨hr, hf⟩
  · cases hf

theorem found_adr {a : Int} (ha : 0 ≤ a ∧ a < 4294967296) (i : Nat) : adr i (Fm.top a.toNat i) = a - low a.toNat i := by
  have h3 := Nat.div_add_mod a.toNat (2 ^ (32 - i))
  unfold adr low Fm.top
  rw [Nat.mul_comm] at h3
  omega

theorem found_is {V : Fm.VM} (hV : Val V) {a : Int} (h : (found V a).isSome = true) :
    ∃ i : Nat, fB (found V a) = (i : Int) ∧ fA a (found V a) = adr i (Fm.top a.toNat i) ∧ i ≤ 32 ∧ Fm.top a.toNat i < 2 ^ i ∧ V i (Fm.top a.toNat i) = some (fC (found V a)) ∧ (0 ≤ a ∧ a < 4294967296) ∧ Fm.fnd V a.toNat 33 = some (i, fC (found V a)) := by
  cases hf : found V a with
  | none => rw [hf] at h; cases h
  | some e =>
    obtain ⟨i, x⟩ := e
    obtain ⟨hr, hd⟩ := found_in hf
    have hv := (fnd_some V a.toNat 33 i x hd).1
    exact ⟨i, rfl, (found_adr hr i).symm, (hV _ _ _ hv).1, (hV _ _ _ hv).2, hv, hr, hd⟩

/-- Who has the address is no longer than what is found. -/
theorem found_has {V : Fm.VM} (hV : Val V) {a : Int} {k : Nat} {x : E3} (hx : (allX V)[k]? = some x) (hh : hasB x.a x.n a = true) : (found V a).isSome = true ∧ x.n ≤ fB (found V a) := by
  obtain ⟨i, v, _, ha, hn, h1, h2, hm⟩ := allX_get hV hx
  rw [ha, hn, has_adr h1 h2] at hh
  obtain ⟨hr, ht⟩ := of_decide_eq_true hh
  have hfd : found V a = Fm.fnd V a.toNat 33 := by unfold found; rw [if_pos hr]
  rw [hfd, hn]
  cases hf : Fm.fnd V a.toNat 33 with
  | none => have := fnd_none V a.toNat 33 hf i (by omega); rw [ht, hm] at this; cases this
  | some e =>
    obtain ⟨j, y⟩ := e
    refine ⟨rfl, ?_⟩
    show (i : Int) ≤ (j : Int)
    by_cases hij : j < i
    · have := (fnd_some V a.toNat 33 j y hf).2 i hij (by omega)
      rw [ht, hm] at this; cases this
    · omega

/-- Is an entry what was found? -/
def isF (p0 p1 p2 a : Int) (x : E3) : Bool := (x.a == p0 && x.n == p1) && x.h == p2 && hasB x.a x.n a

theorem found_there {V : Fm.VM} (hV : Val V) (a : Int) : (allX V).any (isF (fA a (found V a)) (fB (found V a)) (fC (found V a)) a) = (found V a).isSome := by
  rw [Bool.eq_iff_iff, List.any_eq_true]
  constructor
  · rintro ⟨x, hx, he⟩
    obtain ⟨k, hk⟩ := List.getElem?_of_mem hx
    simp only [isF, Bool.and_eq_true] at he
    exact (found_has hV hk he.2).1
  · intro h
    obtain ⟨i, e1, e2, h1, h2, hv, hr, _⟩ := found_is hV h
    refine ⟨e3 (i, Fm.top a.toNat i, fC (found V a)), List.mem_map.2 ⟨_, (all_mem hV _ _ _).2 hv, rfl⟩, ?_⟩
    simp only [isF, e3, Bool.and_eq_true, beq_iff_eq]
    exact ⟨⟨⟨e2.symm, e1.symm⟩, trivial⟩, by rw [has_adr h1 h2]; exact decide_eq_true ⟨hr, rfl⟩⟩

theorem found_at {V : Fm.VM} (hV : Val V) {a : Int} (h : (found V a).isSome = true) : chk (fA a (found V a)) (fB (found V a)) = 0 ∧ at1 V (fA a (found V a)) (fB (found V a)) = some (fC (found V a)) := by
  obtain ⟨i, e1, e2, h1, h2, hv, _, _⟩ := found_is hV h
  rw [e1, e2]
  refine ⟨adr_chk i _ h1 h2, ?_⟩
  unfold at1
  rw [Int.toNat_natCast, top_adr]
  exact hv

/-- Without what is found, something shorter is found, in which it is; or nothing. -/
theorem found_less {V : Fm.VM} (hV : Val V) {a : Int} (h : (found V a).isSome = true) (h1 : (found (put1 V (fA a (found V a)) (fB (found V a)) none) a).isSome = true) :
    fB (found (put1 V (fA a (found V a)) (fB (found V a)) none) a) < fB (found V a) ∧
    inB (fA a (found V a)) (fB (found V a)) (fA a (found (put1 V (fA a (found V a)) (fB (found V a)) none) a)) (fB (found (put1 V (fA a (found V a)) (fB (found V a)) none) a)) = true := by
  have hc := (found_at hV h).1
  obtain ⟨i, e1, e2, l1, l2, hv, hr, hd⟩ := found_is hV h
  have hV' : Val (put1 V (fA a (found V a)) (fB (found V a)) none) := hV.put hc none
  obtain ⟨j, f1, f2, m1, m2, hw, _, _⟩ := found_is hV' h1
  generalize hW : put1 V (fA a (found V a)) (fB (found V a)) none = W at *
  have hwj : V j (Fm.top a.toNat j) = some (fC (found W a)) ∧ j ≠ i := by
    rw [← hW, put1, e1, e2, Int.toNat_natCast, top_adr, Fm.up] at hw
    split at hw
    · cases hw
    · rename_i hne
      rw [← hW, put1, e1, e2, Int.toNat_natCast, top_adr]
      exact ⟨hw, fun e => hne ⟨e, by rw [e]⟩⟩
  have hji : j < i := by
    rcases Nat.lt_trichotomy j i with hlt | heq | hgt
    · exact hlt
    · exact absurd heq hwj.2
    · have := (fnd_some V a.toNat 33 i _ hd).2 j hgt (by omega)
      rw [hwj.1] at this; cases this
  rw [e1, f1, f2, e2]
  refine ⟨by omega, ?_⟩
  unfold inB
  refine decide_eq_true ⟨adr_chk i _ l1 l2, ?_, by omega⟩
  rw [has_adr m1 m2]
  have hb := under_adr (k := 33) (i := 0) (v := 0) (under_all ⟨l1, l2⟩) (by omega)
  have e0 : adr 0 0 = 0 := rfl
  have ee : ((2 ^ (32 - 0) : Nat) : Int) = 4294967296 := rfl
  rw [e0, ee] at hb
  refine decide_eq_true ⟨⟨by omega, by omega⟩, ?_⟩
  rw [adr_nat]
  unfold Fm.top
  have p : 2 ^ (32 - j) = 2 ^ (32 - i) * 2 ^ (i - j) := by rw [← Nat.pow_add]; congr 1; omega
  rw [p, ← Nat.div_div_eq_div_mul, Nat.mul_div_cancel _ (pow_pos2 _), ← Nat.div_div_eq_div_mul]
end Go.Proofs.YtkljanjapcpbdaaDoor

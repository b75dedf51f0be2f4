/- Right prefixes are blocks of addresses. No condition but those that stand in each theorem. -/
import Derived.Test.YtlealjcllbpgkaaSp1
import Derived.Test.YtlealjcllbpgkaaIh2
import Derived.Test.YtlealjcllbpgkaaWi0
namespace Go.Proofs.Ytlealjcllbpgkaa
open Go.RowKit

def Pf.b (p : Pf) : Nat × Nat := (p.a.toNat, 32 - p.n.toNat)
def Pf.sp (p : Pf) : Nat × Nat := (p.a.toNat, p.a.toNat + 2 ^ (32 - p.n.toNat))
def Pf.ok (p : Pf) : Prop := chk p.a p.n = 0
def pfOf (q : Nat × Nat) : Pf := ⟨(q.1 : Int), ((32 - q.2 : Nat) : Int)⟩
theorem Pf.ok.rp {p : Pf} (h : p.ok) : Rp p.a p.n p.a.toNat (2 ^ (32 - p.n.toNat)) := by
  obtain ⟨h1, h2, h3⟩ := chk_zero h
  exact ⟨h, by omega, rfl, h2, h3⟩
theorem Pf.ok.val {p : Pf} (h : p.ok) : Val p.b.1 p.b.2 := ⟨by unfold Pf.b; simp only; omega, Nat.dvd_of_mod_eq_zero h.rp.al, h.rp.top⟩
theorem val_ok {q : Nat × Nat} (h : Val q.1 q.2) : (pfOf q).ok := by
  obtain ⟨h1, h2, h3⟩ := h
  have hp := p2_pos q.2
  have e : 32 - (((32 - q.2 : Nat) : Int)).toNat = q.2 := by omega
  exact (Rp.make (a := (q.1 : Int)) (n := ((32 - q.2 : Nat) : Int)) (A := q.1) (S := 2 ^ q.2) rfl (by omega) ⟨by omega, by omega⟩ (by rw [e]) (Nat.mod_eq_zero_of_dvd h2)).ok
theorem pfOf_b {p : Pf} (h : p.ok) : pfOf p.b = p := by
  obtain ⟨h1, h2, _⟩ := chk_zero h
  obtain ⟨a, n⟩ := p
  unfold pfOf Pf.b
  simp only at h1 h2 ⊢
  congr 1 <;> omega
theorem b_pfOf {q : Nat × Nat} (h : q.2 ≤ 32) : (pfOf q).b = q := by
  obtain ⟨A, k⟩ := q
  unfold pfOf Pf.b
  simp only at h ⊢
  congr 1
  omega
theorem Pf.ok.spn {p : Pf} (h : p.ok) : Spn p.sp := by
  have h1 := h.val
  have h2 := p2_pos (32 - p.n.toNat)
  exact ⟨by unfold Pf.sp; simp only; omega, h1.2.2⟩
theorem inS_sp (l : List Pf) (x : Nat) : InS (l.map Pf.sp) x ↔ InB (l.map Pf.b) x := by
  unfold InS InB
  simp only [List.mem_map]
  constructor
  · rintro ⟨_, ⟨p, hp, rfl⟩, h1, h2⟩
    exact ⟨_, ⟨p, hp, rfl⟩, h1, h2⟩
  · rintro ⟨_, ⟨p, hp, rfl⟩, h1, h2⟩
    exact ⟨_, ⟨p, hp, rfl⟩, h1, h2⟩
/-- Whether an address is in right prefixes. -/
def hasL (l : List Pf) (x : Int) : Bool := l.any fun p => hasB p.a p.n x
theorem hasL_iff {l : List Pf} (h : ∀ p ∈ l, p.ok) (x : Int) : hasL l x = true ↔ 0 ≤ x ∧ InB (l.map Pf.b) x.toNat := by
  unfold hasL InB
  rw [List.any_eq_true]
  simp only [List.mem_map]
  constructor
  · rintro ⟨p, hp, h1⟩
    rw [(h p hp).rp.hasB x, decide_eq_true_iff] at h1
    exact ⟨by omega, _, ⟨p, hp, rfl⟩, by unfold Pf.b; simp only; omega, by unfold Pf.b; simp only; omega⟩
  · rintro ⟨h0, _, ⟨p, hp, rfl⟩, h1, h2⟩
    refine ⟨p, hp, ?_⟩
    rw [(h p hp).rp.hasB x, decide_eq_true_iff]
    unfold Pf.b at h1 h2
    simp only at h1 h2
    omega
end Go.Proofs.Ytlealjcllbpgkaa

namespace Go.Proofs.Ytlealjcllbpgkaa

/-- The addresses of prefixes. -/
def inP (ps : List Pf) (x : Nat) : Bool := inK (ps.map Pf.b) x
/-- Right prefixes, and all greatest blocks of the set that f tells. -/
def NPl (f : Nat → Bool) (ps : List Pf) : Prop := (∀ p ∈ ps, p.ok) ∧ Canon (fun x => f x = true) (ps.map Pf.b)
theorem map_b_pfOf {P : List (Nat × Nat)} (h : ∀ q ∈ P, q.2 ≤ 32) : (P.map pfOf).map Pf.b = P := by
  rw [List.map_map]
  conv => rhs; rw [← List.map_id P]
  exact List.map_congr_left fun q hq => b_pfOf (h q hq)
theorem map_pfOf_b {ps : List Pf} (h : ∀ p ∈ ps, p.ok) : (ps.map Pf.b).map pfOf = ps := by
  rw [List.map_map]
  conv => rhs; rw [← List.map_id ps]
  exact List.map_congr_left fun q hq => pfOf_b (h q hq)
theorem Canon.val {X : Nat → Prop} {P : List (Nat × Nat)} (h : Canon X P) : ∀ q ∈ P, Val q.1 q.2 := fun q hq => ((h.2 q.1 q.2).1 hq).1
/-- What is given as blocks. -/
theorem npl_of {f : Nat → Bool} {P : List (Nat × Nat)} (h : Canon (fun x => f x = true) P) : NPl f (P.map pfOf) := by
  refine ⟨fun p hp => ?_, ?_⟩
  · obtain ⟨q, hq, rfl⟩ := List.mem_map.1 hp
    exact val_ok (h.val q hq)
  · rw [map_b_pfOf fun q hq => (h.val q hq).1]
    exact h
theorem NPl.inP {f : Nat → Bool} {ps : List Pf} (h : NPl f ps) {x : Nat} (hx : x < 4294967296) : inP ps x = f x :=
  Bool.eq_iff_iff.2 ((inK_iff _ x).trans (h.2.inB hx))
/-- There is one. -/
theorem NPl.one {f g : Nat → Bool} {ps qs : List Pf} (h : NPl f ps) (h1 : NPl g qs) (hfg : ∀ x, x < 4294967296 → f x = g x) : ps = qs := by
  have e := canon_one (h.2.iff (Y := fun x => g x = true) fun x hx => by rw [hfg x hx]) h1.2
  rw [← map_pfOf_b h.1, e, map_pfOf_b h1.1]
theorem NPl.nil {f : Nat → Bool} (h : NPl f []) {x : Nat} (hx : x < 4294967296) : f x = false := by
  rw [← h.inP hx]
  rfl
theorem NPl.empty {f : Nat → Bool} {ps : List Pf} (h : NPl f ps) (hf : ∀ x, x < 4294967296 → f x = false) : ps = [] :=
  h.one (g := fun _ => false) (qs := []) ⟨fun p hp => absurd hp (by simp), List.Pairwise.nil, fun a k => ⟨fun hm => absurd hm (by simp), fun hm => absurd (hm.2.1 a (Nat.le_refl _) (by have := p2_pos k; omega)) (by simp)⟩⟩ hf
theorem inP_append (ps qs : List Pf) (x : Nat) : inP (ps ++ qs) x = (inP ps x || inP qs x) := by
  unfold inP inK
  rw [List.map_append, List.any_append]

/-- What is taken off, and put back, is there. -/
theorem parts_back {a b x off and_ back : List Pf} (hx : NPl (inP a) x) (h1 : NPl (fun z => inP a z && !inP b z) off) (h2 : NPl (fun z => inP a z && inP b z) and_) (h3 : NPl (fun z => inP off z || inP and_ z) back) : back = x := by
  refine h3.one hx fun z hz => ?_
  show (inP off z || inP and_ z) = inP a z
  rw [h1.inP hz, h2.inP hz]
  cases inP a z <;> cases inP b z <;> rfl
/-- A set less two is less one and less the other. -/
theorem parts_less {a b c off both one two : List Pf} (h1 : NPl (fun z => inP a z && !inP b z) off) (h2 : NPl (fun z => inP b z || inP c z) both) (h3 : NPl (fun z => inP a z && !inP both z) one) (h4 : NPl (fun z => inP off z && !inP c z) two) : one = two := by
  refine h3.one h4 fun z hz => ?_
  show (inP a z && !inP both z) = (inP off z && !inP c z)
  rw [h1.inP hz, h2.inP hz]
  cases inP a z <;> cases inP b z <;> cases inP c z <;> rfl
/-- Two sets that are in each other are one. -/
theorem parts_same {a b x y off other : List Pf} (hx : NPl (inP a) x) (hy : NPl (inP b) y) (h1 : NPl (fun z => inP a z && !inP b z) off) (h2 : NPl (fun z => inP b z && !inP a z) other) : x = y ↔ off = [] ∧ other = [] := by
  constructor
  · intro h
    subst h
    have key : ∀ z, z < 4294967296 → inP a z = inP b z := fun z hz => by rw [← hx.inP hz, hy.inP hz]
    exact ⟨h1.empty fun z hz => by show (inP a z && !inP b z) = false; rw [key z hz]; cases inP b z <;> rfl, h2.empty fun z hz => by show (inP b z && !inP a z) = false; rw [key z hz]; cases inP b z <;> rfl⟩
  · rintro ⟨rfl, rfl⟩
    refine hx.one hy fun z hz => ?_
    have e1 : (inP a z && !inP b z) = false := h1.nil hz
    have e2 : (inP b z && !inP a z) = false := h2.nil hz
    revert e1 e2
    cases inP a z <;> cases inP b z <;> simp
end Go.Proofs.Ytlealjcllbpgkaa

namespace Go.Proofs.Ytlealjcllbpgkaa

theorem inK_lt {P : List (Nat × Nat)} (h : Vals P) {x : Nat} (hx : InB P x) : x < 4294967296 := by
  obtain ⟨q, hq, _, h2⟩ := hx
  have := (h q hq).2.2
  omega
theorem vals_ok {ps : List Pf} (h : ∀ p ∈ ps, p.ok) : Vals (ps.map Pf.b) := fun q hq => by
  obtain ⟨p, hp, rfl⟩ := List.mem_map.1 hq
  exact (h p hp).val
theorem hasL_eq {ps : List Pf} (h : ∀ p ∈ ps, p.ok) (x : Int) : hasL ps x = (decide (0 ≤ x ∧ x < 4294967296) && inP ps x.toNat) := by
  rw [Bool.eq_iff_iff, hasL_iff h, Bool.and_eq_true, decide_eq_true_iff]
  unfold inP
  rw [inK_iff]
  constructor
  · rintro ⟨h0, h1⟩
    exact ⟨⟨h0, by have := inK_lt (vals_ok h) h1; omega⟩, h1⟩
  · rintro ⟨⟨h0, _⟩, h1⟩
    exact ⟨h0, h1⟩
/-- Whether an address is in a set, by what the set tells. -/
theorem NPl.hasL {f : Nat → Bool} {ps : List Pf} (h : NPl f ps) (x : Int) : hasL ps x = (decide (0 ≤ x ∧ x < 4294967296) && f x.toNat) := by
  rw [hasL_eq h.1]
  by_cases hx : 0 ≤ x ∧ x < 4294967296
  · rw [decide_eq_true hx, Bool.true_and, Bool.true_and, h.inP (by omega)]
  · rw [decide_eq_false hx, Bool.false_and, Bool.false_and]
theorem npl_has {a l : List Pf} (ha : ∀ p ∈ a, p.ok) (h : NPl (inP a) l) (x : Int) : hasL l x = hasL a x := by rw [h.hasL, hasL_eq ha]
/-- Two of a normal set: apart, in order, no halves of one. -/
theorem NPl.two {f : Nat → Bool} {l : List Pf} (h : NPl f l) {i k : Nat} {p q : Pf} (hp : l[i]? = some p) (hq : l[k]? = some q) (hk : k < i) :
    p.ok ∧ q.ok ∧ 0 < p.n ∧ 0 < q.n ∧ (p.a - (low p.a.toNat (p.n - 1).toNat : Int) == q.a - (low q.a.toNat (q.n - 1).toNat : Int) && p.n - 1 == q.n - 1) = false ∧
      inB p.a p.n q.a q.n = false ∧ inB q.a q.n p.a p.n = false ∧ lessB q.a q.n p.a p.n = true := by
  have okp := h.1 p (List.mem_of_getElem? hp)
  have okq := h.1 q (List.mem_of_getElem? hq)
  have hpm : p.b ∈ l.map Pf.b := List.mem_map_of_mem (List.mem_of_getElem? hp)
  have hqm : q.b ∈ l.map Pf.b := List.mem_map_of_mem (List.mem_of_getElem? hq)
  have mp : Mx (fun x => f x = true) p.b.1 p.b.2 := (h.2.2 _ _).1 hpm
  have mq : Mx (fun x => f x = true) q.b.1 q.b.2 := (h.2.2 _ _).1 hqm
  have hlt : q.b.1 < p.b.1 := by
    have hs := h.2.1
    rw [List.pairwise_iff_getElem] at hs
    have hil := (List.getElem?_eq_some_iff.1 hp).1
    have e1 := (List.getElem?_eq_some_iff.1 hp).2
    have e2 := (List.getElem?_eq_some_iff.1 hq).2
    have := hs k i (by rw [List.length_map]; omega) (by rw [List.length_map]; omega) hk
    rw [List.getElem_map, List.getElem_map, e1, e2] at this
    exact this
  have hap := mx_apart mp mq hlt
  have rp := okp.rp
  have rq := okq.rp
  obtain ⟨a1, n1, _⟩ := chk_zero okp
  obtain ⟨a2, n2, _⟩ := chk_zero okq
  have tp := rp.top
  have tq := rq.top
  have pp := rp.pos
  have pq := rq.pos
  have hlt2 : q.a.toNat < p.a.toNat := hlt
  have hap2 : q.a.toNat + 2 ^ (32 - q.n.toNat) ≤ p.a.toNat := hap
  have hnp : 0 < p.n := by
    rcases Int.lt_or_le 0 p.n with h0 | h0
    · exact h0
    · have e : 32 - p.n.toNat = 32 := by omega
      rw [e] at tp
      omega
  have hnq : 0 < q.n := by
    rcases Int.lt_or_le 0 q.n with h0 | h0
    · exact h0
    · have e : 32 - q.n.toNat = 32 := by omega
      rw [e] at hap2
      omega
  refine ⟨okp, okq, hnp, hnq, ?_, ?_, ?_, ?_⟩
  · cases hc : (p.a - (low p.a.toNat (p.n - 1).toNat : Int) == q.a - (low q.a.toNat (q.n - 1).toNat : Int) && p.n - 1 == q.n - 1) with
    | false => rfl
    | true =>
      rw [Bool.and_eq_true, beq_iff_eq, beq_iff_eq] at hc
      obtain ⟨hu, hn⟩ := hc
      have hnn : p.n = q.n := by omega
      have ek : p.b.2 = q.b.2 := by unfold Pf.b; simp only; omega
      have e1 : 32 - (p.n - 1).toNat = p.b.2 + 1 := by unfold Pf.b; simp only; omega
      have e2 : 32 - (q.n - 1).toNat = p.b.2 + 1 := by unfold Pf.b; simp only; omega
      rw [ek] at mp
      refine absurd ?_ (mx_halves mp mq (by unfold Pf.b; simp only; omega) (by omega))
      rw [← ek]
      unfold low at hu
      rw [e1, e2] at hu
      unfold par
      have l1 := Nat.mod_le p.a.toNat (2 ^ (p.b.2 + 1))
      have l2 := Nat.mod_le q.a.toNat (2 ^ (p.b.2 + 1))
      show p.a.toNat - p.a.toNat % 2 ^ (p.b.2 + 1) = q.a.toNat - q.a.toNat % 2 ^ (p.b.2 + 1)
      omega
  · rw [rq.inB rp]
    exact decide_eq_false (by omega)
  · rw [rp.inB rq]
    exact decide_eq_false (by omega)
  · rw [rq.lessB rp]
    exact decide_eq_true (.inl hlt2)

/-- The sizes of prefixes. -/
def sizes (ps : List Pf) : Nat := (ps.map fun p => 2 ^ (32 - p.n.toNat)).sum
theorem sizes_sp (ps : List Pf) : sizes ps = sumS (ps.map Pf.sp) := by
  unfold sizes sumS
  rw [List.map_map]
  congr 1
  refine List.map_congr_left fun p _ => ?_
  exact (Nat.add_sub_cancel_left _ _).symm
/-- What Count counts. -/
def Cnt (ps : List Pf) (n : Nat) : Prop := ∃ l : List (Nat × Nat), l.Perm (ps.map Pf.sp) ∧ l.Pairwise (fun p q => p.1 ≤ q.1) ∧ n = sumS (mergeL l)
theorem Cnt.apart {ps : List Pf} {n : Nat} (hok : ∀ p ∈ ps, p.ok) (h : Cnt ps n) : ∃ R, Apart R ∧ n = sumS R ∧ ∀ x, InS R x ↔ inP ps x = true := by
  obtain ⟨l, hp, hs, rfl⟩ := h
  obtain ⟨h1, h2⟩ := merge_ok l (fun s hs => by
    obtain ⟨p, hp, rfl⟩ := List.mem_map.1 (hp.mem_iff.1 hs)
    exact (hok p hp).spn) hs
  refine ⟨mergeL l, h1, rfl, fun x => (h2 x).trans (Iff.trans ?_ ((inS_sp ps x).trans (inK_iff _ x).symm))⟩
  unfold InS
  exact ⟨fun ⟨s, hs, h3⟩ => ⟨s, hp.mem_iff.1 hs, h3⟩, fun ⟨s, hs, h3⟩ => ⟨s, hp.mem_iff.2 hs, h3⟩⟩
/-- One set is counted once. -/
theorem Cnt.same {ps qs : List Pf} {n k : Nat} (hok : ∀ p ∈ ps, p.ok) (hok2 : ∀ p ∈ qs, p.ok) (h : Cnt ps n) (h1 : Cnt qs k) (he : ∀ x, x < 4294967296 → inP ps x = inP qs x) : n = k := by
  obtain ⟨R, a1, rfl, i1⟩ := h.apart hok
  obtain ⟨Q, a2, rfl, i2⟩ := h1.apart hok2
  rw [apart_ext R Q a1 a2 fun x => ?_]
  by_cases hx : x < 4294967296
  · rw [i1, i2, he x hx]
  · constructor
    · rintro ⟨s, hs, h1, h2⟩
      exact absurd (Nat.lt_of_lt_of_le h2 (apart_spn R a1 s hs).2) hx
    · rintro ⟨s, hs, h1, h2⟩
      exact absurd (Nat.lt_of_lt_of_le h2 (apart_spn Q a2 s hs).2) hx
/-- Spans that lie apart. -/
def Off (s t : Nat × Nat) : Prop := s.2 ≤ t.1 ∨ t.2 ≤ s.1
/-- What lies apart is counted one by one. -/
theorem Cnt.sizes {ps : List Pf} {n : Nat} (hok : ∀ p ∈ ps, p.ok) (h : Cnt ps n) (hd : (ps.map Pf.sp).Pairwise Off) : n = _root_.Go.Proofs.Ytlealjcllbpgkaa.sizes ps := by
  obtain ⟨l, hp, hs, rfl⟩ := h
  have hspn : ∀ s ∈ l, Spn s := fun s hs => by
    obtain ⟨p, hp, rfl⟩ := List.mem_map.1 (hp.mem_iff.1 hs)
    exact (hok p hp).spn
  have hd2 : l.Pairwise Off := (hp.pairwise_iff (fun {a b} h => h.symm)).2 hd
  rw [merge_sum l (fun s hs => Nat.le_of_lt (hspn s hs).1), sumS_perm hp, sizes_sp]
  refine (hs.and hd2).imp_of_mem fun {p q} hpm hqm h => ?_
  have s1 := (hspn p hpm).1
  have s2 := (hspn q hqm).1
  rcases h.2 with h1 | h1
  · exact h1
  · have := h.1
    omega
/-- Of two right prefixes without an address of both. -/
theorem off_of {p q : Pf} (hp : p.ok) (hq : q.ok) (h : ∀ x, p.sp.1 ≤ x → x < p.sp.2 → q.sp.1 ≤ x → x < q.sp.2 → False) : Off p.sp q.sp := by
  have s1 := hp.spn.1
  have s2 := hq.spn.1
  unfold Off
  rcases Nat.lt_or_ge q.sp.1 p.sp.2 with h1 | h1
  · rcases Nat.lt_or_ge p.sp.1 q.sp.2 with h2 | h2
    · refine (h (max p.sp.1 q.sp.1) (by omega) (by omega) (by omega) (by omega)).elim
    · exact .inr h2
  · exact .inl h1
theorem NPl.off {f : Nat → Bool} {l : List Pf} (h : NPl f l) : (l.map Pf.sp).Pairwise Off := by
  have h1 := h.2.1
  rw [List.pairwise_map] at h1 ⊢
  refine h1.imp_of_mem fun {p q} hp hq hlt => .inl ?_
  exact mx_apart ((h.2.2 _ _).1 (List.mem_map_of_mem hq)) ((h.2.2 _ _).1 (List.mem_map_of_mem hp)) hlt
theorem in_sp {ps : List Pf} {p : Pf} (hp : p ∈ ps) {x : Nat} (h1 : p.sp.1 ≤ x) (h2 : x < p.sp.2) : inP ps x = true :=
  (inK_iff _ x).2 ⟨p.b, List.mem_map_of_mem hp, h1, h2⟩
theorem off_two {f g : Nat → Bool} {ps qs : List Pf} (h : NPl f ps) (h1 : NPl g qs) (hfg : ∀ x, x < 4294967296 → f x = true → g x = true → False) {p q : Pf} (hp : p ∈ ps) (hq : q ∈ qs) : Off p.sp q.sp :=
  off_of (h.1 p hp) (h1.1 q hq) fun x a b c d => by
    have hx : x < 4294967296 := Nat.lt_of_lt_of_le b (h.1 p hp).spn.2
    have e1 := in_sp hp a b
    have e2 := in_sp hq c d
    rw [h.inP hx] at e1
    rw [h1.inP hx] at e2
    exact hfg x hx e1 e2
/-- What both have, and what each has alone, make all; counted one by one. -/
theorem norm_all {a b or_ and_ one two back : List Pf} {n k : Nat} (h0 : NPl (fun z => inP a z || inP b z) or_) (h1 : NPl (fun z => inP a z && inP b z) and_) (h2 : NPl (fun z => inP a z && !inP b z) one) (h3 : NPl (fun z => inP b z && !inP a z) two)
    (h4 : NPl (inP (and_ ++ one ++ two)) back) (h5 : Cnt or_ n) (h6 : Cnt (and_ ++ one ++ two) k) : back = or_ ∧ n = k ∧ sizes (and_ ++ one ++ two) = n := by
  have hall : ∀ z, z < 4294967296 → inP (and_ ++ one ++ two) z = (inP a z || inP b z) := fun z hz => by
    rw [inP_append, inP_append, h1.inP hz, h2.inP hz, h3.inP hz]
    cases inP a z <;> cases inP b z <;> rfl
  have hok : ∀ p ∈ and_ ++ one ++ two, p.ok := fun p hp => by
    rcases List.mem_append.1 hp with hp | hp
    · rcases List.mem_append.1 hp with hp | hp
      · exact h1.1 p hp
      · exact h2.1 p hp
    · exact h3.1 p hp
  have e1 : n = k := h5.same h0.1 hok h6 fun x hx => by rw [h0.inP hx, hall x hx]
  refine ⟨h4.one h0 hall, e1, ?_⟩
  rw [e1]
  refine (h6.sizes hok ?_).symm
  rw [List.map_append, List.map_append, List.pairwise_append, List.pairwise_append]
  have key : ∀ {f g : Nat → Bool} {ps qs : List Pf}, NPl f ps → NPl g qs → (∀ x, x < 4294967296 → f x = true → g x = true → False) → ∀ s ∈ ps.map Pf.sp, ∀ t ∈ qs.map Pf.sp, Off s t := fun hf hg hfg s hs t ht => by
    obtain ⟨p, hp, rfl⟩ := List.mem_map.1 hs
    obtain ⟨q, hq, rfl⟩ := List.mem_map.1 ht
    exact off_two hf hg hfg hp hq
  refine ⟨⟨h1.off, h2.off, key h1 h2 fun x _ => ?_⟩, h3.off, fun s hs t ht => ?_⟩
  · cases inP a x <;> cases inP b x <;> simp
  · rcases List.mem_append.1 hs with hs | hs
    · exact key h1 h3 (fun x _ => by cases inP a x <;> cases inP b x <;> simp) s hs t ht
    · exact key h2 h3 (fun x _ => by cases inP a x <;> cases inP b x <;> simp) s hs t ht
end Go.Proofs.Ytlealjcllbpgkaa

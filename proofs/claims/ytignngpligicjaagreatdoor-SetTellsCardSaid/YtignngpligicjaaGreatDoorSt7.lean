/- Package set: Norm. No condition but those that stand in each theorem. -/
import Derived.Test.YtignngpligicjaaGreatDoorSt6
import Derived.Test.YtignngpligicjaaGreatDoorSp1
namespace Go.Proofs.YtignngpligicjaaGreatDoor
open Go.RowKit

theorem pfsC_ok {ps : List Pf} (h : (pfsC ps).1 = 0) : ∀ p ∈ ps, p.ok := by
  have key : ∀ (m k : Nat), (firstC (pfF ps) m k).1 = 0 → ∀ i, k ≤ i → i < k + m → pfF ps i = 0 := by
    intro m
    induction m with
    | zero => intro k _ i h1 h2; omega
    | succ m ih =>
      intro k h i h1 h2
      unfold firstC at h
      by_cases hk : pfF ps k = 0
      · rw [if_neg (by simp [hk])] at h
        by_cases e : i = k
        · rw [e]; exact hk
        · exact ih (k + 1) h i (by omega) (by omega)
      · rw [if_pos hk] at h
        exact absurd h hk
  intro p hp
  obtain ⟨i, hi⟩ := List.getElem?_of_mem hp
  have h1 := key ps.length 0 h i (by omega) (by have := (List.getElem?_eq_some_iff.1 hi).1; omega)
  rw [pfF_at hi] at h1
  exact h1
theorem inS_perm {l m : List (Nat × Nat)} (h : l.Perm m) (x : Nat) : InS l x ↔ InS m x := by
  unfold InS
  exact ⟨fun ⟨s, hs, h1⟩ => ⟨s, h.mem_iff.1 hs, h1⟩, fun ⟨s, hs, h1⟩ => ⟨s, h.mem_iff.2 hs, h1⟩⟩
/-- What spans gives of right prefixes: apart, with their addresses. -/
theorem spans_ok {ps : List Pf} (hok : ∀ p ∈ ps, p.ok) {l : List (Nat × Nat)} (hp : l.Perm (ps.map Pf.sp)) (hs : l.Pairwise (fun p q => p.1 ≤ q.1)) : Apart (mergeL l) ∧ ∀ x, InS (mergeL l) x ↔ InB (ps.map Pf.b) x := by
  obtain ⟨h1, h2⟩ := merge_ok l (fun s hs => by
    obtain ⟨p, hp, rfl⟩ := List.mem_map.1 (hp.mem_iff.1 hs)
    exact (hok p hp).spn) hs
  exact ⟨h1, fun x => (h2 x).trans ((inS_perm hp x).trans (inS_sp ps x))⟩
theorem mg_len : ∀ (l : List (Nat × Nat)) (c : Nat × Nat), (mg c l).length ≤ l.length + 1
  | [], c => by simp [mg]
  | s :: l, c => by
    unfold mg
    split
    · have := mg_len l (c.1, max c.2 s.2); simp; omega
    · have := mg_len l s; simp; omega
theorem merge_len (l : List (Nat × Nat)) : (mergeL l).length ≤ l.length := by
  cases l with
  | nil => simp [mergeL]
  | cons s l => exact mg_len l s
/-- What Norm gives: an error's code and place; all greatest blocks of the set that f tells; no more than m. -/
def NormPost (E : Nat → Addr) (C : Nat × Int) (f : Nat → Bool) (m : Nat) (w : World) (e : Ending) (w1 : World) : Prop := ∃ v er P, e = .returned (.tuple #[v, er]) ∧ ErrV w1 E er C.1 C.2 ∧ New w w1 ∧ OwnP w1 w.heap.size v (P.map pfOf) ∧ P.length ≤ m ∧ (C.1 ≠ 0 → P = []) ∧ (C.1 = 0 → Canon (fun x => f x = true) P)
theorem OwnP.lower {w : World} {base base2 : Nat} {v : Value} {l : List Pf} (h : OwnP w base v l) (hb : base2 ≤ base) : OwnP w base2 v l := by
  obtain ⟨h1, h2⟩ := h
  refine ⟨h1, ?_⟩
  rcases h2 with h2 | ⟨g, cap, cur, h2, hg, r⟩
  · exact .inl h2
  · exact .inr ⟨g, cap, cur, h2, Nat.le_trans hb hg, r⟩

set_option maxRecDepth 8000 in
set_option maxHeartbeats 1000000 in
theorem norm_any (A : Option Addr) (n c : Nat) (ps : List Pf) (E : Nat → Addr) (w : World) (htz : TzOk w) (h2 : Sen w gBound (E 2)) (h3 : Sen w gShape (E 3)) (hx : Rws w A 2 (ps.map Pf.cells)) (hn : ps.length = n) (hl : n ≤ 100000) :
    Calls Tryz.prog 30 #[.slice A n c] w (NormPost E (pfsC ps) (inK (ps.map Pf.b)) (66 * n) w) := by
  have Hs := hide (spans_any A n c ps E w h2 h3 hx hn hl)
  have Htz := hide htz
  have Hn := hide hn
  clear htz h2 h3 hx hn
  go_enter Tryz.func30, Tryz.ntmps30
  go_wp2_with fail
  refine Hs.out.mono ?_
  rintro e w1 ⟨v, er, rfl, her, hu, hbad, hgood⟩
  have Her := hide her
  have U := hide hu
  by_cases hC : (pfsC ps).1 = 0
  · obtain ⟨l', hp, hs, ho⟩ := hgood hC
    obtain ⟨hap, hin⟩ := spans_ok (pfsC_ok hC) hp hs
    have hlen : (mergeL l').length ≤ n := by
      have h1 := merge_len l'
      have h2 := hp.length_eq
      rw [List.length_map] at h2
      have := Hn.out
      omega
    have Hlen := hide hlen
    obtain ⟨A1, cap, rfl, _, hsp⟩ := ho.sps
    have Hpr := hide (prefixes_any A1 _ cap (mergeL l') w1 (Htz.out.new hu) hsp rfl (by omega) hap)
    have Hin := hide hin
    have Hap := hide hap
    have HC := hide hC
    clear hp hs ho hap hin hlen hsp hbad hgood her hu hC
    go_wp2_with fail
    refine Hpr.out.mono ?_
    rintro e w2 ⟨v2, P, rfl, hg, ho, _, hu2⟩
    have h9 : Canon (fun x => inK (ps.map Pf.b) x = true) P := (gres_canon Hap.out hg).iff fun x _ => (Hin.out x).trans (inK_iff _ x).symm
    have H9 := hide h9
    have hP : P.length ≤ 66 * n := by
      have h1 := gres_len _ _ hg
      have h2 := Hlen.out
      omega
    have HO := hide (ho.lower U.out.size)
    have HP := hide hP
    have U2 := hide hu2
    clear h9 hg ho hP hu2
    go_wp2_with fail
    go_ret2
    exact ⟨_, _, P, rfl, Her.out.new U2.out, U.out.trans_new U2.out, HO.out, HP.out, fun h => absurd HC.out h, fun _ => H9.out⟩
  · obtain rfl := hbad hC
    have Hpr := hide (prefixes_any none 0 0 [] w1 (Htz.out.new hu) (fun h => absurd h (by simp)) rfl (by omega) trivial)
    have HC := hide hC
    clear hbad hgood her hu hC
    go_wp2_with fail
    refine Hpr.out.mono ?_
    rintro e w2 ⟨v2, P, rfl, hg, ho, hP, hu2⟩
    obtain rfl : P = [] := hg
    have HO := hide (ho.lower U.out.size)
    have U2 := hide hu2
    clear ho hP hu2
    go_wp2_with fail
    go_ret2
    exact ⟨_, _, [], rfl, Her.out.new U2.out, U.out.trans_new U2.out, HO.out, by simp, fun _ => rfl, fun h => absurd h HC.out⟩
end Go.Proofs.YtignngpligicjaaGreatDoor

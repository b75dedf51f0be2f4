/- The plain law: the reference's rows are what the trie holds, in order. No program in sight. No condition but those that stand in each theorem. -/
import Derived.Test.YtkljanjapcpbdaaDoorTl4
import Derived.Test.YtkljanjapcpbdaaDoorFl2
namespace Go.Proofs.YtkljanjapcpbdaaDoor
open Go.RowKit

theorem ahead_iff (a n b m : Int) : aheadB a n b m = true ↔ a < b ∨ a = b ∧ n < m := by
  unfold aheadB
  split
  · rename_i h; subst h; simp
  · rename_i h; simp [h]
theorem ahead_no (a n b m : Int) : aheadB a n b m = false ↔ ¬ (a < b ∨ a = b ∧ n < m) := by
  rw [← ahead_iff]; simp

def Srt (L : List E3) : Prop := L.Pairwise fun x y => aheadB x.a x.n y.a y.n = true
theorem uniq : ∀ {L M : List E3}, Srt L → Srt M → (∀ x, x ∈ L ↔ x ∈ M) → L = M := by
  intro L
  induction L with
  | nil =>
    intro M _ _ h
    cases M with
    | nil => rfl
    | cons y M => exact absurd ((h y).2 (by simp)) (by simp)
  | cons x L ih =>
    intro M hL hM h
    cases M with
    | nil => exact absurd ((h x).1 (by simp)) (by simp)
    | cons y M =>
      have hL' := List.pairwise_cons.1 hL
      have hM' := List.pairwise_cons.1 hM
      have hxy : x = y := by
        rcases List.mem_cons.1 ((h x).1 (by simp)) with e | e
        · exact e
        · rcases List.mem_cons.1 ((h y).2 (by simp)) with e2 | e2
          · exact e2.symm
          · have h1 := (ahead_iff _ _ _ _).1 (hM'.1 x e)
            have h2 := (ahead_iff _ _ _ _).1 (hL'.1 y e2)
            omega
      subst hxy
      rw [ih hL'.2 hM'.2 fun z => ?_]
      constructor
      · intro hz
        rcases List.mem_cons.1 ((h z).1 (List.mem_cons_of_mem _ hz)) with e | e
        · subst e
          have h1 := (ahead_iff _ _ _ _).1 (hL'.1 z hz)
          omega
        · exact e
      · intro hz
        rcases List.mem_cons.1 ((h z).2 (List.mem_cons_of_mem _ hz)) with e | e
        · subst e
          have h1 := (ahead_iff _ _ _ _).1 (hM'.1 z hz)
          omega
        · exact e

theorem split_at : ∀ {L : List E3} (a n : Int), Srt L → (∀ x ∈ L.take (cntA L a n), aheadB x.a x.n a n = true) ∧ (∀ x ∈ L.drop (cntA L a n), aheadB x.a x.n a n = false) := by
  intro L
  induction L with
  | nil => intro a n _; simp [cntA]
  | cons x L ih =>
    intro a n h
    have h' := List.pairwise_cons.1 h
    cases hx : aheadB x.a x.n a n with
    | true =>
      have e : cntA (x :: L) a n = cntA L a n + 1 := by unfold cntA; simp [List.takeWhile, hx]
      obtain ⟨h1, h2⟩ := ih a n h'.2
      rw [e]
      refine ⟨fun z hz => ?_, fun z hz => h2 z (by simpa using hz)⟩
      rw [List.take_succ_cons] at hz
      rcases List.mem_cons.1 hz with rfl | hz
      · exact hx
      · exact h1 z hz
    | false =>
      have e : cntA (x :: L) a n = 0 := by unfold cntA; simp [List.takeWhile, hx]
      rw [e]
      refine ⟨by simp, fun z hz => ?_⟩
      rw [List.drop_zero] at hz
      rcases List.mem_cons.1 hz with rfl | hz
      · exact hx
      · have h3 := (ahead_iff _ _ _ _).1 (h'.1 z hz)
        have h4 := (ahead_no _ _ _ _).1 hx
        rw [ahead_no]
        omega

theorem allX_srt {V : Fm.VM} (hV : Val V) : Srt (allX V) := by
  unfold Srt
  rw [List.pairwise_iff_getElem]
  intro i j hi hj hij
  exact (ahead_iff _ _ _ _).2 (allX_lt hV hij (List.getElem?_eq_getElem hi) (List.getElem?_eq_getElem hj))
theorem adr_top {a n : Int} (h : chk a n = 0) : adr n.toNat (Fm.top a.toNat n.toNat) = a := by
  obtain ⟨ha, hn, hl⟩ := chk_zero h
  rw [found_adr ha, hl]
  simp
theorem mem_allX {V : Fm.VM} (hV : Val V) (x : E3) : x ∈ allX V ↔ chk x.a x.n = 0 ∧ at1 V x.a x.n = some x.h := by
  constructor
  · intro h
    obtain ⟨k, hk⟩ := List.getElem?_of_mem h
    refine ⟨allX_chk hV hk, ?_⟩
    obtain ⟨i, v, _, ha, hn, _, _, hv⟩ := allX_get hV hk
    unfold at1
    rw [ha, hn, Int.toNat_natCast, top_adr]
    exact hv
  · rintro ⟨h1, h2⟩
    unfold allX
    refine List.mem_map.2 ⟨(x.n.toNat, Fm.top x.a.toNat x.n.toNat, x.h), (all_mem hV _ _ _).2 h2, ?_⟩
    unfold e3
    have hn := (chk_zero h1).2.1
    have ha := adr_top h1
    obtain ⟨xa, xn, xh⟩ := x
    simp only at ha hn ⊢
    rw [ha, Int.toNat_of_nonneg hn.1]
theorem at1_put {V : Fm.VM} {a n b m : Int} (h : chk a n = 0) (h2 : chk b m = 0) (x : Option Int) : at1 (put1 V a n x) b m = if b = a ∧ m = n then x else at1 V b m := by
  unfold at1 put1 Fm.up
  by_cases hk : b = a ∧ m = n
  · obtain ⟨rfl, rfl⟩ := hk
    simp
  · rw [if_neg hk, if_neg]
    rintro ⟨e1, e2⟩
    apply hk
    obtain ⟨ha, hn, hl⟩ := chk_zero h
    obtain ⟨hb, hm, hl2⟩ := chk_zero h2
    have hnm : m = n := by omega
    subst hnm
    have := Fm.addr_of_top b.toNat a.toNat m.toNat hl2 hl e2
    exact ⟨by omega, rfl⟩

/-- What the trie's answer is to the reference's row. -/
structure PutL (V : Fm.VM) (a n : Int) (L : List E3) (c : Nat) : Prop where
  le : c ≤ L.length
  fr : at1 V a n = none → isAt L c a n = false ∧ ∀ h, allX (put1 V a n (some h)) = L.take c ++ ⟨a, n, h⟩ :: L.drop c
  ol : ∀ y, at1 V a n = some y → isAt L c a n = true ∧ (∀ h, allX (put1 V a n (some h)) = L.set c ⟨a, n, h⟩) ∧ idxB (hasP a n) L = (c : Int) ∧ allX (put1 V a n none) = L.take c ++ L.drop (c + 1)
  no : at1 V a n = none → idxB (hasP a n) L = -1
theorem srt_mid {A D : List E3} {e : E3} {a n h : Int} (hA : Srt A) (hD : Srt D) (he : e = ⟨a, n, h⟩) (h1 : ∀ x ∈ A, aheadB x.a x.n a n = true) (h2 : ∀ x ∈ D, aheadB a n x.a x.n = true) : Srt (A ++ e :: D) := by
  subst he
  unfold Srt
  rw [List.pairwise_append, List.pairwise_cons]
  refine ⟨hA, ⟨h2, hD⟩, fun x hx y hy => ?_⟩
  rcases List.mem_cons.1 hy with rfl | hy
  · exact h1 x hx
  · have e1 := (ahead_iff _ _ _ _).1 (h1 x hx)
    have e2 := (ahead_iff _ _ _ _).1 (h2 y hy)
    rw [ahead_iff]
    omega
theorem srt_gap {A D : List E3} {a n : Int} (hA : Srt A) (hD : Srt D) (h1 : ∀ x ∈ A, aheadB x.a x.n a n = true) (h2 : ∀ x ∈ D, aheadB a n x.a x.n = true) : Srt (A ++ D) := by
  unfold Srt
  rw [List.pairwise_append]
  refine ⟨hA, hD, fun x hx y hy => ?_⟩
  have e1 := (ahead_iff _ _ _ _).1 (h1 x hx)
  have e2 := (ahead_iff _ _ _ _).1 (h2 y hy)
  rw [ahead_iff]
  omega
theorem E3.ext_ {x : E3} {a n h : Int} : x = ⟨a, n, h⟩ ↔ x.a = a ∧ x.n = n ∧ x.h = h := by
  obtain ⟨p, q, r⟩ := x
  simp

theorem put_law {V : Fm.VM} (hV : Val V) {a n : Int} (h : chk a n = 0) : PutL V a n (allX V) (cntA (allX V) a n) := by
  have hs := allX_srt hV
  obtain ⟨hA, hD⟩ := split_at a n hs
  have hmem := mem_allX hV
  have hle : cntA (allX V) a n ≤ (allX V).length := by unfold cntA; exact List.Sublist.length_le (List.takeWhile_sublist _)
  generalize hL : allX V = L at *
  generalize hc : cntA L a n = c at *
  have hsA : Srt (L.take c) := hs.sublist (List.take_sublist _ _)
  have hsD : Srt (L.drop c) := hs.sublist (List.drop_sublist _ _)
  have hsplit : ∀ x, x ∈ L ↔ x ∈ L.take c ∨ x ∈ L.drop c := fun x => by
    have e := List.take_append_drop c L
    constructor
    · intro hx; rw [← e] at hx; exact List.mem_append.1 hx
    · intro hx; rw [← e]; exact List.mem_append.2 hx
  have hput : ∀ (o : Option Int) x, x ∈ allX (put1 V a n o) ↔ (x.a = a ∧ x.n = n ∧ o = some x.h) ∨ (¬ (x.a = a ∧ x.n = n) ∧ x ∈ L) := fun o x => by
    rw [mem_allX (hV.put h o), hmem x]
    constructor
    · rintro ⟨h1, h2⟩
      rw [at1_put h h1] at h2
      by_cases hk : x.a = a ∧ x.n = n
      · rw [if_pos hk] at h2; exact .inl ⟨hk.1, hk.2, h2⟩
      · rw [if_neg hk] at h2; exact .inr ⟨hk, h1, h2⟩
    · rintro (⟨e1, e2, e3⟩ | ⟨hk, h1, h2⟩)
      · have hx : chk x.a x.n = 0 := by rw [e1, e2]; exact h
        exact ⟨hx, by rw [at1_put h hx, if_pos ⟨e1, e2⟩]; exact e3⟩
      · exact ⟨h1, by rw [at1_put h h1, if_neg hk]; exact h2⟩
  have hAk : ∀ x ∈ L.take c, ¬ (x.a = a ∧ x.n = n) := fun x hx => by have := (ahead_iff _ _ _ _).1 (hA x hx); omega
  have hfr : at1 V a n = none → ∀ x ∈ L, ¬ (x.a = a ∧ x.n = n) := fun hn x hx hk => by
    have h1 := (hmem x).1 hx
    rw [hk.1, hk.2, hn] at h1
    cases h1.2
  refine ⟨hle, fun hn => ⟨?_, fun hh => ?_⟩, fun y hy => ?_, fun hn => ?_⟩
  · unfold isAt
    cases e : L[c]? with
    | none => rfl
    | some x =>
      have := hfr hn x (List.mem_of_getElem? e)
      simp only [Bool.and_eq_false_iff, beq_eq_false_iff_ne]
      by_cases h1 : x.a = a
      · exact .inr fun h2 => this ⟨h1, h2⟩
      · exact .inl h1
  · refine uniq (allX_srt (hV.put h _)) (srt_mid hsA hsD rfl hA fun x hx => ?_) fun x => ?_
    · have h1 := (ahead_no _ _ _ _).1 (hD x hx)
      have h2 := hfr hn x ((hsplit x).2 (.inr hx))
      rw [ahead_iff]
      omega
    · rw [hput, List.mem_append, List.mem_cons]
      constructor
      · rintro (⟨e1, e2, e3⟩ | ⟨_, hx⟩)
        · injection e3 with e3
          exact .inr (.inl (E3.ext_.2 ⟨e1, e2, e3.symm⟩))
        · rcases (hsplit x).1 hx with hx | hx
          · exact .inl hx
          · exact .inr (.inr hx)
      · rintro (hx | rfl | hx)
        · exact .inr ⟨hAk x hx, (hsplit x).2 (.inl hx)⟩
        · exact .inl ⟨rfl, rfl, rfl⟩
        · exact .inr ⟨hfr hn x ((hsplit x).2 (.inr hx)), (hsplit x).2 (.inr hx)⟩
  · have hin : (⟨a, n, y⟩ : E3) ∈ L := (hmem _).2 ⟨h, hy⟩
    have hinD : (⟨a, n, y⟩ : E3) ∈ L.drop c := by
      rcases (hsplit _).1 hin with hx | hx
      · exact absurd ⟨rfl, rfl⟩ (hAk _ hx)
      · exact hx
    obtain ⟨z, D, hzD⟩ : ∃ z D, L.drop c = z :: D := by
      cases e : L.drop c with
      | nil => rw [e] at hinD; cases hinD
      | cons z D => exact ⟨z, D, rfl⟩
    have hsD2 := hsD
    rw [hzD] at hinD hsD2
    have hp := List.pairwise_cons.1 hsD2
    have hz : z = ⟨a, n, y⟩ := by
      rcases List.mem_cons.1 hinD with e | e
      · exact e.symm
      · have h1 := hp.1 _ e
        have h2 := hD z (by rw [hzD]; simp)
        rw [h1] at h2
        cases h2
    subst hz
    have hLc : L[c]? = some ⟨a, n, y⟩ := by
      have : (L.drop c)[0]? = some ⟨a, n, y⟩ := by rw [hzD]; rfl
      rw [List.getElem?_drop] at this
      simpa using this
    have hD1 : L.drop (c + 1) = D := by
      have : (L.drop c).drop 1 = D := by rw [hzD]; rfl
      rw [List.drop_drop] at this
      exact this
    have hDk : ∀ x ∈ D, ¬ (x.a = a ∧ x.n = n) := fun x hx => by have := (ahead_iff _ _ _ _).1 (hp.1 x hx); simp only at this; omega
    have hlt : c < L.length := (List.getElem?_eq_some_iff.1 hLc).1
    refine ⟨by unfold isAt; rw [hLc]; simp, fun hh => ?_, ?_, ?_⟩
    · rw [List.set_eq_take_append_cons_drop, if_pos hlt, hD1]
      refine uniq (allX_srt (hV.put h _)) (srt_mid hsA hp.2 rfl hA hp.1) fun x => ?_
      rw [hput, List.mem_append, List.mem_cons]
      constructor
      · rintro (⟨e1, e2, e3⟩ | ⟨hk, hx⟩)
        · injection e3 with e3
          exact .inr (.inl (E3.ext_.2 ⟨e1, e2, e3.symm⟩))
        · rcases (hsplit x).1 hx with hx | hx
          · exact .inl hx
          · rw [hzD] at hx
            rcases List.mem_cons.1 hx with rfl | hx
            · exact absurd ⟨rfl, rfl⟩ hk
            · exact .inr (.inr hx)
      · rintro (hx | rfl | hx)
        · exact .inr ⟨hAk x hx, (hsplit x).2 (.inl hx)⟩
        · exact .inl ⟨rfl, rfl, rfl⟩
        · exact .inr ⟨hDk x hx, (hsplit x).2 (.inr (by rw [hzD]; exact List.mem_cons_of_mem _ hx))⟩
    · refine idxB_at (hasP a n) L c _ hLc (by simp [hasP]) fun j x hj hx => ?_
      have hm : x ∈ L.take c := List.mem_of_getElem? (i := j) (by rw [List.getElem?_take_of_lt hj]; exact hx)
      have := hAk x hm
      unfold hasP
      simp only [Bool.and_eq_false_iff, beq_eq_false_iff_ne]
      by_cases h1 : x.a = a
      · exact .inr fun h2 => this ⟨h1, h2⟩
      · exact .inl h1
    · rw [hD1]
      refine uniq (allX_srt (hV.put h _)) (srt_gap hsA hp.2 hA hp.1) fun x => ?_
      rw [hput, List.mem_append]
      constructor
      · rintro (⟨_, _, e3⟩ | ⟨hk, hx⟩)
        · cases e3
        · rcases (hsplit x).1 hx with hx | hx
          · exact .inl hx
          · rw [hzD] at hx
            rcases List.mem_cons.1 hx with rfl | hx
            · exact absurd ⟨rfl, rfl⟩ hk
            · exact .inr hx
      · rintro (hx | hx)
        · exact .inr ⟨hAk x hx, (hsplit x).2 (.inl hx)⟩
        · exact .inr ⟨hDk x hx, (hsplit x).2 (.inr (by rw [hzD]; exact List.mem_cons_of_mem _ hx))⟩
  · refine idxB_no (hasP a n) L fun j x hx => ?_
    have := hfr hn x (List.mem_of_getElem? hx)
    unfold hasP
    simp only [Bool.and_eq_false_iff, beq_eq_false_iff_ne]
    by_cases h1 : x.a = a
    · exact .inr fun h2 => this ⟨h1, h2⟩
    · exact .inl h1
end Go.Proofs.YtkljanjapcpbdaaDoor

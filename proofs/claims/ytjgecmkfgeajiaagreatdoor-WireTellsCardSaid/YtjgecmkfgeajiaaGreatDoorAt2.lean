/- Package attr: Check. No condition but those that stand in each theorem. -/
import Derived.Test.YtjgecmkfgeajiaaGreatDoorAt1
namespace Go.Proofs.YtjgecmkfgeajiaaGreatDoor
open Go.RowKit

abbrev gFull_ : Nat := 4
abbrev gOrder : Nat := 5
abbrev TA : TypeId := 38

theorem attrC_len {a : AttrR} (h : 12 < a.path.length ∨ 8 < a.tags.length) : attrC a = (7, -1) := by unfold attrC; rw [if_pos h]
theorem attrC_path {a : AttrR} (h : ¬ (12 < a.path.length ∨ 8 < a.tags.length)) (h1 : 0 ≤ idxB badAS a.path) : attrC a = (2, idxB badAS a.path) := by unfold attrC; rw [if_neg h, if_pos h1]
theorem attrC_num {a : AttrR} (h : ¬ (12 < a.path.length ∨ 8 < a.tags.length)) (h1 : ¬ 0 ≤ idxB badAS a.path) (h2 : inR a.pref 0 1000 = false ∨ inR a.med 0 1000 = false ∨ inR a.origin 0 2 = false) : attrC a = (2, -1) := by unfold attrC; rw [if_neg h, if_neg h1, if_pos h2]
theorem attrC_tag {a : AttrR} (h : ¬ (12 < a.path.length ∨ 8 < a.tags.length)) (h1 : ¬ 0 ≤ idxB badAS a.path) (h2 : inR a.pref 0 1000 = true) (h3 : inR a.med 0 1000 = true) (h4 : inR a.origin 0 2 = true) : attrC a = tagC 0 a.tags 0 := by
  unfold attrC; rw [if_neg h, if_neg h1, if_neg (by simp [h2, h3, h4])]

/-- What holds at the k-th tag. -/
def TagRel (ts : List Int) (k : Nat) : Prop := ∃ pv, tagC 0 ts 0 = tagC pv (ts.drop k) k ∧ (0 < k → ts[k - 1]? = some pv)
theorem TagRel.zero (ts : List Int) : TagRel ts 0 := ⟨0, rfl, fun h => absurd h (by omega)⟩
theorem TagRel.done {ts : List Int} {k : Nat} (h : TagRel ts k) (hk : ts.length ≤ k) : tagC 0 ts 0 = (0, -1) := by
  obtain ⟨pv, h1, _⟩ := h
  rw [h1, List.drop_eq_nil_of_le hk]; rfl
theorem drop_at {ts : List Int} {k : Nat} {t : Int} (ht : ts[k]? = some t) : ts.drop k = t :: ts.drop (k + 1) := by
  have hlt : k < ts.length := (List.getElem?_eq_some_iff.1 ht).1
  rw [List.drop_eq_getElem_cons hlt]
  rw [List.getElem?_eq_getElem hlt] at ht
  injection ht with ht
  rw [ht]
theorem TagRel.bad {ts : List Int} {k : Nat} {t : Int} (h : TagRel ts k) (ht : ts[k]? = some t) (hb : inR t 1 9999 = false) : tagC 0 ts 0 = (2, (k : Int)) := by
  obtain ⟨pv, h1, _⟩ := h
  rw [h1, drop_at ht, tagC, if_pos hb]
theorem TagRel.low {ts : List Int} {k : Nat} {t q : Int} (h : TagRel ts k) (ht : ts[k]? = some t) (hb : inR t 1 9999 = true) (hk : 0 < k) (hq : ts[k - 1]? = some q) (hle : t ≤ q) : tagC 0 ts 0 = (8, (k : Int)) := by
  obtain ⟨pv, h1, h2⟩ := h
  have := h2 hk
  rw [hq] at this
  injection this with this
  subst this
  rw [h1, drop_at ht, tagC, if_neg (by simp [hb]), if_pos ⟨by omega, hle⟩]
theorem TagRel.step {ts : List Int} {k : Nat} {t : Int} (h : TagRel ts k) (ht : ts[k]? = some t) (hb : inR t 1 9999 = true) (hk : ∀ q, 0 < k → ts[k - 1]? = some q → q < t) : TagRel ts (k + 1) := by
  obtain ⟨pv, h1, h2⟩ := h
  refine ⟨t, ?_, fun _ => by simpa using ht⟩
  rw [h1, drop_at ht, tagC, if_neg (by simp [hb]), if_neg]
  · push_cast; rfl
  · rintro ⟨h3, h4⟩
    have := hk pv (by omega) (h2 (by omega))
    omega

set_option maxRecDepth 8000 in
set_option maxHeartbeats 4000000 in
theorem attrCheck_big (a : AttrR) (E : Nat → Addr) (w : World) (h2 : Sen w gBound (E 2)) (h7 : Sen w gFull_ (E 7)) (h8 : Sen w gOrder (E 8)) (ha : AttrOk w a) (hl : a.path.length ≤ 100000) (hl2 : a.tags.length ≤ 100000) :
    Calls Tryz.prog 33 #[.agg a.cells] w (ErrPost E (attrC a).1 (attrC a).2 w) := by
  unfold AttrR.cells
  generalize hn : a.path.length = n at *
  generalize hm : a.tags.length = m at *
  have Hn := hide hn
  have Hm := hide hm
  have Ha := hide ha
  have z2 : 0 < w.heap.size := h2.lt
  have z7 : 4 < w.heap.size := h7.lt
  have z8 : 5 < w.heap.size := h8.lt
  have c2 : w.cell? ⟨0, 0, none⟩ = some (errv (E 2)) := h2
  have c7 : w.cell? ⟨4, 0, none⟩ = some (errv (E 7)) := h7
  have c8 : w.cell? ⟨5, 0, none⟩ = some (errv (E 8)) := h8
  clear ha hn hm
  by_cases h12 : 12 < n
  · have e := attrC_len (a := a) (.inl (by have := Hn.out; omega))
    have He := hide e
    have i1 : (12 : Int) < (n : Int) := by omega
    clear e h2 h7 h8
    go_enter Tryz.func33, Tryz.ntmps33
    go_wp2_with fail
    go_ret
    exact ⟨_, rfl, by rw [He.out]; exact .sent (by omega) (by omega), (Upd.refl _ _).alloc _⟩
  · by_cases h8m : 8 < m
    · have e := attrC_len (a := a) (.inr (by have := Hm.out; omega))
      have He := hide e
      have i1 : ¬ (12 : Int) < (n : Int) := by omega
      have i2 : (8 : Int) < (m : Int) := by omega
      clear e h2 h7 h8
      go_enter Tryz.func33, Tryz.ntmps33
      go_wp2_with fail
      go_ret
      exact ⟨_, rfl, by rw [He.out]; exact .sent (by omega) (by omega), (Upd.refl _ _).alloc _⟩
    · have Hlen : Hid (¬ (12 < a.path.length ∨ 8 < a.tags.length)) := hide (by have := Hn.out; have := Hm.out; omega)
      have i1 : ¬ (12 : Int) < (n : Int) := by omega
      have i2 : ¬ (8 : Int) < (m : Int) := by omega
      have u := (Upd.refl (fun _ => False) w).alloc (.cells #[.slice a.P n a.pc, .int .i64 a.pref, .int .i64 a.med, .int .i64 a.origin, .slice a.T m a.tc] TA)
      have Hb := hide (Blk.new w TA #[.slice a.P n a.pc, .int .i64 a.pref, .int .i64 a.med, .int .i64 a.origin, .slice a.T m a.tc])
      have Hi := hide (idxBad_any a.P n a.pc a.path _ (Ha.out.path.new_ u) Hn.out (by omega))
      have Hu := hide u
      have H2 := hide h2
      have H8 := hide h8
      clear u c7 z7 h7 c2 z2 c8 z8 h2 h8
      go_enter Tryz.func33, Tryz.ntmps33
      go_wp2_with fail
      refine Hi.out.mono ?_
      rintro e w2 ⟨rfl, hu2⟩
      have n2 : New w w2 := Hu.out.trans_new hu2
      have b2 := Hb.out.new_ hu2
      have d0 := b2.cell 0
      have d1 := b2.cell 1
      have d2 := b2.cell 2
      have d3 := b2.cell 3
      have d4 := b2.cell 4
      have zb := b2.lt
      have z2 : 0 < w2.heap.size := (H2.out.new n2).lt
      have z8 : 5 < w2.heap.size := (H8.out.new n2).lt
      have c2 : w2.cell? ⟨0, 0, none⟩ = some (errv (E 2)) := H2.out.new n2
      have c8 : w2.cell? ⟨5, 0, none⟩ = some (errv (E 8)) := H8.out.new n2
      simp only [List.getElem?_toArray, List.getElem?_cons_zero, List.getElem?_cons_succ] at d0 d1 d2 d3 d4
      clear b2
      unfold errv at c2 c8
      by_cases hp : 0 ≤ idxB badAS a.path
      · have He := hide (attrC_path Hlen.out hp)
        go_wp2_with fail
        go_ret
        exact ⟨_, rfl, by rw [He.out]; exact .fault (by omega) (by omega) (Blk.new _ _ _), n2.alloc _⟩
      · have hge : ¬ (idxB badAS a.path ≥ 0) := hp
        have Hp := hide hp
        cases hb1 : inR a.pref 0 1000 with
        | false =>
          have He := hide (attrC_num Hlen.out Hp.out (.inl hb1))
          have Hb1 := hide hb1
          clear hb1
          go_wp2_with (go_at_call 70; refine (attrIn_any _ _ _ _).mono ?_; rintro e w' ⟨rfl, rfl⟩; rw [Hb1.out])
          go_ret
          exact ⟨_, rfl, by rw [He.out]; exact .sent (by omega) (by omega), n2⟩
        | true =>
          cases hb2 : inR a.med 0 1000 with
          | false =>
            have He := hide (attrC_num Hlen.out Hp.out (.inr (.inl hb2)))
            have Hb1 := hide hb1
            have Hb2 := hide hb2
            clear hb1 hb2
            go_wp2_with (go_at_call 70; refine (attrIn_any _ _ _ _).mono ?_; rintro e w' ⟨rfl, rfl⟩; first | rw [Hb1.out] | rw [Hb2.out])
            go_ret
            exact ⟨_, rfl, by rw [He.out]; exact .sent (by omega) (by omega), n2⟩
          | true =>
            cases hb3 : inR a.origin 0 2 with
            | false =>
              have He := hide (attrC_num Hlen.out Hp.out (.inr (.inr hb3)))
              have Hb1 := hide hb1
              have Hb2 := hide hb2
              have Hb3 := hide hb3
              clear hb1 hb2 hb3
              go_wp2_with (go_at_call 70; refine (attrIn_any _ _ _ _).mono ?_; rintro e w' ⟨rfl, rfl⟩; first | rw [Hb1.out] | rw [Hb2.out] | rw [Hb3.out])
              go_ret
              exact ⟨_, rfl, by rw [He.out]; exact .sent (by omega) (by omega), n2⟩
            | true =>
              have He := hide (attrC_tag Hlen.out Hp.out hb1 hb2 hb3)
              have Hb1 := hide hb1
              have Hb2 := hide hb2
              have Hb3 := hide hb3
              clear hb1 hb2 hb3
              go_wp2_with (go_at_call 70; refine (attrIn_any _ _ _ _).mono ?_; rintro e w' ⟨rfl, rfl⟩; first | rw [Hb1.out] | rw [Hb2.out] | rw [Hb3.out])
              go_loop [47] (fun i => ∃ k : Nat, k ≤ m ∧ i = .int .i64 k ∧ TagRel a.tags k) (fun i => m - (intOf i).toNat)
              case atStart => exact ⟨0, by omega, rfl, .zero _⟩
              case round =>
                obtain ⟨k, hk, rfl, hr⟩ := hrel
                have Hr := hide hr
                clear hr
                by_cases hlt : k < m
                · obtain ⟨b, o, t, hT, hb, htk, hct⟩ := (Ha.out.tags.new_ n2).at_ (k := k) (by have := Hm.out; omega)
                  have Htk := hide htk
                  have j1 : (k : Int) < (m : Int) := by omega
                  clear htk
                  cases hb : inR t 1 9999 with
                  | false =>
                    have Hb9 := hide hb
                    have He2 := hide (Hr.out.bad Htk.out hb)
                    clear hb
                    rw [hT] at d4 ⊢
                    go_wp2_with (go_at_call 70; refine (attrIn_any _ _ _ _).mono ?_; rintro e w' ⟨rfl, rfl⟩; rw [Hb9.out])
                    go_ret
                    exact ⟨_, rfl, by rw [He.out, He2.out]; exact .fault (by omega) (by omega) (Blk.new _ _ _), n2.alloc _⟩
                  | true =>
                    have Hb9 := hide hb
                    rcases k with _ | j
                    · have Hr2 := hide (Hr.out.step Htk.out hb (fun q h => absurd h (by omega)))
                      have j2 : (0 : Int) < (m : Int) := by omega
                      rw [Nat.add_zero] at hct
                      clear hb
                      rw [hT] at d4 ⊢
                      go_wp2_with (go_at_call 70; refine (attrIn_any _ _ _ _).mono ?_; rintro e w' ⟨rfl, rfl⟩; rw [Hb9.out])
                      exact ⟨⟨0 + 1, by omega, by go_num, Hr2.out⟩, by simp [intOf]; omega⟩
                    · obtain ⟨b1, o1, q, hT1, hb1, hqk, hcq⟩ := (Ha.out.tags.new_ n2).at_ (k := j) (by have := Hm.out; omega)
                      obtain ⟨rfl, rfl⟩ : b = b1 ∧ o = o1 := by rw [hT] at hT1; injection hT1 with hT1; injection hT1 with e1 e2; exact ⟨e1, e2⟩
                      have Hqk := hide hqk
                      clear hT1 hqk
                      by_cases hle : t ≤ q
                      · have He2 := hide (Hr.out.low Htk.out hb (by omega) Hqk.out hle)
                        clear hb
                        rw [hT] at d4 ⊢
                        go_wp2_with (go_at_call 70; refine (attrIn_any _ _ _ _).mono ?_; rintro e w' ⟨rfl, rfl⟩; rw [Hb9.out])
                        go_ret
                        exact ⟨_, rfl, by rw [He.out, He2.out]; exact .fault (by omega) (by omega) (Blk.new _ _ _), n2.alloc _⟩
                      · have Hr2 := hide (Hr.out.step Htk.out hb (fun q1 _ h => by
                          have h2 := Hqk.out
                          rw [show j + 1 - 1 = j from rfl, h2] at h
                          injection h with h
                          omega))
                        clear hb
                        rw [hT] at d4 ⊢
                        go_wp2_with (go_at_call 70; refine (attrIn_any _ _ _ _).mono ?_; rintro e w' ⟨rfl, rfl⟩; rw [Hb9.out])
                        exact ⟨⟨j + 1 + 1, by omega, by go_num, Hr2.out⟩, by simp [intOf]; omega⟩
                · have hkm : k = m := by omega
                  subst hkm
                  go_wp2_with fail
                  go_ret
                  exact ⟨_, rfl, by rw [He.out, Hr.out.done (by have := Hm.out; omega)]; exact .nil, n2⟩
theorem attrCheck_any (a : AttrR) (E : Nat → Addr) (w : World) (h2 : Sen w gBound (E 2)) (h7 : Sen w gFull_ (E 7)) (h8 : Sen w gOrder (E 8)) (ha : AttrOk w a) (hl : a.path.length ≤ 1000) (hl2 : a.tags.length ≤ 1000) :
    Calls Tryz.prog 33 #[.agg a.cells] w (ErrPost E (attrC a).1 (attrC a).2 w) := attrCheck_big a E w h2 h7 h8 ha (by omega) (by omega)
end Go.Proofs.YtjgecmkfgeajiaaGreatDoor

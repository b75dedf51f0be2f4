/- Rules cut and joined; how long what Apply gives may be; LongAttr. No condition but those that stand in each theorem. -/
import Derived.Test.YtkljanjapcpbdaaDoorRuD
namespace Go.Proofs.YtkljanjapcpbdaaDoor
open Go.RowKit

theorem Rules.take {w : World} {A : Option Addr} {l : List RuR} (h : Rules w A l) (k : Nat) : Rules w A (l.take k) := fun h0 => by
  have h1 : 0 < (l.map RuR.cells).length := by
    simp at h0 ⊢
    omega
  obtain ⟨b, o, hA, hb, hc⟩ := h h1
  refine ⟨b, o, hA, hb, fun i r hr => hc i r ?_⟩
  rw [List.map_take, List.getElem?_take] at hr
  split at hr
  · exact hr
  · cases hr
theorem Rules.drop {w : World} {b o : Nat} {l : List RuR} (h : Rules w (some ⟨b, o, none⟩) l) (k : Nat) : Rules w (some ⟨b, o + k * 11, none⟩) (l.drop k) := fun h0 => by
  have h1 : 0 < (l.map RuR.cells).length := by
    simp at h0 ⊢
    omega
  obtain ⟨b1, o1, hA, hb, hc⟩ := h h1
  injection hA with hA
  injection hA with e1 e2
  subst e1; subst e2
  refine ⟨b, o + k * 11, rfl, hb, fun i r hr j v hv => ?_⟩
  rw [List.map_drop, List.getElem?_drop] at hr
  rw [show o + k * 11 + i * 11 + j = o + (k + i) * 11 + j by omega]
  exact hc (k + i) r hr j v hv
theorem rules_of_own {w : World} {base : Nat} {v : Value} {n : Nat} {l : List RuR} (h : w.ownsRow base TRu 11 v n (flat (l.map RuR.cells))) : ∃ A cap, v = .slice A n cap ∧ l.length = n ∧ Rules w A l := by
  obtain ⟨A, cap, hv, hn, _, hr, _⟩ := rws_of_own (by omega) h (ru_size l)
  exact ⟨A, cap, hv, by simpa using hn, hr⟩
theorem flat_rules (l l2 : List RuR) : flat (l.map RuR.cells) ++ flat (l2.map RuR.cells) = flat ((l ++ l2).map RuR.cells) := by rw [List.map_append, flat_append]
theorem ru_len (l : List RuR) : (flat (l.map RuR.cells)).length = l.length * 11 := by rw [flat_length _ (ru_size l), List.length_map]

theorem zeroC_len : zeroC.path.length ≤ 100 ∧ zeroC.tags.length ≤ 100 := ⟨by simp [zeroC], by simp [zeroC]⟩
theorem leadX_len {y : AtC} {s n : Int} (h1 : y.path.length ≤ 30) (h2 : y.tags.length ≤ 30) : (leadX y s n).path.length ≤ 100 ∧ (leadX y s n).tags.length ≤ 100 := by
  by_cases h : leadK y s n = 0
  · rw [leadX_ok h]
    have h3 : n ≤ 12 := by
      unfold leadK at h
      split at h
      · exact absurd h ‹_›
      · split at h
        · omega
        · rename_i hh
          have : inR n 0 12 = true := by
            cases hx : inR n 0 12 with
            | true => rfl
            | false => exact absurd (.inr hx) hh
          have := of_decide_eq_true this
          omega
    refine ⟨?_, by show y.tags.length ≤ 100; omega⟩
    show (List.replicate n.toNat s ++ y.path).length ≤ 100
    rw [List.length_append, List.length_replicate]
    omega
  · rw [leadX_err h]; exact zeroC_len
theorem tagX_len2 {x : AtC} {t : Int} (h1 : x.path.length ≤ 30) (h2 : x.tags.length ≤ 29) : (tagX x t).path.length ≤ 30 ∧ (tagX x t).tags.length ≤ 30 := by
  unfold tagX
  split
  · refine ⟨h1, ?_⟩
    dsimp only
    cases hc : x.tags.contains t with
    | true => rw [tagsX_in hc]; omega
    | false => rw [tagsX_new hc, ins_len]; omega
  · exact ⟨by simp [zeroC], by simp [zeroC]⟩
theorem apX_len {l : List RuR} {s x m : Int} {y : AtC} (h1 : y.path.length ≤ 20) (h2 : y.tags.length ≤ 15) : (apX l s x m y).path.length ≤ 100 ∧ (apX l s x m y).tags.length ≤ 100 := by
  unfold apX
  split
  · exact zeroC_len
  · split
    · omega
    · split
      · exact zeroC_len
      · split
        · exact zeroC_len
        · rename_i r _ _
          unfold mkX
          split
          · exact zeroC_len
          · have h3 : (mk2 r y).path.length ≤ 30 ∧ (mk2 r y).tags.length ≤ 30 := by
              unfold mk2
              split
              · exact tagX_len2 (by show y.path.length ≤ 30; omega) (by show y.tags.length ≤ 29; omega)
              · exact ⟨by show y.path.length ≤ 30; omega, by show y.tags.length ≤ 30; omega⟩
            exact leadX_len h3.1 h3.2
theorem rules_zero_of {l : List RuR} {s x m : Int} {y : AtC} (h : (apF l s x m y).1 = 0) : (rulesC l).1 = 0 := by
  by_cases h1 : (rulesC l).1 = 0
  · exact h1
  · have h2 : (preC l x m y).1 ≠ 0 := by rw [preC_rules h1]; exact h1
    rw [(ap_pre h2).1] at h
    exact absurd h h2
theorem apB_err {l : List RuR} {s x m : Int} {y : AtC} (h : (apF l s x m y).1 ≠ 0) : apB l s x m y = false := by
  unfold apF at h
  unfold apB
  split
  · rfl
  · rename_i h1
    rw [if_neg h1] at h
    split
    · rename_i h2; rw [if_pos h2] at h; exact absurd rfl h
    · rename_i h2
      rw [if_neg h2] at h
      split
      · rfl
      · rename_i r hr
        rw [hr] at h
        dsimp only at h
        split
        · rfl
        · rename_i h3
          rw [if_neg h3] at h
          exact decide_eq_false h
theorem ErrV.some_ {w : World} {E : Nat → Addr} {v : Value} {k : Nat} {i : Int} (h : ErrV w E v k i) (hk : k ≠ 0) : ∃ t p, v = .iface t (.pointer (some p)) := by
  rcases h.form with ⟨h, _⟩ | ⟨_, h⟩
  · exact absurd h hk
  · exact h

set_option maxRecDepth 8000 in
set_option maxHeartbeats 1000000 in
theorem longAttr_yes (a : AttrR) (w : World) (h : 20 < a.path.length ∨ 15 < a.tags.length) :
    Calls Tryd.prog 38 #[.agg a.cells] w fun e w1 => e = .returned (.int .i64 1) ∧ New w w1 := by
  have u := hide ((Upd.refl (fun _ => False) w).alloc (.cells a.cells TA))
  unfold AttrR.cells at *
  by_cases h1 : 20 < a.path.length
  · have i1 : (20 : Int) < (a.path.length : Int) := by omega
    clear h h1
    go_enter Tryd.func38, Tryd.ntmps38
    go_wp2_with fail
    go_ret
    exact ⟨rfl, u.out⟩
  · have i1 : ¬ (20 : Int) < (a.path.length : Int) := by omega
    have i2 : (15 : Int) < (a.tags.length : Int) := by omega
    clear h h1
    go_enter Tryd.func38, Tryd.ntmps38
    go_wp2_with fail
    go_ret
    exact ⟨rfl, u.out⟩
set_option maxRecDepth 8000 in
set_option maxHeartbeats 1000000 in
theorem longAttr_no (a : AttrR) (w : World) (h1 : a.path.length ≤ 20) (h2 : a.tags.length ≤ 15) :
    Calls Tryd.prog 38 #[.agg a.cells] w fun e w1 => e = .returned (.int .i64 0) ∧ New w w1 := by
  have u := hide ((Upd.refl (fun _ => False) w).alloc (.cells a.cells TA))
  unfold AttrR.cells at *
  have i1 : ¬ (20 : Int) < (a.path.length : Int) := by omega
  have i2 : ¬ (15 : Int) < (a.tags.length : Int) := by omega
  clear h1 h2
  go_enter Tryd.func38, Tryd.ntmps38
  go_wp2_with fail
  go_ret
  exact ⟨rfl, u.out⟩
end Go.Proofs.YtkljanjapcpbdaaDoor

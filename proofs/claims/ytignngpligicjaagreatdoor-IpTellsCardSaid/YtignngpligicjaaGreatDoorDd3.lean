/- The document's texts: NumberOf. No condition but those that stand in each theorem. -/
import Derived.Test.YtignngpligicjaaGreatDoorDd2
import Derived.Test.YtignngpligicjaaGreatDoorNu1
import Derived.Deep.DeepCutAuto
namespace Go.Proofs.YtignngpligicjaaGreatDoor
open Go.RowKit

theorem num_facts (acc : Nat) (c : UInt8) (ha : acc ≤ 99999999) (h : 48 ≤ c.toNat) (h1 : c.toNat ≤ 57) : ∃ d : Nat, d = c.toNat - 48 ∧ d ≤ 9 ∧ IntKind.u8.wrap ((c.toNat : Int) - 48) = (d : Int) ∧ IntKind.i64.wrap (d : Int) = (d : Int) ∧ wrap64 (d : Int) = (d : Int) ∧
    IntKind.i64.wrap (10 * (acc : Int)) = 10 * (acc : Int) ∧ wrap64 (10 * (acc : Int)) = 10 * (acc : Int) ∧ IntKind.i64.wrap (10 * (acc : Int) + (d : Int)) = ((10 * acc + d : Nat) : Int) ∧ wrap64 (10 * (acc : Int) + (d : Int)) = ((10 * acc + d : Nat) : Int) := by
  refine ⟨c.toNat - 48, rfl, by omega, ?_, ?_, ?_, ?_, ?_, ?_, ?_⟩
  · simp [IntKind.wrap, IntKind.bits, IntKind.signed]; omega
  · rw [IntWalk.i64_in _ (by omega)]
  · rw [IntWalk.wrap64_in _ ⟨by omega, by omega⟩]
  · rw [IntWalk.i64_in _ (by omega)]
  · rw [IntWalk.wrap64_in _ ⟨by omega, by omega⟩]
  · rw [IntWalk.i64_in _ (by omega)]; omega
  · rw [IntWalk.wrap64_in _ ⟨by omega, by omega⟩]; omega
theorem byte_at (s : ByteArray) (k : Nat) (h : k < s.size) : ∃ c, s[k]'h = c ∧ s.data.toList[k]? = some c := by
  refine ⟨_, rfl, ?_⟩
  rw [List.getElem?_eq_getElem (by simpa using h)]
  rfl
theorem digR_at {l : List UInt8} {k acc : Nat} {c : UInt8} (h : l[k]? = some c) : digR (l.drop k) acc = if 48 ≤ c.toNat ∧ c.toNat ≤ 57 then digR (l.drop (k + 1)) (10 * acc + (c.toNat - 48)) else -1 := by
  have hk := (List.getElem?_eq_some_iff.1 h).1
  have e : l[k] = c := (List.getElem?_eq_some_iff.1 h).2
  rw [List.drop_eq_getElem_cons hk, e]
  rfl
theorem pow9 {k acc : Nat} (hk : k < 9) (h : acc < 10 ^ k) : acc ≤ 99999999 := by
  have := Nat.pow_le_pow_right (show 0 < 10 by omega) (show k ≤ 8 by omega)
  omega

theorem pow_step {k acc d : Nat} (h : acc < 10 ^ k) (hd : d ≤ 9) : 10 * acc + d < 10 ^ (k + 1) := by
  rw [Nat.pow_succ]
  generalize 10 ^ k = z at *
  omega
theorem cast_step (acc d : Nat) : (10 * (acc : Int) + (d : Int)) = ((10 * acc + d : Nat) : Int) := by omega

set_option maxRecDepth 8000 in
set_option maxHeartbeats 1000000 in
theorem numberOf_any (s : ByteArray) (w : World) (hs : s.size ≤ 1000000) :
    Calls Tryz.prog 61 #[.string s] w fun e w1 => e = .returned (.int .i64 (numR s.data.toList)) ∧ w = w1 := by
  have hl : s.data.toList.length = s.size := by simp
  by_cases h1 : s.size < 1
  · have i1 : (s.size : Int) < 1 := by omega
    have He := hide (show numR s.data.toList = -1 from if_pos (.inl (by omega)))
    go_enter Tryz.func61, Tryz.ntmps61
    go_wp2_with fail
    go_ret
    exact ⟨by rw [He.out]; rfl, rfl⟩
  have i1 : ¬ (s.size : Int) < 1 := by omega
  by_cases h2 : 9 < s.size
  · have i2 : (9 : Int) < (s.size : Int) := by omega
    have He := hide (show numR s.data.toList = -1 from if_pos (.inr (.inl (by omega))))
    go_enter Tryz.func61, Tryz.ntmps61
    go_wp2_with fail
    go_ret
    exact ⟨by rw [He.out]; rfl, rfl⟩
  have i2 : ¬ (9 : Int) < (s.size : Int) := by omega
  obtain ⟨c0, hc0, hc1⟩ := byte_at s 0 (by omega)
  have hh : s.data.toList.head? = some c0 := by rw [List.head?_eq_getElem?]; exact hc1
  by_cases hz : 1 < s.size ∧ c0 = 48
  · have i3 : (1 : Int) < (s.size : Int) := by omega
    have i4 : ((c0.toNat : Int) == 48) = true := by rw [hz.2]; rfl
    have i5 : 0 < s.size := by omega
    have He := hide (show numR s.data.toList = -1 from if_pos (.inr (.inr ⟨by omega, by rw [hh, hz.2]⟩)))
    clear hz hh hc1
    go_enter Tryz.func61, Tryz.ntmps61
    go_wp2_with fail
    go_ret
    exact ⟨by rw [He.out]; rfl, rfl⟩
  · have he : numR s.data.toList = digR s.data.toList 0 := by
      unfold numR
      rw [if_neg]
      rintro (h | h | ⟨h, h'⟩)
      · omega
      · omega
      · rw [hh] at h'
        injection h' with h'
        exact hz ⟨by omega, h'⟩
    have He := hide he
    have Hz := hide hz
    have Hl := hide hl
    clear he hz hh hc1
    go_enter Tryz.func61, Tryz.ntmps61
    go_upto_region 1 with (fail)
    go_cut [22] (fun v22_ wc => v22_ = .bool false ∧ w = wc)
    case first =>
      by_cases h3 : 1 < s.size
      · have i3 : (1 : Int) < (s.size : Int) := by omega
        have i5 : 0 < s.size := by omega
        have i4 : ((c0.toNat : Int) == 48) = false := by
          rw [beq_eq_false_iff_ne]
          intro h
          refine Hz.out ⟨h3, ?_⟩
          have : c0.toNat = (48 : UInt8).toNat := by
            show c0.toNat = 48
            omega
          exact UInt8.toNat_inj.1 this
        go_wp2_with fail
        go_meet
        exact ⟨rfl, rfl⟩
      · have i3 : ¬ (1 : Int) < (s.size : Int) := by omega
        go_wp2_with fail
        go_meet
        exact ⟨rfl, rfl⟩
    case rest =>
      obtain ⟨rfl, rfl⟩ := hcut
      clear hc0 Hz
      go_wp2_with fail
      go_loopw [3, 4] (fun nv iv wz => ∃ k acc : Nat, k ≤ s.size ∧ iv = .int .i64 k ∧ nv = .int .i64 acc ∧ acc < 10 ^ k ∧ w = wz ∧ digR s.data.toList 0 = digR (s.data.toList.drop k) acc) (fun _ iv _ => s.size - (intOf iv).toNat)
      case atStart => exact ⟨0, 0, by omega, rfl, rfl, by simp, rfl, rfl⟩
      case round =>
        obtain ⟨k, acc, hk, rfl, rfl, hacc, rfl, hd⟩ := hrel
        by_cases hlt : k < s.size
        · have i6 : (k : Int) < (s.size : Int) := by omega
          obtain ⟨c, hc, hc1⟩ := byte_at s k hlt
          have hdk := digR_at (acc := acc) hc1
          have ha9 := pow9 (k := k) (by omega) hacc
          by_cases hg : 48 ≤ c.toNat ∧ c.toNat ≤ 57
          · rw [if_pos hg] at hdk
            have j1 : ¬ (c.toNat : Int) < 48 := by omega
            have j2 : ¬ (57 : Int) < (c.toNat : Int) := by omega
            obtain ⟨d, hde, hd9, q1, q2, q3, q4, q5, q6, q7⟩ := num_facts acc c ha9 hg.1 hg.2
            rw [← hde] at hdk
            have Hd := hide (hd.trans hdk)
            have Hacc := hide hacc
            clear hd hdk hc1 hg hde hacc
            go_wp2_with fail
            clear q1 q2 q3 q4 q5 q6 q7 j1 j2
            have hp := pow_step Hacc.out hd9
            have e7 := cast_step acc d
            rw [e7]
            generalize 10 * acc + d = acc2 at *
            refine ⟨⟨k + 1, acc2, by omega, by go_num, rfl, hp, trivial, Hd.out⟩, by simp [intOf]; omega⟩
          · rw [if_neg hg] at hdk
            have Hd := hide (hd.trans hdk)
            have hg2 : c.toNat < 48 ∨ 57 < c.toNat := by omega
            clear hd hdk hc1 hg
            rcases hg2 with hg2 | hg2
            · have j1 : (c.toNat : Int) < 48 := by omega
              go_wp2_with fail
              go_ret
              exact ⟨by rw [He.out, Hd.out]; rfl, rfl⟩
            · have j1 : ¬ (c.toNat : Int) < 48 := by omega
              have j2 : (57 : Int) < (c.toNat : Int) := by omega
              go_wp2_with fail
              go_ret
              exact ⟨by rw [He.out, Hd.out]; rfl, rfl⟩
        · obtain rfl : k = s.size := by omega
          have i6 : ¬ (s.size : Int) < (s.size : Int) := by omega
          rw [List.drop_of_length_le (by rw [Hl.out]; exact Nat.le_refl _)] at hd
          have Hd := hide hd
          clear hd
          go_wp2_with fail
          go_ret
          exact ⟨by rw [He.out, Hd.out]; rfl, rfl⟩
end Go.Proofs.YtignngpligicjaaGreatDoor

/- The document's texts: Cut, NumberOf. No condition but those that stand in each theorem. -/
import Derived.Test.YtjgecmkfgeajiaaGreatDoorPfo
import Derived.Test.YtjgecmkfgeajiaaGreatDoorCt1
import Derived.Deep.DeepCutAuto
namespace Go.Proofs.YtjgecmkfgeajiaaGreatDoor
open Go.RowKit

/-- The slice with its address A reads as these texts. -/
def Ss (w : World) (A : Option Addr) (ps : List (List UInt8)) : Prop :=
  0 < ps.length → ∃ b o, A = some ⟨b, o, none⟩ ∧ b < w.heap.size ∧ ∀ (i : Nat) (p : List UInt8), ps[i]? = some p → w.cell? ⟨b, o + i, none⟩ = some (.string ⟨p.toArray⟩)
theorem Ss.upd {S : Nat → Prop} {w w1 : World} {A : Option Addr} {ps : List (List UInt8)} (h : Ss w A ps) (hu : Upd S w w1) (hn : ∀ b o, A = some ⟨b, o, none⟩ → ¬ S b) : Ss w1 A ps := fun hl => by
  obtain ⟨b, o, rfl, hb, hc⟩ := h hl
  exact ⟨b, o, rfl, Nat.lt_of_lt_of_le hb hu.size, fun i x hx => (hu.cell hb (hn b o rfl)).trans (hc i x hx)⟩
theorem Ss.new_ {w w1 : World} {A : Option Addr} {ps : List (List UInt8)} (h : Ss w A ps) (hu : New w w1) : Ss w1 A ps := h.upd hu fun _ _ _ x => x
def sV (p : List UInt8) : Value := .string ⟨p.toArray⟩
theorem ss_flat (ps : List (List UInt8)) : flat (ps.map fun p => #[sV p]) = ps.map sV := by
  induction ps with
  | nil => rfl
  | cons x xs ih => rw [List.map_cons, List.map_cons, ← ih]; rfl
theorem ss_of_own {w : World} {base : Nat} {e : TypeId} {v : Value} {n : Nat} {ps : List (List UInt8)} (h : w.ownsRow base e 1 v n (ps.map sV)) :
    ∃ A cap, v = .slice A n cap ∧ ps.length = n ∧ n ≤ cap ∧ Ss w A ps := by
  rw [← ss_flat] at h
  obtain ⟨A, cap, rfl, hn, hc, hr, _, _⟩ := rws_of_own (by omega) h (by intro r hr; obtain ⟨x, _, rfl⟩ := List.mem_map.1 hr; rfl)
  refine ⟨A, cap, rfl, by simpa using hn, hc, fun h0 => ?_⟩
  obtain ⟨b, o, hA, hlt, hcc⟩ := hr (by simpa using h0)
  refine ⟨b, o, hA, hlt, fun i x hx => ?_⟩
  have := hcc i #[sV x] (by simp [hx]) 0 _ rfl
  simpa [sV] using this
end Go.Proofs.YtjgecmkfgeajiaaGreatDoor

namespace Go.Proofs.YtjgecmkfgeajiaaGreatDoor
open Go.RowKit

theorem num_facts (acc : Nat) (c : UInt8) (ha : acc ≤ 99999999) (h : 48 ≤ c.toNat) (h1 : c.toNat ≤ 57) : ∃ d : Nat, d = c.toNat - 48 ∧ d ≤ 9 ∧ IntKind.u8.wrap ((c.toNat : Int) - 48) = (d : Int) ∧ IntKind.i64.wrap (d : Int) = (d : Int) ∧ wrap64 (d : Int) = (d : Int) ∧
    IntKind.i64.wrap (10 * (acc : Int)) = 10 * (acc : Int) ∧ wrap64 (10 * (acc : Int)) = 10 * (acc : Int) ∧ IntKind.i64.wrap (10 * (acc : Int) + (d : Int)) = ((10 * acc + d : Nat) : Int) ∧ wrap64 (10 * (acc : Int) + (d : Int)) = ((10 * acc + d : Nat) : Int) := by
  refine ⟨c.toNat - 48, rfl, by omega, ?_, ?_, ?_, ?_, ?_, ?_, ?_⟩
  · simp [IntKind.wrap, IntKind.bits, IntKind.signed]; omega
  · rw [IntWalk.i64_in _ (by omega)]
  · rw [IntWalk.wrap64_in _ ⟨by omega, by omega⟩]
  · rw [IntWalk.i64_in _ (by omega)]
  · rw [IntWalk.wrap64_in _ ⟨by omega, by omega⟩]
  · rw [IntWalk.i64_in _ (by omega)]; omega
  · rw [IntWalk.wrap64_in _ ⟨by omega, by omega⟩]; omega
theorem byte_at (s : ByteArray) (k : Nat) (h : k < s.size) : ∃ c, s[k]'h = c ∧ s.data.toList[k]? = some c := by
  refine ⟨_, rfl, ?_⟩
  rw [List.getElem?_eq_getElem (by simpa using h)]
  rfl
theorem digR_at {l : List UInt8} {k acc : Nat} {c : UInt8} (h : l[k]? = some c) : digR (l.drop k) acc = if 48 ≤ c.toNat ∧ c.toNat ≤ 57 then digR (l.drop (k + 1)) (10 * acc + (c.toNat - 48)) else -1 := by
  have hk := (List.getElem?_eq_some_iff.1 h).1
  have e : l[k] = c := (List.getElem?_eq_some_iff.1 h).2
  rw [List.drop_eq_getElem_cons hk, e]
  rfl
theorem pow9 {k acc : Nat} (hk : k < 9) (h : acc < 10 ^ k) : acc ≤ 99999999 := by
  have := Nat.pow_le_pow_right (show 0 < 10 by omega) (show k ≤ 8 by omega)
  omega

theorem pow_step {k acc d : Nat} (h : acc < 10 ^ k) (hd : d ≤ 9) : 10 * acc + d < 10 ^ (k + 1) := by
  rw [Nat.pow_succ]
  generalize 10 ^ k = z at *
  omega
theorem cast_step (acc d : Nat) : (10 * (acc : Int) + (d : Int)) = ((10 * acc + d : Nat) : Int) := by omega

set_option maxRecDepth 8000 in
set_option maxHeartbeats 1000000 in
theorem numberOf_any (s : ByteArray) (w : World) (hs : s.size ≤ 1000000) :
    Calls Tryz.prog 90 #[.string s] w fun e w1 => e = .returned (.int .i64 (numR s.data.toList)) ∧ w = w1 := by
  have hl : s.data.toList.length = s.size := by simp
  by_cases h1 : s.size < 1
  · have i1 : (s.size : Int) < 1 := by omega
    have He := hide (show numR s.data.toList = -1 from if_pos (.inl (by omega)))
    go_enter Tryz.func90, Tryz.ntmps90
    go_wp2_with fail
    go_ret
    exact ⟨by rw [He.out]; rfl, rfl⟩
  have i1 : ¬ (s.size : Int) < 1 := by omega
  by_cases h2 : 9 < s.size
  · have i2 : (9 : Int) < (s.size : Int) := by omega
    have He := hide (show numR s.data.toList = -1 from if_pos (.inr (.inl (by omega))))
    go_enter Tryz.func90, Tryz.ntmps90
    go_wp2_with fail
    go_ret
    exact ⟨by rw [He.out]; rfl, rfl⟩
  have i2 : ¬ (9 : Int) < (s.size : Int) := by omega
  obtain ⟨c0, hc0, hc1⟩ := byte_at s 0 (by omega)
  have hh : s.data.toList.head? = some c0 := by rw [List.head?_eq_getElem?]; exact hc1
  by_cases hz : 1 < s.size ∧ c0 = 48
  · have i3 : (1 : Int) < (s.size : Int) := by omega
    have i4 : ((c0.toNat : Int) == 48) = true := by rw [hz.2]; rfl
    have i5 : 0 < s.size := by omega
    have He := hide (show numR s.data.toList = -1 from if_pos (.inr (.inr ⟨by omega, by rw [hh, hz.2]⟩)))
    clear hz hh hc1
    go_enter Tryz.func90, Tryz.ntmps90
    go_wp2_with fail
    go_ret
    exact ⟨by rw [He.out]; rfl, rfl⟩
  · have he : numR s.data.toList = digR s.data.toList 0 := by
      unfold numR
      rw [if_neg]
      rintro (h | h | ⟨h, h'⟩)
      · omega
      · omega
      · rw [hh] at h'
        injection h' with h'
        exact hz ⟨by omega, h'⟩
    have He := hide he
    have Hz := hide hz
    have Hl := hide hl
    clear he hz hh hc1
    go_enter Tryz.func90, Tryz.ntmps90
    go_upto_region 1 with (fail)
    go_cut [22] (fun v22_ wc => v22_ = .bool false ∧ w = wc)
    case first =>
      by_cases h3 : 1 < s.size
      · have i3 : (1 : Int) < (s.size : Int) := by omega
        have i5 : 0 < s.size := by omega
        have i4 : ((c0.toNat : Int) == 48) = false := by
          rw [beq_eq_false_iff_ne]
          intro h
          refine Hz.out ⟨h3, ?_⟩
          have : c0.toNat = (48 : UInt8).toNat := by
            show c0.toNat = 48
            omega
          exact UInt8.toNat_inj.1 this
        go_wp2_with fail
        go_meet
        exact ⟨rfl, rfl⟩
      · have i3 : ¬ (1 : Int) < (s.size : Int) := by omega
        go_wp2_with fail
        go_meet
        exact ⟨rfl, rfl⟩
    case rest =>
      obtain ⟨rfl, rfl⟩ := hcut
      clear hc0 Hz
      go_wp2_with fail
      go_loopw [3, 4] (fun nv iv wz => ∃ k acc : Nat, k ≤ s.size ∧ iv = .int .i64 k ∧ nv = .int .i64 acc ∧ acc < 10 ^ k ∧ w = wz ∧ digR s.data.toList 0 = digR (s.data.toList.drop k) acc) (fun _ iv _ => s.size - (intOf iv).toNat)
      case atStart => exact ⟨0, 0, by omega, rfl, rfl, by simp, rfl, rfl⟩
      case round =>
        obtain ⟨k, acc, hk, rfl, rfl, hacc, rfl, hd⟩ := hrel
        by_cases hlt : k < s.size
        · have i6 : (k : Int) < (s.size : Int) := by omega
          obtain ⟨c, hc, hc1⟩ := byte_at s k hlt
          have hdk := digR_at (acc := acc) hc1
          have ha9 := pow9 (k := k) (by omega) hacc
          by_cases hg : 48 ≤ c.toNat ∧ c.toNat ≤ 57
          · rw [if_pos hg] at hdk
            have j1 : ¬ (c.toNat : Int) < 48 := by omega
            have j2 : ¬ (57 : Int) < (c.toNat : Int) := by omega
            obtain ⟨d, hde, hd9, q1, q2, q3, q4, q5, q6, q7⟩ := num_facts acc c ha9 hg.1 hg.2
            rw [← hde] at hdk
            have Hd := hide (hd.trans hdk)
            have Hacc := hide hacc
            clear hd hdk hc1 hg hde hacc
            go_wp2_with fail
            clear q1 q2 q3 q4 q5 q6 q7 j1 j2
            have hp := pow_step Hacc.out hd9
            have e7 := cast_step acc d
            rw [e7]
            generalize 10 * acc + d = acc2 at *
            refine ⟨⟨k + 1, acc2, by omega, by go_num, rfl, hp, trivial, Hd.out⟩, by simp [intOf]; omega⟩
          · rw [if_neg hg] at hdk
            have Hd := hide (hd.trans hdk)
            have hg2 : c.toNat < 48 ∨ 57 < c.toNat := by omega
            clear hd hdk hc1 hg
            rcases hg2 with hg2 | hg2
            · have j1 : (c.toNat : Int) < 48 := by omega
              go_wp2_with fail
              go_ret
              exact ⟨by rw [He.out, Hd.out]; rfl, rfl⟩
            · have j1 : ¬ (c.toNat : Int) < 48 := by omega
              have j2 : (57 : Int) < (c.toNat : Int) := by omega
              go_wp2_with fail
              go_ret
              exact ⟨by rw [He.out, Hd.out]; rfl, rfl⟩
        · obtain rfl : k = s.size := by omega
          have i6 : ¬ (s.size : Int) < (s.size : Int) := by omega
          rw [List.drop_of_length_le (by rw [Hl.out]; exact Nat.le_refl _)] at hd
          have Hd := hide hd
          clear hd
          go_wp2_with fail
          go_ret
          exact ⟨by rw [He.out, Hd.out]; rfl, rfl⟩
end Go.Proofs.YtjgecmkfgeajiaaGreatDoor

namespace Go.Proofs.YtjgecmkfgeajiaaGreatDoor
open Go.RowKit

theorem info_TStr : (Tryz.prog.info? 9).map (fun i => (i.zero, i.size, i.bytes)) = some (some (.string ⟨#[]⟩), 1, 16) := by kernel_rfl
/-- How far a text is cut. -/
def CutS (c : UInt8) (l : List UInt8) (k f : Nat) (P : List (List UInt8)) : Prop := f ≤ k ∧ c ∉ (l.drop f).take (k - f) ∧ cutR c l = P ++ cutR c (l.drop f)
theorem cutS_start (c : UInt8) (l : List UInt8) : CutS c l 0 0 [] := ⟨Nat.le_refl _, by simp, rfl⟩
theorem cutS_no {c x : UInt8} {l : List UInt8} {k f : Nat} {P : List (List UInt8)} (h : CutS c l k f P) (hx : l[k]? = some x) (hne : x ≠ c) : CutS c l (k + 1) f P := by
  obtain ⟨h1, h2, h3⟩ := h
  refine ⟨by omega, ?_, h3⟩
  have e : (l.drop f).take (k + 1 - f) = (l.drop f).take (k - f) ++ [x] := by
    rw [show k + 1 - f = (k - f) + 1 by omega, List.take_add_one, List.getElem?_drop, show f + (k - f) = k by omega, hx]
    rfl
  rw [e, List.mem_append]
  rintro (h | h)
  · exact h2 h
  · simp at h; exact hne h.symm
theorem cutS_yes {c : UInt8} {l : List UInt8} {k f : Nat} {P : List (List UInt8)} (h : CutS c l k f P) (hx : l[k]? = some c) : CutS c l (k + 1) (k + 1) (P ++ [(l.drop f).take (k - f)]) := by
  obtain ⟨h1, h2, h3⟩ := h
  refine ⟨Nat.le_refl _, by simp, ?_⟩
  have hk := (List.getElem?_eq_some_iff.1 hx).1
  have e : l.drop f = (l.drop f).take (k - f) ++ c :: l.drop (k + 1) := by
    conv => lhs; rw [← List.take_append_drop (k - f) (l.drop f), List.drop_drop, show f + (k - f) = k by omega]
    rw [List.drop_eq_getElem_cons hk, (List.getElem?_eq_some_iff.1 hx).2]
  rw [h3, List.append_assoc]
  congr 1
  conv => lhs; rw [e, cutR_app c _ _ h2]
  rfl
theorem cutS_end {c : UInt8} {l : List UInt8} {f : Nat} {P : List (List UInt8)} (h : CutS c l l.length f P) : cutR c l = P ++ [l.drop f] := by
  obtain ⟨h1, h2, h3⟩ := h
  rw [List.take_of_length_le (by rw [List.length_drop]; omega)] at h2
  rw [h3, cutR_self c _ h2]
abbrev TStr : TypeId := 9
/-- A row of the call's own that holds these texts. -/
def OwnT (w : World) (base : Nat) (v : Value) (P : List (List UInt8)) : Prop := w.ownsRow base TStr 1 v P.length (P.map sV)

theorem rowcT {W : World} {g : Nat} {cs : Array Value} {t : TypeId} (hg : g = W.heap.size) : ∀ (j : Nat) (u : Value), cs.toList[j]? = some u → (W.alloc (.cells cs t)).cell? ⟨g, 0 + j, none⟩ = some u := fun j u hu => by
  subst hg
  rw [Nat.zero_add, (Blk.new W t cs).cell]
  simpa using hu
theorem extract_list (s : ByteArray) (f k : Nat) : s.extract f k = ⟨((s.data.toList.drop f).take (k - f)).toArray⟩ := by
  apply ByteArray.ext
  apply Array.toList_inj.1
  simp [ByteArray.data_extract, Array.toList_extract, List.extract_eq_take_drop]
theorem rowt_ge {w : World} {base : Nat} {v : Value} {P : List (List UInt8)} (h : OwnT w base v P) {g : Nat} (hg : v.ownBlock = some g) : base ≤ g := by
  rcases h.2 with ⟨rfl, _⟩ | ⟨g1, cap, cur, rfl, hb, _⟩
  · simp [Value.ownBlock] at hg
  · have : g1 = g := by simpa [Value.ownBlock] using hg
    omega

set_option maxRecDepth 8000 in
set_option maxHeartbeats 1000000 in
theorem cutRef_any (s : ByteArray) (c : UInt8) (w : World) (hs : s.size ≤ 1000000) :
    Calls Tryz.prog 50 #[.string s, .int .u8 (c.toNat : Int)] w fun e w1 => ∃ v, e = .returned v ∧ OwnT w1 w.heap.size v (cutR c s.data.toList) ∧ New w w1 := by
  have hl : s.data.toList.length = s.size := by simp
  obtain ⟨i0, hi0, hz0, hz1, hz2⟩ := info_parts info_TStr
  have Hi0 := hide hi0
  have Hz := hide (And.intro hz0 (And.intro hz1 hz2))
  clear hi0 hz0 hz1 hz2
  go_enter Tryz.func50, Tryz.ntmps50
  go_wp2_with fail
  go_loopw [5, 6, 7] (fun ov fv iv wz => ∃ (k f : Nat) (P : List (List UInt8)), k ≤ s.size ∧ iv = .int .i64 k ∧ fv = .int .i64 f ∧ New w wz ∧ OwnT wz w.heap.size ov P ∧ CutS c s.data.toList k f P ∧ P.length ≤ k) (fun _ _ iv _ => s.size - (intOf iv).toNat)
  case atStart => exact ⟨0, 0, [], by omega, rfl, rfl, Upd.refl _ _, World.ownsRow_nil _ _ _ _, cutS_start _ _, Nat.le_refl _⟩
  case round =>
    obtain ⟨k, f, P, hk, rfl, rfl, hu, ho, hc, hpl⟩ := hrel
    have HU := hide hu
    have HO := hide ho
    have HC := hide hc
    have hfk := hc.1
    clear hu ho hc
    obtain ⟨wo, rfl⟩ : ∃ wo : World, wo = wr := ⟨_, rfl⟩
    obtain ⟨lo, hlo⟩ : ∃ lo : Value, lo = u5 := ⟨_, rfl⟩
    rw [← hlo] at HO ⊢
    clear hlo
    by_cases hlt : k < s.size
    · have i6 : (k : Int) < (s.size : Int) := by omega
      obtain ⟨x, hx, hx1⟩ := byte_at s k hlt
      by_cases hxc : x = c
      · subst hxc
        have j1 : ((x.toNat : Int) == (x.toNat : Int)) = true := by simp
        have HC := hide (cutS_yes HC.out hx1)
        have i7 : (f : Int) ≤ (k : Int) := by omega
        have i8 : (k : Int) ≤ (s.size : Int) := by omega
        have i9 : k ≤ s.size := hk
        clear hx1
        have hws := HU.out.size
        go_wp2_with (at_builtin; refine append_src rfl (.tmp 19) (.tmp 24) 65 rfl w.heap.size TStr i0 _ 1 16 Tryz.underlying65 Hi0.out Hz.out.1 Hz.out.2.1 Hz.out.2.2 rfl (by omega) lo P.length (P.map sV) rfl (HO.out.alloc _) (some ⟨wo.heap.size, 0, none⟩) 1 1 [.string (s.extract f k)] rfl rfl (fun _ => ⟨_, _, rfl, rowcT rfl⟩) (by simp [Value.oneCell']) (by unfold maxLen; omega) (by omega) (by simp; omega) ?_)
        intro v' w' ho hg
        have hu9 : Upd (fun z => lo.ownBlock = some z) wo w' := ((Upd.refl _ wo).alloc _).trans' (Upd.of_grown hg fun _ _ h => h)
        have HU := hide (HU.out.trans hu9 fun z hz hx => by have := rowt_ge HO.out hx; omega)
        have HO := hide (show OwnT w' w.heap.size v' (P ++ [(s.data.toList.drop f).take (k - f)]) by
          unfold OwnT
          rw [List.length_append, List.map_append]
          rw [extract_list] at ho
          exact ho)
        clear ho hg hu9
        go_wp2_with fail
        exact ⟨⟨k + 1, k + 1, P ++ [(s.data.toList.drop f).take (k - f)], by omega, by go_num, by go_num, HU.out, HO.out, HC.out, by rw [List.length_append]; simp; omega⟩, by simp [intOf]; omega⟩
      · have j1 : ((x.toNat : Int) == (c.toNat : Int)) = false := by
          rw [beq_eq_false_iff_ne]
          intro h
          exact hxc (UInt8.toNat_inj.1 (by omega))
        have HC := hide (cutS_no HC.out hx1 hxc)
        clear hx1 hxc
        go_wp2_with fail
        exact ⟨⟨k + 1, f, P, by omega, by go_num, rfl, HU.out, HO.out, HC.out, by omega⟩, by simp [intOf]; omega⟩
    · obtain rfl : k = s.size := by omega
      have i6 : ¬ (s.size : Int) < (s.size : Int) := by omega
      have hce := HC.out
      rw [← hl] at hce
      have He := hide (cutS_end hce)
      clear hce
      have hws := HU.out.size
      go_wp2_with (at_builtin; refine append_src rfl (.tmp 28) (.tmp 32) 65 rfl w.heap.size TStr i0 _ 1 16 Tryz.underlying65 Hi0.out Hz.out.1 Hz.out.2.1 Hz.out.2.2 rfl (by omega) lo P.length (P.map sV) rfl (HO.out.alloc _) (some ⟨wo.heap.size, 0, none⟩) 1 1 [.string (s.extract f s.size)] rfl rfl (fun _ => ⟨_, _, rfl, rowcT rfl⟩) (by simp [Value.oneCell']) (by unfold maxLen; omega) (by omega) (by simp; omega) ?_)
      intro v' w' ho hg
      have hu9 : Upd (fun z => lo.ownBlock = some z) wo w' := ((Upd.refl _ wo).alloc _).trans' (Upd.of_grown hg fun _ _ h => h)
      have HU := hide (HU.out.trans hu9 fun z hz hx => by have := rowt_ge HO.out hx; omega)
      have HO := hide (show OwnT w' w.heap.size v' (cutR c s.data.toList) by
        rw [He.out]
        unfold OwnT
        rw [List.length_append, List.map_append]
        rw [extract_list, List.take_of_length_le (by rw [List.length_drop, hl]; exact Nat.le_refl _)] at ho
        exact ho)
      clear ho hg hu9
      go_wp2_with fail
      go_ret
      exact ⟨_, rfl, HO.out, HU.out⟩
end Go.Proofs.YtjgecmkfgeajiaaGreatDoor

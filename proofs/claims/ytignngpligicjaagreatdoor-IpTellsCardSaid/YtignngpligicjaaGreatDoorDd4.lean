/- The document's texts: Cut. No condition but those that stand in each theorem. -/
import Derived.Test.YtignngpligicjaaGreatDoorDd3
namespace Go.Proofs.YtignngpligicjaaGreatDoor
open Go.RowKit

theorem info_TStr : (Tryz.prog.info? 9).map (fun i => (i.zero, i.size, i.bytes)) = some (some (.string ⟨#[]⟩), 1, 16) := by kernel_rfl
/-- How far a text is cut. -/
def CutS (c : UInt8) (l : List UInt8) (k f : Nat) (P : List (List UInt8)) : Prop := f ≤ k ∧ c ∉ (l.drop f).take (k - f) ∧ cutR c l = P ++ cutR c (l.drop f)
theorem cutS_start (c : UInt8) (l : List UInt8) : CutS c l 0 0 [] := ⟨Nat.le_refl _, by simp, rfl⟩
theorem cutS_no {c x : UInt8} {l : List UInt8} {k f : Nat} {P : List (List UInt8)} (h : CutS c l k f P) (hx : l[k]? = some x) (hne : x ≠ c) : CutS c l (k + 1) f P := by
  obtain ⟨h1, h2, h3⟩ := h
  refine ⟨by omega, ?_, h3⟩
  have e : (l.drop f).take (k + 1 - f) = (l.drop f).take (k - f) ++ [x] := by
    rw [show k + 1 - f = (k - f) + 1 by omega, List.take_add_one, List.getElem?_drop, show f + (k - f) = k by omega, hx]
    rfl
  rw [e, List.mem_append]
  rintro (h | h)
  · exact h2 h
  · simp at h; exact hne h.symm
theorem cutS_yes {c : UInt8} {l : List UInt8} {k f : Nat} {P : List (List UInt8)} (h : CutS c l k f P) (hx : l[k]? = some c) : CutS c l (k + 1) (k + 1) (P ++ [(l.drop f).take (k - f)]) := by
  obtain ⟨h1, h2, h3⟩ := h
  refine ⟨Nat.le_refl _, by simp, ?_⟩
  have hk := (List.getElem?_eq_some_iff.1 hx).1
  have e : l.drop f = (l.drop f).take (k - f) ++ c :: l.drop (k + 1) := by
    conv => lhs; rw [← List.take_append_drop (k - f) (l.drop f), List.drop_drop, show f + (k - f) = k by omega]
    rw [List.drop_eq_getElem_cons hk, (List.getElem?_eq_some_iff.1 hx).2]
  rw [h3, List.append_assoc]
  congr 1
  conv => lhs; rw [e, cutR_app c _ _ h2]
  rfl
theorem cutS_end {c : UInt8} {l : List UInt8} {f : Nat} {P : List (List UInt8)} (h : CutS c l l.length f P) : cutR c l = P ++ [l.drop f] := by
  obtain ⟨h1, h2, h3⟩ := h
  rw [List.take_of_length_le (by rw [List.length_drop]; omega)] at h2
  rw [h3, cutR_self c _ h2]
abbrev TStr : TypeId := 9
/-- A row of the call's own that holds these texts. -/
def OwnT (w : World) (base : Nat) (v : Value) (P : List (List UInt8)) : Prop := w.ownsRow base TStr 1 v P.length (P.map sV)

theorem rowcT {W : World} {g : Nat} {cs : Array Value} {t : TypeId} (hg : g = W.heap.size) : ∀ (j : Nat) (u : Value), cs.toList[j]? = some u → (W.alloc (.cells cs t)).cell? ⟨g, 0 + j, none⟩ = some u := fun j u hu => by
  subst hg
  rw [Nat.zero_add, (Blk.new W t cs).cell]
  simpa using hu
theorem extract_list (s : ByteArray) (f k : Nat) : s.extract f k = ⟨((s.data.toList.drop f).take (k - f)).toArray⟩ := by
  apply ByteArray.ext
  apply Array.toList_inj.1
  simp [ByteArray.data_extract, Array.toList_extract, List.extract_eq_take_drop]
theorem rowt_ge {w : World} {base : Nat} {v : Value} {P : List (List UInt8)} (h : OwnT w base v P) {g : Nat} (hg : v.ownBlock = some g) : base ≤ g := by
  rcases h.2 with ⟨rfl, _⟩ | ⟨g1, cap, cur, rfl, hb, _⟩
  · simp [Value.ownBlock] at hg
  · have : g1 = g := by simpa [Value.ownBlock] using hg
    omega

set_option maxRecDepth 8000 in
set_option maxHeartbeats 1000000 in
theorem cutRef_any (s : ByteArray) (c : UInt8) (w : World) (hs : s.size ≤ 1000000) :
    Calls Tryz.prog 60 #[.string s, .int .u8 (c.toNat : Int)] w fun e w1 => ∃ v, e = .returned v ∧ OwnT w1 w.heap.size v (cutR c s.data.toList) ∧ New w w1 := by
  have hl : s.data.toList.length = s.size := by simp
  obtain ⟨i0, hi0, hz0, hz1, hz2⟩ := info_parts info_TStr
  have Hi0 := hide hi0
  have Hz := hide (And.intro hz0 (And.intro hz1 hz2))
  clear hi0 hz0 hz1 hz2
  go_enter Tryz.func60, Tryz.ntmps60
  go_wp2_with fail
  go_loopw [5, 6, 7] (fun ov fv iv wz => ∃ (k f : Nat) (P : List (List UInt8)), k ≤ s.size ∧ iv = .int .i64 k ∧ fv = .int .i64 f ∧ New w wz ∧ OwnT wz w.heap.size ov P ∧ CutS c s.data.toList k f P ∧ P.length ≤ k) (fun _ _ iv _ => s.size - (intOf iv).toNat)
  case atStart => exact ⟨0, 0, [], by omega, rfl, rfl, Upd.refl _ _, World.ownsRow_nil _ _ _ _, cutS_start _ _, Nat.le_refl _⟩
  case round =>
    obtain ⟨k, f, P, hk, rfl, rfl, hu, ho, hc, hpl⟩ := hrel
    have HU := hide hu
    have HO := hide ho
    have HC := hide hc
    have hfk := hc.1
    clear hu ho hc
    obtain ⟨wo, rfl⟩ : ∃ wo : World, wo = wr := ⟨_, rfl⟩
    obtain ⟨lo, hlo⟩ : ∃ lo : Value, lo = u5 := ⟨_, rfl⟩
    rw [← hlo] at HO ⊢
    clear hlo
    by_cases hlt : k < s.size
    · have i6 : (k : Int) < (s.size : Int) := by omega
      obtain ⟨x, hx, hx1⟩ := byte_at s k hlt
      by_cases hxc : x = c
      · subst hxc
        have j1 : ((x.toNat : Int) == (x.toNat : Int)) = true := by simp
        have HC := hide (cutS_yes HC.out hx1)
        have i7 : (f : Int) ≤ (k : Int) := by omega
        have i8 : (k : Int) ≤ (s.size : Int) := by omega
        have i9 : k ≤ s.size := hk
        clear hx1
        have hws := HU.out.size
        go_wp2_with (at_builtin; refine append_src rfl (.tmp 19) (.tmp 24) 81 rfl w.heap.size TStr i0 _ 1 16 Tryz.underlying81 Hi0.out Hz.out.1 Hz.out.2.1 Hz.out.2.2 rfl (by omega) lo P.length (P.map sV) rfl (HO.out.alloc _) (some ⟨wo.heap.size, 0, none⟩) 1 1 [.string (s.extract f k)] rfl rfl (fun _ => ⟨_, _, rfl, rowcT rfl⟩) (by simp [Value.oneCell']) (by unfold maxLen; omega) (by omega) (by simp; omega) ?_)
        intro v' w' ho hg
        have hu9 : Upd (fun z => lo.ownBlock = some z) wo w' := ((Upd.refl _ wo).alloc _).trans' (Upd.of_grown hg fun _ _ h => h)
        have HU := hide (HU.out.trans hu9 fun z hz hx => by have := rowt_ge HO.out hx; omega)
        have HO := hide (show OwnT w' w.heap.size v' (P ++ [(s.data.toList.drop f).take (k - f)]) by
          unfold OwnT
          rw [List.length_append, List.map_append]
          rw [extract_list] at ho
          exact ho)
        clear ho hg hu9
        go_wp2_with fail
        exact ⟨⟨k + 1, k + 1, P ++ [(s.data.toList.drop f).take (k - f)], by omega, by go_num, by go_num, HU.out, HO.out, HC.out, by rw [List.length_append]; simp; omega⟩, by simp [intOf]; omega⟩
      · have j1 : ((x.toNat : Int) == (c.toNat : Int)) = false := by
          rw [beq_eq_false_iff_ne]
          intro h
          exact hxc (UInt8.toNat_inj.1 (by omega))
        have HC := hide (cutS_no HC.out hx1 hxc)
        clear hx1 hxc
        go_wp2_with fail
        exact ⟨⟨k + 1, f, P, by omega, by go_num, rfl, HU.out, HO.out, HC.out, by omega⟩, by simp [intOf]; omega⟩
    · obtain rfl : k = s.size := by omega
      have i6 : ¬ (s.size : Int) < (s.size : Int) := by omega
      have hce := HC.out
      rw [← hl] at hce
      have He := hide (cutS_end hce)
      clear hce
      have hws := HU.out.size
      go_wp2_with (at_builtin; refine append_src rfl (.tmp 28) (.tmp 32) 81 rfl w.heap.size TStr i0 _ 1 16 Tryz.underlying81 Hi0.out Hz.out.1 Hz.out.2.1 Hz.out.2.2 rfl (by omega) lo P.length (P.map sV) rfl (HO.out.alloc _) (some ⟨wo.heap.size, 0, none⟩) 1 1 [.string (s.extract f s.size)] rfl rfl (fun _ => ⟨_, _, rfl, rowcT rfl⟩) (by simp [Value.oneCell']) (by unfold maxLen; omega) (by omega) (by simp; omega) ?_)
      intro v' w' ho hg
      have hu9 : Upd (fun z => lo.ownBlock = some z) wo w' := ((Upd.refl _ wo).alloc _).trans' (Upd.of_grown hg fun _ _ h => h)
      have HU := hide (HU.out.trans hu9 fun z hz hx => by have := rowt_ge HO.out hx; omega)
      have HO := hide (show OwnT w' w.heap.size v' (cutR c s.data.toList) by
        rw [He.out]
        unfold OwnT
        rw [List.length_append, List.map_append]
        rw [extract_list, List.take_of_length_le (by rw [List.length_drop, hl]; exact Nat.le_refl _)] at ho
        exact ho)
      clear ho hg hu9
      go_wp2_with fail
      go_ret
      exact ⟨_, rfl, HO.out, HU.out⟩
end Go.Proofs.YtignngpligicjaaGreatDoor

/- The stable sort of no more than 39 routes. No condition but those that stand in each theorem. -/
import Derived.Test.YtlealjcllbpgkaaSy2
import Derived.Shelf.SlSortCmp.PdqK
namespace Go.Proofs.Ytlealjcllbpgkaa
open Go Go.Proofs Go.Shelf Go.RowKit Go.Lib Go.Sort
def sr_ren : Go.Shelf.Ren := ⟨fun | 20 => 36 | n => n, fun | 0 => 0 | 3 => 3 | 4 => 4 | 22 => 22 | 24 => 31 | 25 => 39 | n => n, fun | n => n⟩
theorem sr_lays : Go.Proofs.SlLaysF0.n20 Try.prog sr_ren := {
  mixed := by kernel_rfl
  f20 := ⟨Try.f36.name, by decide, Try.func36.trans (congrArg some (by kernel_rfl))⟩
  t0 := Try.underlying0
  a0 := Try.isAgg0
  z0 := Try.sizeOf0
  v0 := Try.zeroValue0
  t3 := Try.underlying3
  a3 := Try.isAgg3
  z3 := Try.sizeOf3
  v3 := Try.zeroValue3
  t4 := Try.underlying4
  a4 := Try.isAgg4
  z4 := Try.sizeOf4
  v4 := Try.zeroValue4
  t22 := Try.underlying22
  a22 := Try.isAgg22
  z22 := Try.sizeOf22
  v22 := Try.zeroValue22
  t25 := Try.underlying39
  a25 := Try.isAgg39
  z25 := Try.sizeOf39
  v25 := Try.zeroValue39 }
section
variable {α : Type} [Inhabited α]
omit [Inhabited α] in
theorem swo_of {lt : α → α → Bool} (h : SwoL lt) : Go.Sort.SWO lt where
  irrefl := h.irr
  trans x y z h1 h2 := by
    rcases h.neg x z y h1 with e | e
    · exact e
    · rw [h.asym y z h2] at e; cases e
  ntrans x y z h1 h2 := by
    cases e : lt x z with
    | false => rfl
    | true =>
      rcases h.neg x y z e with e1 | e1
      · rw [e1] at h1; cases h1
      · rw [e1] at h2; cases h2
theorem extract_range (d : Array α) (a b : Nat) (h : b ≤ d.size) : (d.extract a b).toList = (List.range' a (b - a)).map fun t => d[t]! := by
  refine List.ext_getElem? fun i => ?_
  by_cases hi : i < b - a
  · rw [List.getElem?_map, List.getElem?_range' hi]
    rw [Array.getElem?_toList, Array.getElem?_extract, if_pos (by omega), Array.getElem?_eq_getElem (by omega)]
    rw [Option.map_some, getElem!_pos d (a + 1 * i) (by omega)]
    simp
  · rw [List.getElem?_eq_none (by simp; omega), List.getElem?_eq_none (by simp; omega)]
theorem mof_of {d d1 : Array α} {a b : Nat} (h : Go.Sort.PermIn a b d d1) (hb : b ≤ d.size) : MOf d d1 a b := by
  obtain ⟨h1, h2, h3⟩ := h
  refine ⟨h1, fun t ht => h2 t (by omega), ?_⟩
  rw [extract_range d1 a b (by omega), extract_range d a b hb] at h3
  exact h3
theorem insert_any (enc : α → List Value) (cf : α → α → Int) (g : Nat) (eg : ∀ args w, (callFunc g args).run Try.prog w = .ok (.enter g args) w) (hS : SwoL (ltOf cf)) (blk off cap a b N : Nat) (d0 d : Array α) (w0 w : World)
    (R : RowK enc 8 w0 blk off d0) (hcmp : CmpLays Try.prog g #[] enc 8 cf blk off d0.size w0) (hN : d0.size = N) (hd : d.size = N) (S : SWK enc 8 w0 blk off d w) (hab : a ≤ b) (hb : b ≤ N) (hsz : N ≤ 4096) :
    Calls Try.prog 36 #[.slice (some ⟨blk, off, none⟩) N cap, .int .i64 a, .int .i64 b, .func (.func g) #[] #[]] w fun e w' => e = .returned (.tuple #[]) ∧ ∃ d', MOf d d' a b ∧ SrtIn (ltOf cf) d' a b ∧ SWK enc 8 w0 blk off d' w' := by
  subst hd
  refine (AnyQ.insertionSortCmpFunc_w (P := Try.prog) (ρ := sr_ren) sr_lays 8 Try.isAgg31 Try.sizeOf31 enc cf g #[] blk off cap a b d0 d w0 w eg hcmp R hN S (swo_of hS) hab hb (by omega) : Calls Try.prog 36 _ _ _).mono ?_
  rintro e w' ⟨rfl, h⟩
  have hp := Go.Sort.insertionSort_holds (swo_of hS) d a b hab hb
  exact ⟨rfl, _, mof_of hp.1 hb, hp.2, h⟩
theorem MOf.wide0 {d d1 : Array α} {a b N : Nat} (h : MOf d d1 a b) (hab : a ≤ b) (hb : b ≤ N) : MOf d d1 0 N := h.wide (Nat.zero_le _) hab hb
theorem SrtIn.keptL {lt : α → α → Bool} {d d1 : Array α} {a b x y : Nat} (h : SrtIn lt d x y) (hm : MOf d d1 a b) (hy : y ≤ a) : SrtIn lt d1 x y := fun i j hi hij hj => by
  rw [hm.out i (by omega), hm.out j (by omega)]
  exact h i j hi hij hj
set_option maxHeartbeats 4000000 in
set_option maxRecDepth 100000 in
theorem stable_any (enc : α → List Value) (cf : α → α → Int) (g : Nat) (eg : ∀ args w, (callFunc g args).run Try.prog w = .ok (.enter g args) w) (hS : SwoL (ltOf cf)) (blk off cap N : Nat) (d0 : Array α) (w0 : World)
    (R : RowK enc 8 w0 blk off d0) (hcmp : CmpLays Try.prog g #[] enc 8 cf blk off d0.size w0) (hN : d0.size = N) (hsz : N ≤ 39) :
    Calls Try.prog 35 #[.slice (some ⟨blk, off, none⟩) N cap, .int .i64 N, .func (.func g) #[] #[]] w0 fun e w' => e = .returned (.tuple #[]) ∧ ∃ d', MOf d0 d' 0 N ∧ SrtIn (ltOf cf) d' 0 N ∧ SWK enc 8 w0 blk off d' w' := by
  have HI := hide (fun (a b : Nat) (d : Array α) (w : World) (hd : d.size = N) (S : SWK enc 8 w0 blk off d w) (hab : a ≤ b) (hb : b ≤ N) => insert_any enc cf g eg hS blk off cap a b N d0 d w0 w R hcmp hN hd S hab hb (by omega))
  have HM := hide (fun (m : Nat) (d : Array α) (w : World) (hd : d.size = N) (S : SWK enc 8 w0 blk off d w) (h0 : 0 < m) (hm : m < N) (s1 : SrtIn (ltOf cf) d 0 m) (s2 : SrtIn (ltOf cf) d m N) => symMergeP 8 sLays enc cf g eg hS blk off cap N d0 w0 R hcmp hN (by omega) N 0 m N d w (by omega) hd S h0 hm (Nat.le_refl _) s1 s2)
  have HS0 := hide (SWK.start R.hH)
  have HN := hide hN
  clear hN hcmp R eg hS
  go_enter Try.func35, Try.ntmps35
  go_upto_region 2 with (fail)
  go_loopw [7, 8] (fun va vb wr => (va = .int .i64 0 ∧ vb = .int .i64 20 ∧ Hid (SWK enc 8 w0 blk off d0 wr)) ∨ (va = .int .i64 20 ∧ vb = .int .i64 40 ∧ 20 ≤ N ∧ ∃ dk : Array α, Hid (dk.size = N ∧ MOf d0 dk 0 N ∧ SrtIn (ltOf cf) dk 0 20 ∧ SWK enc 8 w0 blk off dk wr))) (fun va _ _ => 100 - (intOf va).toNat)
  case atStart => exact Or.inl ⟨rfl, rfl, HS0.out⟩
  case round =>
    clear HS0
    rcases hrel with ⟨rfl, rfl, S1⟩ | ⟨rfl, rfl, h20, dk, S1⟩
    · by_cases h20 : 20 ≤ N
      · have e1 : (20 : Int) ≤ (N : Int) := by omega
        have Hc := hide (HI.out 0 20 d0 _ HN.out S1.out (by omega) h20)
        go_wp2_with ((go_at_call 36; refine Hc.out.mono ?_; rintro e w' ⟨rfl, d1, hm, hs, hw⟩))
        exact ⟨Or.inr ⟨by go_num, by go_num, h20, d1, ⟨hm.size.trans HN.out, hm.wide0 (by omega) h20, hs, hw⟩⟩, by simp [intOf]⟩
      · have e1 : ¬ (20 : Int) ≤ (N : Int) := by omega
        have e2 : (N : Int) < 20 := by omega
        have Hc := hide (HI.out 0 N d0 _ HN.out S1.out (by omega) (by omega))
        clear h20
        go_upto_region 7 with ((go_at_call 36; refine Hc.out.mono ?_; rintro e w' ⟨rfl, d1, hm, hs, hw⟩))
        have HW := hide (And.intro hm (And.intro hs hw))
        clear hm hs hw Hc S1
        go_loopw [6, 7, 8, 9] (fun v6 _ _ _ wr => v6 = .int .i64 20 ∧ w' = wr) (fun v6 _ _ _ _ => 100 - (intOf v6).toNat)
        case atStart => exact ⟨rfl, rfl⟩
        case round =>
          obtain ⟨rfl, rfl⟩ := hrel
          have e3 : ¬ (20 : Int) < (N : Int) := by omega
          go_wp2_with fail
          go_end0
          exact ⟨rfl, d1, HW.out.1, HW.out.2.1, HW.out.2.2⟩
    · have e1 : ¬ (40 : Int) ≤ (N : Int) := by omega
      have e2 : (N : Int) < 40 := by omega
      have Hc := hide (HI.out 20 N dk _ S1.out.1 S1.out.2.2.2 h20 (by omega))
      go_upto_region 7 with ((go_at_call 36; refine Hc.out.mono ?_; rintro e w' ⟨rfl, d1, hm, hs, hw⟩))
      have HW := hide (show d1.size = N ∧ MOf d0 d1 0 N ∧ SrtIn (ltOf cf) d1 0 20 ∧ SrtIn (ltOf cf) d1 20 N ∧ SWK enc 8 w0 blk off d1 w' from
        ⟨hm.size.trans S1.out.1, S1.out.2.1.trans (hm.wide0 h20 (Nat.le_refl _)), S1.out.2.2.1.keptL hm (Nat.le_refl _), hs, hw⟩)
      clear hm hs hw Hc S1
      by_cases h21 : N = 20
      · have H21 := hide h21
        go_loopw [6, 7, 8, 9] (fun v6 _ _ _ wr => v6 = .int .i64 20 ∧ w' = wr) (fun v6 _ _ _ _ => 100 - (intOf v6).toNat)
        case atStart => exact ⟨rfl, rfl⟩
        case round =>
          obtain ⟨rfl, rfl⟩ := hrel
          have e3 : ¬ (20 : Int) < (N : Int) := by omega
          clear h21
          go_wp2_with fail
          go_end0
          exact ⟨rfl, d1, HW.out.2.1, by rw [H21.out]; exact HW.out.2.2.1, HW.out.2.2.2.2⟩
      · have hlt : 20 < N := by omega
        have Hc := hide (HM.out 20 d1 w' HW.out.1 HW.out.2.2.2.2 (by omega) hlt HW.out.2.2.1 HW.out.2.2.2.1)
        clear h21
        go_loopw [6, 7, 8, 9] (fun v6 _ _ _ wr => (v6 = .int .i64 20 ∧ w' = wr) ∨ (v6 = .int .i64 40 ∧ ∃ d2, Hid (MOf d0 d2 0 N ∧ SrtIn (ltOf cf) d2 0 N ∧ SWK enc 8 w0 blk off d2 wr))) (fun v6 _ _ _ _ => 100 - (intOf v6).toNat)
        case atStart => exact Or.inl ⟨rfl, rfl⟩
        case round =>
          rcases hrel with ⟨rfl, rfl⟩ | ⟨rfl, d2, H2⟩
          · have e3 : (20 : Int) < (N : Int) := by omega
            go_upto_region 9 with (fail)
            go_loopw [7, 8] (fun va vb wr => va = .int .i64 0 ∧ vb = .int .i64 40 ∧ w' = wr) (fun va _ _ => 100 - (intOf va).toNat)
            case atStart => exact ⟨rfl, by go_num, rfl⟩
            case round =>
              obtain ⟨rfl, rfl, rfl⟩ := hrel
              go_wp2_with ((go_at_call 37; refine Hc.out.mono ?_; rintro e w2 ⟨rfl, d2, hm, hs, hw⟩))
              exact ⟨Or.inr ⟨by go_num, d2, ⟨HW.out.2.1.trans hm, hs, hw⟩⟩, by simp [intOf]⟩
          · have e3 : ¬ (40 : Int) < (N : Int) := by omega
            go_wp2_with fail
            go_end0
            exact ⟨rfl, d2, H2.out⟩
end
end Go.Proofs.Ytlealjcllbpgkaa

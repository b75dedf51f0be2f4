/- The document's texts: list, AttrText. No condition but those that stand in each theorem. -/
import Derived.Test.YtjgecmkfgeajiaaGreatDoorLgA
import Derived.Test.YtjgecmkfgeajiaaGreatDoorDd1
import Derived.Test.YtjgecmkfgeajiaaGreatDoorRf3
namespace Go.Proofs.YtjgecmkfgeajiaaGreatDoor
open Go.RowKit

theorem joinC_snoc (c : UInt8) (y : List UInt8) : ∀ l : List (List UInt8), l ≠ [] → joinC c (l ++ [y]) = joinC c l ++ c :: y
  | [], h => absurd rfl h
  | [p], _ => rfl
  | p :: q :: l, _ => by
    have h := joinC_snoc c y (q :: l) (by simp)
    show p ++ c :: joinC c (q :: l ++ [y]) = (p ++ c :: joinC c (q :: l)) ++ c :: y
    rw [h]
    simp
theorem join_bytes (x : List UInt8) (d : UInt8) (y : List UInt8) : (((⟨x.toArray⟩ : ByteArray) ++ ⟨#[d]⟩) ++ ⟨y.toArray⟩) = ⟨(x ++ d :: y).toArray⟩ := by
  apply ByteArray.ext
  simp

set_option maxRecDepth 8000 in
set_option maxHeartbeats 1000000 in
theorem listRef_any (A : Option Addr) (n c : Nat) (d : UInt8) (xs : List Int) (w : World) (hx : Ints w A xs) (hn : xs.length = n) (hl : n ≤ 1000) (hr : ∀ x ∈ xs, 0 ≤ x ∧ x ≤ 999999999) :
    Calls Tryz.prog 89 #[.slice A n c, .string ⟨#[d]⟩] w fun e w1 => e = .returned (.string ⟨(joinT d xs).toArray⟩) ∧ New w w1 := by
  have HX := hide hx
  have HR := hide hr
  have HN := hide hn
  clear hx hr hn
  by_cases h0 : n = 0
  · have He := hide (show joinT d xs = [45] from by
      unfold joinT
      rw [if_pos (List.length_eq_zero_iff.1 (by rw [HN.out]; exact h0))])
    subst h0
    go_enter Tryz.func89, Tryz.ntmps89
    go_wp2_with fail
    go_ret
    exact ⟨by rw [He.out]; rfl, Upd.refl _ _⟩
  have he : joinT d xs = joinC d (xs.map Lib.itoa) := if_neg fun e => h0 (by rw [← HN.out, e]; rfl)
  have i0 : ((n : Int) == 0) = false := by rw [beq_eq_false_iff_ne]; omega
  have He := hide he
  obtain ⟨b, o, x0, hA, hb, hx0, hc0⟩ := HX.out.at_ (k := 0) (by rw [HN.out]; omega)
  subst hA
  obtain ⟨r0, r1⟩ := HR.out x0 (List.mem_of_getElem? hx0)
  have hd0 := decimal_nat x0.toNat w (by omega)
  rw [Int.toNat_of_nonneg r0, ← itoa_dec r0] at hd0
  have Hd0 := hide hd0
  have Hs0 := hide (show joinC d ((xs.take 1).map Lib.itoa) = Lib.itoa x0 from by
    rw [List.take_add_one, hx0]; rfl)
  have hc0 : w.cell? ⟨b, o, none⟩ = some (.int .i64 x0) := hc0
  clear he hd0 hx0 r0 r1
  go_enter Tryz.func89, Tryz.ntmps89
  go_wp2_with fail
  refine Hd0.out.mono ?_
  rintro e w1 ⟨rfl, hu⟩
  have U := hide hu
  clear hu hc0 Hd0 hb
  have hn1 : 1 ≤ n := by omega
  clear h0
  go_wp2_with fail
  go_loopw [5, 6] (fun sv iv wz => ∃ k : Nat, 1 ≤ k ∧ k ≤ n ∧ iv = .int .i64 k ∧ sv = .string ⟨(joinC d ((xs.take k).map Lib.itoa)).toArray⟩ ∧ New w wz) (fun _ iv _ => n - (intOf iv).toNat)
  case atStart => exact ⟨1, by omega, hn1, rfl, by rw [Hs0.out], U.out⟩
  case round =>
    obtain ⟨k, hk1, hk, rfl, rfl, hu⟩ := hrel
    have U := hide hu
    clear hu
    by_cases hlt : k < n
    · have i6 : (k : Int) < (n : Int) := by omega
      obtain ⟨b', o', x, hA, hb, hxk, hcx⟩ := (HX.out.new_ U.out).at_ (k := k) (by rw [HN.out]; exact hlt)
      injection hA with hA
      injection hA with hA1 hA2 _
      subst hA1; subst hA2
      obtain ⟨r0, r1⟩ := HR.out x (List.mem_of_getElem? hxk)
      have hd := decimal_nat x.toNat wr (by omega)
      rw [Int.toNat_of_nonneg r0, ← itoa_dec r0] at hd
      have hst : joinC d ((xs.take (k + 1)).map Lib.itoa) = joinC d ((xs.take k).map Lib.itoa) ++ d :: Lib.itoa x := by
        rw [List.take_add_one, hxk, List.map_append]
        exact joinC_snoc d _ _ (by
          intro e
          have := congrArg List.length e
          rw [List.length_map, List.length_take, HN.out] at this
          simp at this
          omega)
      have hsh := itoa_short r0 r1
      have hln := joinC_len d 9 ((xs.take k).map Lib.itoa) (by
        intro p hp
        obtain ⟨y, hy, rfl⟩ := List.mem_map.1 hp
        have := HR.out y (List.mem_of_mem_take hy)
        exact itoa_short this.1 this.2)
      rw [List.length_map, List.length_take, HN.out] at hln
      have hln : (joinC d ((xs.take k).map Lib.itoa)).length ≤ 100000 := by omega
      generalize joinC d ((xs.take k).map Lib.itoa) = S at *
      generalize Lib.itoa x = D at *
      have Hst := hide hst
      have Hd := hide hd
      have hb1 : ¬ 9223372036854775807 < S.length + 1 := by omega
      have hb2 : ¬ 9223372036854775807 < S.length + 1 + D.length := by omega
      clear hst hd hsh hln r0 r1 hxk
      go_wp2_with fail
      refine Hd.out.mono ?_
      rintro e w2 ⟨rfl, hu⟩
      have U := hide (U.out.trans_new hu)
      clear hu hcx hb
      go_wp2_with fail
      exact ⟨⟨k + 1, by omega, by omega, by go_num, by rw [Hst.out, ← join_bytes], U.out⟩, by simp [intOf]; omega⟩
    · obtain rfl : k = n := by omega
      have i6 : ¬ (k : Int) < (k : Int) := by omega
      rw [List.take_of_length_le (by rw [HN.out]; exact Nat.le_refl _)]
      go_wp2_with fail
      go_ret
      exact ⟨by rw [He.out]; rfl, U.out⟩
theorem field_at0 (x y : Value) (w : World) : (Instr.field TRF (.agg #[x, y]) 0).run Tryz.prog w = .ok x w := by kernel_rfl
theorem attr_app (x y z t u : List UInt8) : (((((((((⟨x.toArray⟩ : ByteArray) ++ ⟨#[32]⟩) ++ ⟨y.toArray⟩) ++ ⟨#[32]⟩) ++ ⟨z.toArray⟩) ++ ⟨#[32]⟩) ++ ⟨t.toArray⟩) ++ ⟨#[32]⟩) ++ ⟨u.toArray⟩) = ⟨(x ++ 32 :: ((y ++ 32 :: (z ++ 32 :: t)) ++ 32 :: u)).toArray⟩ := by
  apply ByteArray.ext
  simp

set_option maxRecDepth 8000 in
set_option maxHeartbeats 2000000 in
theorem attrTextRef_any (a : AttrR) (w : World) (ha : AttrOk w a) (hl : a.path.length ≤ 1000) (hl2 : a.tags.length ≤ 1000) :
    Calls Tryz.prog 49 #[.agg a.cells] w fun e w1 => e = .returned (.string ⟨(attrT a).toArray⟩) ∧ New w w1 := by
  have u := (Upd.refl (fun _ => False) w).alloc (.cells a.cells TA)
  have Hck := hide (attrFault_any a _ (ha.new_ u) hl hl2)
  have HA := hide (ha.new_ u)
  have HX := hide (Blk.new w TA a.cells)
  have N := hide u
  have Hg := hide (fun (h : (attrC a).1 = 0) => attrC_good h)
  have He := hide (show attrT a = if (attrC a).1 = 0 then attrW a.path a.pref a.med a.origin a.tags else [] from rfl)
  generalize attrC a = C at *
  obtain ⟨P, pc, p, f, g, o, T, tc, t⟩ := a
  unfold AttrR.cells at *
  unfold faultV at Hck
  dsimp only at *
  obtain ⟨ap, at_, al, al2⟩ := HA.out
  dsimp only at ap at_ al al2
  have HP := hide ap
  have HQ := hide at_
  have hfc := field_at0
  clear ha u HA ap at_ al al2
  go_enter Tryz.func49, Tryz.ntmps49
  go_upto_region 1 with (fail)
  generalize w.alloc (.cells #[.slice P p.length pc, .int .i64 f, .int .i64 g, .int .i64 o, .slice T t.length tc] TA) = W at *
  generalize w.heap.size = X at *
  have bq := HX.out
  have x0 := bq.cell 0
  have x1 := bq.cell 1
  have x2 := bq.cell 2
  have x3 := bq.cell 3
  have x4 := bq.cell 4
  have xz := bq.lt
  simp only [List.getElem?_toArray, List.getElem?_cons_zero, List.getElem?_cons_succ] at x0 x1 x2 x3 x4
  clear bq
  go_wp2_with fail
  refine Hck.out.mono ?_
  rintro e w1 ⟨rfl, hu⟩
  have HX := hide (HX.out.new_ hu)
  have HP := hide (HP.out.new_ hu)
  have HQ := hide (HQ.out.new_ hu)
  have N := hide (N.out.trans_new hu)
  clear hu Hck x0 x1 x2 x3 x4 xz
  obtain ⟨C1, C2⟩ := C
  dsimp only at Hg He ⊢
  by_cases hk : C1 = 0
  rotate_left
  · have he := He.out
    rw [if_neg hk] at he
    have He := hide he
    have k3 : (0 : Int) < (C1 : Int) := by omega
    have k4 : 0 < C1 := by omega
    clear he hk
    go_wp2_with fail
    go_ret
    exact ⟨by rw [He.out]; rfl, N.out⟩
  · have he := He.out
    rw [if_pos hk] at he
    have G := hide (Hg.out hk)
    have He := hide he
    subst hk
    clear he
    have g9 := G.out
    have L1 := hide (show ∀ x ∈ p, 0 ≤ x ∧ x ≤ 999999999 from fun x hx => by have := g9.path x hx; omega)
    have L3 := hide (show ∀ x ∈ t, 0 ≤ x ∧ x ≤ 999999999 from fun x hx => by have := g9.tags x hx; omega)
    have q1 := joinT_len (c := 45) L1.out
    have q3 := joinT_len (c := 44) L3.out
    have j1 := g9.pl
    have j2 := g9.tl
    have dd : ∀ x : Int, 0 ≤ x → x ≤ 1000 → ∀ w', Calls Tryz.prog 47 #[.int .i64 x] w' fun e w1 => e = .returned (.string ⟨(Lib.itoa x).toArray⟩) ∧ New w' w1 := fun x h0 h1 w' => by
      have h := decimal_nat x.toNat w' (by omega)
      rw [Int.toNat_of_nonneg h0, ← itoa_dec h0] at h
      exact h
    have D1 := hide (dd f g9.pref.1 g9.pref.2)
    have D2 := hide (dd g g9.med.1 g9.med.2)
    have D3 := hide (dd o g9.origin.1 (by have := g9.origin; omega))
    have s1 := itoa_short g9.pref.1 (by have := g9.pref; omega)
    have s2 := itoa_short g9.med.1 (by have := g9.med; omega)
    have s3 := itoa_short g9.origin.1 (by have := g9.origin; omega)
    have J1 := hide (fun w' (nw : New w1 w') => listRef_any P p.length pc 45 p w' (HP.out.new_ nw) rfl (by omega) L1.out)
    have J3 := hide (fun w' (nw : New w1 w') => listRef_any T t.length tc 44 t w' (HQ.out.new_ nw) rfl (by omega) L3.out)
    have hw : attrW p f g o t = joinT 45 p ++ 32 :: ((Lib.itoa f ++ 32 :: (Lib.itoa g ++ 32 :: Lib.itoa o)) ++ 32 :: joinT 44 t) := by
      unfold attrW
      have : joinT 32 [f, g, o] = joinC 32 [Lib.itoa f, Lib.itoa g, Lib.itoa o] := by
        unfold joinT
        rw [if_neg (by simp)]
        rfl
      rw [this]
      rfl
    rw [hw] at He
    have q1 : (joinT 45 p).length ≤ 1000 := by omega
    have q3 : (joinT 44 t).length ≤ 1000 := by omega
    generalize joinT 45 p = A1 at *
    generalize joinT 44 t = A5 at *
    generalize Lib.itoa f = A2 at *
    generalize Lib.itoa g = A3 at *
    generalize Lib.itoa o = A4 at *
    clear g9 j1 j2 dd hw
    have b1 : ¬ 9223372036854775807 < A1.length + 1 := by omega
    have b2 : ¬ 9223372036854775807 < A1.length + 1 + A2.length := by omega
    have b3 : ¬ 9223372036854775807 < A1.length + 1 + A2.length + 1 := by omega
    have b4 : ¬ 9223372036854775807 < A1.length + 1 + A2.length + 1 + A3.length := by omega
    have b5 : ¬ 9223372036854775807 < A1.length + 1 + A2.length + 1 + A3.length + 1 := by omega
    have b6 : ¬ 9223372036854775807 < A1.length + 1 + A2.length + 1 + A3.length + 1 + A4.length := by omega
    have b7 : ¬ 9223372036854775807 < A1.length + 1 + A2.length + 1 + A3.length + 1 + A4.length + 1 := by omega
    have b8 : ¬ 9223372036854775807 < A1.length + 1 + A2.length + 1 + A3.length + 1 + A4.length + 1 + A5.length := by omega
    clear q1 q3 s1 s2 s3
    have bq := HX.out
    have x0 := bq.cell 0
    have x1 := bq.cell 1
    have x2 := bq.cell 2
    have x3 := bq.cell 3
    have x4 := bq.cell 4
    have xz := bq.lt
    simp only [List.getElem?_toArray, List.getElem?_cons_zero, List.getElem?_cons_succ] at x0 x1 x2 x3 x4
    clear bq
    go_upto_region 3 with (fail)
    refine wp_region_new w1 (Upd.refl _ _) (by kernel_rfl) (by kernel_rfl) ?_
    repeat (go_big_quiet_step (first | (go_at_call_of 89 (Value.string ⟨#[45]⟩); exact new_call (J1.out _ (NewW.h _))) | (go_at_call_of 89 (Value.string ⟨#[44]⟩); exact new_call (J3.out _ (NewW.h _))) | (go_at_call_of 47 (Value.int IntKind.i64 f); exact new_call (D1.out _)) | (go_at_call_of 47 (Value.int IntKind.i64 g); exact new_call (D2.out _)) | (go_at_call_of 47 (Value.int IntKind.i64 o); exact new_call (D3.out _))))
    refine wpQuiet_nil ?_
    rintro _ ⟨nq, rfl⟩
    have N := hide (N.out.trans_new nq.h)
    go_wp2_with fail
    go_ret
    refine ⟨?_, N.out⟩
    rw [He.out]
    exact congrArg (fun z => Ending.returned (.string z)) (attr_app A1 A2 A3 A4 A5)
end Go.Proofs.YtjgecmkfgeajiaaGreatDoor

namespace Go.Proofs.YtjgecmkfgeajiaaGreatDoor
open Go.RowKit

theorem numV_R (p : List UInt8) : (0 ≤ numR p → numV p 999999999 = some (numR p)) ∧ (numR p < 0 → numV p 999999999 = none) := by
  rw [numV_numR p _ (by omega)]
  have := numR_lt p
  exact ⟨fun h => if_pos ⟨h, this.1⟩, fun h => if_neg (by omega)⟩

set_option maxRecDepth 8000 in
set_option maxHeartbeats 2000000 in
theorem numbersOf_any (A : Option Addr) (n c : Nat) (ps : List (List UInt8)) (w : World) (hx : Ss w A ps) (hn : ps.length = n) (hl : n ≤ 100000) (hp : ∀ p ∈ ps, p.length ≤ 1000000) :
    Calls Tryz.prog 93 #[.slice A n c] w (NumsPost (numsL ps) w) := by
  obtain ⟨i0, hi0, hz0, hz1, hz2⟩ := info_parts info_TInt5
  have Hi0 := hide hi0
  have Hz := hide (And.intro hz0 (And.intro hz1 hz2))
  have HS := hide hx
  have HN := hide hn
  have Hpi := hide hp
  clear hi0 hz0 hz1 hz2 hx hn hp
  go_enter Tryz.func93, Tryz.ntmps93
  go_wp2_with fail
  go_loopw [4, 5] (fun ov iv wz => ∃ (k : Nat) (xs : List Int), k ≤ n ∧ iv = .int .i64 k ∧ New w wz ∧ xs.length = k ∧ wz.ownsRow w.heap.size 3 1 ov k (xs.map (Value.int .i64)) ∧ NumsRel ps k xs) (fun _ iv _ => n - (intOf iv).toNat)
  case atStart => exact ⟨0, [], by omega, rfl, Upd.refl _ _, rfl, World.ownsRow_nil _ _ _ _, numsRel_start ps⟩
  case round =>
    obtain ⟨k, xs, hk, rfl, hu, hxl, ho, hr⟩ := hrel
    have HU := hide hu
    have HO := hide ho
    have HR := hide hr
    have HL := hide hxl
    clear hu ho hr hxl
    obtain ⟨wo, rfl⟩ : ∃ wo : World, wo = wr := ⟨_, rfl⟩
    obtain ⟨lo, hlo⟩ : ∃ lo : Value, lo = u4 := ⟨_, rfl⟩
    rw [← hlo] at HO ⊢
    clear hlo
    by_cases hlt : k < n
    · have i6 : (k : Int) < (n : Int) := by omega
      obtain ⟨p, hp⟩ : ∃ p, ps[k]? = some p := ⟨_, List.getElem?_eq_getElem (by rw [HN.out]; exact hlt)⟩
      obtain ⟨b, o, hA, hb, hcc⟩ := (HS.out.new_ HU.out) (by rw [HN.out]; omega)
      have q0 := hcc k p hp
      subst hA
      have hnu := numberOf_any ⟨p.toArray⟩ wo (by have := Hpi.out p (List.mem_of_getElem? hp); show p.toArray.size ≤ _; simp; omega)
      have hnu : Calls Tryz.prog 90 #[.string ⟨p.toArray⟩] wo fun e w2 => e = .returned (.int .i64 (numR p)) ∧ wo = w2 := hnu
      obtain ⟨h1, h2⟩ := numV_R p
      by_cases hv : numR p < 0
      · have Hz2 := hide (numsRel_none HR.out hp (h2 hv))
        generalize numR p = v at *
        have Hnu := hide hnu
        clear hnu h1 h2 hcc hp
        go_wp2_with fail
        refine Hnu.out.mono ?_
        rintro e w2 ⟨rfl, rfl⟩
        go_wp2_with fail
        go_ret2
        exact ⟨HU.out, .inr ⟨Hz2.out, rfl⟩⟩
      · have HR := hide (numsRel_some HR.out hp (h1 (by omega)))
        generalize numR p = x at *
        have Hnu := hide hnu
        clear hnu h1 h2 hcc hp
        go_wp2_with fail
        refine Hnu.out.mono ?_
        rintro e w2 ⟨rfl, rfl⟩
        clear q0 hb
        have hws := HU.out.size
        go_wp2_with (at_builtin; refine append_src rfl (.tmp 20) (.tmp 22) 36 rfl w.heap.size 3 i0 _ 1 8 Tryz.underlying36 Hi0.out Hz.out.1 Hz.out.2.1 Hz.out.2.2 rfl (by omega) lo k (xs.map (Value.int .i64)) rfl (HO.out.alloc _) (some ⟨wo.heap.size, 0, none⟩) 1 1 [.int .i64 x] rfl rfl (fun _ => ⟨_, _, rfl, rowcT rfl⟩) (by simp [Value.oneCell']) (by unfold maxLen; omega) (by omega) (by simp; omega) ?_)
        intro v' w' ho hg
        have hu9 : Upd (fun z => lo.ownBlock = some z) wo w' := ((Upd.refl _ wo).alloc _).trans' (Upd.of_grown hg fun _ _ h => h)
        have HU := hide (HU.out.trans hu9 fun z hz hx => by have := rowi_ge HO.out hx; omega)
        have HO := hide (show w'.ownsRow w.heap.size 3 1 v' (k + 1) ((xs ++ [x]).map (Value.int .i64)) by
          rw [List.map_append]
          exact ho)
        have HL := hide (show (xs ++ [x]).length = k + 1 by rw [List.length_append, HL.out]; rfl)
        clear ho hg hu9 hws
        go_wp2_with fail
        exact ⟨⟨k + 1, xs ++ [x], by omega, by go_num, HU.out, HL.out, HO.out, HR.out⟩, by simp [intOf]; omega⟩
    · obtain rfl : k = n := by omega
      have i6 : ¬ (k : Int) < (k : Int) := by omega
      have hr := HR.out
      rw [← HN.out] at hr
      have He := hide (numsRel_end hr)
      obtain ⟨A', cap, rfl, _, hcap, hi, hfr, _⟩ := ints_of_own HO.out
      have HI := hide hi
      have HF := hide hfr
      clear hi hfr HO hr
      go_wp2_with fail
      go_ret2
      refine ⟨HU.out, .inl ⟨xs, A', cap, He.out, ?_, HI.out, by rw [HL.out]; exact hcap, HF.out⟩⟩
      rw [HL.out]
      rfl

theorem NumsPost.low {o : Option (List Int)} {w w1 w2 : World} {e : Ending} (hu : New w w1) (h : NumsPost o w1 e w2) : NumsPost o w e w2 := by
  obtain ⟨h1, h2⟩ := h
  refine ⟨hu.trans_new h1, ?_⟩
  rcases h2 with ⟨l, A, cap, e1, e2, i, c, f⟩ | h2
  · exact .inl ⟨l, A, cap, e1, e2, i, c, fun b q h => Nat.le_trans hu.size (f b q h)⟩
  · exact .inr h2
set_option maxRecDepth 8000 in
set_option maxHeartbeats 1000000 in
theorem unlist_any (s : ByteArray) (d : UInt8) (w : World) (hs : s.size ≤ 90000) :
    Calls Tryz.prog 92 #[.string s, .int .u8 (d.toNat : Int)] w (NumsPost (numsV d s.data.toList) w) := by
  have heq := eq45 s
  have hll : s.data.toList.length = s.size := by simp
  by_cases h45 : s.data.toList = [45]
  · rw [decide_eq_true h45] at heq
    have He := hide (show numsV d s.data.toList = some [] from if_pos h45)
    clear h45 hll
    go_enter Tryz.func92, Tryz.ntmps92
    go_wp2_with fail
    go_ret2
    exact ⟨Upd.refl _ _, .inl ⟨[], none, 0, He.out, rfl, Ints.nil, Nat.le_refl _, fun _ _ h => by cases h⟩⟩
  rw [decide_eq_false h45] at heq
  have he : numsV d s.data.toList = numsL (cutR d s.data.toList) := if_neg h45
  have hsp := cutRef_any s d w (by omega)
  have hpl := cutR_len d s.data.toList
  have hpi := cutR_piece d s.data.toList
  rw [he]
  generalize cutR d s.data.toList = ps at *
  have Hsp := hide hsp
  have Hpi := hide hpi
  clear hsp hpi he h45
  go_enter Tryz.func92, Tryz.ntmps92
  go_wp2_with fail
  refine Hsp.out.mono ?_
  rintro e w1 ⟨v, rfl, ho, hu⟩
  obtain ⟨A, cap, rfl, _, _, hS⟩ := ss_of_own ho
  have U := hide hu
  have Hno := hide (numbersOf_any A ps.length cap ps w1 hS rfl (by omega) fun p hp => by have := Hpi.out p hp; omega)
  clear ho hu hS Hsp
  go_wp2_with fail
  refine Hno.out.mono ?_
  rintro e w2 hpo
  have hp2 := hpo.low U.out
  obtain ⟨sv, rfl, _⟩ := hpo.uni
  clear hpo
  have Hp := hide hp2
  clear hp2
  go_wp2_with fail
  go_ret2
  exact Hp.out
end Go.Proofs.YtjgecmkfgeajiaaGreatDoor

namespace Go.Proofs.YtjgecmkfgeajiaaGreatDoor
open Go.RowKit

theorem ra_end {w W : World} {x : AtC} {k : Nat} {K : Nat} (hn : New w W) (hk : K = k) (hx : x = zeroC) :
    ∃ a' : AttrR, Ending.returned (.tuple #[.agg #[.slice none 0 0, .int .i64 0, .int .i64 0, .int .i64 0, .slice none 0 0], .int .i64 (k : Int)]) = .returned (.tuple #[.agg a'.cells, .int .i64 (K : Int)]) ∧ a'.con = x ∧ AttrOk W a' ∧ Fresh w a' ∧ New w W := by
  subst hk; subst hx
  exact ⟨zeroR, rfl, rfl, zeroR_ok _, zeroR_fresh _, hn⟩

set_option maxRecDepth 20000 in
set_option maxHeartbeats 4000000 in
theorem attrReadRef_any (s : ByteArray) (w : World) (hs : s.size ≤ 10000) :
    Calls Tryz.prog 53 #[.string s] w fun e w1 => ∃ a' : AttrR, e = .returned (.tuple #[.agg a'.cells, .int .i64 ((readT s.data.toList).1 : Nat)]) ∧ a'.con = (readT s.data.toList).2 ∧ AttrOk w1 a' ∧ Fresh w a' ∧ New w w1 := by
  have u := (Upd.refl (fun _ => False) w).alloc (.cells #[.slice none 0 0, .int .i64 0, .int .i64 0, .int .i64 0, .slice none 0 0] TA)
  have N := hide u
  have HR := hide (Blk.new w TA #[.slice none 0 0, .int .i64 0, .int .i64 0, .int .i64 0, .slice none 0 0])
  have hll : s.data.toList.length = s.size := by simp
  have hsp := cutRef_any s 32 (w.alloc (.cells #[.slice none 0 0, .int .i64 0, .int .i64 0, .int .i64 0, .slice none 0 0] TA)) (by omega)
  have hsp : Calls Tryz.prog 50 #[.string s, .int .u8 32] (w.alloc (.cells #[.slice none 0 0, .int .i64 0, .int .i64 0, .int .i64 0, .slice none 0 0] TA)) fun e w1 => ∃ v, e = .returned v ∧ OwnT w1 (w.alloc (.cells #[.slice none 0 0, .int .i64 0, .int .i64 0, .int .i64 0, .slice none 0 0] TA)).heap.size v (cutR 32 s.data.toList) ∧ New (w.alloc (.cells #[.slice none 0 0, .int .i64 0, .int .i64 0, .int .i64 0, .slice none 0 0] TA)) w1 := hsp
  have hpi := cutR_piece 32 s.data.toList
  have hno := cutR_no 32 s.data.toList
  have hr0 := readT_not (l := s.data.toList)
  have hr5 := fun p a b c t => readT_five (l := s.data.toList) (p := p) (a := a) (b := b) (c := c) (t := t)
  generalize cutR 32 s.data.toList = ps at *
  obtain ⟨R, hR⟩ : ∃ R, R = readT s.data.toList := ⟨_, rfl⟩
  simp only [← hR] at hr0 hr5 ⊢
  have Hsp := hide hsp
  have Hpi := hide hpi
  have Hno := hide hno
  have Hr0 := hide hr0
  have Hr5 := hide hr5
  have hfc := field_at0
  clear u hsp hpi hno hr0 hr5 hR
  go_enter Tryz.func53, Tryz.ntmps53
  go_upto_region 1 with (fail)
  have M := hide (Upd.refl (fun _ => False) (w.alloc (.cells #[.slice none 0 0, .int .i64 0, .int .i64 0, .int .i64 0, .slice none 0 0] TA)))
  generalize w.alloc (.cells #[.slice none 0 0, .int .i64 0, .int .i64 0, .int .i64 0, .slice none 0 0] TA) = W at *
  go_wp2_with fail
  refine Hsp.out.mono ?_
  rintro e w1 ⟨v, rfl, ho, hu⟩
  obtain ⟨A, cap, rfl, _, hcap, hS⟩ := ss_of_own ho
  have HS := hide hS
  have HR := hide (HR.out.new_ hu)
  have M := hide (M.out.trans_new hu)
  have N := hide (N.out.trans_new hu)
  have HZ1 := hide HR.out.lt
  clear ho hu hS Hsp
  by_cases hp5 : ps.length = 5
  rotate_left
  · have i1 : ((ps.length : Int) != 5) = true := by
      rw [bne_iff_ne]
      omega
    have He := hide (Hr0.out hp5)
    clear hp5
    have bq := HR.out
    have r0 := bq.cell 0
    have r1 := bq.cell 1
    have r2 := bq.cell 2
    have r3 := bq.cell 3
    have r4 := bq.cell 4
    have s0 := bq.frozen 0
    have s1 := bq.frozen 1
    have s2 := bq.frozen 2
    have s3 := bq.frozen 3
    have s4 := bq.frozen 4
    have rz := bq.lt
    simp only [List.getElem?_toArray, List.getElem?_cons_zero, List.getElem?_cons_succ] at r0 r1 r2 r3 r4
    clear bq
    go_wp2_with fail
    all_goals
      refine bodyPost_ret (attr_err_out Tryz.results53 rfl (set5 HR.out)) rfl ?_
      rw [He.out]
      exact ra_end (k := 1) (set5_new N.out (Nat.le_refl _)) rfl rfl
  obtain ⟨p, a, b, c, t, rfl⟩ : ∃ p a b c t, ps = [p, a, b, c, t] := by
    match ps, hp5 with
    | [p, a, b, c, t], _ => exact ⟨p, a, b, c, t, rfl⟩
  clear hp5 Hr0
  have he := Hr5.out p a b c t rfl
  obtain ⟨g, q, hA, hb, hcc⟩ := HS.out (by simp)
  subst hA
  have q0 : w1.cell? ⟨g, q, none⟩ = some (.string ⟨p.toArray⟩) := hcc 0 p rfl
  have q4 : w1.cell? ⟨g, q + 4, none⟩ = some (.string ⟨t.toArray⟩) := hcc 4 t rfl
  have hpp := Hpi.out p (by simp)
  have hpa := Hpi.out a (by simp)
  have hpb := Hpi.out b (by simp)
  have hpc := Hpi.out c (by simp)
  have hpt := Hpi.out t (by simp)
  have hcap5 : 5 ≤ cap := hcap
  have hn0 := fun w' => unlist_any ⟨p.toArray⟩ 45 w' (by show p.toArray.size ≤ _; simp; omega)
  have hn4 := fun w' => unlist_any ⟨t.toArray⟩ 44 w' (by show t.toArray.size ≤ _; simp; omega)
  have hn0 : ∀ w', Calls Tryz.prog 92 #[.string ⟨p.toArray⟩, .int .u8 45] w' (NumsPost (numsV 45 p) w') := hn0
  have hn4 : ∀ w', Calls Tryz.prog 92 #[.string ⟨t.toArray⟩, .int .u8 44] w' (NumsPost (numsV 44 t) w') := hn4
  have hn1 := fun w' (h : Ss w' (some ⟨g, q + 1, none⟩) [a, b, c]) => numbersOf_any (some ⟨g, q + 1, none⟩) 3 (cap - 1) [a, b, c] w' h rfl (by omega) (by
    intro y hy
    simp only [List.mem_cons, List.not_mem_nil, or_false] at hy
    rcases hy with rfl | rfl | rfl <;> omega)
  have hlen3 := fun l h => numsL_len [a, b, c] l h
  have hL0 := fun l (h : numsV 45 p = some l) => Nat.le_trans (numsV_len h) (show p.length + 1 ≤ 100000 by omega)
  have hL4 := fun l (h : numsV 44 t = some l) => Nat.le_trans (numsV_len h) (show t.length + 1 ≤ 100000 by omega)
  generalize numsV 45 p = np at *
  generalize numsV 44 t = nt at *
  generalize numsL [a, b, c] = nn at *
  have HSj := hide (fun w' (hu : New w1 w') => ((HS.out.new_ hu).part 1 3 : Ss w' (some ⟨g, q + 1, none⟩) (([p, a, b, c, t].drop 1).take 3)))
  have Hn0 := hide hn0
  have Hn4 := hide hn4
  have Hn1 := hide hn1
  have Hl3 := hide hlen3
  have HL0 := hide hL0
  have HL4 := hide hL4
  have He := hide he
  have Hb := hide hb
  clear hpp hpa hpb hpc hpt hn0 hn4 hn1 hlen3 he hb hL0 hL4 HS Hpi Hno Hr5 hcc hcap
  have i1 : (((5 : Nat) : Int) != 5) = false := rfl
  have Q4 := hide q4
  clear q4
  have V := hide (Upd.refl (fun _ => False) w1)
  go_wp2_with fail
  refine (Hn0.out _).mono ?_
  rintro e w2 hpo
  obtain ⟨sv0, rfl, hu, hv0⟩ := hpo.uni
  have M := hide (M.out.trans_new hu)
  have N := hide (N.out.trans_new hu)
  have V := hide (V.out.trans_new hu)
  have HR := hide (HR.out.new_ hu)
  have V0 := hide hv0
  have HZ2 := hide HR.out.lt
  have U0 := hide (Upd.refl (fun _ => False) w2)
  have q4 : w2.cell? ⟨g, q + 4, none⟩ = some (.string ⟨t.toArray⟩) := (V.out.cell Hb.out (fun x => x)).trans Q4.out
  clear hu Hn0 q0 hv0 hpo
  go_wp2_with fail
  refine (Hn4.out _).mono ?_
  rintro e w3 hpo
  obtain ⟨sv4, rfl, hu, hv4⟩ := hpo.uni
  have M := hide (M.out.trans_new hu)
  have N := hide (N.out.trans_new hu)
  have V := hide (V.out.trans_new hu)
  have HR := hide (HR.out.new_ hu)
  have V4 := hide hv4
  have U0 := hide (U0.out.trans_new hu)
  have U4 := hide (Upd.refl (fun _ => False) w3)
  clear hu Hn4 q4 hv4 hpo
  have HS := hide (HSj.out _ V.out)
  have k1 : (4 : Int) ≤ (cap : Int) := by omega
  have k2 : ¬ (cap = 1) := by omega
  go_wp2_with fail
  refine (Hn1.out _ HS.out).mono ?_
  rintro e w5 hpo
  obtain ⟨sv1, rfl, hu, hv1⟩ := hpo.uni
  have M := hide (M.out.trans_new hu)
  have N := hide (N.out.trans_new hu)
  have V := hide (V.out.trans_new hu)
  have HR := hide (HR.out.new_ hu)
  have U0 := hide (U0.out.trans_new hu)
  have U4 := hide (U4.out.trans_new hu)
  have V1 := hide hv1
  clear hu Hn1 hv1 hpo k1 k2
  cases np with
  | none =>
    rw [readW_p] at He
    dsimp only [Option.isSome]
    have bq := HR.out
    have r0 := bq.cell 0
    have r1 := bq.cell 1
    have r2 := bq.cell 2
    have r3 := bq.cell 3
    have r4 := bq.cell 4
    have s0 := bq.frozen 0
    have s1 := bq.frozen 1
    have s2 := bq.frozen 2
    have s3 := bq.frozen 3
    have s4 := bq.frozen 4
    have rz := bq.lt
    simp only [List.getElem?_toArray, List.getElem?_cons_zero, List.getElem?_cons_succ] at r0 r1 r2 r3 r4
    clear bq
    go_wp2_with fail
    all_goals
      refine bodyPost_ret (attr_err_out Tryz.results53 rfl (set5 HR.out)) rfl ?_
      rw [He.out]
      exact ra_end (k := 1) (set5_new N.out (Nat.le_refl _)) rfl rfl
  | some lp =>
  cases nt with
  | none =>
    rw [readW_t] at He
    dsimp only [Option.isSome]
    have bq := HR.out
    have r0 := bq.cell 0
    have r1 := bq.cell 1
    have r2 := bq.cell 2
    have r3 := bq.cell 3
    have r4 := bq.cell 4
    have s0 := bq.frozen 0
    have s1 := bq.frozen 1
    have s2 := bq.frozen 2
    have s3 := bq.frozen 3
    have s4 := bq.frozen 4
    have rz := bq.lt
    simp only [List.getElem?_toArray, List.getElem?_cons_zero, List.getElem?_cons_succ] at r0 r1 r2 r3 r4
    clear bq
    go_wp2_with fail
    all_goals
      refine bodyPost_ret (attr_err_out Tryz.results53 rfl (set5 HR.out)) rfl ?_
      rw [He.out]
      exact ra_end (k := 1) (set5_new N.out (Nat.le_refl _)) rfl rfl
  | some lt =>
  cases nn with
  | none =>
    rw [readW_n] at He
    dsimp only [Option.isSome]
    have bq := HR.out
    have r0 := bq.cell 0
    have r1 := bq.cell 1
    have r2 := bq.cell 2
    have r3 := bq.cell 3
    have r4 := bq.cell 4
    have s0 := bq.frozen 0
    have s1 := bq.frozen 1
    have s2 := bq.frozen 2
    have s3 := bq.frozen 3
    have s4 := bq.frozen 4
    have rz := bq.lt
    simp only [List.getElem?_toArray, List.getElem?_cons_zero, List.getElem?_cons_succ] at r0 r1 r2 r3 r4
    clear bq
    go_wp2_with fail
    all_goals
      refine bodyPost_ret (attr_err_out Tryz.results53 rfl (set5 HR.out)) rfl ?_
      rw [He.out]
      exact ra_end (k := 1) (set5_new N.out (Nat.le_refl _)) rfl rfl
  | some ln =>
  dsimp only [Option.isSome]
  obtain ⟨A0, cap0, rfl, hi0, hc0, hf0⟩ := V0.out lp rfl
  obtain ⟨A4, cap4, rfl, hi4, hc4, hf4⟩ := V4.out lt rfl
  obtain ⟨A1, cap1, rfl, hi1, hc1, hf1⟩ := V1.out ln rfl
  have hl3 := Hl3.out ln rfl
  obtain ⟨x, y, z, rfl⟩ : ∃ x y z, ln = [x, y, z] := by
    match ln, hl3 with
    | [x, y, z], _ => exact ⟨x, y, z, rfl⟩
  clear hl3 Hl3 V0 V4 V1
  have I0 := hide (hi0.new_ U0.out)
  have I4 := hide (hi4.new_ U4.out)
  have I1 := hide hi1
  have C0 := hide hc0
  have C4 := hide hc4
  have F0 := hide hf0
  have F4 := hide hf4
  clear hi0 hi4 hi1 hc0 hc4 hf0 hf4 hc1 hf1
  have HL0 := hide (HL0.out lp rfl)
  have HL4 := hide (HL4.out lt rfl)
  obtain ⟨b1, o1, hA1, hb1, hcc⟩ := I1.out (by simp)
  subst hA1
  have c0 : w5.cell? ⟨b1, o1, none⟩ = some (.int .i64 x) := hcc 0 x rfl
  have c1 : w5.cell? ⟨b1, o1 + 1, none⟩ = some (.int .i64 y) := hcc 1 y rfl
  have c2 : w5.cell? ⟨b1, o1 + 2, none⟩ = some (.int .i64 z) := hcc 2 z rfl
  clear hcc I1
  have he : R = readC ⟨lp, x, y, z, lt⟩ := He.out
  have Hx := hide he
  clear He he
  go_upto_region 9 with (fail)
  go_region
  have u := ((Upd.refl (fun _ => False) w5).alloc (.cells #[.slice A0 lp.length cap0, .int .i64 x, .int .i64 y, .int .i64 z, .slice A4 lt.length cap4] TA)).drew
  have HB := hide (Blk.new w5 TA #[.slice A0 lp.length cap0, .int .i64 x, .int .i64 y, .int .i64 z, .slice A4 lt.length cap4]).drew
  have M := hide (M.out.trans_new u)
  have N := hide (N.out.trans_new u)
  have HR := hide (HR.out.new_ u)
  have I0 := hide (I0.out.new_ u)
  have I4 := hide (I4.out.new_ u)
  clear u c0 c1 c2 hb1
  generalize (w5.alloc (.cells #[.slice A0 lp.length cap0, .int .i64 x, .int .i64 y, .int .i64 z, .slice A4 lt.length cap4] TA)).drew = W5 at *
  generalize w5.heap.size = X at *
  have HA := hide (show AttrOk W5 ⟨A0, cap0, lp, x, y, z, A4, cap4, lt⟩ from ⟨I0.out, I4.out, C0.out, C4.out⟩)
  have hck := attrFault_big ⟨A0, cap0, lp, x, y, z, A4, cap4, lt⟩ W5 HA.out HL0.out HL4.out
  unfold AttrR.cells at hck
  dsimp only at hck
  obtain ⟨C, hC⟩ : ∃ C, C = attrC ⟨A0, cap0, lp, x, y, z, A4, cap4, lt⟩ := ⟨_, rfl⟩
  rw [← hC] at hck
  have HC := hide (show conC ⟨lp, x, y, z, lt⟩ = C from hC.symm)
  unfold faultV at hck
  have Hck := hide hck
  clear hck hC HL0 HL4 I0 I4 Q4 HSj
  have bq := HB.out
  have m0 := bq.cell 0
  have m1 := bq.cell 1
  have m2 := bq.cell 2
  have m3 := bq.cell 3
  have m4 := bq.cell 4
  have mz := bq.lt
  simp only [List.getElem?_toArray, List.getElem?_cons_zero, List.getElem?_cons_succ] at m0 m1 m2 m3 m4
  clear bq
  go_wp2_with fail
  refine Hck.out.mono ?_
  rintro e w6 ⟨rfl, hu⟩
  have HY := hide (HR.out.new_ hu).lt
  have u2 := hu.trans_new ((Upd.refl (fun _ => False) w6).alloc (.cells #[.int .i64 (C.1 : Nat), .int .i64 C.2] TRF))
  have HF := hide (Blk.new w6 TRF #[.int .i64 (C.1 : Nat), .int .i64 C.2])
  have HA := hide (HA.out.new_ u2)
  have HB := hide (HB.out.new_ u2)
  have HR := hide (HR.out.new_ u2)
  have M := hide (M.out.trans_new u2)
  have N := hide (N.out.trans_new u2)
  clear hu u2 Hck m0 m1 m2 m3 m4 mz
  have hfr : (∀ b q, A0 = some ⟨b, q, none⟩ → w.heap.size < b) ∧ (∀ b q, A4 = some ⟨b, q, none⟩ → w.heap.size < b) := ⟨fun b q h => Nat.lt_of_lt_of_le HZ1.out (F0.out b q h), fun b q h => Nat.lt_of_lt_of_le HZ2.out (F4.out b q h)⟩
  have Hfr := hide hfr
  clear hfr
  go_upto_region 11 with (fail)
  generalize w6.alloc (.cells #[.int .i64 (C.1 : Nat), .int .i64 C.2] TRF) = W6 at *
  generalize w6.heap.size = Y at *
  have d1 : Y ≠ w.heap.size := by have := HY.out; omega
  have d2 : w.heap.size ≠ Y := by have := HY.out; omega
  obtain ⟨C1, C2⟩ := C
  dsimp only at HF HC ⊢
  have bq := HF.out
  have f0 := bq.cell 0
  have f1 := bq.cell 1
  have fz := bq.lt
  simp only [List.getElem?_toArray, List.getElem?_cons_zero, List.getElem?_cons_succ] at f0 f1
  clear bq
  have bq := HB.out
  have m0 := bq.cell 0
  have m1 := bq.cell 1
  have m2 := bq.cell 2
  have m3 := bq.cell 3
  have m4 := bq.cell 4
  have mz := bq.lt
  simp only [List.getElem?_toArray, List.getElem?_cons_zero, List.getElem?_cons_succ] at m0 m1 m2 m3 m4
  clear bq
  have bq := HR.out
  have r0 := bq.cell 0
  have r1 := bq.cell 1
  have r2 := bq.cell 2
  have r3 := bq.cell 3
  have r4 := bq.cell 4
  have s0 := bq.frozen 0
  have s1 := bq.frozen 1
  have s2 := bq.frozen 2
  have s3 := bq.frozen 3
  have s4 := bq.frozen 4
  have rz := bq.lt
  simp only [List.getElem?_toArray, List.getElem?_cons_zero, List.getElem?_cons_succ] at r0 r1 r2 r3 r4
  clear bq
  by_cases hk : C1 = 0
  · have hr : R = (0, ⟨lp, x, y, z, lt⟩) := by
      rw [Hx.out]
      unfold readC
      rw [HC.out, if_pos hk]
    have Hr := hide hr
    subst hk
    clear hr
    go_wp2_with fail
    refine bodyPost_ret (attr_err_out Tryz.results53 rfl (set5 HR.out)) rfl ?_
    rw [Hr.out]
    exact ⟨⟨A0, cap0, lp, x, y, z, A4, cap4, lt⟩, rfl, rfl, ⟨HA.out.path.upd (set5_one W6 w.heap.size _ _ _ _ _) (fun b q h e => absurd (Hfr.out.1 b q h) (by omega)), HA.out.tags.upd (set5_one W6 w.heap.size _ _ _ _ _) (fun b q h e => absurd (Hfr.out.2 b q h) (by omega)), C0.out, C4.out⟩, ⟨fun b q h => Nat.le_of_lt (Hfr.out.1 b q h), fun b q h => Nat.le_of_lt (Hfr.out.2 b q h)⟩, set5_new N.out (Nat.le_refl _)⟩
  · have hr : R = (C1, zeroC) := by
      rw [Hx.out]
      unfold readC
      rw [HC.out, if_neg hk]
    have Hr := hide hr
    have k3 : 0 < C1 := by omega
    have k4 : (0 : Int) < (C1 : Int) := by omega
    clear hr hk
    go_wp2_with fail
    go_region
    all_goals
      go_wp2_with fail
      refine bodyPost_ret (attr_err_out Tryz.results53 rfl (set5 HR.out).drew) rfl ?_
      rw [Hr.out]
      exact ra_end (set5_new N.out (Nat.le_refl _)).drew rfl rfl
end Go.Proofs.YtjgecmkfgeajiaaGreatDoor

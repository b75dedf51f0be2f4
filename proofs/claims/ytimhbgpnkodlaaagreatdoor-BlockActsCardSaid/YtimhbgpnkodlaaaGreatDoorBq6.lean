/- The document's list of prefixes, rising: one more comes in. No condition but those that stand in each theorem. -/
import Derived.Test.YtimhbgpnkodlaaaGreatDoorBq3
import Derived.Test.YtimhbgpnkodlaaaGreatDoorRis
import Derived.Test.YtimhbgpnkodlaaaGreatDoorPfo
import Derived.Test.YtimhbgpnkodlaaaGreatDoorEq
import Derived.Deep.AppendLies
import Derived.Deep.DeepCutAuto
import Derived.Deep.CutBlock
namespace Go.Proofs.YtimhbgpnkodlaaaGreatDoor
open Go.RowKit
theorem row_cellsW {W : World} {g : Nat} {cs : Array Value} {t : TypeId} (hg : g = W.heap.size) : ∀ (j : Nat) (u : Value), cs.toList[j]? = some u → (W.alloc (.cells cs t)).cell? ⟨g, 0 + j, none⟩ = some u := fun j u hu => by
  subst hg
  rw [Nat.zero_add, (Blk.new W t cs).cell]
  simpa using hu
theorem wpf_sizeW (l : List Pf) : ∀ r ∈ l.map Pf.cells, r.size = 2 := fun r hr => by obtain ⟨p, _, rfl⟩ := List.mem_map.1 hr; rfl
theorem wpf_oneW (l : List Pf) : ∀ v ∈ flat (l.map Pf.cells), v.oneCell' = true := fun v hv => by
  induction l with
  | nil => simp [flat] at hv
  | cons p l ih =>
    have e : flat ((p :: l).map Pf.cells) = [.int .i64 p.a, .int .i64 p.n] ++ flat (l.map Pf.cells) := rfl
    rw [e] at hv
    rcases List.mem_append.1 hv with hv | hv
    · simp only [List.mem_cons, List.not_mem_nil, or_false] at hv
      rcases hv with rfl | rfl <;> rfl
    · exact ih hv
theorem flat_pfW (l : List Pf) : (flat (l.map Pf.cells)).length = l.length * 2 := by
  have := flat_length (sz := 2) (l.map Pf.cells) (wpf_sizeW l)
  rw [List.length_map] at this
  exact this
theorem ahead_geW (a b : Pf) : aheadB a.a a.n b.a b.n = !geP b a := by
  rw [ahead_cmp]
  unfold geP
  by_cases h : cmpP a.a a.n b.a b.n < 0
  · rw [decide_eq_true h, decide_eq_false (by omega)]; rfl
  · rw [decide_eq_false h, decide_eq_true (by omega)]; rfl
theorem flat_take_dropW (l : List Pf) (k : Nat) (hk : k ≤ l.length) : (∀ (j : Nat) (u : Value), (flat ((l.take k).map Pf.cells))[j]? = some u → (flat (l.map Pf.cells))[j]? = some u) ∧ ∀ (j : Nat) (u : Value), (flat ((l.drop k).map Pf.cells))[j]? = some u → (flat (l.map Pf.cells))[k * 2 + j]? = some u := by
  have e : flat (l.map Pf.cells) = flat ((l.take k).map Pf.cells) ++ flat ((l.drop k).map Pf.cells) := by
    rw [← flat_append, ← List.map_append, List.take_append_drop]
  have hl : (flat ((l.take k).map Pf.cells)).length = k * 2 := by rw [flat_pfW, List.length_take, Nat.min_eq_left hk]
  refine ⟨fun j u h => ?_, fun j u h => ?_⟩
  · rw [e, List.getElem?_append_left (List.getElem?_eq_some_iff.1 h).1]
    exact h
  · rw [e, List.getElem?_append_right (by omega), hl, Nat.add_sub_cancel_left]
    exact h
theorem pf_take_atW {w : World} {A : Option Addr} {l : List Pf} (h : Pfs w A l) (k : Nat) (hk : k ≤ l.length) : 0 < k → ∃ b q, A = some ⟨b, q, none⟩ ∧ ∀ (j : Nat) (u : Value), (flat ((l.take k).map Pf.cells))[j]? = some u → w.cell? ⟨b, q + j, none⟩ = some u := fun h0 => by
  obtain ⟨b, q, hA, hc⟩ := Rws.flat (by omega) h (wpf_sizeW l) (by rw [List.length_map]; omega)
  exact ⟨b, q, hA, fun j u hu => hc j u ((flat_take_dropW l k hk).1 j u hu)⟩
theorem pf_drop_atW {w : World} {A : Option Addr} {l : List Pf} (h : Pfs w A l) (k : Nat) (hk : k < l.length) : ∃ b q, A = some ⟨b, q, none⟩ ∧ ∀ (j : Nat) (u : Value), (flat ((l.drop k).map Pf.cells))[j]? = some u → w.cell? ⟨b, q + k * 2 + j, none⟩ = some u := by
  obtain ⟨b, q, hA, hc⟩ := Rws.flat (by omega) h (wpf_sizeW l) (by rw [List.length_map]; omega)
  exact ⟨b, q, hA, fun j u hu => by rw [Nat.add_assoc]; exact hc _ u ((flat_take_dropW l k (by omega)).2 j u hu)⟩
theorem dropIn_atW {l : List Pf} {p : Pf} {k : Nat} (hz : ∀ (i : Nat) x, i < k → l[i]? = some x → geP p x = false) :
    (∀ x, l[k]? = some x → geP p x = true → (x = p → dropIn l p = l) ∧ (x ≠ p → dropIn l p = l.take k ++ p :: l.drop k)) ∧ (k = l.length → dropIn l p = l.take k ++ p :: l.drop k) := by
  refine ⟨fun x hx hg => ?_, fun hk => ?_⟩
  · have hi : idxB (geP p) l = (k : Int) := idxB_at (geP p) l k x hx hg hz
    have e : (k : Int).toNat = k := Int.toNat_natCast _
    unfold dropIn
    rw [hi, if_neg (by omega), e, hx]
    refine ⟨fun h => by rw [if_pos (by rw [h])], fun h => by rw [if_neg (fun e => h (Option.some.inj e))]⟩
  · subst hk
    have hi : idxB (geP p) l < 0 := by
      rcases idxB_spec (geP p) l with ⟨h1, _⟩ | ⟨l1, x, l2, e, _, h2, _⟩
      · exact h1
      · have h3 := hz l1.length x (by rw [e]; simp) (by rw [e]; simp)
        rw [h2] at h3
        cases h3
    unfold dropIn
    rw [if_pos hi, List.take_length, List.drop_length]

/-- A slice is nil, or lies at a block. -/
def FormAW (A : Option Addr) (c : Nat) : Prop := (A = none ∧ c = 0) ∨ ∃ b o, A = some ⟨b, o, none⟩
theorem own_formAW {w : World} {base : Nat} {e : TypeId} {sz n c : Nat} {A : Option Addr} {xs : List Value} (h : w.ownsRow base e sz (.slice A n c) n xs) : FormAW A c := by
  obtain ⟨_, h2⟩ := h
  rcases h2 with ⟨h3, _⟩ | ⟨g, cap, cur, h3, _⟩
  · injection h3 with a1 a2 a3
    exact .inl ⟨a1, a3⟩
  · injection h3 with a1 a2 a3
    exact .inr ⟨_, _, a1⟩
/-- What dropped leaves. -/
def DropPostW (B : Nat) (L : List Pf) (w : World) (e : Ending) (w1 : World) : Prop :=
  ∃ A c, e = .returned (.slice A L.length c) ∧ L.length ≤ c ∧ Pfs w1 A L ∧ Typed w1 A TPf ∧ FormAW A c ∧ (∀ b o, A = some ⟨b, o, none⟩ → B ≤ b) ∧ New w w1

set_option maxRecDepth 8000 in
set_option maxHeartbeats 4000000 in
theorem withRef_any (B : Nat) (A : Option Addr) (n c : Nat) (l : List Pf) (p : Pf) (w : World) (hx : Pfs w A l) (ht : Typed w A TPf) (hn : l.length = n) (hc : n ≤ c) (hA : FormAW A c) (hlo : ∀ b o, A = some ⟨b, o, none⟩ → B ≤ b) (hB : B ≤ w.heap.size) (hl : n ≤ 100000) :
    Calls Tryz.prog 42 #[.slice A n c, .agg #[.int .i64 p.a, .int .i64 p.n]] w (DropPostW B (dropIn l p) w) := by
  obtain ⟨i0, hi0, hz0, hz1, hz2⟩ := info_parts info_TPf
  have Hi0 := hide hi0
  have Hz := hide (And.intro hz0 (And.intro hz1 hz2))
  have u := (Upd.refl (fun _ => False) w).alloc (.cells #[.int .i64 p.a, .int .i64 p.n] TPf)
  have N := hide u
  have HP := hide (Blk.new w TPf #[.int .i64 p.a, .int .i64 p.n])
  have HX := hide (hx.new_ u)
  have HT := hide (ht.new_ u)
  have Hn := hide hn
  have Hc := hide hc
  have HA0 := hide hA
  have HLo := hide (And.intro hlo (fun (w2 : World) (hu : New w w2) => Nat.le_trans hB hu.size))
  have Hd := hide (fun k hz => dropIn_atW (l := l) (p := p) (k := k) hz)
  clear u hx ht hn hi0 hz0 hz1 hz2 hc hA hlo hB
  obtain ⟨L, hL⟩ : ∃ L, L = dropIn l p := ⟨_, rfl⟩
  rw [← hL]
  simp only [← hL] at Hd
  clear hL
  go_enter Tryz.func42, Tryz.ntmps42
  go_upto_region 1 with (fail)
  generalize w.alloc (.cells #[.int .i64 p.a, .int .i64 p.n] TPf) = W at *
  generalize w.heap.size = X at *
  go_upto_block 0 with (fail)
  go_cut [5] (fun iv wz => ∃ k : Nat, k ≤ n ∧ iv = .int .i64 k ∧ New W wz ∧ (∀ (i : Nat) x, i < k → l[i]? = some x → geP p x = false) ∧ ∀ x, l[k]? = some x → geP p x = true)
  case first =>
    go_wp2_with fail
    go_loopw [5] (fun iv wr => ∃ k : Nat, k ≤ n ∧ iv = .int .i64 k ∧ New W wr ∧ ∀ (i : Nat) x, i < k → l[i]? = some x → geP p x = false) (fun iv _ => n - (intOf iv).toNat)
    case atStart => exact ⟨0, by omega, rfl, Upd.refl _ _, fun i x h => absurd h (by omega)⟩
    case round =>
      obtain ⟨k, hk, rfl, hu, hz⟩ := hrel
      have Hz := hide hz
      have Hu := hide hu
      clear hz
      by_cases hlt : k < n
      · obtain ⟨b, o, x, hA, hb, hx, q0, q1⟩ := (HX.out.new_ hu).at_ (k := k) (by have := Hn.out; omega)
        subst hA
        have i1 : (k : Int) < (n : Int) := by omega
        have hah := fun w' => isAhead_any x.a x.n p.a p.n w'
        have e := ahead_geW x p
        have bq := HP.out.new_ hu
        have p0 := bq.cell 0
        have p1 := bq.cell 1
        have pz := bq.lt
        simp only [List.getElem?_toArray, List.getElem?_cons_zero, List.getElem?_cons_succ] at p0 p1
        have Hx := hide hx
        clear bq hu hx
        cases hg : geP p x with
        | true =>
          rw [hg] at e
          rw [e] at hah
          have Hah : Hid (∀ w', Calls Tryz.prog 56 #[.agg #[.int .i64 x.a, .int .i64 x.n], .agg #[.int .i64 p.a, .int .i64 p.n]] w' fun e w1 => e = .returned (.bool false) ∧ New w' w1) := hide hah
          have Hg := hide hg
          clear hah e hg
          go_upto_region 3 with (fail)
          refine wp_region_new wr (Upd.refl _ _) (by kernel_rfl) (by kernel_rfl) ?_
          repeat (go_big_quiet_step ((go_at_call 56; exact new_call (Hah.out _))))
          refine wpQuiet_nil ?_
          rintro _ ⟨nq, rfl⟩
          go_wp2_with fail
          go_meet
          case rel => exact ⟨k, hk, rfl, Hu.out.trans_new nq.h, Hz.out, fun y hy => by rw [Hx.out] at hy; injection hy with hy; rw [← hy]; exact Hg.out⟩
        | false =>
          rw [hg] at e
          rw [e] at hah
          have Hah : Hid (∀ w', Calls Tryz.prog 56 #[.agg #[.int .i64 x.a, .int .i64 x.n], .agg #[.int .i64 p.a, .int .i64 p.n]] w' fun e w1 => e = .returned (.bool true) ∧ New w' w1) := hide hah
          have Hg := hide hg
          clear hah e hg
          go_upto_region 3 with (fail)
          refine wp_region_new wr (Upd.refl _ _) (by kernel_rfl) (by kernel_rfl) ?_
          repeat (go_big_quiet_step ((go_at_call 56; exact new_call (Hah.out _))))
          refine wpQuiet_nil ?_
          rintro _ ⟨nq, rfl⟩
          go_wp2_with fail
          refine ⟨⟨k + 1, by omega, by go_num, Hu.out.trans_new nq.h, fun i y hi hy => ?_⟩, by simp [intOf]; omega⟩
          by_cases hik : i < k
          · exact Hz.out i y hik hy
          · obtain rfl : i = k := by omega
            rw [Hx.out] at hy
            injection hy with hy
            rw [← hy]
            exact Hg.out
      · obtain rfl : k = n := by omega
        have i1 : ¬ (k : Int) < (k : Int) := by omega
        clear hu
        go_wp2_with fail
        go_meet
        case rel => exact ⟨k, Nat.le_refl _, rfl, Hu.out, Hz.out, fun y hy => by rw [List.getElem?_eq_none (by rw [Hn.out]; exact Nat.le_refl _)] at hy; cases hy⟩
  obtain ⟨k, hk, rfl, hu, hz, hge⟩ := hcut
  have N := hide (N.out.trans_new hu)
  have HX := hide (HX.out.new_ hu)
  have HT := hide (HT.out.new_ hu)
  have HP := hide (HP.out.new_ hu)
  have Hd := hide (Hd.out k hz)
  have Hge := hide hge
  clear hu hz hge
  have bq := HP.out
  have p0 := bq.cell 0
  have p1 := bq.cell 1
  have pz := bq.lt
  simp only [List.getElem?_toArray, List.getElem?_cons_zero, List.getElem?_cons_succ] at p0 p1
  clear bq
  by_cases hlt : k < n
  · obtain ⟨b, o, x, hA, hb, hx, q0, q1⟩ := HX.out.at_ (k := k) (by have := Hn.out; omega)
    subst hA
    have i1 : (k : Int) < (n : Int) := by omega
    have hd := Hd.out.1 x hx (Hge.out x hx)
    have g1 := guard_pfx
    have g3 := eql_pfx
    by_cases he : x = p
    · have hee : (x.a == p.a && x.n == p.n) = true := by rw [he]; simp
      have HL := hide (hd.1 he)
      clear hd hx he
      go_upto_region 7 with (fail)
      go_region
      go_wp2_with fail
      go_ret
      exact ⟨some ⟨b, o, none⟩, c, by rw [HL.out, Hn.out]; rfl, by rw [HL.out, Hn.out]; exact Hc.out, by rw [HL.out]; exact HX.out, HT.out, .inr ⟨b, o, rfl⟩, HLo.out.1, N.out.drew⟩
    · have hee : (x.a == p.a && x.n == p.n) = false := by
        rw [Bool.eq_false_iff]
        intro h
        rw [Bool.and_eq_true, beq_iff_eq, beq_iff_eq] at h
        obtain ⟨a1, a2⟩ := x
        obtain ⟨b1, b2⟩ := p
        exact he (by dsimp only at h; rw [h.1, h.2])
      have HL := hide (hd.2 he)
      clear hd hx he
      go_upto_region 7 with (fail)
      go_region
      go_upto_region 10 with (fail)
      have NX := hide ((Upd.refl (fun _ => False) wc).drew)
      clear g1 g3 hee q0 q1 i1
      generalize wc.drew = wx at *
      have hcj : ¬ c = k := by have := Hc.out; omega
      have HX := hide (HX.out.new_ NX.out)
      have HP := hide (HP.out.new_ NX.out)
      have N := hide (N.out.trans_new NX.out)
      have hkn : k ≤ l.length := by rw [Hn.out]; exact hk
      have hkc : k ≤ c := by have := Hc.out; omega
      have hkt : (flat ((l.take k).map Pf.cells)).length = k * 2 := by rw [flat_pfW, List.length_take, Nat.min_eq_left hkn]
      have Htk := hide hkt
      have hi0 := Hi0.out
      obtain ⟨hz0, hz1, hz2⟩ := Hz.out
      clear hkt
      go_wp2_with (at_builtin; refine append_src rfl (.tmp 33) (.tmp 36) 46 rfl wx.heap.size TPf i0 _ 2 16 Tryz.underlying46 hi0 hz0 hz1 hz2 rfl (by omega) (.slice none 0 0) 0 [] rfl (World.ownsRow_nil _ _ _ _) _ k _ (flat ((l.take k).map Pf.cells)) rfl Htk.out (pf_take_atW HX.out k hkn) (wpf_oneW _) (by unfold maxLen; omega) (by omega) (Nat.le_refl _) ?_)
      intro v1 w3 ho3 hg3
      have u3 : New wx w3 := grown_new hg3
      have Ho3 := hide (show w3.ownsRow wx.heap.size TPf 2 v1 k (flat ((l.take k).map Pf.cells)) by simpa using ho3)
      have U3 := hide u3
      have pp := HP.out.new_ u3
      have p0 := pp.cell 0
      have p1 := pp.cell 1
      have pz := pp.lt
      simp only [List.getElem?_toArray, List.getElem?_cons_zero, List.getElem?_cons_succ] at p0 p1
      have z3 : wx.heap.size ≤ (w3.alloc (.cells #[.int .i64 p.a, .int .i64 p.n] TPf)).heap.size := (u3.alloc _).size
      clear pp u3 ho3 hg3
      go_wp2_with (at_builtin; refine append_src rfl (.tmp 38) (.tmp 40) 46 rfl wx.heap.size TPf i0 _ 2 16 Tryz.underlying46 hi0 hz0 hz1 hz2 rfl (by omega) v1 k (flat ((l.take k).map Pf.cells)) rfl (row_upd Ho3.out ((Upd.refl (fun _ => False) _).alloc _) (fun _ _ x => x)) (some ⟨w3.heap.size, 0, none⟩) 1 1 [.int .i64 p.a, .int .i64 p.n] rfl rfl (fun _ => ⟨_, _, rfl, row_cellsW rfl⟩) (by simp [Value.oneCell']) (by unfold maxLen; omega) (by omega) z3 ?_)
      intro v2 w4 ho4 hg4
      have n4 : New wx w4 := (U3.out.alloc _).trans (grown_upd (S := fun q => v1.ownBlock = some q) hg4 fun g h => h) fun q hq hx => by have := (Ho3.out.lt q hx).1; omega
      have Ho4 := hide ho4
      have N4 := hide n4
      have z4 := n4.size
      have HX4 := hide (HX.out.new_ n4)
      clear p0 p1 pz z3 ho4 hg4 n4
      go_wp2_with (at_builtin; refine append_src rfl (.tmp 42) (.tmp 45) 46 rfl wx.heap.size TPf i0 _ 2 16 Tryz.underlying46 hi0 hz0 hz1 hz2 rfl (by omega) v2 (k + 1) _ rfl Ho4.out _ _ _ (flat ((l.drop k).map Pf.cells)) rfl (by first | (rw [flat_pfW, List.length_drop, Hn.out]; done) | (rw [flat_pfW, List.length_drop, Hn.out]; first | rfl | simp | omega)) (fun _ => by
              obtain ⟨b1, q1, hA, hc1⟩ := pf_drop_atW HX4.out k (by rw [Hn.out]; exact hlt)
              injection hA with hA
              injection hA with hA1 hA2 _
              subst hA1; subst hA2
              exact ⟨_, _, (by have := Hc.out; first | rfl | (rw [if_neg (by omega)]) | (simp; omega)), hc1⟩) (wpf_oneW _) (by unfold maxLen; omega) (by omega) z4 ?_)
      intro v3 w5 ho5 hg5
      have n5 : New wx w5 := N4.out.trans (grown_upd (S := fun q => v2.ownBlock = some q) hg5 fun g h => h) fun q hq hx => by have := (Ho4.out.lt q hx).1; omega
      have e1 : flat ((l.take k ++ p :: l.drop k).map Pf.cells) = flat ((l.take k).map Pf.cells) ++ [.int .i64 p.a, .int .i64 p.n] ++ flat ((l.drop k).map Pf.cells) := by
        rw [List.map_append, flat_append, List.map_cons, List.append_assoc]
        rfl
      have e2 : (l.take k ++ p :: l.drop k).length = k + 1 + (n - k) := by
        rw [List.length_append, List.length_cons, List.length_take, List.length_drop, Hn.out]
        omega
      have Ho5 : Hid (w5.ownsRow wx.heap.size TPf 2 v3 L.length (flat (L.map Pf.cells))) := hide (by
        rw [HL.out, e2, e1]
        first | exact ho5 | simpa using ho5)
      have N5 := hide (N.out.trans_new n5)
      clear e1 e2 ho5 hg5 n5
      obtain ⟨A3, cap3, rfl, h31, h32, h33, h34, h35⟩ := rws_of_own (by omega) Ho5.out (wpf_sizeW _)
      have HF := hide (own_formAW Ho5.out)
      have HBs := hide (show ∀ b o, A3 = some ⟨b, o, none⟩ → B ≤ b from fun b o e => Nat.le_trans (HLo.out.2 _ N.out) (h34 b o e))
      have H3 := hide (And.intro h32 (And.intro h33 h35))
      obtain ⟨LL, hLL⟩ : ∃ LL, LL = L.length := ⟨_, rfl⟩
      rw [← hLL]
      have HLL := hide hLL
      clear h31 h32 h33 h34 h35 hLL
      go_wp2_with fail
      go_ret
      exact ⟨A3, cap3, by rw [HLL.out]; rfl, H3.out.1, H3.out.2.1, H3.out.2.2, HF.out, HBs.out, N5.out⟩
  · obtain rfl : k = n := by omega
    have i1 : ¬ (k : Int) < (k : Int) := by omega
    have HL := hide (Hd.out.2 Hn.out.symm)
    go_upto_region 10 with (fail)
    have NX := hide (Upd.refl (fun _ => False) wc)
    rcases HA0.out with ⟨rfl, rfl⟩ | ⟨b, o, rfl⟩
    · obtain rfl : k = 0 := by have := Hc.out; omega
      have HX := hide (HX.out.new_ NX.out)
      have HP := hide (HP.out.new_ NX.out)
      have N := hide (N.out.trans_new NX.out)
      have hkn : 0 ≤ l.length := Nat.zero_le _
      have hkt : (flat ((l.take 0).map Pf.cells)).length = 0 * 2 := by rw [flat_pfW, List.length_take, Nat.min_eq_left hkn]
      have Htk := hide hkt
      have hi0 := Hi0.out
      obtain ⟨hz0, hz1, hz2⟩ := Hz.out
      clear hkt
      go_wp2_with (at_builtin; refine append_src rfl (.tmp 33) (.tmp 36) 46 rfl wc.heap.size TPf i0 _ 2 16 Tryz.underlying46 hi0 hz0 hz1 hz2 rfl (by omega) (.slice none 0 0) 0 [] rfl (World.ownsRow_nil _ _ _ _) _ 0 _ (flat ((l.take 0).map Pf.cells)) rfl Htk.out (fun h => absurd h (by omega)) (wpf_oneW _) (by unfold maxLen; omega) (by omega) (Nat.le_refl _) ?_)
      intro v1 w3 ho3 hg3
      have u3 : New wc w3 := grown_new hg3
      have Ho3 := hide (show w3.ownsRow wc.heap.size TPf 2 v1 0 (flat ((l.take 0).map Pf.cells)) by simpa using ho3)
      have U3 := hide u3
      have pp := HP.out.new_ u3
      have p0 := pp.cell 0
      have p1 := pp.cell 1
      have pz := pp.lt
      simp only [List.getElem?_toArray, List.getElem?_cons_zero, List.getElem?_cons_succ] at p0 p1
      have z3 : wc.heap.size ≤ (w3.alloc (.cells #[.int .i64 p.a, .int .i64 p.n] TPf)).heap.size := (u3.alloc _).size
      clear pp u3 ho3 hg3
      go_wp2_with (at_builtin; refine append_src rfl (.tmp 38) (.tmp 40) 46 rfl wc.heap.size TPf i0 _ 2 16 Tryz.underlying46 hi0 hz0 hz1 hz2 rfl (by omega) v1 0 (flat ((l.take 0).map Pf.cells)) rfl (row_upd Ho3.out ((Upd.refl (fun _ => False) _).alloc _) (fun _ _ x => x)) (some ⟨w3.heap.size, 0, none⟩) 1 1 [.int .i64 p.a, .int .i64 p.n] rfl rfl (fun _ => ⟨_, _, rfl, row_cellsW rfl⟩) (by simp [Value.oneCell']) (by unfold maxLen; omega) (by omega) z3 ?_)
      intro v2 w4 ho4 hg4
      have n4 : New wc w4 := (U3.out.alloc _).trans (grown_upd (S := fun q => v1.ownBlock = some q) hg4 fun g h => h) fun q hq hx => by have := (Ho3.out.lt q hx).1; omega
      have Ho4 := hide ho4
      have N4 := hide n4
      have z4 := n4.size
      have HX4 := hide (HX.out.new_ n4)
      clear p0 p1 pz z3 ho4 hg4 n4
      go_wp2_with (at_builtin; refine append_src rfl (.tmp 42) (.tmp 45) 46 rfl wc.heap.size TPf i0 _ 2 16 Tryz.underlying46 hi0 hz0 hz1 hz2 rfl (by omega) v2 1 _ rfl Ho4.out _ _ _ (flat ((l.drop 0).map Pf.cells)) rfl (by first | (rw [flat_pfW, List.length_drop, Hn.out]; done) | (rw [flat_pfW, List.length_drop, Hn.out]; first | rfl | simp | omega)) (fun h => absurd h (by simp)) (wpf_oneW _) (by unfold maxLen; omega) (by omega) z4 ?_)
      intro v3 w5 ho5 hg5
      have n5 : New wc w5 := N4.out.trans (grown_upd (S := fun q => v2.ownBlock = some q) hg5 fun g h => h) fun q hq hx => by have := (Ho4.out.lt q hx).1; omega
      have e1 : flat ((l.take 0 ++ p :: l.drop 0).map Pf.cells) = flat ((l.take 0).map Pf.cells) ++ [.int .i64 p.a, .int .i64 p.n] ++ flat ((l.drop 0).map Pf.cells) := by
        rw [List.map_append, flat_append, List.map_cons, List.append_assoc]
        rfl
      have e2 : (l.take 0 ++ p :: l.drop 0).length = 1 + (0 - 0) := by
        rw [List.length_append, List.length_cons, List.length_take, List.length_drop, Hn.out]
        omega
      have Ho5 : Hid (w5.ownsRow wc.heap.size TPf 2 v3 L.length (flat (L.map Pf.cells))) := hide (by
        rw [HL.out, e2, e1]
        first | exact ho5 | simpa using ho5)
      have N5 := hide (N.out.trans_new n5)
      clear e1 e2 ho5 hg5 n5
      obtain ⟨A3, cap3, rfl, h31, h32, h33, h34, h35⟩ := rws_of_own (by omega) Ho5.out (wpf_sizeW _)
      have HF := hide (own_formAW Ho5.out)
      have HBs := hide (show ∀ b o, A3 = some ⟨b, o, none⟩ → B ≤ b from fun b o e => Nat.le_trans (HLo.out.2 _ N.out) (h34 b o e))
      have H3 := hide (And.intro h32 (And.intro h33 h35))
      obtain ⟨LL, hLL⟩ : ∃ LL, LL = L.length := ⟨_, rfl⟩
      rw [← hLL]
      have HLL := hide hLL
      clear h31 h32 h33 h34 h35 hLL
      go_wp2_with fail
      go_ret
      exact ⟨A3, cap3, by rw [HLL.out]; rfl, H3.out.1, H3.out.2.1, H3.out.2.2, HF.out, HBs.out, N5.out⟩
    · have hck : k = c ∨ ¬ c = k := by omega
      rcases hck with rfl | hck
      all_goals
        have HX := hide (HX.out.new_ NX.out)
        have HP := hide (HP.out.new_ NX.out)
        have N := hide (N.out.trans_new NX.out)
        have hkn : k ≤ l.length := by rw [Hn.out]; exact hk
        have hkc := Hc.out
        have hkt : (flat ((l.take k).map Pf.cells)).length = k * 2 := by rw [flat_pfW, List.length_take, Nat.min_eq_left hkn]
        have Htk := hide hkt
        have hi0 := Hi0.out
        obtain ⟨hz0, hz1, hz2⟩ := Hz.out
        clear hkt
        go_wp2_with (at_builtin; refine append_src rfl (.tmp 33) (.tmp 36) 46 rfl wc.heap.size TPf i0 _ 2 16 Tryz.underlying46 hi0 hz0 hz1 hz2 rfl (by omega) (.slice none 0 0) 0 [] rfl (World.ownsRow_nil _ _ _ _) _ k _ (flat ((l.take k).map Pf.cells)) rfl Htk.out (pf_take_atW HX.out k hkn) (wpf_oneW _) (by unfold maxLen; omega) (by omega) (Nat.le_refl _) ?_)
        intro v1 w3 ho3 hg3
        have u3 : New wc w3 := grown_new hg3
        have Ho3 := hide (show w3.ownsRow wc.heap.size TPf 2 v1 k (flat ((l.take k).map Pf.cells)) by simpa using ho3)
        have U3 := hide u3
        have pp := HP.out.new_ u3
        have p0 := pp.cell 0
        have p1 := pp.cell 1
        have pz := pp.lt
        simp only [List.getElem?_toArray, List.getElem?_cons_zero, List.getElem?_cons_succ] at p0 p1
        have z3 : wc.heap.size ≤ (w3.alloc (.cells #[.int .i64 p.a, .int .i64 p.n] TPf)).heap.size := (u3.alloc _).size
        clear pp u3 ho3 hg3
        go_wp2_with (at_builtin; refine append_src rfl (.tmp 38) (.tmp 40) 46 rfl wc.heap.size TPf i0 _ 2 16 Tryz.underlying46 hi0 hz0 hz1 hz2 rfl (by omega) v1 k (flat ((l.take k).map Pf.cells)) rfl (row_upd Ho3.out ((Upd.refl (fun _ => False) _).alloc _) (fun _ _ x => x)) (some ⟨w3.heap.size, 0, none⟩) 1 1 [.int .i64 p.a, .int .i64 p.n] rfl rfl (fun _ => ⟨_, _, rfl, row_cellsW rfl⟩) (by simp [Value.oneCell']) (by unfold maxLen; omega) (by omega) z3 ?_)
        intro v2 w4 ho4 hg4
        have n4 : New wc w4 := (U3.out.alloc _).trans (grown_upd (S := fun q => v1.ownBlock = some q) hg4 fun g h => h) fun q hq hx => by have := (Ho3.out.lt q hx).1; omega
        have Ho4 := hide ho4
        have N4 := hide n4
        have z4 := n4.size
        have HX4 := hide (HX.out.new_ n4)
        clear p0 p1 pz z3 ho4 hg4 n4
        go_wp2_with (at_builtin; refine append_src rfl (.tmp 42) (.tmp 45) 46 rfl wc.heap.size TPf i0 _ 2 16 Tryz.underlying46 hi0 hz0 hz1 hz2 rfl (by omega) v2 (k + 1) _ rfl Ho4.out _ _ _ (flat ((l.drop k).map Pf.cells)) rfl (by first | (rw [flat_pfW, List.length_drop, Hn.out]; done) | (rw [flat_pfW, List.length_drop, Hn.out]; first | rfl | simp | omega)) (fun h => absurd h (by simp)) (wpf_oneW _) (by unfold maxLen; omega) (by omega) z4 ?_)
        intro v3 w5 ho5 hg5
        have n5 : New wc w5 := N4.out.trans (grown_upd (S := fun q => v2.ownBlock = some q) hg5 fun g h => h) fun q hq hx => by have := (Ho4.out.lt q hx).1; omega
        have e1 : flat ((l.take k ++ p :: l.drop k).map Pf.cells) = flat ((l.take k).map Pf.cells) ++ [.int .i64 p.a, .int .i64 p.n] ++ flat ((l.drop k).map Pf.cells) := by
          rw [List.map_append, flat_append, List.map_cons, List.append_assoc]
          rfl
        have e2 : (l.take k ++ p :: l.drop k).length = k + 1 + (k - k) := by
          rw [List.length_append, List.length_cons, List.length_take, List.length_drop, Hn.out]
          omega
        have Ho5 : Hid (w5.ownsRow wc.heap.size TPf 2 v3 L.length (flat (L.map Pf.cells))) := hide (by
          rw [HL.out, e2, e1]
          first | exact ho5 | simpa using ho5)
        have N5 := hide (N.out.trans_new n5)
        clear e1 e2 ho5 hg5 n5
        obtain ⟨A3, cap3, rfl, h31, h32, h33, h34, h35⟩ := rws_of_own (by omega) Ho5.out (wpf_sizeW _)
        have HF := hide (own_formAW Ho5.out)
        have HBs := hide (show ∀ b o, A3 = some ⟨b, o, none⟩ → B ≤ b from fun b o e => Nat.le_trans (HLo.out.2 _ N.out) (h34 b o e))
        have H3 := hide (And.intro h32 (And.intro h33 h35))
        obtain ⟨LL, hLL⟩ : ∃ LL, LL = L.length := ⟨_, rfl⟩
        rw [← hLL]
        have HLL := hide hLL
        clear h31 h32 h33 h34 h35 hLL
        go_wp2_with fail
        go_ret
        exact ⟨A3, cap3, by rw [HLL.out]; rfl, H3.out.1, H3.out.2.1, H3.out.2.2, HF.out, HBs.out, N5.out⟩end Go.Proofs.YtimhbgpnkodlaaaGreatDoor

/- The document's messages: headOf, dropped. No condition but those that stand in each theorem. -/
import Derived.Test.YtjgecmkfgeajiaaGreatDoorWrR
import Derived.Test.YtjgecmkfgeajiaaGreatDoorDd1
import Derived.Test.YtjgecmkfgeajiaaGreatDoorRf1
import Derived.Test.YtjgecmkfgeajiaaGreatDoorRa1
import Derived.Deep.AppendLies
namespace Go.Proofs.YtjgecmkfgeajiaaGreatDoor
open Go.RowKit

set_option maxRecDepth 20000 in
set_option maxHeartbeats 2000000 in
theorem headRef_any (s : ByteArray) (w : World) (hs : s.size ≤ 10000) :
    Calls Tryz.prog 51 #[.string s] w fun e w1 => ∃ (k : List UInt8) (n : Int), e = .returned (.tuple #[.agg #[.string ⟨k.toArray⟩, .int .i64 n, .slice none 0 0, .slice none 0 0], .bool (headP s.data.toList).isSome]) ∧ (∀ x, headP s.data.toList = some x → x = (k, n)) ∧ New w w1 := by
  have u := (Upd.refl (fun _ => False) w).alloc (.cells #[.string ⟨#[]⟩, .int .i64 0, .slice none 0 0, .slice none 0 0] TM)
  have N := hide u
  have HR := hide (Blk.new w TM #[.string ⟨#[]⟩, .int .i64 0, .slice none 0 0, .slice none 0 0])
  have hll : s.data.toList.length = s.size := by simp
  have hsp := cutRef_any s 32 (w.alloc (.cells #[.string ⟨#[]⟩, .int .i64 0, .slice none 0 0, .slice none 0 0] TM)) (by omega)
  have hpi := cutR_piece 32 s.data.toList
  have hp1 := fun x => headP_one (l := s.data.toList) (x := x)
  have hp0 := headP_no (l := s.data.toList)
  have hp2 := fun x y => headP_two (l := s.data.toList) (x := x) (y := y)
  have hself : ∀ k, (k = kKeep ∨ k = kNews) → s.data.toList = k → headP s.data.toList = some (k, 0) := fun k hk e => by
    unfold headP
    rw [e, if_pos hk]
  have hne : ∀ x, ¬ (s.data.toList = kKeep ∨ s.data.toList = kNews) → cutR 32 s.data.toList = [x] → ¬ (x = kKeep ∨ x = kNews) := fun x h e => by
    have : joinC 32 (cutR 32 s.data.toList) = s.data.toList := cutR_join 32 _
    rw [e] at this
    have : x = s.data.toList := this
    rw [this]
    exact h
  obtain ⟨l, hl⟩ : ∃ l, l = s.data.toList := ⟨_, rfl⟩
  obtain rfl : s = ⟨l.toArray⟩ := by rw [hl]
  have hl2 : (⟨l.toArray⟩ : ByteArray).data.toList = l := rfl
  rw [hl2] at hsp hpi hp1 hp0 hp2 hself hne hll ⊢
  clear hl hl2
  obtain ⟨R, hR⟩ : ∃ R, R = headP l := ⟨_, rfl⟩
  simp only [← hR] at hp0 hp1 hp2 hself ⊢
  generalize cutR 32 l = ps at *
  have Hsp := hide hsp
  have Hpi := hide hpi
  have Hp0 := hide hp0
  have Hp1 := hide hp1
  have Hp2 := hide hp2
  have Hself := hide hself
  have Hne := hide hne
  have Hll := hide (show l.length ≤ 10000 by rw [hll]; exact hs)
  clear u hsp hpi hp0 hp1 hp2 hself hne hR hll
  go_enter Tryz.func51, Tryz.ntmps51
  go_upto_region 1 with (fail)
  generalize w.alloc (.cells #[.string ⟨#[]⟩, .int .i64 0, .slice none 0 0, .slice none 0 0] TM) = W at *
  obtain ⟨X, hX⟩ : ∃ X, X = w.heap.size := ⟨_, rfl⟩
  rw [← hX] at HR ⊢
  have HX := hide hX
  clear hX
  by_cases hk : l = kKeep
  · have He := hide (Hself.out _ (.inl rfl) hk)
    obtain rfl : l = [107, 101, 101, 112] := hk
    have bq := HR.out
    have r0 := bq.cell 0
    have r1 := bq.cell 1
    have r2 := bq.cell 2
    have r3 := bq.cell 3
    have s0 := bq.frozen 0
    have s1 := bq.frozen 1
    have s2 := bq.frozen 2
    have s3 := bq.frozen 3
    have rz := bq.lt
    simp only [List.getElem?_toArray, List.getElem?_cons_zero, List.getElem?_cons_succ] at r0 r1 r2 r3
    clear bq
    go_wp2_with fail
    refine bodyPost_ret (msg_out2 Tryz.results51 rfl (set4 HR.out)) rfl ?_
    exact ⟨kKeep, 0, by rw [He.out]; rfl, (fun y hy => by rw [He.out] at hy; exact (Option.some.inj hy).symm), set4_new N.out (by rw [HX.out]; exact Nat.le_refl _)⟩
  have kk : ¬ l = [107, 101, 101, 112] := hk
  have kkb : (l == [107, 101, 101, 112]) = false := beq_eq_false_iff_ne.2 kk
  by_cases hn : l = kNews
  · have He := hide (Hself.out _ (.inr rfl) hn)
    obtain rfl : l = [110, 101, 119, 115] := hn
    have bq := HR.out
    have r0 := bq.cell 0
    have r1 := bq.cell 1
    have r2 := bq.cell 2
    have r3 := bq.cell 3
    have s0 := bq.frozen 0
    have s1 := bq.frozen 1
    have s2 := bq.frozen 2
    have s3 := bq.frozen 3
    have rz := bq.lt
    simp only [List.getElem?_toArray, List.getElem?_cons_zero, List.getElem?_cons_succ] at r0 r1 r2 r3
    clear bq
    go_wp2_with fail
    refine bodyPost_ret (msg_out2 Tryz.results51 rfl (set4 HR.out)) rfl ?_
    exact ⟨kNews, 0, by rw [He.out]; rfl, (fun y hy => by rw [He.out] at hy; exact (Option.some.inj hy).symm), set4_new N.out (by rw [HX.out]; exact Nat.le_refl _)⟩
  have kn : ¬ l = [110, 101, 119, 115] := hn
  have knb : (l == [110, 101, 119, 115]) = false := beq_eq_false_iff_ne.2 kn
  have HN := hide (show ¬ (l = kKeep ∨ l = kNews) from fun h => h.elim hk hn)
  clear hk hn
  go_wp2_with fail
  refine Hsp.out.mono ?_
  rintro e w1 ⟨v, rfl, ho, hu⟩
  obtain ⟨A, cap, rfl, _, _, hS⟩ := ss_of_own ho
  have HS := hide hS
  have N := hide (N.out.trans_new hu)
  have HR := hide (HR.out.new_ hu)
  clear ho hu hS Hsp kk kkb kn knb
  by_cases h2 : ps.length = 2
  rotate_left
  · have i2 : ((ps.length : Int) != 2) = true := by
      rw [bne_iff_ne]; omega
    have He := hide (show R = none by
      by_cases h1 : ps.length = 1
      · obtain ⟨x, rfl⟩ := List.length_eq_one_iff.1 h1
        rw [Hp1.out x rfl, if_neg (Hne.out x HN.out rfl)]
      · exact Hp0.out h1 h2)
    clear h2
    have bq := HR.out
    have r0 := bq.cell 0
    have r1 := bq.cell 1
    have r2 := bq.cell 2
    have r3 := bq.cell 3
    have s0 := bq.frozen 0
    have s1 := bq.frozen 1
    have s2 := bq.frozen 2
    have s3 := bq.frozen 3
    have rz := bq.lt
    simp only [List.getElem?_toArray, List.getElem?_cons_zero, List.getElem?_cons_succ] at r0 r1 r2 r3
    clear bq
    go_wp2_with fail
    refine bodyPost_ret (msg_out2 Tryz.results51 rfl (set4 HR.out)) rfl ?_
    exact ⟨[], 0, by rw [He.out]; rfl, (fun y hy => by rw [He.out] at hy; cases hy), set4_new N.out (by rw [HX.out]; exact Nat.le_refl _)⟩
  obtain ⟨x, y, rfl⟩ : ∃ x y, ps = [x, y] := by
    match ps, h2 with
    | [x, y], _ => exact ⟨x, y, rfl⟩
  obtain ⟨b, o, hA, hb, hcc⟩ := HS.out (by simp)
  subst hA
  have q0 : w1.cell? ⟨b, o, none⟩ = some (.string ⟨x.toArray⟩) := hcc 0 x rfl
  have q1 : w1.cell? ⟨b, o + 1, none⟩ = some (.string ⟨y.toArray⟩) := hcc 1 y rfl
  have he := Hp2.out x y rfl
  have hyl := Hpi.out y (by simp)
  have hnm := numberOf_any ⟨y.toArray⟩ w1 (by show y.toArray.size ≤ _; have := Hll.out; simp; omega)
  have hnm : Calls Tryz.prog 90 #[.string ⟨y.toArray⟩] w1 fun e w2 => e = .returned (.int .i64 (numR y)) ∧ w1 = w2 := hnm
  generalize numR y = n at *
  have Hnm := hide hnm
  have He0 := hide he
  have i2 : (((2 : Nat) : Int) != 2) = false := rfl
  clear h2 hcc HS Hp0 Hp1 Hp2 Hpi Hself Hne HN hyl he hnm
  by_cases hn0 : n < 0
  · have He := hide (show R = none by rw [He0.out, if_neg (fun h => by have := h.2; omega)])
    go_wp2_with fail
    refine Hnm.out.mono ?_
    rintro e w2 ⟨rfl, rfl⟩
    have bq := HR.out
    have r0 := bq.cell 0
    have r1 := bq.cell 1
    have r2 := bq.cell 2
    have r3 := bq.cell 3
    have s0 := bq.frozen 0
    have s1 := bq.frozen 1
    have s2 := bq.frozen 2
    have s3 := bq.frozen 3
    have rz := bq.lt
    simp only [List.getElem?_toArray, List.getElem?_cons_zero, List.getElem?_cons_succ] at r0 r1 r2 r3
    clear bq
    go_wp2_with fail
    refine bodyPost_ret (msg_out2 Tryz.results51 rfl (set4 HR.out)) rfl ?_
    exact ⟨[], 0, by rw [He.out]; rfl, (fun y hy => by rw [He.out] at hy; cases hy), set4_new N.out (by rw [HX.out]; exact Nat.le_refl _)⟩
  by_cases ho : x = kOpen
  · have He := hide (show R = some (x, n) by rw [He0.out, if_pos ⟨.inl ho, by omega⟩])
    obtain rfl : x = [111, 112, 101, 110] := ho
    go_wp2_with fail
    refine Hnm.out.mono ?_
    rintro e w2 ⟨rfl, rfl⟩
    have bq := HR.out
    have r0 := bq.cell 0
    have r1 := bq.cell 1
    have r2 := bq.cell 2
    have r3 := bq.cell 3
    have s0 := bq.frozen 0
    have s1 := bq.frozen 1
    have s2 := bq.frozen 2
    have s3 := bq.frozen 3
    have rz := bq.lt
    simp only [List.getElem?_toArray, List.getElem?_cons_zero, List.getElem?_cons_succ] at r0 r1 r2 r3
    clear bq
    go_wp2_with fail
    refine bodyPost_ret (msg_out2 Tryz.results51 rfl (set4 HR.out)) rfl ?_
    exact ⟨kOpen, n, by rw [He.out]; rfl, (fun y hy => by rw [He.out] at hy; exact (Option.some.inj hy).symm), set4_new N.out (by rw [HX.out]; exact Nat.le_refl _)⟩
  have kk : ¬ x = [111, 112, 101, 110] := ho
  have kkb : (x == [111, 112, 101, 110]) = false := beq_eq_false_iff_ne.2 kk
  by_cases hn : x = kNote
  · have He := hide (show R = some (x, n) by rw [He0.out, if_pos ⟨.inr hn, by omega⟩])
    obtain rfl : x = [110, 111, 116, 101] := hn
    go_wp2_with fail
    refine Hnm.out.mono ?_
    rintro e w2 ⟨rfl, rfl⟩
    have bq := HR.out
    have r0 := bq.cell 0
    have r1 := bq.cell 1
    have r2 := bq.cell 2
    have r3 := bq.cell 3
    have s0 := bq.frozen 0
    have s1 := bq.frozen 1
    have s2 := bq.frozen 2
    have s3 := bq.frozen 3
    have rz := bq.lt
    simp only [List.getElem?_toArray, List.getElem?_cons_zero, List.getElem?_cons_succ] at r0 r1 r2 r3
    clear bq
    go_wp2_with fail
    refine bodyPost_ret (msg_out2 Tryz.results51 rfl (set4 HR.out)) rfl ?_
    exact ⟨kNote, n, by rw [He.out]; rfl, (fun y hy => by rw [He.out] at hy; exact (Option.some.inj hy).symm), set4_new N.out (by rw [HX.out]; exact Nat.le_refl _)⟩
  have kn : ¬ x = [110, 111, 116, 101] := hn
  have knb : (x == [110, 111, 116, 101]) = false := beq_eq_false_iff_ne.2 kn
  have He := hide (show R = none by rw [He0.out, if_neg (fun h => h.1.elim ho hn)])
  clear ho hn
  go_wp2_with fail
  refine Hnm.out.mono ?_
  rintro e w2 ⟨rfl, rfl⟩
  have bq := HR.out
  have r0 := bq.cell 0
  have r1 := bq.cell 1
  have r2 := bq.cell 2
  have r3 := bq.cell 3
  have s0 := bq.frozen 0
  have s1 := bq.frozen 1
  have s2 := bq.frozen 2
  have s3 := bq.frozen 3
  have rz := bq.lt
  simp only [List.getElem?_toArray, List.getElem?_cons_zero, List.getElem?_cons_succ] at r0 r1 r2 r3
  clear bq
  go_wp2_with fail
  refine bodyPost_ret (msg_out2 Tryz.results51 rfl (set4 HR.out)) rfl ?_
  exact ⟨[], 0, by rw [He.out]; rfl, (fun y hy => by rw [He.out] at hy; cases hy), set4_new N.out (by rw [HX.out]; exact Nat.le_refl _)⟩

theorem ahead_ge (a b : Pf) : aheadB a.a a.n b.a b.n = !geP b a := by
  rw [ahead_cmp]
  unfold geP
  by_cases h : cmpP a.a a.n b.a b.n < 0
  · rw [decide_eq_true h, decide_eq_false (by omega)]; rfl
  · rw [decide_eq_false h, decide_eq_true (by omega)]; rfl
theorem flat_take_drop (l : List Pf) (k : Nat) (hk : k ≤ l.length) : (∀ (j : Nat) (u : Value), (flat ((l.take k).map Pf.cells))[j]? = some u → (flat (l.map Pf.cells))[j]? = some u) ∧ ∀ (j : Nat) (u : Value), (flat ((l.drop k).map Pf.cells))[j]? = some u → (flat (l.map Pf.cells))[k * 2 + j]? = some u := by
  have e : flat (l.map Pf.cells) = flat ((l.take k).map Pf.cells) ++ flat ((l.drop k).map Pf.cells) := by
    rw [← flat_append, ← List.map_append, List.take_append_drop]
  have hl : (flat ((l.take k).map Pf.cells)).length = k * 2 := by rw [flat_pf, List.length_take, Nat.min_eq_left hk]
  refine ⟨fun j u h => ?_, fun j u h => ?_⟩
  · rw [e, List.getElem?_append_left (List.getElem?_eq_some_iff.1 h).1]
    exact h
  · rw [e, List.getElem?_append_right (by omega), hl, Nat.add_sub_cancel_left]
    exact h
theorem pf_take_at {w : World} {A : Option Addr} {l : List Pf} (h : Pfs w A l) (k : Nat) (hk : k ≤ l.length) : 0 < k → ∃ b q, A = some ⟨b, q, none⟩ ∧ ∀ (j : Nat) (u : Value), (flat ((l.take k).map Pf.cells))[j]? = some u → w.cell? ⟨b, q + j, none⟩ = some u := fun h0 => by
  obtain ⟨b, q, hA, hc⟩ := Rws.flat (by omega) h (wpf_size l) (by rw [List.length_map]; omega)
  exact ⟨b, q, hA, fun j u hu => hc j u ((flat_take_drop l k hk).1 j u hu)⟩
theorem pf_drop_at {w : World} {A : Option Addr} {l : List Pf} (h : Pfs w A l) (k : Nat) (hk : k < l.length) : ∃ b q, A = some ⟨b, q, none⟩ ∧ ∀ (j : Nat) (u : Value), (flat ((l.drop k).map Pf.cells))[j]? = some u → w.cell? ⟨b, q + k * 2 + j, none⟩ = some u := by
  obtain ⟨b, q, hA, hc⟩ := Rws.flat (by omega) h (wpf_size l) (by rw [List.length_map]; omega)
  exact ⟨b, q, hA, fun j u hu => by rw [Nat.add_assoc]; exact hc _ u ((flat_take_drop l k (by omega)).2 j u hu)⟩
theorem dropIn_at {l : List Pf} {p : Pf} {k : Nat} (hz : ∀ (i : Nat) x, i < k → l[i]? = some x → geP p x = false) :
    (∀ x, l[k]? = some x → geP p x = true → (x = p → dropIn l p = l) ∧ (x ≠ p → dropIn l p = l.take k ++ p :: l.drop k)) ∧ (k = l.length → dropIn l p = l.take k ++ p :: l.drop k) := by
  refine ⟨fun x hx hg => ?_, fun hk => ?_⟩
  · have hi : idxB (geP p) l = (k : Int) := idxB_at (geP p) l k x hx hg hz
    have e : (k : Int).toNat = k := Int.toNat_natCast _
    unfold dropIn
    rw [hi, if_neg (by omega), e, hx]
    refine ⟨fun h => by rw [if_pos (by rw [h])], fun h => by rw [if_neg (fun e => h (Option.some.inj e))]⟩
  · subst hk
    have hi : idxB (geP p) l < 0 := by
      rcases idxB_spec (geP p) l with ⟨h1, _⟩ | ⟨l1, x, l2, e, _, h2, _⟩
      · exact h1
      · have h3 := hz l1.length x (by rw [e]; simp) (by rw [e]; simp)
        rw [h2] at h3
        cases h3
    unfold dropIn
    rw [if_pos hi, List.take_length, List.drop_length]

/-- A slice is nil, or lies at a block. -/
def FormA (A : Option Addr) (c : Nat) : Prop := (A = none ∧ c = 0) ∨ ∃ b o, A = some ⟨b, o, none⟩
theorem own_formA {w : World} {base : Nat} {e : TypeId} {sz n c : Nat} {A : Option Addr} {xs : List Value} (h : w.ownsRow base e sz (.slice A n c) n xs) : FormA A c := by
  obtain ⟨_, h2⟩ := h
  rcases h2 with ⟨h3, _⟩ | ⟨g, cap, cur, h3, _⟩
  · injection h3 with a1 a2 a3
    exact .inl ⟨a1, a3⟩
  · injection h3 with a1 a2 a3
    exact .inr ⟨_, _, a1⟩
/-- What dropped leaves. -/
def DropPost (B : Nat) (L : List Pf) (w : World) (e : Ending) (w1 : World) : Prop :=
  ∃ A c, e = .returned (.slice A L.length c) ∧ L.length ≤ c ∧ Pfs w1 A L ∧ Typed w1 A TPf ∧ FormA A c ∧ (∀ b o, A = some ⟨b, o, none⟩ → B ≤ b) ∧ New w w1

set_option maxRecDepth 8000 in
set_option maxHeartbeats 4000000 in
theorem droppedRef_any (B : Nat) (A : Option Addr) (n c : Nat) (l : List Pf) (p : Pf) (w : World) (hx : Pfs w A l) (ht : Typed w A TPf) (hn : l.length = n) (hc : n ≤ c) (hA : FormA A c) (hlo : ∀ b o, A = some ⟨b, o, none⟩ → B ≤ b) (hB : B ≤ w.heap.size) (hl : n ≤ 100000) :
    Calls Tryz.prog 54 #[.slice A n c, .agg #[.int .i64 p.a, .int .i64 p.n]] w (DropPost B (dropIn l p) w) := by
  obtain ⟨i0, hi0, hz0, hz1, hz2⟩ := info_parts info_TPf
  have Hi0 := hide hi0
  have Hz := hide (And.intro hz0 (And.intro hz1 hz2))
  have u := (Upd.refl (fun _ => False) w).alloc (.cells #[.int .i64 p.a, .int .i64 p.n] TPf)
  have N := hide u
  have HP := hide (Blk.new w TPf #[.int .i64 p.a, .int .i64 p.n])
  have HX := hide (hx.new_ u)
  have HT := hide (ht.new_ u)
  have Hn := hide hn
  have Hc := hide hc
  have HA0 := hide hA
  have HLo := hide (And.intro hlo (fun (w2 : World) (hu : New w w2) => Nat.le_trans hB hu.size))
  have Hd := hide (fun k hz => dropIn_at (l := l) (p := p) (k := k) hz)
  clear u hx ht hn hi0 hz0 hz1 hz2 hc hA hlo hB
  obtain ⟨L, hL⟩ : ∃ L, L = dropIn l p := ⟨_, rfl⟩
  rw [← hL]
  simp only [← hL] at Hd
  clear hL
  go_enter Tryz.func54, Tryz.ntmps54
  go_upto_region 1 with (fail)
  generalize w.alloc (.cells #[.int .i64 p.a, .int .i64 p.n] TPf) = W at *
  generalize w.heap.size = X at *
  go_upto_block 0 with (fail)
  go_cut [5] (fun iv wz => ∃ k : Nat, k ≤ n ∧ iv = .int .i64 k ∧ New W wz ∧ (∀ (i : Nat) x, i < k → l[i]? = some x → geP p x = false) ∧ ∀ x, l[k]? = some x → geP p x = true)
  case first =>
    go_wp2_with fail
    go_loopw [5] (fun iv wr => ∃ k : Nat, k ≤ n ∧ iv = .int .i64 k ∧ New W wr ∧ ∀ (i : Nat) x, i < k → l[i]? = some x → geP p x = false) (fun iv _ => n - (intOf iv).toNat)
    case atStart => exact ⟨0, by omega, rfl, Upd.refl _ _, fun i x h => absurd h (by omega)⟩
    case round =>
      obtain ⟨k, hk, rfl, hu, hz⟩ := hrel
      have Hz := hide hz
      have Hu := hide hu
      clear hz
      by_cases hlt : k < n
      · obtain ⟨b, o, x, hA, hb, hx, q0, q1⟩ := (HX.out.new_ hu).at_ (k := k) (by have := Hn.out; omega)
        subst hA
        have i1 : (k : Int) < (n : Int) := by omega
        have hah := fun w' => isAhead_any x.a x.n p.a p.n w'
        have e := ahead_ge x p
        have bq := HP.out.new_ hu
        have p0 := bq.cell 0
        have p1 := bq.cell 1
        have pz := bq.lt
        simp only [List.getElem?_toArray, List.getElem?_cons_zero, List.getElem?_cons_succ] at p0 p1
        have Hx := hide hx
        clear bq hu hx
        cases hg : geP p x with
        | true =>
          rw [hg] at e
          rw [e] at hah
          have Hah : Hid (∀ w', Calls Tryz.prog 75 #[.agg #[.int .i64 x.a, .int .i64 x.n], .agg #[.int .i64 p.a, .int .i64 p.n]] w' fun e w1 => e = .returned (.bool false) ∧ New w' w1) := hide hah
          have Hg := hide hg
          clear hah e hg
          go_upto_region 3 with (fail)
          refine wp_region_new wr (Upd.refl _ _) (by kernel_rfl) (by kernel_rfl) ?_
          repeat (go_big_quiet_step ((go_at_call 75; exact new_call (Hah.out _))))
          refine wpQuiet_nil ?_
          rintro _ ⟨nq, rfl⟩
          go_wp2_with fail
          go_meet
          case rel => exact ⟨k, hk, rfl, Hu.out.trans_new nq.h, Hz.out, fun y hy => by rw [Hx.out] at hy; injection hy with hy; rw [← hy]; exact Hg.out⟩
        | false =>
          rw [hg] at e
          rw [e] at hah
          have Hah : Hid (∀ w', Calls Tryz.prog 75 #[.agg #[.int .i64 x.a, .int .i64 x.n], .agg #[.int .i64 p.a, .int .i64 p.n]] w' fun e w1 => e = .returned (.bool true) ∧ New w' w1) := hide hah
          have Hg := hide hg
          clear hah e hg
          go_upto_region 3 with (fail)
          refine wp_region_new wr (Upd.refl _ _) (by kernel_rfl) (by kernel_rfl) ?_
          repeat (go_big_quiet_step ((go_at_call 75; exact new_call (Hah.out _))))
          refine wpQuiet_nil ?_
          rintro _ ⟨nq, rfl⟩
          go_wp2_with fail
          refine ⟨⟨k + 1, by omega, by go_num, Hu.out.trans_new nq.h, fun i y hi hy => ?_⟩, by simp [intOf]; omega⟩
          by_cases hik : i < k
          · exact Hz.out i y hik hy
          · obtain rfl : i = k := by omega
            rw [Hx.out] at hy
            injection hy with hy
            rw [← hy]
            exact Hg.out
      · obtain rfl : k = n := by omega
        have i1 : ¬ (k : Int) < (k : Int) := by omega
        clear hu
        go_wp2_with fail
        go_meet
        case rel => exact ⟨k, Nat.le_refl _, rfl, Hu.out, Hz.out, fun y hy => by rw [List.getElem?_eq_none (by rw [Hn.out]; exact Nat.le_refl _)] at hy; cases hy⟩
  obtain ⟨k, hk, rfl, hu, hz, hge⟩ := hcut
  have N := hide (N.out.trans_new hu)
  have HX := hide (HX.out.new_ hu)
  have HT := hide (HT.out.new_ hu)
  have HP := hide (HP.out.new_ hu)
  have Hd := hide (Hd.out k hz)
  have Hge := hide hge
  clear hu hz hge
  have bq := HP.out
  have p0 := bq.cell 0
  have p1 := bq.cell 1
  have pz := bq.lt
  simp only [List.getElem?_toArray, List.getElem?_cons_zero, List.getElem?_cons_succ] at p0 p1
  clear bq
  by_cases hlt : k < n
  · obtain ⟨b, o, x, hA, hb, hx, q0, q1⟩ := HX.out.at_ (k := k) (by have := Hn.out; omega)
    subst hA
    have i1 : (k : Int) < (n : Int) := by omega
    have hd := Hd.out.1 x hx (Hge.out x hx)
    have g1 := guard_pfx
    have g3 := eql_pfx
    by_cases he : x = p
    · have hee : (x.a == p.a && x.n == p.n) = true := by rw [he]; simp
      have HL := hide (hd.1 he)
      clear hd hx he
      go_upto_region 7 with (fail)
      go_region
      go_wp2_with fail
      go_ret
      exact ⟨some ⟨b, o, none⟩, c, by rw [HL.out, Hn.out]; rfl, by rw [HL.out, Hn.out]; exact Hc.out, by rw [HL.out]; exact HX.out, HT.out, .inr ⟨b, o, rfl⟩, HLo.out.1, N.out.drew⟩
    · have hee : (x.a == p.a && x.n == p.n) = false := by
        rw [Bool.eq_false_iff]
        intro h
        rw [Bool.and_eq_true, beq_iff_eq, beq_iff_eq] at h
        obtain ⟨a1, a2⟩ := x
        obtain ⟨b1, b2⟩ := p
        exact he (by dsimp only at h; rw [h.1, h.2])
      have HL := hide (hd.2 he)
      clear hd hx he
      go_upto_region 7 with (fail)
      go_region
      go_upto_region 10 with (fail)
      have NX := hide ((Upd.refl (fun _ => False) wc).drew)
      clear g1 g3 hee q0 q1 i1
      generalize wc.drew = wx at *
      have hcj : ¬ c = k := by have := Hc.out; omega
      have HX := hide (HX.out.new_ NX.out)
      have HP := hide (HP.out.new_ NX.out)
      have N := hide (N.out.trans_new NX.out)
      have hkn : k ≤ l.length := by rw [Hn.out]; exact hk
      have hkc : k ≤ c := by have := Hc.out; omega
      have hkt : (flat ((l.take k).map Pf.cells)).length = k * 2 := by rw [flat_pf, List.length_take, Nat.min_eq_left hkn]
      have Htk := hide hkt
      have hi0 := Hi0.out
      obtain ⟨hz0, hz1, hz2⟩ := Hz.out
      clear hkt
      go_wp2_with (at_builtin; refine append_src rfl (.tmp 33) (.tmp 36) 22 rfl wx.heap.size TPf i0 _ 2 16 Tryz.underlying22 hi0 hz0 hz1 hz2 rfl (by omega) (.slice none 0 0) 0 [] rfl (World.ownsRow_nil _ _ _ _) _ k _ (flat ((l.take k).map Pf.cells)) rfl Htk.out (pf_take_at HX.out k hkn) (wpf_one _) (by unfold maxLen; omega) (by omega) (Nat.le_refl _) ?_)
      intro v1 w3 ho3 hg3
      have u3 : New wx w3 := grown_new hg3
      have Ho3 := hide (show w3.ownsRow wx.heap.size TPf 2 v1 k (flat ((l.take k).map Pf.cells)) by simpa using ho3)
      have U3 := hide u3
      have pp := HP.out.new_ u3
      have p0 := pp.cell 0
      have p1 := pp.cell 1
      have pz := pp.lt
      simp only [List.getElem?_toArray, List.getElem?_cons_zero, List.getElem?_cons_succ] at p0 p1
      have z3 : wx.heap.size ≤ (w3.alloc (.cells #[.int .i64 p.a, .int .i64 p.n] TPf)).heap.size := (u3.alloc _).size
      clear pp u3 ho3 hg3
      go_wp2_with (at_builtin; refine append_src rfl (.tmp 38) (.tmp 40) 22 rfl wx.heap.size TPf i0 _ 2 16 Tryz.underlying22 hi0 hz0 hz1 hz2 rfl (by omega) v1 k (flat ((l.take k).map Pf.cells)) rfl (rown_upd Ho3.out ((Upd.refl (fun _ => False) _).alloc _) (fun _ _ x => x)) (some ⟨w3.heap.size, 0, none⟩) 1 1 [.int .i64 p.a, .int .i64 p.n] rfl rfl (fun _ => ⟨_, _, rfl, row_cells rfl⟩) (by simp [Value.oneCell']) (by unfold maxLen; omega) (by omega) z3 ?_)
      intro v2 w4 ho4 hg4
      have n4 : New wx w4 := (U3.out.alloc _).trans (grown_upd (S := fun q => v1.ownBlock = some q) hg4 fun g h => h) fun q hq hx => by have := (Ho3.out.lt q hx).1; omega
      have Ho4 := hide ho4
      have N4 := hide n4
      have z4 := n4.size
      have HX4 := hide (HX.out.new_ n4)
      clear p0 p1 pz z3 ho4 hg4 n4
      go_wp2_with (at_builtin; refine append_src rfl (.tmp 42) (.tmp 45) 22 rfl wx.heap.size TPf i0 _ 2 16 Tryz.underlying22 hi0 hz0 hz1 hz2 rfl (by omega) v2 (k + 1) _ rfl Ho4.out _ _ _ (flat ((l.drop k).map Pf.cells)) rfl (by first | (rw [flat_pf, List.length_drop, Hn.out]; done) | (rw [flat_pf, List.length_drop, Hn.out]; first | rfl | simp | omega)) (fun _ => by
              obtain ⟨b1, q1, hA, hc1⟩ := pf_drop_at HX4.out k (by rw [Hn.out]; exact hlt)
              injection hA with hA
              injection hA with hA1 hA2 _
              subst hA1; subst hA2
              exact ⟨_, _, (by have := Hc.out; first | rfl | (rw [if_neg (by omega)]) | (simp; omega)), hc1⟩) (wpf_one _) (by unfold maxLen; omega) (by omega) z4 ?_)
      intro v3 w5 ho5 hg5
      have n5 : New wx w5 := N4.out.trans (grown_upd (S := fun q => v2.ownBlock = some q) hg5 fun g h => h) fun q hq hx => by have := (Ho4.out.lt q hx).1; omega
      have e1 : flat ((l.take k ++ p :: l.drop k).map Pf.cells) = flat ((l.take k).map Pf.cells) ++ [.int .i64 p.a, .int .i64 p.n] ++ flat ((l.drop k).map Pf.cells) := by
        rw [List.map_append, flat_append, List.map_cons, List.append_assoc]
        rfl
      have e2 : (l.take k ++ p :: l.drop k).length = k + 1 + (n - k) := by
        rw [List.length_append, List.length_cons, List.length_take, List.length_drop, Hn.out]
        omega
      have Ho5 : Hid (w5.ownsRow wx.heap.size TPf 2 v3 L.length (flat (L.map Pf.cells))) := hide (by
        rw [HL.out, e2, e1]
        first | exact ho5 | simpa using ho5)
      have N5 := hide (N.out.trans_new n5)
      clear e1 e2 ho5 hg5 n5
      obtain ⟨A3, cap3, rfl, h31, h32, h33, h34, h35⟩ := rws_of_own (by omega) Ho5.out (wpf_size _)
      have HF := hide (own_formA Ho5.out)
      have HBs := hide (show ∀ b o, A3 = some ⟨b, o, none⟩ → B ≤ b from fun b o e => Nat.le_trans (HLo.out.2 _ N.out) (h34 b o e))
      have H3 := hide (And.intro h32 (And.intro h33 h35))
      obtain ⟨LL, hLL⟩ : ∃ LL, LL = L.length := ⟨_, rfl⟩
      rw [← hLL]
      have HLL := hide hLL
      clear h31 h32 h33 h34 h35 hLL
      go_wp2_with fail
      go_ret
      exact ⟨A3, cap3, by rw [HLL.out]; rfl, H3.out.1, H3.out.2.1, H3.out.2.2, HF.out, HBs.out, N5.out⟩
  · obtain rfl : k = n := by omega
    have i1 : ¬ (k : Int) < (k : Int) := by omega
    have HL := hide (Hd.out.2 Hn.out.symm)
    go_upto_region 10 with (fail)
    have NX := hide (Upd.refl (fun _ => False) wc)
    rcases HA0.out with ⟨rfl, rfl⟩ | ⟨b, o, rfl⟩
    · obtain rfl : k = 0 := by have := Hc.out; omega
      have HX := hide (HX.out.new_ NX.out)
      have HP := hide (HP.out.new_ NX.out)
      have N := hide (N.out.trans_new NX.out)
      have hkn : 0 ≤ l.length := Nat.zero_le _
      have hkt : (flat ((l.take 0).map Pf.cells)).length = 0 * 2 := by rw [flat_pf, List.length_take, Nat.min_eq_left hkn]
      have Htk := hide hkt
      have hi0 := Hi0.out
      obtain ⟨hz0, hz1, hz2⟩ := Hz.out
      clear hkt
      go_wp2_with (at_builtin; refine append_src rfl (.tmp 33) (.tmp 36) 22 rfl wc.heap.size TPf i0 _ 2 16 Tryz.underlying22 hi0 hz0 hz1 hz2 rfl (by omega) (.slice none 0 0) 0 [] rfl (World.ownsRow_nil _ _ _ _) _ 0 _ (flat ((l.take 0).map Pf.cells)) rfl Htk.out (fun h => absurd h (by omega)) (wpf_one _) (by unfold maxLen; omega) (by omega) (Nat.le_refl _) ?_)
      intro v1 w3 ho3 hg3
      have u3 : New wc w3 := grown_new hg3
      have Ho3 := hide (show w3.ownsRow wc.heap.size TPf 2 v1 0 (flat ((l.take 0).map Pf.cells)) by simpa using ho3)
      have U3 := hide u3
      have pp := HP.out.new_ u3
      have p0 := pp.cell 0
      have p1 := pp.cell 1
      have pz := pp.lt
      simp only [List.getElem?_toArray, List.getElem?_cons_zero, List.getElem?_cons_succ] at p0 p1
      have z3 : wc.heap.size ≤ (w3.alloc (.cells #[.int .i64 p.a, .int .i64 p.n] TPf)).heap.size := (u3.alloc _).size
      clear pp u3 ho3 hg3
      go_wp2_with (at_builtin; refine append_src rfl (.tmp 38) (.tmp 40) 22 rfl wc.heap.size TPf i0 _ 2 16 Tryz.underlying22 hi0 hz0 hz1 hz2 rfl (by omega) v1 0 (flat ((l.take 0).map Pf.cells)) rfl (rown_upd Ho3.out ((Upd.refl (fun _ => False) _).alloc _) (fun _ _ x => x)) (some ⟨w3.heap.size, 0, none⟩) 1 1 [.int .i64 p.a, .int .i64 p.n] rfl rfl (fun _ => ⟨_, _, rfl, row_cells rfl⟩) (by simp [Value.oneCell']) (by unfold maxLen; omega) (by omega) z3 ?_)
      intro v2 w4 ho4 hg4
      have n4 : New wc w4 := (U3.out.alloc _).trans (grown_upd (S := fun q => v1.ownBlock = some q) hg4 fun g h => h) fun q hq hx => by have := (Ho3.out.lt q hx).1; omega
      have Ho4 := hide ho4
      have N4 := hide n4
      have z4 := n4.size
      have HX4 := hide (HX.out.new_ n4)
      clear p0 p1 pz z3 ho4 hg4 n4
      go_wp2_with (at_builtin; refine append_src rfl (.tmp 42) (.tmp 45) 22 rfl wc.heap.size TPf i0 _ 2 16 Tryz.underlying22 hi0 hz0 hz1 hz2 rfl (by omega) v2 1 _ rfl Ho4.out _ _ _ (flat ((l.drop 0).map Pf.cells)) rfl (by first | (rw [flat_pf, List.length_drop, Hn.out]; done) | (rw [flat_pf, List.length_drop, Hn.out]; first | rfl | simp | omega)) (fun h => absurd h (by simp)) (wpf_one _) (by unfold maxLen; omega) (by omega) z4 ?_)
      intro v3 w5 ho5 hg5
      have n5 : New wc w5 := N4.out.trans (grown_upd (S := fun q => v2.ownBlock = some q) hg5 fun g h => h) fun q hq hx => by have := (Ho4.out.lt q hx).1; omega
      have e1 : flat ((l.take 0 ++ p :: l.drop 0).map Pf.cells) = flat ((l.take 0).map Pf.cells) ++ [.int .i64 p.a, .int .i64 p.n] ++ flat ((l.drop 0).map Pf.cells) := by
        rw [List.map_append, flat_append, List.map_cons, List.append_assoc]
        rfl
      have e2 : (l.take 0 ++ p :: l.drop 0).length = 1 + (0 - 0) := by
        rw [List.length_append, List.length_cons, List.length_take, List.length_drop, Hn.out]
        omega
      have Ho5 : Hid (w5.ownsRow wc.heap.size TPf 2 v3 L.length (flat (L.map Pf.cells))) := hide (by
        rw [HL.out, e2, e1]
        first | exact ho5 | simpa using ho5)
      have N5 := hide (N.out.trans_new n5)
      clear e1 e2 ho5 hg5 n5
      obtain ⟨A3, cap3, rfl, h31, h32, h33, h34, h35⟩ := rws_of_own (by omega) Ho5.out (wpf_size _)
      have HF := hide (own_formA Ho5.out)
      have HBs := hide (show ∀ b o, A3 = some ⟨b, o, none⟩ → B ≤ b from fun b o e => Nat.le_trans (HLo.out.2 _ N.out) (h34 b o e))
      have H3 := hide (And.intro h32 (And.intro h33 h35))
      obtain ⟨LL, hLL⟩ : ∃ LL, LL = L.length := ⟨_, rfl⟩
      rw [← hLL]
      have HLL := hide hLL
      clear h31 h32 h33 h34 h35 hLL
      go_wp2_with fail
      go_ret
      exact ⟨A3, cap3, by rw [HLL.out]; rfl, H3.out.1, H3.out.2.1, H3.out.2.2, HF.out, HBs.out, N5.out⟩
    · have hck : k = c ∨ ¬ c = k := by omega
      rcases hck with rfl | hck
      all_goals
        have HX := hide (HX.out.new_ NX.out)
        have HP := hide (HP.out.new_ NX.out)
        have N := hide (N.out.trans_new NX.out)
        have hkn : k ≤ l.length := by rw [Hn.out]; exact hk
        have hkc := Hc.out
        have hkt : (flat ((l.take k).map Pf.cells)).length = k * 2 := by rw [flat_pf, List.length_take, Nat.min_eq_left hkn]
        have Htk := hide hkt
        have hi0 := Hi0.out
        obtain ⟨hz0, hz1, hz2⟩ := Hz.out
        clear hkt
        go_wp2_with (at_builtin; refine append_src rfl (.tmp 33) (.tmp 36) 22 rfl wc.heap.size TPf i0 _ 2 16 Tryz.underlying22 hi0 hz0 hz1 hz2 rfl (by omega) (.slice none 0 0) 0 [] rfl (World.ownsRow_nil _ _ _ _) _ k _ (flat ((l.take k).map Pf.cells)) rfl Htk.out (pf_take_at HX.out k hkn) (wpf_one _) (by unfold maxLen; omega) (by omega) (Nat.le_refl _) ?_)
        intro v1 w3 ho3 hg3
        have u3 : New wc w3 := grown_new hg3
        have Ho3 := hide (show w3.ownsRow wc.heap.size TPf 2 v1 k (flat ((l.take k).map Pf.cells)) by simpa using ho3)
        have U3 := hide u3
        have pp := HP.out.new_ u3
        have p0 := pp.cell 0
        have p1 := pp.cell 1
        have pz := pp.lt
        simp only [List.getElem?_toArray, List.getElem?_cons_zero, List.getElem?_cons_succ] at p0 p1
        have z3 : wc.heap.size ≤ (w3.alloc (.cells #[.int .i64 p.a, .int .i64 p.n] TPf)).heap.size := (u3.alloc _).size
        clear pp u3 ho3 hg3
        go_wp2_with (at_builtin; refine append_src rfl (.tmp 38) (.tmp 40) 22 rfl wc.heap.size TPf i0 _ 2 16 Tryz.underlying22 hi0 hz0 hz1 hz2 rfl (by omega) v1 k (flat ((l.take k).map Pf.cells)) rfl (rown_upd Ho3.out ((Upd.refl (fun _ => False) _).alloc _) (fun _ _ x => x)) (some ⟨w3.heap.size, 0, none⟩) 1 1 [.int .i64 p.a, .int .i64 p.n] rfl rfl (fun _ => ⟨_, _, rfl, row_cells rfl⟩) (by simp [Value.oneCell']) (by unfold maxLen; omega) (by omega) z3 ?_)
        intro v2 w4 ho4 hg4
        have n4 : New wc w4 := (U3.out.alloc _).trans (grown_upd (S := fun q => v1.ownBlock = some q) hg4 fun g h => h) fun q hq hx => by have := (Ho3.out.lt q hx).1; omega
        have Ho4 := hide ho4
        have N4 := hide n4
        have z4 := n4.size
        have HX4 := hide (HX.out.new_ n4)
        clear p0 p1 pz z3 ho4 hg4 n4
        go_wp2_with (at_builtin; refine append_src rfl (.tmp 42) (.tmp 45) 22 rfl wc.heap.size TPf i0 _ 2 16 Tryz.underlying22 hi0 hz0 hz1 hz2 rfl (by omega) v2 (k + 1) _ rfl Ho4.out _ _ _ (flat ((l.drop k).map Pf.cells)) rfl (by first | (rw [flat_pf, List.length_drop, Hn.out]; done) | (rw [flat_pf, List.length_drop, Hn.out]; first | rfl | simp | omega)) (fun h => absurd h (by simp)) (wpf_one _) (by unfold maxLen; omega) (by omega) z4 ?_)
        intro v3 w5 ho5 hg5
        have n5 : New wc w5 := N4.out.trans (grown_upd (S := fun q => v2.ownBlock = some q) hg5 fun g h => h) fun q hq hx => by have := (Ho4.out.lt q hx).1; omega
        have e1 : flat ((l.take k ++ p :: l.drop k).map Pf.cells) = flat ((l.take k).map Pf.cells) ++ [.int .i64 p.a, .int .i64 p.n] ++ flat ((l.drop k).map Pf.cells) := by
          rw [List.map_append, flat_append, List.map_cons, List.append_assoc]
          rfl
        have e2 : (l.take k ++ p :: l.drop k).length = k + 1 + (k - k) := by
          rw [List.length_append, List.length_cons, List.length_take, List.length_drop, Hn.out]
          omega
        have Ho5 : Hid (w5.ownsRow wc.heap.size TPf 2 v3 L.length (flat (L.map Pf.cells))) := hide (by
          rw [HL.out, e2, e1]
          first | exact ho5 | simpa using ho5)
        have N5 := hide (N.out.trans_new n5)
        clear e1 e2 ho5 hg5 n5
        obtain ⟨A3, cap3, rfl, h31, h32, h33, h34, h35⟩ := rws_of_own (by omega) Ho5.out (wpf_size _)
        have HF := hide (own_formA Ho5.out)
        have HBs := hide (show ∀ b o, A3 = some ⟨b, o, none⟩ → B ≤ b from fun b o e => Nat.le_trans (HLo.out.2 _ N.out) (h34 b o e))
        have H3 := hide (And.intro h32 (And.intro h33 h35))
        obtain ⟨LL, hLL⟩ : ∃ LL, LL = L.length := ⟨_, rfl⟩
        rw [← hLL]
        have HLL := hide hLL
        clear h31 h32 h33 h34 h35 hLL
        go_wp2_with fail
        go_ret
        exact ⟨A3, cap3, by rw [HLL.out]; rfl, H3.out.1, H3.out.2.1, H3.out.2.2, HF.out, HBs.out, N5.out⟩
end Go.Proofs.YtjgecmkfgeajiaaGreatDoor

namespace Go.Proofs.YtjgecmkfgeajiaaGreatDoor
open Go.RowKit

theorem head_app3 (x y : List UInt8) : (((⟨x.toArray⟩ : ByteArray) ++ ⟨#[32]⟩) ++ ⟨y.toArray⟩) = ⟨(x ++ 32 :: y).toArray⟩ := by
  apply ByteArray.ext
  simp
theorem drop_app3 (x y : List UInt8) : ((((⟨x.toArray⟩ : ByteArray) ++ ⟨#[45, 32]⟩) ++ ⟨y.toArray⟩) ++ ⟨#[10]⟩) = ⟨(x ++ (45 :: 32 :: (y ++ [10]))).toArray⟩ := by
  rw [← drop_app]
  apply ByteArray.ext
  simp
theorem add_app3 (x y z : List UInt8) : ((((((⟨x.toArray⟩ : ByteArray) ++ ⟨#[43, 32]⟩) ++ ⟨y.toArray⟩) ++ ⟨#[32]⟩) ++ ⟨z.toArray⟩) ++ ⟨#[10]⟩) = ⟨(x ++ (43 :: 32 :: (y ++ 32 :: (z ++ [10])))).toArray⟩ := by
  rw [← add_app]
  apply ByteArray.ext
  simp

set_option maxRecDepth 20000 in
set_option maxHeartbeats 4000000 in
theorem msgTextRef_any (m : MsgR) (w : World) (hm : MsgOk w m) (g : GoodM m) (hs : Short m) :
    Calls Tryz.prog 18 #[.agg m.cells] w fun e w1 => e = .returned (.string ⟨(msgT m.con).toArray⟩) ∧ New w w1 := by
  have u := (Upd.refl (fun _ => False) w).alloc (.cells m.cells TM)
  have HM := hide (hm.new_ u)
  have HX := hide (Blk.new w TM m.cells)
  have N := hide u
  have G := hide g
  have HSh := hide hs
  clear hm u g hs
  obtain ⟨T, hTT⟩ : ∃ T, T = msgT m.con := ⟨_, rfl⟩
  rw [← hTT]
  have HTT := hide hTT
  clear hTT
  unfold MsgR.cells at *
  obtain ⟨kt1, kt2, kt3, kt4⟩ := kind_tests m.kind
  have HK := hide (And.intro kt1 kt4)
  clear kt1 kt2 kt3 kt4
  have hlen : m.kind.size = 4 := by
    have g := G.out.kind
    obtain ⟨a1, a2, a3, a4⟩ := kind_word (s := m.kind)
    have e : m.kind.size = m.kind.data.toList.length := by simp
    rw [e]
    rcases (by omega : kindN m.kind = 1 ∨ kindN m.kind = 2 ∨ kindN m.kind = 3 ∨ kindN m.kind = 4) with h | h | h | h
    · rw [a1 h]; rfl
    · rw [a2 h]; rfl
    · rw [a3 h]; rfl
    · rw [a4 h]; rfl
  have Hlen := hide hlen
  clear hlen
  go_enter Tryz.func18, Tryz.ntmps18
  go_upto_region 2 with (fail)
  have M := hide (Upd.refl (fun _ => False) (w.alloc (.cells #[.string m.kind, .int .i64 m.n, .slice m.D m.drops.length m.dc, .slice m.A m.adds.length m.ac] TM)))
  generalize w.alloc (.cells #[.string m.kind, .int .i64 m.n, .slice m.D m.drops.length m.dc, .slice m.A m.adds.length m.ac] TM) = W at *
  generalize w.heap.size = X at *
  have bq := HX.out
  have x0 := bq.cell 0
  have x1 := bq.cell 1
  have xz := bq.lt
  simp only [List.getElem?_toArray, List.getElem?_cons_zero, List.getElem?_cons_succ] at x0 x1
  clear bq
  go_cut [15] (fun v15_ wc => v15_ = .bool (decide (kindN m.kind = 1 ∨ kindN m.kind = 4)) ∧ W = wc)
  case first =>
    obtain ⟨kt1, kt4⟩ := HK.out
    by_cases h1 : kindN m.kind = 1
    · rw [decide_eq_true h1] at kt1
      have H1 := hide h1
      clear kt4 h1
      go_wp2_with fail
      go_meet
      case rel => exact ⟨by rw [decide_eq_true (.inl H1.out)], rfl⟩
    · rw [decide_eq_false h1] at kt1
      by_cases h4 : kindN m.kind = 4
      · rw [decide_eq_true h4] at kt4
        have H4 := hide h4
        clear h1 h4
        go_wp2_with fail
        go_meet
        case rel => exact ⟨by rw [decide_eq_true (.inr H4.out)], rfl⟩
      · rw [decide_eq_false h4] at kt4
        have H4 := hide (show ¬ (kindN m.kind = 1 ∨ kindN m.kind = 4) from fun h => h.elim h1 h4)
        clear h1 h4
        go_wp2_with fail
        go_meet
        case rel => exact ⟨by rw [decide_eq_false H4.out], rfl⟩
  obtain ⟨rfl, rfl⟩ := hcut
  go_upto_if 15 with (fail)
  go_cut [3] (fun v3_ wc => v3_ = .string ⟨(headL m.kind.data.toList m.n).toArray⟩ ∧ New W wc)
  case first =>
    obtain ⟨a1, a2, a3, a4⟩ := kind_word (s := m.kind)
    by_cases h14 : kindN m.kind = 1 ∨ kindN m.kind = 4
    · rw [decide_eq_true h14]
      have hn := G.out.n
      have hh : headL m.kind.data.toList m.n = m.kind.data.toList ++ 32 :: Lib.itoa m.n := if_pos (h14.elim (fun h => .inl (a1 h)) (fun h => .inr (a4 h)))
      obtain ⟨u, hu⟩ : ∃ u : Nat, m.n = (u : Int) := ⟨m.n.toNat, by omega⟩
      have hit := decimal_nat u W (by omega)
      rw [← hu] at hit
      have hd : Lib.itoa m.n = Lib.decDigits u := by rw [hu, itoa_dec (Int.natCast_nonneg u), Int.toNat_natCast]
      rw [← hd] at hit
      have Hit := hide hit
      have hsh := itoa_short hn.1 (by omega)
      clear hit hd hu
      generalize Lib.itoa m.n = D at *
      have Hh := hide hh
      have b1 : ¬ 9223372036854775807 < m.kind.size + 1 := by have := Hlen.out; omega
      have b2 : ¬ 9223372036854775807 < m.kind.size + 1 + D.length := by have := Hlen.out; omega
      clear hh a1 a2 a3 a4 h14 hn hsh
      go_wp2_with fail
      refine Hit.out.mono ?_
      rintro e w2 ⟨rfl, hu⟩
      have U := hide hu
      clear hu
      go_wp2_with fail
      go_meet
      case rel =>
        refine ⟨?_, U.out⟩
        rw [Hh.out, ← head_app3, ba_eta]
    · rw [decide_eq_false h14]
      have hh : headL m.kind.data.toList m.n = m.kind.data.toList := by
        have g := G.out.kind
        refine if_neg ?_
        rcases (by omega : kindN m.kind = 2 ∨ kindN m.kind = 3) with h | h
        · rw [a2 h]; decide
        · rw [a3 h]; decide
      have Hh := hide hh
      clear hh a1 a2 a3 a4 h14
      go_wp2_with fail
      go_meet
      case rel => exact ⟨by rw [Hh.out, ba_eta], Upd.refl _ _⟩
  obtain ⟨rfl, hu⟩ := hcut
  have M := hide (M.out.trans_new hu)
  clear hu x0 x1 xz HK
  have HD := hide HM.out.drops
  have HA := hide HM.out.adds
  have HG := hide (show (∀ p ∈ m.drops, chk p.a p.n = 0) ∧ (∀ r ∈ m.adds, chk r.a r.n = 0 ∧ (attrC r.at_).1 = 0) ∧ m.drops.length ≤ 60 ∧ m.adds.length ≤ 60 from ⟨G.out.drops, fun r hr => ⟨(G.out.adds r hr).1, (G.out.adds r hr).2.1⟩, G.out.dl, G.out.al⟩)
  have hL := headL_short G.out.n Hlen.out
  have hT : T = ((headL m.kind.data.toList m.n ++ [10]) ++ dropsT m.drops) ++ addsT (m.adds.map RouteR.con) := by
    rw [HTT.out]
    show headT m.kind.data.toList m.n ++ (dropsT m.drops ++ addsT (m.adds.map RouteR.con)) = _
    rw [headT_L]
    simp only [List.append_assoc]
  have Hz := hide hT
  clear hT HM G Hlen HTT HSh
  generalize headL m.kind.data.toList m.n = L0 at *
  generalize m.drops = ds at *
  generalize m.adds = rs at *
  generalize m.D = D at *
  generalize m.A = A at *
  generalize m.dc = dc at *
  generalize m.ac = ac at *
  generalize m.kind = kd at *
  generalize m.n = nn at *
  have hb0 : ¬ 9223372036854775807 < L0.length + 1 := by omega
  have HL := hide hL
  clear hL
  go_upto_region 5 with (fail)
  clear hb0
  go_wp2_with fail
  go_loopw [3, 4] (fun ov iv wz => ∃ (k : Nat) (S : List UInt8), k ≤ ds.length ∧ iv = .int .i64 k ∧ ov = .string ⟨S.toArray⟩ ∧ S = (L0 ++ [10]) ++ dropsT (ds.take k) ∧ New W wz) (fun _ iv _ => ds.length - (intOf iv).toNat)
  case atStart => exact ⟨0, L0 ++ [10], by omega, rfl, by rw [← line_app], by simp [dropsT], M.out⟩
  case round =>
  obtain ⟨k, S, hk, rfl, rfl, hS, hu⟩ := hrel
  have HU := hide hu
  have dlen := dropsT_len (ds.take k) (fun q hq => HG.out.1 q (List.mem_of_mem_take hq))
  have hd9 := HG.out.2.2.1
  have hSl : S.length ≤ 31 + 100 * ds.length := by
    rw [hS, List.length_append, List.length_append]
    rw [List.length_take] at dlen
    have := HL.out
    simp only [List.length_cons, List.length_nil]
    omega
  have HS := hide hS
  clear hu dlen hS
  by_cases hlt : k < ds.length
  · obtain ⟨b, o, p, hA, hb, hpk, q0, q1⟩ := (HD.out.new_ HU.out).at_ hlt
    subst hA
    have i1 : (k : Int) < (ds.length : Int) := by omega
    have pl := prefT_len p.a p.n (HG.out.1 p (List.mem_of_getElem? hpk))
    have Htk := hide (show dropsT (ds.take (k + 1)) = dropsT (ds.take k) ++ dropT p by
      rw [List.take_add_one, hpk]; exact dropsT_snoc _ _)
    have Htx := hide (prefTextRef_any p.a p.n wr)
    have Hdr := hide (show dropT p = 45 :: 32 :: (prefT p.a p.n ++ [10]) from rfl)
    generalize prefT p.a p.n = Q at *
    clear hpk
    have b1 : ¬ 9223372036854775807 < S.length + 2 := by omega
    have b2 : ¬ 9223372036854775807 < S.length + 2 + Q.length := by omega
    have b3 : ¬ 9223372036854775807 < S.length + 2 + Q.length + 1 := by omega
    clear pl hSl
    have bq := HX.out.new_ HU.out
    have x2 := bq.cell 2
    have xz := bq.lt
    simp only [List.getElem?_toArray, List.getElem?_cons_zero, List.getElem?_cons_succ] at x2
    clear bq
    go_wp2_with fail
    refine Htx.out.mono ?_
    rintro e w2 ⟨rfl, hu⟩
    have HU := hide (HU.out.trans_new hu)
    clear hu
    go_wp2_with fail
    exact ⟨⟨k + 1, S ++ dropT p, by omega, by go_num, by rw [Hdr.out, drop_app3], by rw [HS.out, Htk.out]; simp only [List.append_assoc], HU.out⟩, by simp [intOf]; omega⟩
  obtain rfl : k = ds.length := by omega
  have i1 : ¬ (ds.length : Int) < (ds.length : Int) := by omega
  have hS := HS.out
  rw [List.take_length] at hS
  have HS := hide hS
  have HSl := hide (show S.length ≤ 7000 by omega)
  clear hd9 hSl hS hk hlt
  have bq := HX.out.new_ HU.out
  have x2 := bq.cell 2
  have xz := bq.lt
  simp only [List.getElem?_toArray, List.getElem?_cons_zero, List.getElem?_cons_succ] at x2
  clear bq
  go_wp2_with fail
  clear x2 xz i1
  obtain ⟨wo, rfl⟩ : ∃ wo : World, wo = wr := ⟨_, rfl⟩
  go_loopw [3, 5] (fun ov iv wz => ∃ (k : Nat) (V : List UInt8), k ≤ rs.length ∧ iv = .int .i64 k ∧ ov = .string ⟨V.toArray⟩ ∧ V = S ++ addsT ((rs.take k).map RouteR.con) ∧ New W wz) (fun _ iv _ => rs.length - (intOf iv).toNat)
  case atStart => exact ⟨0, S, by omega, rfl, rfl, by simp [addsT], HU.out⟩
  case round =>
  obtain ⟨k, V, hk, rfl, rfl, hV, hu⟩ := hrel
  have HU := hide hu
  have dlen := addsT_len ((rs.take k).map RouteR.con) (fun q hq => by
    obtain ⟨r, hr, rfl⟩ := List.mem_map.1 hq
    exact (HG.out.2.1 r (List.mem_of_mem_take hr)).1)
  have hd9 := HG.out.2.2.2
  have hVl : V.length ≤ 7000 + 2000 * rs.length := by
    rw [hV, List.length_append]
    rw [List.length_map, List.length_take] at dlen
    have := HSl.out
    omega
  have HV := hide hV
  clear hu dlen hV
  by_cases hlt : k < rs.length
  · obtain ⟨b, o, r, hA, hb, hrk, hok, q0, q1, q2, q3, q4, q5, q6, q7⟩ := (HA.out.new_ HU.out).at_ hlt
    subst hA
    have i1 : (k : Int) < (rs.length : Int) := by omega
    have hgr := HG.out.2.1 r (List.mem_of_getElem? hrk)
    have pl := prefT_len r.a r.n hgr.1
    have al := attrX_len r.con.at_
    have hax : attrX r.con.at_ = attrT r.at_ := (attrT_con r.at_).symm
    have Htk := hide (show addsT ((rs.take (k + 1)).map RouteR.con) = addsT ((rs.take k).map RouteR.con) ++ addT r.con by
      rw [List.take_add_one, hrk, List.map_append]; exact addsT_snoc _ _)
    have hsh := goodA_short (a := r.at_) hgr.2
    have Hat := hide (fun w' (nw : New wr w') => attrTextRef_any r.at_ w' (hok.new_ nw) hsh.1 hsh.2)
    have Hat : Hid (∀ w', New wr w' → Calls Tryz.prog 49 #[.agg #[.slice r.at_.P r.at_.path.length r.at_.pc, .int .i64 r.at_.pref, .int .i64 r.at_.med, .int .i64 r.at_.origin, .slice r.at_.T r.at_.tags.length r.at_.tc]] w' fun e w1 => e = .returned (.string ⟨(attrT r.at_).toArray⟩) ∧ New w' w1) := Hat
    have Htx := hide (fun w' => prefTextRef_any r.a r.n w')
    have Hdr := hide (show addT r.con = 43 :: 32 :: (prefT r.a r.n ++ 32 :: (attrT r.at_ ++ [10])) from by rw [← hax]; rfl)
    rw [hax] at al
    generalize prefT r.a r.n = Q at *
    generalize attrT r.at_ = Z at *
    clear hrk hok hgr hax hsh
    have b1 : ¬ 9223372036854775807 < V.length + 2 := by omega
    have b2 : ¬ 9223372036854775807 < V.length + 2 + Q.length := by omega
    have b3 : ¬ 9223372036854775807 < V.length + 2 + Q.length + 1 := by omega
    have b4 : ¬ 9223372036854775807 < V.length + 2 + Q.length + 1 + Z.length := by omega
    have b5 : ¬ 9223372036854775807 < V.length + 2 + Q.length + 1 + Z.length + 1 := by omega
    clear pl hVl al
    have bq := HX.out.new_ HU.out
    have x3 := bq.cell 3
    have xz := bq.lt
    simp only [List.getElem?_toArray, List.getElem?_cons_zero, List.getElem?_cons_succ] at x3
    clear bq
    go_upto_region 12 with (fail)
    refine wp_region_new wr (Upd.refl _ _) (by kernel_rfl) (by kernel_rfl) ?_
    repeat (go_big_quiet_step (first
      | (go_at_call 48; exact new_call (Htx.out _))
      | (go_at_call 49; exact new_call (Hat.out _ (NewW.h _)))))
    refine wpQuiet_nil ?_
    rintro _ ⟨nq, rfl⟩
    go_wp2_with fail
    exact ⟨⟨k + 1, V ++ addT r.con, by omega, by go_num, by rw [Hdr.out, add_app3], by rw [HV.out, Htk.out]; simp only [List.append_assoc], HU.out.trans_new nq.h⟩, by simp [intOf]; omega⟩
  obtain rfl : k = rs.length := by omega
  have i1 : ¬ (rs.length : Int) < (rs.length : Int) := by omega
  have hV := HV.out
  rw [List.take_length] at hV
  have HV := hide hV
  clear hV hVl hd9 hk hlt
  have bq := HX.out.new_ HU.out
  have x3 := bq.cell 3
  have xz := bq.lt
  simp only [List.getElem?_toArray, List.getElem?_cons_zero, List.getElem?_cons_succ] at x3
  clear bq
  go_wp2_with fail
  go_ret
  exact ⟨by rw [Hz.out, ← HS.out, ← HV.out]; rfl, N.out.trans_new HU.out⟩
end Go.Proofs.YtjgecmkfgeajiaaGreatDoor

namespace Go.Proofs.YtjgecmkfgeajiaaGreatDoor
open Go.RowKit

/-- What a reader holds. -/
structure RdJ (base X : Nat) (kd : ByteArray) (nn : Int) (st : RdS) (w : World) (vd va vm : Value) (rs : List RouteR) : Prop where
  lo : base ≤ X
  blk : Blk w X TM #[.string kd, .int .i64 nn, vd, va]
  drops : w.ownsRow base TPf 2 vd st.drops.length (flat (st.drops.map Pf.cells))
  adds : w.ownsRow base TRt 8 va rs.length (flat (rs.map RouteR.cells))
  more : w.ownsRow base TPf 2 vm st.more.length (flat (st.more.map Pf.cells))
  con : rs.map RouteR.con = st.adds
  ok : ∀ r ∈ rs, AttrOk w r.at_
  far : ∀ r ∈ rs, AttrFar (OwnB X vd va vm) r.at_
  apart : ∀ g, vd.ownBlock = some g → vm.ownBlock ≠ some g
  low : ∀ r ∈ rs, AttrFar (fun q => q < base) r.at_
theorem RdJ.new_ {base X : Nat} {kd : ByteArray} {nn : Int} {st : RdS} {w w1 : World} {vd va vm : Value} {rs : List RouteR} (h : RdJ base X kd nn st w vd va vm rs) (hu : New w w1) : RdJ base X kd nn st w1 vd va vm rs :=
  ⟨h.lo, h.blk.new_ hu, own_new h.drops hu, own_new h.adds hu, own_new h.more hu, h.con, fun r hr => (h.ok r hr).new_ hu, h.far, h.apart, h.low⟩
section
variable {base X : Nat} {kd : ByteArray} {nn : Int} {st : RdS} {w w1 : World} {vd va vm : Value} {rs : List RouteR} {g cap : Nat}
theorem RdJ.drop (h : RdJ base X kd nn st w vd va vm rs) {p : Pf}
    (ho : w1.ownsRow base TPf 2 (.slice (some ⟨g, 0, none⟩) (st.drops.length + 1) cap) (st.drops.length + 1) (flat (st.drops.map Pf.cells) ++ [.int .i64 p.a, .int .i64 p.n]))
    (hu : Upd (fun q => vd.ownBlock = some q) w w1) (hg : vd.ownBlock = some g ∨ w.heap.size ≤ g) :
    RdJ base X kd nn { st with drops := st.drops ++ [p] } (w1.setCell ⟨X, 2, none⟩ (.slice (some ⟨g, 0, none⟩) (st.drops.length + 1) cap)) (.slice (some ⟨g, 0, none⟩) (st.drops.length + 1) cap) va vm rs := by
  have b1 : Blk w1 X TM #[.string kd, .int .i64 nn, vd, va] := h.blk.upd hu (rown_ne h.drops h.blk (by decide))
  have u2 : Upd (fun q => q = X) w1 (w1.setCell ⟨X, 2, none⟩ (.slice (some ⟨g, 0, none⟩) (st.drops.length + 1) cap)) := (Upd.refl (fun q => q = X) w1).setCell (p := ⟨X, 2, none⟩) (.inl rfl) _
  have a1 := rown_upd h.adds hu fun q hq hd => own_own h.drops h.adds (by decide) q hd hq
  have m1 := rown_upd h.more hu fun q hq hd => h.apart q hd hq
  have k1 : ∀ r ∈ rs, AttrOk w1 r.at_ := fun r hr => (h.ok r hr).upd2 hu ((h.far r hr).grow (h.ok r hr) fun z hz => .inl (.inr (.inl hz)))
  have sz := hu.size
  refine ⟨h.lo, by simpa using b1.set_ 2 _, ?_, rown_upd a1 u2 fun q hq e => rown_ne a1 b1 (by decide) (e ▸ hq), rown_upd m1 u2 fun q hq e => rown_ne m1 b1 (by decide) (e ▸ hq), h.con, fun r hr => (k1 r hr).upd2 u2 ((h.far r hr).grow (h.ok r hr) fun z hz => .inl (.inl hz)), fun r hr => (h.far r hr).grow (h.ok r hr) fun z hz => ?_, fun q hq hm => ?_, h.low⟩
  · have e : flat ((st.drops ++ [p]).map Pf.cells) = flat (st.drops.map Pf.cells) ++ [.int .i64 p.a, .int .i64 p.n] := by
      rw [List.map_append, flat_append]
      rfl
    show World.ownsRow _ base TPf 2 _ (st.drops ++ [p]).length (flat ((st.drops ++ [p]).map Pf.cells))
    rw [e, List.length_append]
    exact rown_upd ho u2 fun q hq e => rown_ne ho b1 (by decide) (e ▸ hq)
  · rcases hz with hz | hz | hz | hz
    · exact .inl (.inl hz)
    · have : g = z := by simpa [Value.ownBlock] using hz
      subst this
      exact hg.elim (fun x => .inl (.inr (.inl x))) .inr
    · exact .inl (.inr (.inr (.inl hz)))
    · exact .inl (.inr (.inr (.inr hz)))
  · have : g = q := by simpa [Value.ownBlock] using hq
    subst this
    rcases hg with hg | hg
    · exact h.apart g hg hm
    · have := (h.more.lt g hm).2
      omega
theorem RdJ.more_ (h : RdJ base X kd nn st w vd va vm rs) {p : Pf}
    (ho : w1.ownsRow base TPf 2 (.slice (some ⟨g, 0, none⟩) (st.more.length + 1) cap) (st.more.length + 1) (flat (st.more.map Pf.cells) ++ [.int .i64 p.a, .int .i64 p.n]))
    (hu : Upd (fun q => vm.ownBlock = some q) w w1) (hg : vm.ownBlock = some g ∨ w.heap.size ≤ g) :
    RdJ base X kd nn { st with more := st.more ++ [p] } w1 vd va (.slice (some ⟨g, 0, none⟩) (st.more.length + 1) cap) rs := by
  have b1 : Blk w1 X TM #[.string kd, .int .i64 nn, vd, va] := h.blk.upd hu (rown_ne h.more h.blk (by decide))
  have a1 := rown_upd h.adds hu fun q hq hd => own_own h.more h.adds (by decide) q hd hq
  have m1 := rown_upd h.drops hu fun q hq hd => h.apart q hq hd
  have k1 : ∀ r ∈ rs, AttrOk w1 r.at_ := fun r hr => (h.ok r hr).upd2 hu ((h.far r hr).grow (h.ok r hr) fun z hz => .inl (.inr (.inr (.inr hz))))
  refine ⟨h.lo, b1, m1, a1, ?_, h.con, k1, fun r hr => (h.far r hr).grow (h.ok r hr) fun z hz => ?_, fun q hq hm => ?_, h.low⟩
  · have e : flat ((st.more ++ [p]).map Pf.cells) = flat (st.more.map Pf.cells) ++ [.int .i64 p.a, .int .i64 p.n] := by
      rw [List.map_append, flat_append]
      rfl
    show World.ownsRow _ base TPf 2 _ (st.more ++ [p]).length (flat ((st.more ++ [p]).map Pf.cells))
    rw [e, List.length_append]
    exact ho
  · rcases hz with hz | hz | hz | hz
    · exact .inl (.inl hz)
    · exact .inl (.inr (.inl hz))
    · exact .inl (.inr (.inr (.inl hz)))
    · have : g = z := by simpa [Value.ownBlock] using hz
      subst this
      exact hg.elim (fun x => .inl (.inr (.inr (.inr x)))) .inr
  · have : g = q := by simpa [Value.ownBlock] using hm
    subst this
    rcases hg with hg | hg
    · exact h.apart g hq hg
    · have := (h.drops.lt g hq).2
      omega
theorem RdJ.add (h : RdJ base X kd nn st w vd va vm rs) {r : RouteR} {x : RtC} (hc : r.con = x) (hok : AttrOk w r.at_) (hfar : AttrFar (OwnB X vd va vm) r.at_) (hlow : AttrFar (fun q => q < base) r.at_)
    (ho : w1.ownsRow base TRt 8 (.slice (some ⟨g, 0, none⟩) (rs.length + 1) cap) (rs.length + 1) (flat (rs.map RouteR.cells) ++ r.cells.toList))
    (hu : Upd (fun q => va.ownBlock = some q) w w1) (hg : va.ownBlock = some g ∨ w.heap.size ≤ g) :
    RdJ base X kd nn { st with adds := st.adds ++ [x] } (w1.setCell ⟨X, 3, none⟩ (.slice (some ⟨g, 0, none⟩) (rs.length + 1) cap)) vd (.slice (some ⟨g, 0, none⟩) (rs.length + 1) cap) vm (rs ++ [r]) := by
  have b1 : Blk w1 X TM #[.string kd, .int .i64 nn, vd, va] := h.blk.upd hu (rown_ne h.adds h.blk (by decide))
  have u2 : Upd (fun q => q = X) w1 (w1.setCell ⟨X, 3, none⟩ (.slice (some ⟨g, 0, none⟩) (rs.length + 1) cap)) := (Upd.refl (fun q => q = X) w1).setCell (p := ⟨X, 3, none⟩) (.inl rfl) _
  have d1 := rown_upd h.drops hu fun q hq hd => own_own h.drops h.adds (by decide) q hq hd
  have m1 := rown_upd h.more hu fun q hq hd => own_own h.more h.adds (by decide) q hq hd
  have grow : ∀ z, OwnB X vd (.slice (some ⟨g, 0, none⟩) (rs.length + 1) cap) vm z → OwnB X vd va vm z ∨ w.heap.size ≤ z := fun z hz => by
    rcases hz with hz | hz | hz | hz
    · exact .inl (.inl hz)
    · exact .inl (.inr (.inl hz))
    · have : g = z := by simpa [Value.ownBlock] using hz
      subst this
      exact hg.elim (fun x => .inl (.inr (.inr (.inl x)))) .inr
    · exact .inl (.inr (.inr (.inr hz)))
  have all : ∀ y ∈ rs ++ [r], AttrOk w y.at_ ∧ AttrFar (OwnB X vd va vm) y.at_ := fun y hy => by
    rcases List.mem_append.1 hy with hy | hy
    · exact ⟨h.ok y hy, h.far y hy⟩
    · obtain rfl := List.mem_singleton.1 hy
      exact ⟨hok, hfar⟩
  have k1 : ∀ y ∈ rs ++ [r], AttrOk w1 y.at_ := fun y hy => (all y hy).1.upd2 hu ((all y hy).2.grow (all y hy).1 fun z hz => .inl (.inr (.inr (.inl hz))))
  refine ⟨h.lo, by simpa using b1.set_ 3 _, rown_upd d1 u2 fun q hq e => rown_ne d1 b1 (by decide) (e ▸ hq), ?_, rown_upd m1 u2 fun q hq e => rown_ne m1 b1 (by decide) (e ▸ hq), ?_, fun y hy => (k1 y hy).upd2 u2 ((all y hy).2.grow (all y hy).1 fun z hz => .inl (.inl hz)), fun y hy => (all y hy).2.grow (all y hy).1 grow, h.apart, fun y hy => (List.mem_append.1 hy).elim (h.low y) fun e => List.mem_singleton.1 e ▸ hlow⟩
  · have e : flat ((rs ++ [r]).map RouteR.cells) = flat (rs.map RouteR.cells) ++ r.cells.toList := by
      rw [List.map_append, flat_append]
      simp [flat]
    rw [e, List.length_append]
    exact rown_upd ho u2 fun q hq e => rown_ne ho b1 (by decide) (e ▸ hq)
  · rw [List.map_append, h.con, ← hc]
    rfl
end
theorem own_pos {w : World} {base : Nat} {e : TypeId} {sz n : Nat} {v : Value} {xs : List Value} (h : w.ownsRow base e sz v n xs) (hn : 0 < n) : ∃ g cap, v = .slice (some ⟨g, 0, none⟩) n cap := by
  rcases h.2 with ⟨_, h0⟩ | ⟨g, cap, cur, rfl, _⟩
  · omega
  · exact ⟨g, cap, rfl⟩
theorem RdJ.ge {base X : Nat} {kd : ByteArray} {nn : Int} {st : RdS} {w : World} {vd va vm : Value} {rs : List RouteR} (h : RdJ base X kd nn st w vd va vm rs) {z : Nat} (hz : OwnB X vd va vm z) : base ≤ z := by
  rcases hz with rfl | hz | hz | hz
  · exact h.lo
  · exact (h.drops.lt z hz).1
  · exact (h.adds.lt z hz).1
  · exact (h.more.lt z hz).1
theorem rdJ_zero (W : World) (kd : ByteArray) (nn : Int) : RdJ W.heap.size W.heap.size kd nn ⟨[], [], []⟩ (W.alloc (.cells #[.string kd, .int .i64 nn, .slice none 0 0, .slice none 0 0] TM)) (.slice none 0 0) (.slice none 0 0) (.slice none 0 0) [] :=
  ⟨Nat.le_refl _, Blk.new W TM _, World.ownsRow_nil _ _ _ _, World.ownsRow_nil _ _ _ _, World.ownsRow_nil _ _ _ _, rfl, fun r h => by simp at h, fun r h => by simp at h, fun g h => by simp [Value.ownBlock] at h, fun r h => by simp at h⟩
theorem rdJ_head {base Y : Nat} {kd kd1 : ByteArray} {nn n1 : Int} {w : World} {vd va vm : Value} {rs : List RouteR} (h : RdJ base Y kd nn ⟨[], [], []⟩ w vd va vm rs) :
    RdJ base Y kd1 n1 ⟨[], [], []⟩ ((((w.setCell ⟨Y, 0, none⟩ (.string kd1)).setCell ⟨Y, 1, none⟩ (.int .i64 n1)).setCell ⟨Y, 2, none⟩ (.slice none 0 0)).setCell ⟨Y, 3, none⟩ (.slice none 0 0)) (.slice none 0 0) (.slice none 0 0) vm [] :=
  ⟨h.lo, set4 h.blk, World.ownsRow_nil _ _ _ _, World.ownsRow_nil _ _ _ _, rown_upd h.more head_cells_upd fun q hq e => rown_ne h.more h.blk (by decide) (e ▸ hq), rfl, fun r hr => by simp at hr, fun r hr => by simp at hr, fun g hg => by simp [Value.ownBlock] at hg, fun r hr => by simp at hr⟩
theorem rdJ_msg {base Y : Nat} {kd : ByteArray} {nn : Int} {st : RdS} {w : World} {D A : Option Addr} {nd na dc ac : Nat} {vm : Value} {rs : List RouteR} (h : RdJ base Y kd nn st w (.slice D nd dc) (.slice A na ac) vm rs) : nd = st.drops.length ∧ na = rs.length ∧ MsgOk w ⟨kd, nn, D, dc, st.drops, A, ac, rs⟩ ∧ Typed w D TPf ∧ Typed w A TRt ∧ FormA D dc := by
  obtain ⟨D', dc', e1, l1, c1, r1, _, t1⟩ := rws_of_own (by omega) h.drops (wpf_size _)
  obtain ⟨A', ac', e2, l2, c2, r2, _, t2⟩ := rws_of_own (by omega) h.adds (fun r hr => by obtain ⟨x, _, rfl⟩ := List.mem_map.1 hr; rfl)
  injection e1 with a1 a2 a3
  injection e2 with b1 b2 b3
  subst a1; subst a2; subst a3; subst b1; subst b2; subst b3
  have hf := own_formA h.drops
  exact ⟨rfl, rfl, ⟨r1, ⟨r2, fun i r hr => h.ok r (List.mem_of_getElem? hr)⟩, c1, c2⟩, t1, t2, hf⟩
/-- Two results that lie in cells. -/
theorem msgf_out {fn : Func} {p q : Tmp} {tmps : Array Value} {w : World} {R Fo : Nat} {x0 x1 x2 x3 u v : Value} (h : fn.results = #[.cell p TM, .cell q TRF]) (hp : tmps.getD p undef = .pointer (some ⟨R, 0, none⟩)) (hq : tmps.getD q undef = .pointer (some ⟨Fo, 0, none⟩)) (hb : Blk w R TM #[x0, x1, x2, x3]) (hf : Blk w Fo TRF #[u, v]) :
    (results fn tmps).run Tryz.prog w = .ok (.tuple #[.agg #[x0, x1, x2, x3], .agg #[u, v]]) w := by
  have hp' : tmps[p]?.getD undef = .pointer (some ⟨R, 0, none⟩) := by simpa using hp
  have hq' : tmps[q]?.getD undef = .pointer (some ⟨Fo, 0, none⟩) := by simpa using hq
  simp [results, h, hp', hq', asAddr, run_loadVar_row w R TM TM #[x0, x1, x2, x3] (0, 0) _ hb Tryz.underlying25 rfl (by rw [TM_info]; rfl), run_loadVar_row w Fo TRF TRF #[u, v] (0, 0) _ hf Tryz.underlying50 rfl (by rw [TRF_info]; rfl)]
section
variable {w W : World} {R Fo : Nat} {x0 x1 x2 x3 y0 y1 y2 y3 z0 z1 u v : Value}
theorem endM (hR : Blk W R TM #[x0, x1, x2, x3]) (hF : Blk W Fo TRF #[z0, z1]) :
    Blk ((((((W.setCell ⟨R, 0, none⟩ y0).setCell ⟨R, 1, none⟩ y1).setCell ⟨R, 2, none⟩ y2).setCell ⟨R, 3, none⟩ y3).setCell ⟨Fo, 0, none⟩ u).setCell ⟨Fo, 1, none⟩ v) R TM #[y0, y1, y2, y3] ∧
    Blk ((((((W.setCell ⟨R, 0, none⟩ y0).setCell ⟨R, 1, none⟩ y1).setCell ⟨R, 2, none⟩ y2).setCell ⟨R, 3, none⟩ y3).setCell ⟨Fo, 0, none⟩ u).setCell ⟨Fo, 1, none⟩ v) Fo TRF #[u, v] := by
  have hne : R ≠ Fo := Blk.ne_ hR hF (by decide)
  exact ⟨Blk.far (Blk.far (set4 hR) (p := ⟨Fo, 0, none⟩) hne u) (p := ⟨Fo, 1, none⟩) hne v, fault_set (hF.upd head_cells_upd fun e => hne e.symm)⟩
theorem updM : Upd (fun b => b = R ∨ b = Fo) W ((((((W.setCell ⟨R, 0, none⟩ y0).setCell ⟨R, 1, none⟩ y1).setCell ⟨R, 2, none⟩ y2).setCell ⟨R, 3, none⟩ y3).setCell ⟨Fo, 0, none⟩ u).setCell ⟨Fo, 1, none⟩ v) :=
  ((((((Upd.refl (fun b => b = R ∨ b = Fo) W).setCell (p := ⟨R, 0, none⟩) (.inl (.inl rfl)) _).setCell (p := ⟨R, 1, none⟩) (.inl (.inl rfl)) _).setCell (p := ⟨R, 2, none⟩) (.inl (.inl rfl)) _).setCell (p := ⟨R, 3, none⟩) (.inl (.inl rfl)) _).setCell (p := ⟨Fo, 0, none⟩) (.inl (.inr rfl)) _).setCell (p := ⟨Fo, 1, none⟩) (.inl (.inr rfl)) _
theorem newM (hn : New w W) (hR : w.heap.size ≤ R) (hF : w.heap.size ≤ Fo) : New w ((((((W.setCell ⟨R, 0, none⟩ y0).setCell ⟨R, 1, none⟩ y1).setCell ⟨R, 2, none⟩ y2).setCell ⟨R, 3, none⟩ y3).setCell ⟨Fo, 0, none⟩ u).setCell ⟨Fo, 1, none⟩ v) :=
  hn.trans updM fun q hq e => by rcases e with rfl | rfl <;> omega
end
/-- What ReadMsg leaves. -/
def RefPost (r : (Nat × Int) × MsgC) (w : World) (e : Ending) (w1 : World) : Prop :=
  ∃ m' : MsgR, e = .returned (.tuple #[.agg m'.cells, faultV r.1]) ∧ m'.con = r.2 ∧ MsgOk w1 m' ∧ MsgFar (fun q => q < w.heap.size) m' ∧ New w w1
theorem cut_rest {l x y : List UInt8} {r : List (List UInt8)} (h : cutR 32 l = x :: y :: r) (hr : r ≠ []) : l.drop (x.length + y.length + 2) = joinC 32 r ∧ x.length + y.length + 2 ≤ l.length := by
  have e : joinC 32 (cutR 32 l) = l := cutR_join 32 l
  rw [h] at e
  cases r with
  | nil => exact absurd rfl hr
  | cons z r =>
    have e2 : l = (x ++ 32 :: (y ++ [32])) ++ joinC 32 (z :: r) := by
      rw [← e]
      show x ++ 32 :: (y ++ 32 :: joinC 32 (z :: r)) = _
      simp
    have hl : (x ++ 32 :: (y ++ [32])).length = x.length + y.length + 2 := by
      simp
      omega
    refine ⟨?_, ?_⟩
    · rw [e2, ← hl, List.drop_left]
    · rw [e2, List.length_append, hl]
      omega
end Go.Proofs.YtjgecmkfgeajiaaGreatDoor

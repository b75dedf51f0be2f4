/- Package rule: the first rule that fits; own memory for rules. No condition but those that stand in each theorem. -/
import Derived.Test.YtkljanjapcpbdaaDoorRu3
import Derived.Test.YtkljanjapcpbdaaDoorOw1
namespace Go.Proofs.YtkljanjapcpbdaaDoor
open Go.RowKit

set_option maxRecDepth 8000 in
set_option maxHeartbeats 2000000 in
theorem apply1_any (r : RuR) (x m : Int) (t : AttrR) (p q : Nat) (E : Nat → Addr) (w : World) (s2 : Sen w gBound (E 2)) (s3 : Sen w gShape (E 3)) (hp : Blk w p TPx #[.int .i64 x, .int .i64 m]) (hq : Blk w q TA t.cells) (ha : AttrOk w t) (hl : t.path.length ≤ 1000) (hl2 : t.tags.length ≤ 1000) :
    Calls Tryd.prog 89 #[.agg r.cells, .pointer (some ⟨p, 0, none⟩), .pointer (some ⟨q, 0, none⟩)] w fun e w1 => e = .returned (.bool (fitB r x m t.path t.tags)) ∧ New w w1 := by
  have u := (Upd.refl (fun _ => False) w).alloc (.cells r.cells TRu)
  have Hc := hide (fits_any r x m t E _ (s2.new u) (s3.new u) (ha.new_ u) hl hl2)
  have Hu := hide u
  have d0 := hp.cell 0
  have d1 := hp.cell 1
  have f0 := hq.cell 0
  have f1 := hq.cell 1
  have f2 := hq.cell 2
  have f3 := hq.cell 3
  have f4 := hq.cell 4
  have zp := hp.lt
  have zq := hq.lt
  unfold AttrR.cells at *
  simp only [List.getElem?_toArray, List.getElem?_cons_zero, List.getElem?_cons_succ] at d0 d1 f0 f1 f2 f3 f4
  clear hp hq ha u s2 s3
  unfold RuR.cells at *
  go_enter Tryd.func89, Tryd.ntmps89
  go_wp2_with fail
  refine Hc.out.mono ?_
  rintro e w1 ⟨rfl, hu⟩
  go_wp2_with fail
  go_ret
  exact ⟨rfl, Hu.out.trans_new hu⟩

set_option maxRecDepth 8000 in
set_option maxHeartbeats 2000000 in
theorem idxRules_any (A : Option Addr) (n c : Nat) (l : List RuR) (x m : Int) (t : AttrR) (p q : Nat) (E : Nat → Addr) (w : World) (s2 : Sen w gBound (E 2)) (s3 : Sen w gShape (E 3)) (hx : Rules w A l) (hn : l.length = n) (hl0 : n ≤ 1000) (hp : Blk w p TPx #[.int .i64 x, .int .i64 m]) (hq : Blk w q TA t.cells) (ha : AttrOk w t) (hl : t.path.length ≤ 1000) (hl2 : t.tags.length ≤ 1000) :
    Calls Tryd.prog 88 #[.slice A n c, .func (.func 89) #[] #[.pointer (some ⟨p, 0, none⟩), .pointer (some ⟨q, 0, none⟩)]] w fun e w1 => e = .returned (.int .i64 (idxB (fun r => fitB r x m t.path t.tags) l)) ∧ New w w1 := by
  have S2 := hide s2
  have S3 := hide s3
  have Hx := hide hx
  have Hn := hide hn
  have Hp := hide hp
  have Hq := hide hq
  have Ha := hide ha
  have Hl := hide (And.intro hl hl2)
  obtain ⟨P, hP⟩ : ∃ P : RuR → Bool, P = fun r => fitB r x m t.path t.tags := ⟨_, rfl⟩
  have hfit := fun (r : RuR) w' (nw : New w w') => apply1_any r x m t p q E w' (S2.out.new nw) (S3.out.new nw) (Hp.out.new_ nw) (Hq.out.new_ nw) (Ha.out.new_ nw) Hl.out.1 Hl.out.2
  rw [show (fun r => fitB r x m t.path t.tags) = P from hP.symm]
  have hfit2 : ∀ (r : RuR) w' (nw : New w w'), Calls Tryd.prog 89 #[.agg r.cells, .pointer (some ⟨p, 0, none⟩), .pointer (some ⟨q, 0, none⟩)] w' fun e w1 => e = .returned (.bool (P r)) ∧ New w' w1 := by
    subst hP; exact hfit
  have Hfit := hide hfit2
  clear hfit hfit2 hP s2 s3 hx hn hp hq ha hl hl2 S2 S3 Hp Hq Ha Hl
  go_enter Tryd.func88, Tryd.ntmps88
  go_wp2_with fail
  go_loopw [8] (fun i wr => ∃ k : Nat, k ≤ n ∧ i = .int .i64 k ∧ New w wr ∧ ∀ (j : Nat) x, j < k → l[j]? = some x → P x = false) (fun i _ => n - (intOf i).toNat)
  case atStart => exact ⟨0, by omega, rfl, Upd.refl _ _, fun j x h => absurd h (by omega)⟩
  case round =>
    obtain ⟨k, hk, rfl, hnew, hz⟩ := hrel
    have Hz := hide hz
    have Hnew := hide hnew
    clear hz
    by_cases hlt : k < n
    · obtain ⟨b, o, r, hA, hb, hrk, c0, c1, c2, c3, c4, c5, c6, c7, c8, c9, c10⟩ := (Hx.out.new_ hnew).at_ (k := k) (by have := Hn.out; omega)
      have Hrk := hide hrk
      have i1 : (k : Int) < (n : Int) := by omega
      have hc := Hfit.out r wr hnew
      unfold RuR.cells at hc
      rw [hA]
      clear hrk hnew
      cases hp : P r with
      | true =>
        rw [hp] at hc
        have Hc := hide hc
        have Hp := hide hp
        clear hc hp
        go_wp2_with fail
        refine Hc.out.mono ?_
        rintro e w2 ⟨rfl, hu2⟩
        go_wp2_with fail
        go_ret
        exact ⟨ret_int (idxB_at P l k r Hrk.out Hp.out Hz.out).symm, Hnew.out.trans_new hu2⟩
      | false =>
        rw [hp] at hc
        have Hc := hide hc
        have Hp := hide hp
        clear hc hp
        go_wp2_with fail
        refine Hc.out.mono ?_
        rintro e w2 ⟨rfl, hu2⟩
        go_wp2_with fail
        refine ⟨⟨k + 1, by omega, by go_num, Hnew.out.trans_new hu2, fun j y hj hy => ?_⟩, by simp [intOf]; omega⟩
        by_cases hjk : j < k
        · exact Hz.out j y hjk hy
        · obtain rfl : j = k := by omega
          rw [Hrk.out] at hy; injection hy with hy; subst hy; exact Hp.out
    · have hkn : k = n := by omega
      subst hkn
      go_wp2_with fail
      go_ret
      exact ⟨ret_int (idxB_no P l fun j y hy => Hz.out j y (by have := (List.getElem?_eq_some_iff.1 hy).1; have := Hn.out; omega) hy).symm, hnew⟩

theorem info_TRu : (Tryd.prog.info? TRu).map (fun i => (i.zero, i.size, i.bytes)) = some (some (.agg #[.int .i64 0, .int .i64 0, .int .i64 0, .int .i64 0, .int .i64 0, .int .i64 0, .bool false, .int .i64 0, .int .i64 0, .int .i64 0, .int .i64 0]), 11, 88) := by kernel_rfl
theorem ru_size (l : List RuR) : ∀ r ∈ l.map RuR.cells, r.size = 11 := fun r hr => by obtain ⟨p, _, rfl⟩ := List.mem_map.1 hr; rfl
theorem ru_one (l : List RuR) : ∀ u ∈ flat (l.map RuR.cells), u.oneCell' = true := fun u hu => by
  obtain ⟨r, hr, hu⟩ := List.mem_flatMap.1 hu
  obtain ⟨p, _, rfl⟩ := List.mem_map.1 hr
  simp [RuR.cells] at hu
  rcases hu with rfl | rfl | rfl | rfl | rfl | rfl | rfl | rfl | rfl | rfl | rfl <;> rfl

set_option maxHeartbeats 1000000 in
theorem ownRules_any (A : Option Addr) (n c : Nat) (l : List RuR) (w : World) (hx : Rules w A l) (hn : l.length = n) (hl : n ≤ 1000) :
    Calls Tryd.prog 43 #[.slice A n c] w fun e w1 => ∃ v, e = .returned v ∧ w1.ownsRow w.heap.size TRu 11 v n (flat (l.map RuR.cells)) ∧ New w w1 := by
  have Hf := hide (Rws.flat (by omega) hx (ru_size l))
  have Hn := hide hn
  obtain ⟨i0, hi0, hz0, hz1, hz2⟩ := info_parts info_TRu
  clear hx hn
  go_enter Tryd.func43, Tryd.ntmps43
  go_wp2_with (at_builtin; refine append_src rfl (.tmp 4) (.tmp 5) 77 rfl w.heap.size TRu i0 _ 11 88 Tryd.underlying77 hi0 hz0 hz1 hz2 rfl (by omega) (.slice none 0 0) 0 [] rfl (World.ownsRow_nil _ _ _ _) A n c (flat (l.map RuR.cells)) rfl (by rw [flat_length _ (ru_size l), List.length_map, Hn.out]) (fun h => Hf.out (by rw [List.length_map, Hn.out]; exact h)) (ru_one l) (by unfold maxLen; omega) (by omega) (Nat.le_refl _) ?_)
  intro v1 w1 ho1 hg1
  have u1 : New w w1 := grown_new hg1
  have ho2 : w1.ownsRow w.heap.size TRu 11 v1 n (flat (l.map RuR.cells)) := by simpa using ho1
  have Ho2 := hide ho2
  clear ho1 ho2 hg1
  go_wp2_with fail
  go_ret
  exact ⟨_, rfl, Ho2.out, u1⟩
end Go.Proofs.YtkljanjapcpbdaaDoor

/- Rules in memory; package rule: right, Fits. No condition but those that stand in each theorem. -/
import Derived.Test.YtkljanjapcpbdaaDoorRu1
import Derived.Test.YtkljanjapcpbdaaDoorIp3
namespace Go.Proofs.YtkljanjapcpbdaaDoor
open Go.RowKit

abbrev TRu : TypeId := 87
abbrev TPx : TypeId := 51
/-- A rule. -/
structure RuR where
  a : Int
  n : Int
  lo : Int
  hi : Int
  tag : Int
  as_ : Int
  deny : Bool
  pref : Int
  med : Int
  add : Int
  lead : Int
def RuR.cells (r : RuR) : Array Value := #[.int .i64 r.a, .int .i64 r.n, .int .i64 r.lo, .int .i64 r.hi, .int .i64 r.tag, .int .i64 r.as_, .bool r.deny, .int .i64 r.pref, .int .i64 r.med, .int .i64 r.add, .int .i64 r.lead]
def Rules (w : World) (A : Option Addr) (l : List RuR) : Prop := Rws w A 11 (l.map RuR.cells)
theorem Rules.new_ {w w1 : World} {A : Option Addr} {l : List RuR} (h : Rules w A l) (hu : New w w1) : Rules w1 A l := Rws.new_ h hu
theorem Rules.at_ {w : World} {A : Option Addr} {l : List RuR} (h : Rules w A l) {k : Nat} (hk : k < l.length) : ∃ b o r, A = some ⟨b, o, none⟩ ∧ b < w.heap.size ∧ l[k]? = some r ∧
    w.cell? ⟨b, o + k * 11, none⟩ = some (.int .i64 r.a) ∧ w.cell? ⟨b, o + k * 11 + 1, none⟩ = some (.int .i64 r.n) ∧ w.cell? ⟨b, o + k * 11 + 2, none⟩ = some (.int .i64 r.lo) ∧ w.cell? ⟨b, o + k * 11 + 3, none⟩ = some (.int .i64 r.hi) ∧ w.cell? ⟨b, o + k * 11 + 4, none⟩ = some (.int .i64 r.tag) ∧ w.cell? ⟨b, o + k * 11 + 5, none⟩ = some (.int .i64 r.as_) ∧ w.cell? ⟨b, o + k * 11 + 6, none⟩ = some (.bool r.deny) ∧ w.cell? ⟨b, o + k * 11 + 7, none⟩ = some (.int .i64 r.pref) ∧ w.cell? ⟨b, o + k * 11 + 8, none⟩ = some (.int .i64 r.med) ∧ w.cell? ⟨b, o + k * 11 + 9, none⟩ = some (.int .i64 r.add) ∧ w.cell? ⟨b, o + k * 11 + 10, none⟩ = some (.int .i64 r.lead) := by
  obtain ⟨b, o, hA, hb, hc⟩ := h (by simpa using by omega)
  have hp : l[k]? = some l[k] := List.getElem?_eq_getElem hk
  have h1 := hc k l[k].cells (by simp [hp])
  exact ⟨b, o, l[k], hA, hb, hp, h1 0 _ rfl, h1 1 _ rfl, h1 2 _ rfl, h1 3 _ rfl, h1 4 _ rfl, h1 5 _ rfl, h1 6 _ rfl, h1 7 _ rfl, h1 8 _ rfl, h1 9 _ rfl, h1 10 _ rfl⟩

theorem inT {n lo hi : Int} {b : Bool} (h : inR n lo hi = b) (w : World) : Calls Tryd.prog 92 #[.int .i64 n, .int .i64 lo, .int .i64 hi] w fun e w1 => e = .returned (.bool b) ∧ w = w1 := by
  subst h; exact ruleIn_any n lo hi w

/-- Right numbers. -/
def rightB (r : RuR) : Bool := inR r.hi 0 32 && inR r.lo 0 r.hi && inR r.tag 0 9999 && inR r.add 0 9999 && inR r.as_ 0 1000 && inR r.pref (-1) 1000 && inR r.med (-1) 1000 && inR r.lead 0 12

set_option maxRecDepth 8000 in
set_option maxHeartbeats 4000000 in
theorem right_any (r : RuR) (w : World) : Calls Tryd.prog 91 #[.agg r.cells] w fun e w1 => e = .returned (.bool (rightB r)) ∧ New w w1 := by
  obtain ⟨a, n, lo, hi, tag, as_, deny, pref, med, add, lead⟩ := r
  have Hu := hide ((Upd.refl (fun _ => False) w).alloc (.cells #[.int .i64 a, .int .i64 n, .int .i64 lo, .int .i64 hi, .int .i64 tag, .int .i64 as_, .bool deny, .int .i64 pref, .int .i64 med, .int .i64 add, .int .i64 lead] TRu))
  unfold RuR.cells
  cases h1 : inR hi 0 32 with
  | false =>
    have He : Hid (rightB ⟨a, n, lo, hi, tag, as_, deny, pref, med, add, lead⟩ = false) := hide (by unfold rightB; simp [h1])
    have G1 := hide h1
    clear h1
    go_enter Tryd.func91, Tryd.ntmps91
    go_wp2_with (go_at_call 92; refine (ruleIn_any _ _ _ _).mono ?_; rintro e w' ⟨rfl, rfl⟩; first | rw [G1.out])
    go_ret
    exact ⟨ret_bool He.out.symm, Hu.out⟩
  | true =>
    cases h2 : inR lo 0 hi with
    | false =>
      have He : Hid (rightB ⟨a, n, lo, hi, tag, as_, deny, pref, med, add, lead⟩ = false) := hide (by unfold rightB; simp [h1, h2])
      have G1 := hide h1
      have G2 := hide h2
      clear h1 h2
      go_enter Tryd.func91, Tryd.ntmps91
      go_wp2_with (go_at_call 92; refine (ruleIn_any _ _ _ _).mono ?_; rintro e w' ⟨rfl, rfl⟩; first | rw [G1.out] | rw [G2.out])
      go_ret
      exact ⟨ret_bool He.out.symm, Hu.out⟩
    | true =>
      cases h3 : inR tag 0 9999 with
      | false =>
        have He : Hid (rightB ⟨a, n, lo, hi, tag, as_, deny, pref, med, add, lead⟩ = false) := hide (by unfold rightB; simp [h1, h2, h3])
        have G1 := hide h1
        have G2 := hide h2
        have G3 := hide h3
        clear h1 h2 h3
        go_enter Tryd.func91, Tryd.ntmps91
        go_wp2_with (go_at_call 92; refine (ruleIn_any _ _ _ _).mono ?_; rintro e w' ⟨rfl, rfl⟩; first | rw [G1.out] | rw [G2.out] | rw [G3.out])
        go_ret
        exact ⟨ret_bool He.out.symm, Hu.out⟩
      | true =>
        cases h4 : inR add 0 9999 with
        | false =>
          have He : Hid (rightB ⟨a, n, lo, hi, tag, as_, deny, pref, med, add, lead⟩ = false) := hide (by unfold rightB; simp [h1, h2, h3, h4])
          have G1 := hide h1
          have G2 := hide h2
          have G3 := hide h3
          have G4 := hide h4
          clear h1 h2 h3 h4
          go_enter Tryd.func91, Tryd.ntmps91
          go_wp2_with (go_at_call 92; refine (ruleIn_any _ _ _ _).mono ?_; rintro e w' ⟨rfl, rfl⟩; first | rw [G1.out] | rw [G2.out] | rw [G3.out] | rw [G4.out])
          go_ret
          exact ⟨ret_bool He.out.symm, Hu.out⟩
        | true =>
          cases h5 : inR as_ 0 1000 with
          | false =>
            have He : Hid (rightB ⟨a, n, lo, hi, tag, as_, deny, pref, med, add, lead⟩ = false) := hide (by unfold rightB; simp [h1, h2, h3, h4, h5])
            have G1 := hide h1
            have G2 := hide h2
            have G3 := hide h3
            have G4 := hide h4
            have G5 := hide h5
            clear h1 h2 h3 h4 h5
            go_enter Tryd.func91, Tryd.ntmps91
            go_wp2_with (go_at_call 92; refine (ruleIn_any _ _ _ _).mono ?_; rintro e w' ⟨rfl, rfl⟩; first | rw [G1.out] | rw [G2.out] | rw [G3.out] | rw [G4.out] | rw [G5.out])
            go_ret
            exact ⟨ret_bool He.out.symm, Hu.out⟩
          | true =>
            cases h6 : inR pref (-1) 1000 with
            | false =>
              have He : Hid (rightB ⟨a, n, lo, hi, tag, as_, deny, pref, med, add, lead⟩ = false) := hide (by unfold rightB; simp [h1, h2, h3, h4, h5, h6])
              have G1 := hide h1
              have G2 := hide h2
              have G3 := hide h3
              have G4 := hide h4
              have G5 := hide h5
              have G6 := hide h6
              clear h1 h2 h3 h4 h5 h6
              go_enter Tryd.func91, Tryd.ntmps91
              go_wp2_with (go_at_call 92; refine (ruleIn_any _ _ _ _).mono ?_; rintro e w' ⟨rfl, rfl⟩; first | rw [G1.out] | rw [G2.out] | rw [G3.out] | rw [G4.out] | rw [G5.out] | rw [G6.out])
              go_ret
              exact ⟨ret_bool He.out.symm, Hu.out⟩
            | true =>
              cases h7 : inR med (-1) 1000 with
              | false =>
                have He : Hid (rightB ⟨a, n, lo, hi, tag, as_, deny, pref, med, add, lead⟩ = false) := hide (by unfold rightB; simp [h1, h2, h3, h4, h5, h6, h7])
                have G1 := hide h1
                have G2 := hide h2
                have G3 := hide h3
                have G4 := hide h4
                have G5 := hide h5
                have G6 := hide h6
                have G7 := hide h7
                clear h1 h2 h3 h4 h5 h6 h7
                go_enter Tryd.func91, Tryd.ntmps91
                go_wp2_with (go_at_call 92; refine (ruleIn_any _ _ _ _).mono ?_; rintro e w' ⟨rfl, rfl⟩; first | rw [G1.out] | rw [G2.out] | rw [G3.out] | rw [G4.out] | rw [G5.out] | rw [G6.out] | rw [G7.out])
                go_ret
                exact ⟨ret_bool He.out.symm, Hu.out⟩
              | true =>
                cases h8 : inR lead 0 12 with
                | false =>
                  have He : Hid (rightB ⟨a, n, lo, hi, tag, as_, deny, pref, med, add, lead⟩ = false) := hide (by unfold rightB; simp [h1, h2, h3, h4, h5, h6, h7, h8])
                  have G1 := hide h1
                  have G2 := hide h2
                  have G3 := hide h3
                  have G4 := hide h4
                  have G5 := hide h5
                  have G6 := hide h6
                  have G7 := hide h7
                  have G8 := hide h8
                  clear h1 h2 h3 h4 h5 h6 h7 h8
                  go_enter Tryd.func91, Tryd.ntmps91
                  go_wp2_with (go_at_call 92; refine (ruleIn_any _ _ _ _).mono ?_; rintro e w' ⟨rfl, rfl⟩; first | rw [G1.out] | rw [G2.out] | rw [G3.out] | rw [G4.out] | rw [G5.out] | rw [G6.out] | rw [G7.out] | rw [G8.out])
                  go_ret
                  exact ⟨ret_bool He.out.symm, Hu.out⟩
                | true =>
                  have He : Hid (rightB ⟨a, n, lo, hi, tag, as_, deny, pref, med, add, lead⟩ = true) := hide (by unfold rightB; simp [h1, h2, h3, h4, h5, h6, h7, h8])
                  have G1 := hide h1
                  have G2 := hide h2
                  have G3 := hide h3
                  have G4 := hide h4
                  have G5 := hide h5
                  have G6 := hide h6
                  have G7 := hide h7
                  have G8 := hide h8
                  clear h1 h2 h3 h4 h5 h6 h7 h8
                  go_enter Tryd.func91, Tryd.ntmps91
                  go_wp2_with (go_at_call 92; refine (ruleIn_any _ _ _ _).mono ?_; rintro e w' ⟨rfl, rfl⟩; first | rw [G1.out] | rw [G2.out] | rw [G3.out] | rw [G4.out] | rw [G5.out] | rw [G6.out] | rw [G7.out] | rw [G8.out])
                  go_ret
                  exact ⟨ret_bool He.out.symm, Hu.out⟩

/-- Does a rule fit? -/
def fitB (r : RuR) (x m : Int) (p q : List Int) : Bool := inB x m r.a r.n && inR m r.lo r.hi && (decide (r.tag = 0) || q.any fun x => decide (r.tag = x)) && (decide (r.as_ = 0) || p.any fun x => decide (r.as_ = x))

set_option maxRecDepth 8000 in
set_option maxHeartbeats 4000000 in
theorem fits_any (r : RuR) (x m : Int) (t : AttrR) (E : Nat → Addr) (w : World) (s2 : Sen w gBound (E 2)) (s3 : Sen w gShape (E 3)) (ha : AttrOk w t) (hl : t.path.length ≤ 1000) (hl2 : t.tags.length ≤ 1000) :
    Calls Tryd.prog 41 #[.agg r.cells, .agg #[.int .i64 x, .int .i64 m], .agg t.cells] w fun e w1 => e = .returned (.bool (fitB r x m t.path t.tags)) ∧ New w w1 := by
  obtain ⟨a, n, lo, hi, tag, as_, deny, pref, med, add, lead⟩ := r
  unfold RuR.cells
  have u1 := (Upd.refl (fun _ => False) w).alloc (.cells #[.int .i64 a, .int .i64 n, .int .i64 lo, .int .i64 hi, .int .i64 tag, .int .i64 as_, .bool deny, .int .i64 pref, .int .i64 med, .int .i64 add, .int .i64 lead] TRu)
  have u2 := u1.alloc (.cells #[.int .i64 x, .int .i64 m] TPx)
  have u3 := u2.alloc (.cells t.cells TA)
  have B0 := ((Blk.new w TRu #[.int .i64 a, .int .i64 n, .int .i64 lo, .int .i64 hi, .int .i64 tag, .int .i64 as_, .bool deny, .int .i64 pref, .int .i64 med, .int .i64 add, .int .i64 lead]).alloc (.cells #[.int .i64 x, .int .i64 m] TPx)).alloc (.cells t.cells TA)
  have B1 := (Blk.at_ (w.alloc (.cells #[.int .i64 a, .int .i64 n, .int .i64 lo, .int .i64 hi, .int .i64 tag, .int .i64 as_, .bool deny, .int .i64 pref, .int .i64 med, .int .i64 add, .int .i64 lead] TRu)) TPx #[.int .i64 x, .int .i64 m] (w.heap.size + 1) (by simp)).alloc (.cells t.cells TA)
  have B2 := Blk.at_ ((w.alloc (.cells #[.int .i64 a, .int .i64 n, .int .i64 lo, .int .i64 hi, .int .i64 tag, .int .i64 as_, .bool deny, .int .i64 pref, .int .i64 med, .int .i64 add, .int .i64 lead] TRu)).alloc (.cells #[.int .i64 x, .int .i64 m] TPx)) TA t.cells (w.heap.size + 2) (by simp)
  have Hu := hide u3
  have HB0 := hide B0
  have HB1 := hide B1
  have HB2 := hide B2
  have Ha := hide (ha.new_ u3)
  have S2 := hide (s2.new u3)
  have S3 := hide (s3.new u3)
  clear u1 u2 u3 B0 B1 B2 ha s2 s3
  unfold AttrR.cells at *
  have gi := fun w' (s2 : Sen w' gBound (E 2)) (s3 : Sen w' gShape (E 3)) => in_any x m a n E w' s2 s3
  have gc := fun w' (h : Ints w' t.T t.tags) => containsInt_any t.T t.tags.length t.tc t.tags tag w' h rfl (by omega)
  have gt := fun w' (h : AttrOk w' t) => through_any t as_ w' h hl
  cases h1 : inB x m a n with
  | false =>
    rw [h1] at gi
    have GI := hide gi
    have GR := hide (inT (n := m) (lo := lo) (hi := hi) rfl)
    have GC := hide gc
    have GT := hide gt
    have He : Hid (fitB ⟨a, n, lo, hi, tag, as_, deny, pref, med, add, lead⟩ x m t.path t.tags = false) := hide (by unfold fitB; simp [h1])
    clear gi gc gt h1
    go_enter Tryd.func41, Tryd.ntmps41
    go_upto_region 1 with (fail)
    generalize (((w.alloc (.cells #[.int .i64 a, .int .i64 n, .int .i64 lo, .int .i64 hi, .int .i64 tag, .int .i64 as_, .bool deny, .int .i64 pref, .int .i64 med, .int .i64 add, .int .i64 lead] TRu)).alloc (.cells #[.int .i64 x, .int .i64 m] TPx)).alloc (.cells #[.slice t.P t.path.length t.pc, .int .i64 t.pref, .int .i64 t.med, .int .i64 t.origin, .slice t.T t.tags.length t.tc] TA)) = W at *
    have c0 := HB0.out.cell 0
    have c1 := HB0.out.cell 1
    have c2 := HB0.out.cell 2
    have c3 := HB0.out.cell 3
    have c4 := HB0.out.cell 4
    have c5 := HB0.out.cell 5
    have c6 := HB0.out.cell 6
    have c7 := HB0.out.cell 7
    have c8 := HB0.out.cell 8
    have c9 := HB0.out.cell 9
    have c10 := HB0.out.cell 10
    have zc := HB0.out.lt
    have d0 := HB1.out.cell 0
    have d1 := HB1.out.cell 1
    have zd := HB1.out.lt
    have f0 := HB2.out.cell 0
    have f1 := HB2.out.cell 1
    have f2 := HB2.out.cell 2
    have f3 := HB2.out.cell 3
    have f4 := HB2.out.cell 4
    have zf := HB2.out.lt
    simp only [List.getElem?_toArray, List.getElem?_cons_zero, List.getElem?_cons_succ] at c0 c1 c2 c3 c4 c5 c6 c7 c8 c9 c10 d0 d1 f0 f1 f2 f3 f4
    refine wp_region_seq W (Upd.refl _ _) ?_
    repeat (go_big_quiet_step ((first | (go_at_call 62; exact new_call (GI.out _ (S2.out.new (NewW.h _)) (S3.out.new (NewW.h _)))) | (go_at_call 92; exact new_call_same (GR.out _)) | (go_at_call 93; exact new_call_same (GC.out _ (Ha.out.tags.new_ (NewW.h _)))) | (go_at_call 94; exact new_call (GT.out _ (Ha.out.new_ (NewW.h _)))))))
    refine wpQuiet_nil ?_
    rintro _ ⟨nq, rfl⟩
    go_wp2_with fail
    go_ret
    exact ⟨ret_bool He.out.symm, Hu.out.trans_new nq.h⟩
  | true =>
    rw [h1] at gi
    have GI := hide gi
    cases h2 : inR m lo hi with
    | false =>
      have GR := hide (inT h2)
      have GC := hide gc
      have GT := hide gt
      have He : Hid (fitB ⟨a, n, lo, hi, tag, as_, deny, pref, med, add, lead⟩ x m t.path t.tags = false) := hide (by unfold fitB; simp [h1, h2])
      clear gi gc gt h1 h2
      go_enter Tryd.func41, Tryd.ntmps41
      go_upto_region 1 with (fail)
      generalize (((w.alloc (.cells #[.int .i64 a, .int .i64 n, .int .i64 lo, .int .i64 hi, .int .i64 tag, .int .i64 as_, .bool deny, .int .i64 pref, .int .i64 med, .int .i64 add, .int .i64 lead] TRu)).alloc (.cells #[.int .i64 x, .int .i64 m] TPx)).alloc (.cells #[.slice t.P t.path.length t.pc, .int .i64 t.pref, .int .i64 t.med, .int .i64 t.origin, .slice t.T t.tags.length t.tc] TA)) = W at *
      have c0 := HB0.out.cell 0
      have c1 := HB0.out.cell 1
      have c2 := HB0.out.cell 2
      have c3 := HB0.out.cell 3
      have c4 := HB0.out.cell 4
      have c5 := HB0.out.cell 5
      have c6 := HB0.out.cell 6
      have c7 := HB0.out.cell 7
      have c8 := HB0.out.cell 8
      have c9 := HB0.out.cell 9
      have c10 := HB0.out.cell 10
      have zc := HB0.out.lt
      have d0 := HB1.out.cell 0
      have d1 := HB1.out.cell 1
      have zd := HB1.out.lt
      have f0 := HB2.out.cell 0
      have f1 := HB2.out.cell 1
      have f2 := HB2.out.cell 2
      have f3 := HB2.out.cell 3
      have f4 := HB2.out.cell 4
      have zf := HB2.out.lt
      simp only [List.getElem?_toArray, List.getElem?_cons_zero, List.getElem?_cons_succ] at c0 c1 c2 c3 c4 c5 c6 c7 c8 c9 c10 d0 d1 f0 f1 f2 f3 f4
      refine wp_region_seq W (Upd.refl _ _) ?_
      repeat (go_big_quiet_step ((first | (go_at_call 62; exact new_call (GI.out _ (S2.out.new (NewW.h _)) (S3.out.new (NewW.h _)))) | (go_at_call 92; exact new_call_same (GR.out _)) | (go_at_call 93; exact new_call_same (GC.out _ (Ha.out.tags.new_ (NewW.h _)))) | (go_at_call 94; exact new_call (GT.out _ (Ha.out.new_ (NewW.h _)))))))
      refine wpQuiet_nil ?_
      rintro _ ⟨nq, rfl⟩
      go_wp2_with fail
      go_ret
      exact ⟨ret_bool He.out.symm, Hu.out.trans_new nq.h⟩
    | true =>
      have GR := hide (inT h2)
      by_cases h3 : tag = 0
      · have GC := hide gc
        by_cases h5 : as_ = 0
        · have GT := hide gt
          have He : Hid (fitB ⟨a, n, lo, hi, tag, as_, deny, pref, med, add, lead⟩ x m t.path t.tags = true) := hide (by unfold fitB; simp [h1, h2, h3, h5])
          clear gi gc gt h1 h2
          have j3 : (tag == 0) = true := beq_iff_eq.2 h3
          have j5 : (as_ == 0) = true := beq_iff_eq.2 h5
          clear h3 h5
          go_enter Tryd.func41, Tryd.ntmps41
          go_upto_region 1 with (fail)
          generalize (((w.alloc (.cells #[.int .i64 a, .int .i64 n, .int .i64 lo, .int .i64 hi, .int .i64 tag, .int .i64 as_, .bool deny, .int .i64 pref, .int .i64 med, .int .i64 add, .int .i64 lead] TRu)).alloc (.cells #[.int .i64 x, .int .i64 m] TPx)).alloc (.cells #[.slice t.P t.path.length t.pc, .int .i64 t.pref, .int .i64 t.med, .int .i64 t.origin, .slice t.T t.tags.length t.tc] TA)) = W at *
          have c0 := HB0.out.cell 0
          have c1 := HB0.out.cell 1
          have c2 := HB0.out.cell 2
          have c3 := HB0.out.cell 3
          have c4 := HB0.out.cell 4
          have c5 := HB0.out.cell 5
          have c6 := HB0.out.cell 6
          have c7 := HB0.out.cell 7
          have c8 := HB0.out.cell 8
          have c9 := HB0.out.cell 9
          have c10 := HB0.out.cell 10
          have zc := HB0.out.lt
          have d0 := HB1.out.cell 0
          have d1 := HB1.out.cell 1
          have zd := HB1.out.lt
          have f0 := HB2.out.cell 0
          have f1 := HB2.out.cell 1
          have f2 := HB2.out.cell 2
          have f3 := HB2.out.cell 3
          have f4 := HB2.out.cell 4
          have zf := HB2.out.lt
          simp only [List.getElem?_toArray, List.getElem?_cons_zero, List.getElem?_cons_succ] at c0 c1 c2 c3 c4 c5 c6 c7 c8 c9 c10 d0 d1 f0 f1 f2 f3 f4
          refine wp_region_seq W (Upd.refl _ _) ?_
          repeat (go_big_quiet_step ((first | (go_at_call 62; exact new_call (GI.out _ (S2.out.new (NewW.h _)) (S3.out.new (NewW.h _)))) | (go_at_call 92; exact new_call_same (GR.out _)) | (go_at_call 93; exact new_call_same (GC.out _ (Ha.out.tags.new_ (NewW.h _)))) | (go_at_call 94; exact new_call (GT.out _ (Ha.out.new_ (NewW.h _)))))))
          refine wpQuiet_nil ?_
          rintro _ ⟨nq, rfl⟩
          go_wp2_with fail
          go_ret
          exact ⟨ret_bool He.out.symm, Hu.out.trans_new nq.h⟩
        · cases h6 : (t.path.any fun x => decide (as_ = x)) with
          | false =>
            rw [h6] at gt
            have GT := hide gt
            have He : Hid (fitB ⟨a, n, lo, hi, tag, as_, deny, pref, med, add, lead⟩ x m t.path t.tags = false) := hide (by unfold fitB; simp [h1, h2, h3, h5, h6])
            clear gi gc gt h1 h2 h6
            have j3 : (tag == 0) = true := beq_iff_eq.2 h3
            have j5 : (as_ == 0) = false := beq_eq_false_iff_ne.2 h5
            clear h3 h5
            go_enter Tryd.func41, Tryd.ntmps41
            go_upto_region 1 with (fail)
            generalize (((w.alloc (.cells #[.int .i64 a, .int .i64 n, .int .i64 lo, .int .i64 hi, .int .i64 tag, .int .i64 as_, .bool deny, .int .i64 pref, .int .i64 med, .int .i64 add, .int .i64 lead] TRu)).alloc (.cells #[.int .i64 x, .int .i64 m] TPx)).alloc (.cells #[.slice t.P t.path.length t.pc, .int .i64 t.pref, .int .i64 t.med, .int .i64 t.origin, .slice t.T t.tags.length t.tc] TA)) = W at *
            have c0 := HB0.out.cell 0
            have c1 := HB0.out.cell 1
            have c2 := HB0.out.cell 2
            have c3 := HB0.out.cell 3
            have c4 := HB0.out.cell 4
            have c5 := HB0.out.cell 5
            have c6 := HB0.out.cell 6
            have c7 := HB0.out.cell 7
            have c8 := HB0.out.cell 8
            have c9 := HB0.out.cell 9
            have c10 := HB0.out.cell 10
            have zc := HB0.out.lt
            have d0 := HB1.out.cell 0
            have d1 := HB1.out.cell 1
            have zd := HB1.out.lt
            have f0 := HB2.out.cell 0
            have f1 := HB2.out.cell 1
            have f2 := HB2.out.cell 2
            have f3 := HB2.out.cell 3
            have f4 := HB2.out.cell 4
            have zf := HB2.out.lt
            simp only [List.getElem?_toArray, List.getElem?_cons_zero, List.getElem?_cons_succ] at c0 c1 c2 c3 c4 c5 c6 c7 c8 c9 c10 d0 d1 f0 f1 f2 f3 f4
            refine wp_region_seq W (Upd.refl _ _) ?_
            repeat (go_big_quiet_step ((first | (go_at_call 62; exact new_call (GI.out _ (S2.out.new (NewW.h _)) (S3.out.new (NewW.h _)))) | (go_at_call 92; exact new_call_same (GR.out _)) | (go_at_call 93; exact new_call_same (GC.out _ (Ha.out.tags.new_ (NewW.h _)))) | (go_at_call 94; exact new_call (GT.out _ (Ha.out.new_ (NewW.h _)))))))
            refine wpQuiet_nil ?_
            rintro _ ⟨nq, rfl⟩
            go_wp2_with fail
            go_ret
            exact ⟨ret_bool He.out.symm, Hu.out.trans_new nq.h⟩
          | true =>
            rw [h6] at gt
            have GT := hide gt
            have He : Hid (fitB ⟨a, n, lo, hi, tag, as_, deny, pref, med, add, lead⟩ x m t.path t.tags = true) := hide (by unfold fitB; simp [h1, h2, h3, h5, h6])
            clear gi gc gt h1 h2 h6
            have j3 : (tag == 0) = true := beq_iff_eq.2 h3
            have j5 : (as_ == 0) = false := beq_eq_false_iff_ne.2 h5
            clear h3 h5
            go_enter Tryd.func41, Tryd.ntmps41
            go_upto_region 1 with (fail)
            generalize (((w.alloc (.cells #[.int .i64 a, .int .i64 n, .int .i64 lo, .int .i64 hi, .int .i64 tag, .int .i64 as_, .bool deny, .int .i64 pref, .int .i64 med, .int .i64 add, .int .i64 lead] TRu)).alloc (.cells #[.int .i64 x, .int .i64 m] TPx)).alloc (.cells #[.slice t.P t.path.length t.pc, .int .i64 t.pref, .int .i64 t.med, .int .i64 t.origin, .slice t.T t.tags.length t.tc] TA)) = W at *
            have c0 := HB0.out.cell 0
            have c1 := HB0.out.cell 1
            have c2 := HB0.out.cell 2
            have c3 := HB0.out.cell 3
            have c4 := HB0.out.cell 4
            have c5 := HB0.out.cell 5
            have c6 := HB0.out.cell 6
            have c7 := HB0.out.cell 7
            have c8 := HB0.out.cell 8
            have c9 := HB0.out.cell 9
            have c10 := HB0.out.cell 10
            have zc := HB0.out.lt
            have d0 := HB1.out.cell 0
            have d1 := HB1.out.cell 1
            have zd := HB1.out.lt
            have f0 := HB2.out.cell 0
            have f1 := HB2.out.cell 1
            have f2 := HB2.out.cell 2
            have f3 := HB2.out.cell 3
            have f4 := HB2.out.cell 4
            have zf := HB2.out.lt
            simp only [List.getElem?_toArray, List.getElem?_cons_zero, List.getElem?_cons_succ] at c0 c1 c2 c3 c4 c5 c6 c7 c8 c9 c10 d0 d1 f0 f1 f2 f3 f4
            refine wp_region_seq W (Upd.refl _ _) ?_
            repeat (go_big_quiet_step ((first | (go_at_call 62; exact new_call (GI.out _ (S2.out.new (NewW.h _)) (S3.out.new (NewW.h _)))) | (go_at_call 92; exact new_call_same (GR.out _)) | (go_at_call 93; exact new_call_same (GC.out _ (Ha.out.tags.new_ (NewW.h _)))) | (go_at_call 94; exact new_call (GT.out _ (Ha.out.new_ (NewW.h _)))))))
            refine wpQuiet_nil ?_
            rintro _ ⟨nq, rfl⟩
            go_wp2_with fail
            go_ret
            exact ⟨ret_bool He.out.symm, Hu.out.trans_new nq.h⟩
      · cases h4 : (t.tags.any fun x => decide (tag = x)) with
        | false =>
          rw [h4] at gc
          have GC := hide gc
          have GT := hide gt
          have He : Hid (fitB ⟨a, n, lo, hi, tag, as_, deny, pref, med, add, lead⟩ x m t.path t.tags = false) := hide (by unfold fitB; simp [h1, h2, h3, h4])
          clear gi gc gt h1 h2 h4
          have j3 : (tag == 0) = false := beq_eq_false_iff_ne.2 h3
          clear h3
          go_enter Tryd.func41, Tryd.ntmps41
          go_upto_region 1 with (fail)
          generalize (((w.alloc (.cells #[.int .i64 a, .int .i64 n, .int .i64 lo, .int .i64 hi, .int .i64 tag, .int .i64 as_, .bool deny, .int .i64 pref, .int .i64 med, .int .i64 add, .int .i64 lead] TRu)).alloc (.cells #[.int .i64 x, .int .i64 m] TPx)).alloc (.cells #[.slice t.P t.path.length t.pc, .int .i64 t.pref, .int .i64 t.med, .int .i64 t.origin, .slice t.T t.tags.length t.tc] TA)) = W at *
          have c0 := HB0.out.cell 0
          have c1 := HB0.out.cell 1
          have c2 := HB0.out.cell 2
          have c3 := HB0.out.cell 3
          have c4 := HB0.out.cell 4
          have c5 := HB0.out.cell 5
          have c6 := HB0.out.cell 6
          have c7 := HB0.out.cell 7
          have c8 := HB0.out.cell 8
          have c9 := HB0.out.cell 9
          have c10 := HB0.out.cell 10
          have zc := HB0.out.lt
          have d0 := HB1.out.cell 0
          have d1 := HB1.out.cell 1
          have zd := HB1.out.lt
          have f0 := HB2.out.cell 0
          have f1 := HB2.out.cell 1
          have f2 := HB2.out.cell 2
          have f3 := HB2.out.cell 3
          have f4 := HB2.out.cell 4
          have zf := HB2.out.lt
          simp only [List.getElem?_toArray, List.getElem?_cons_zero, List.getElem?_cons_succ] at c0 c1 c2 c3 c4 c5 c6 c7 c8 c9 c10 d0 d1 f0 f1 f2 f3 f4
          refine wp_region_seq W (Upd.refl _ _) ?_
          repeat (go_big_quiet_step ((first | (go_at_call 62; exact new_call (GI.out _ (S2.out.new (NewW.h _)) (S3.out.new (NewW.h _)))) | (go_at_call 92; exact new_call_same (GR.out _)) | (go_at_call 93; exact new_call_same (GC.out _ (Ha.out.tags.new_ (NewW.h _)))) | (go_at_call 94; exact new_call (GT.out _ (Ha.out.new_ (NewW.h _)))))))
          refine wpQuiet_nil ?_
          rintro _ ⟨nq, rfl⟩
          go_wp2_with fail
          go_ret
          exact ⟨ret_bool He.out.symm, Hu.out.trans_new nq.h⟩
        | true =>
          rw [h4] at gc
          have GC := hide gc
          by_cases h5 : as_ = 0
          · have GT := hide gt
            have He : Hid (fitB ⟨a, n, lo, hi, tag, as_, deny, pref, med, add, lead⟩ x m t.path t.tags = true) := hide (by unfold fitB; simp [h1, h2, h3, h4, h5])
            clear gi gc gt h1 h2 h4
            have j3 : (tag == 0) = false := beq_eq_false_iff_ne.2 h3
            have j5 : (as_ == 0) = true := beq_iff_eq.2 h5
            clear h3 h5
            go_enter Tryd.func41, Tryd.ntmps41
            go_upto_region 1 with (fail)
            generalize (((w.alloc (.cells #[.int .i64 a, .int .i64 n, .int .i64 lo, .int .i64 hi, .int .i64 tag, .int .i64 as_, .bool deny, .int .i64 pref, .int .i64 med, .int .i64 add, .int .i64 lead] TRu)).alloc (.cells #[.int .i64 x, .int .i64 m] TPx)).alloc (.cells #[.slice t.P t.path.length t.pc, .int .i64 t.pref, .int .i64 t.med, .int .i64 t.origin, .slice t.T t.tags.length t.tc] TA)) = W at *
            have c0 := HB0.out.cell 0
            have c1 := HB0.out.cell 1
            have c2 := HB0.out.cell 2
            have c3 := HB0.out.cell 3
            have c4 := HB0.out.cell 4
            have c5 := HB0.out.cell 5
            have c6 := HB0.out.cell 6
            have c7 := HB0.out.cell 7
            have c8 := HB0.out.cell 8
            have c9 := HB0.out.cell 9
            have c10 := HB0.out.cell 10
            have zc := HB0.out.lt
            have d0 := HB1.out.cell 0
            have d1 := HB1.out.cell 1
            have zd := HB1.out.lt
            have f0 := HB2.out.cell 0
            have f1 := HB2.out.cell 1
            have f2 := HB2.out.cell 2
            have f3 := HB2.out.cell 3
            have f4 := HB2.out.cell 4
            have zf := HB2.out.lt
            simp only [List.getElem?_toArray, List.getElem?_cons_zero, List.getElem?_cons_succ] at c0 c1 c2 c3 c4 c5 c6 c7 c8 c9 c10 d0 d1 f0 f1 f2 f3 f4
            refine wp_region_seq W (Upd.refl _ _) ?_
            repeat (go_big_quiet_step ((first | (go_at_call 62; exact new_call (GI.out _ (S2.out.new (NewW.h _)) (S3.out.new (NewW.h _)))) | (go_at_call 92; exact new_call_same (GR.out _)) | (go_at_call 93; exact new_call_same (GC.out _ (Ha.out.tags.new_ (NewW.h _)))) | (go_at_call 94; exact new_call (GT.out _ (Ha.out.new_ (NewW.h _)))))))
            refine wpQuiet_nil ?_
            rintro _ ⟨nq, rfl⟩
            go_wp2_with fail
            go_ret
            exact ⟨ret_bool He.out.symm, Hu.out.trans_new nq.h⟩
          · cases h6 : (t.path.any fun x => decide (as_ = x)) with
            | false =>
              rw [h6] at gt
              have GT := hide gt
              have He : Hid (fitB ⟨a, n, lo, hi, tag, as_, deny, pref, med, add, lead⟩ x m t.path t.tags = false) := hide (by unfold fitB; simp [h1, h2, h3, h4, h5, h6])
              clear gi gc gt h1 h2 h4 h6
              have j3 : (tag == 0) = false := beq_eq_false_iff_ne.2 h3
              have j5 : (as_ == 0) = false := beq_eq_false_iff_ne.2 h5
              clear h3 h5
              go_enter Tryd.func41, Tryd.ntmps41
              go_upto_region 1 with (fail)
              generalize (((w.alloc (.cells #[.int .i64 a, .int .i64 n, .int .i64 lo, .int .i64 hi, .int .i64 tag, .int .i64 as_, .bool deny, .int .i64 pref, .int .i64 med, .int .i64 add, .int .i64 lead] TRu)).alloc (.cells #[.int .i64 x, .int .i64 m] TPx)).alloc (.cells #[.slice t.P t.path.length t.pc, .int .i64 t.pref, .int .i64 t.med, .int .i64 t.origin, .slice t.T t.tags.length t.tc] TA)) = W at *
              have c0 := HB0.out.cell 0
              have c1 := HB0.out.cell 1
              have c2 := HB0.out.cell 2
              have c3 := HB0.out.cell 3
              have c4 := HB0.out.cell 4
              have c5 := HB0.out.cell 5
              have c6 := HB0.out.cell 6
              have c7 := HB0.out.cell 7
              have c8 := HB0.out.cell 8
              have c9 := HB0.out.cell 9
              have c10 := HB0.out.cell 10
              have zc := HB0.out.lt
              have d0 := HB1.out.cell 0
              have d1 := HB1.out.cell 1
              have zd := HB1.out.lt
              have f0 := HB2.out.cell 0
              have f1 := HB2.out.cell 1
              have f2 := HB2.out.cell 2
              have f3 := HB2.out.cell 3
              have f4 := HB2.out.cell 4
              have zf := HB2.out.lt
              simp only [List.getElem?_toArray, List.getElem?_cons_zero, List.getElem?_cons_succ] at c0 c1 c2 c3 c4 c5 c6 c7 c8 c9 c10 d0 d1 f0 f1 f2 f3 f4
              refine wp_region_seq W (Upd.refl _ _) ?_
              repeat (go_big_quiet_step ((first | (go_at_call 62; exact new_call (GI.out _ (S2.out.new (NewW.h _)) (S3.out.new (NewW.h _)))) | (go_at_call 92; exact new_call_same (GR.out _)) | (go_at_call 93; exact new_call_same (GC.out _ (Ha.out.tags.new_ (NewW.h _)))) | (go_at_call 94; exact new_call (GT.out _ (Ha.out.new_ (NewW.h _)))))))
              refine wpQuiet_nil ?_
              rintro _ ⟨nq, rfl⟩
              go_wp2_with fail
              go_ret
              exact ⟨ret_bool He.out.symm, Hu.out.trans_new nq.h⟩
            | true =>
              rw [h6] at gt
              have GT := hide gt
              have He : Hid (fitB ⟨a, n, lo, hi, tag, as_, deny, pref, med, add, lead⟩ x m t.path t.tags = true) := hide (by unfold fitB; simp [h1, h2, h3, h4, h5, h6])
              clear gi gc gt h1 h2 h4 h6
              have j3 : (tag == 0) = false := beq_eq_false_iff_ne.2 h3
              have j5 : (as_ == 0) = false := beq_eq_false_iff_ne.2 h5
              clear h3 h5
              go_enter Tryd.func41, Tryd.ntmps41
              go_upto_region 1 with (fail)
              generalize (((w.alloc (.cells #[.int .i64 a, .int .i64 n, .int .i64 lo, .int .i64 hi, .int .i64 tag, .int .i64 as_, .bool deny, .int .i64 pref, .int .i64 med, .int .i64 add, .int .i64 lead] TRu)).alloc (.cells #[.int .i64 x, .int .i64 m] TPx)).alloc (.cells #[.slice t.P t.path.length t.pc, .int .i64 t.pref, .int .i64 t.med, .int .i64 t.origin, .slice t.T t.tags.length t.tc] TA)) = W at *
              have c0 := HB0.out.cell 0
              have c1 := HB0.out.cell 1
              have c2 := HB0.out.cell 2
              have c3 := HB0.out.cell 3
              have c4 := HB0.out.cell 4
              have c5 := HB0.out.cell 5
              have c6 := HB0.out.cell 6
              have c7 := HB0.out.cell 7
              have c8 := HB0.out.cell 8
              have c9 := HB0.out.cell 9
              have c10 := HB0.out.cell 10
              have zc := HB0.out.lt
              have d0 := HB1.out.cell 0
              have d1 := HB1.out.cell 1
              have zd := HB1.out.lt
              have f0 := HB2.out.cell 0
              have f1 := HB2.out.cell 1
              have f2 := HB2.out.cell 2
              have f3 := HB2.out.cell 3
              have f4 := HB2.out.cell 4
              have zf := HB2.out.lt
              simp only [List.getElem?_toArray, List.getElem?_cons_zero, List.getElem?_cons_succ] at c0 c1 c2 c3 c4 c5 c6 c7 c8 c9 c10 d0 d1 f0 f1 f2 f3 f4
              refine wp_region_seq W (Upd.refl _ _) ?_
              repeat (go_big_quiet_step ((first | (go_at_call 62; exact new_call (GI.out _ (S2.out.new (NewW.h _)) (S3.out.new (NewW.h _)))) | (go_at_call 92; exact new_call_same (GR.out _)) | (go_at_call 93; exact new_call_same (GC.out _ (Ha.out.tags.new_ (NewW.h _)))) | (go_at_call 94; exact new_call (GT.out _ (Ha.out.new_ (NewW.h _)))))))
              refine wpQuiet_nil ?_
              rintro _ ⟨nq, rfl⟩
              go_wp2_with fail
              go_ret
              exact ⟨ret_bool He.out.symm, Hu.out.trans_new nq.h⟩
end Go.Proofs.YtkljanjapcpbdaaDoor

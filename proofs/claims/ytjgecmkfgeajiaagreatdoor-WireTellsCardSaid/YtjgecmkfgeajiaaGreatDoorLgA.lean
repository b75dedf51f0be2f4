/- Package herepathlaw1: LongAttr. No condition but those that stand in each theorem. -/
import Derived.Test.YtjgecmkfgeajiaaGreatDoorAt2
import Derived.Test.YtjgecmkfgeajiaaGreatDoorAx1
import Derived.Test.YtjgecmkfgeajiaaGreatDoorRu6
import Derived.Test.YtjgecmkfgeajiaaGreatDoorWi1
namespace Go.Proofs.YtjgecmkfgeajiaaGreatDoor
open Go.RowKit

set_option maxRecDepth 8000 in
set_option maxHeartbeats 1000000 in
theorem longAttr_yes (a : AttrR) (w : World) (h : 20 < a.path.length ∨ 15 < a.tags.length) :
    Calls Tryz.prog 20 #[.agg a.cells] w fun e w1 => e = .returned (.int .i64 1) ∧ New w w1 := by
  have u := hide ((Upd.refl (fun _ => False) w).alloc (.cells a.cells TA))
  unfold AttrR.cells at *
  by_cases h1 : 20 < a.path.length
  · have i1 : (20 : Int) < (a.path.length : Int) := by omega
    clear h h1
    go_enter Tryz.func20, Tryz.ntmps20
    go_wp2_with fail
    go_ret
    exact ⟨rfl, u.out⟩
  · have i1 : ¬ (20 : Int) < (a.path.length : Int) := by omega
    have i2 : (15 : Int) < (a.tags.length : Int) := by omega
    clear h h1
    go_enter Tryz.func20, Tryz.ntmps20
    go_wp2_with fail
    go_ret
    exact ⟨rfl, u.out⟩
set_option maxRecDepth 8000 in
set_option maxHeartbeats 1000000 in
theorem longAttr_no (a : AttrR) (w : World) (h1 : a.path.length ≤ 20) (h2 : a.tags.length ≤ 15) :
    Calls Tryz.prog 20 #[.agg a.cells] w fun e w1 => e = .returned (.int .i64 0) ∧ New w w1 := by
  have u := hide ((Upd.refl (fun _ => False) w).alloc (.cells a.cells TA))
  unfold AttrR.cells at *
  have i1 : ¬ (20 : Int) < (a.path.length : Int) := by omega
  have i2 : ¬ (15 : Int) < (a.tags.length : Int) := by omega
  clear h1 h2
  go_enter Tryz.func20, Tryz.ntmps20
  go_wp2_with fail
  go_ret
  exact ⟨rfl, u.out⟩
end Go.Proofs.YtjgecmkfgeajiaaGreatDoor

namespace Go.Proofs.YtjgecmkfgeajiaaGreatDoor
open Go.RowKit

/-- What a text reads as: the error's number, what is told. -/
def readC (x : AtC) : Nat × AtC := if (conC x).1 = 0 then (0, x) else ((conC x).1, zeroC)
def readW (p t : Option (List Int)) (n : Option (List Int)) : Nat × AtC :=
  match p, t, n with
  | some path, some tags, some n => readC ⟨path, n.getD 0 0, n.getD 1 0, n.getD 2 0, tags⟩
  | _, _, _ => (1, zeroC)
def readT (l : List UInt8) : Nat × AtC :=
  match cutR 32 l with
  | [p, a, b, c, t] => readW (numsV 45 p) (numsV 44 t) (numsL [a, b, c])
  | _ => (1, zeroC)
theorem readT_not {l : List UInt8} (h : ¬ (cutR 32 l).length = 5) : readT l = (1, zeroC) := by
  unfold readT
  split
  · rename_i hh; rw [hh] at h; exact absurd rfl h
  · rfl
theorem readT_five {l p a b c t : List UInt8} (h : cutR 32 l = [p, a, b, c, t]) : readT l = readW (numsV 45 p) (numsV 44 t) (numsL [a, b, c]) := by
  unfold readT
  rw [h]
theorem readW_p (t n : Option (List Int)) : readW none t n = (1, zeroC) := rfl
theorem readW_t (p n : Option (List Int)) : readW p none n = (1, zeroC) := by cases p <;> rfl
theorem readW_n (p t : Option (List Int)) : readW p t none = (1, zeroC) := by cases p <;> cases t <;> rfl
theorem numsV_three {a b c : List UInt8} (ha : (32 : UInt8) ∉ a) (hb : (32 : UInt8) ∉ b) (hc : (32 : UInt8) ∉ c) : numsV 32 (joinC 32 [a, b, c]) = numsL [a, b, c] := by
  unfold numsV
  rw [if_neg, cutR_joinC 32 _ (by simp)]
  · intro p hp
    simp only [List.mem_cons, List.not_mem_nil, or_false] at hp
    rcases hp with rfl | rfl | rfl <;> assumption
  · intro e
    have h1 : joinC 32 [a, b, c] = a ++ 32 :: (b ++ 32 :: c) := rfl
    rw [h1] at e
    have := congrArg (32 ∈ ·) e
    simp at this
theorem numsV_len {d : UInt8} {s : List UInt8} {l : List Int} (h : numsV d s = some l) : l.length ≤ s.length + 1 := by
  unfold numsV at h
  split at h
  · injection h with h; subst h; simp
  · rw [numsL_len _ _ h]; exact cutR_len d s
theorem readC_le (x : AtC) : (readC x).1 ≤ 9 := by
  have := conC_le x
  unfold readC
  split
  · exact Nat.zero_le _
  · dsimp only; omega
theorem NumsPost.uni {o : Option (List Int)} {w w1 : World} {e : Ending} (h : NumsPost o w e w1) : ∃ sv, e = .returned (.tuple #[sv, .bool o.isSome]) ∧ New w w1 ∧ ∀ l, o = some l → ∃ A cap, sv = .slice A l.length cap ∧ Ints w1 A l ∧ l.length ≤ cap ∧ ∀ b q, A = some ⟨b, q, none⟩ → w.heap.size ≤ b := by
  obtain ⟨hu, ⟨l, A, cap, rfl, rfl, r⟩ | ⟨rfl, rfl⟩⟩ := h
  · exact ⟨_, rfl, hu, fun l' hl => by injection hl with hl; subst hl; exact ⟨A, cap, rfl, r⟩⟩
  · exact ⟨_, rfl, hu, fun l' hl => by cases hl⟩
def ReadPost (E : Nat → Addr) (r : Nat × AtC) (w : World) (e : Ending) (w1 : World) : Prop :=
  ∃ a' : AttrR, e = .returned (.tuple #[.agg a'.cells, errc E r.1]) ∧ a'.con = r.2 ∧ AttrOk w1 a' ∧ Fresh w a' ∧ New w w1

set_option maxRecDepth 20000 in
set_option maxHeartbeats 4000000 in
theorem attrRead_any (s : ByteArray) (E : Nat → Addr) (w : World) (h : TxtOk w) (h1 : Sen w gText1 (E 1)) (h2 : Sen w gBound (E 2)) (h7 : Sen w gFull_ (E 7)) (h8 : Sen w gOrder (E 8)) (hs : s.size ≤ 10000) :
    Calls Tryz.prog 11 #[.string s] w (ReadPost E (readT s.data.toList) w) := by
  have u := (Upd.refl (fun _ => False) w).alloc (.cells #[.slice none 0 0, .int .i64 0, .int .i64 0, .int .i64 0, .slice none 0 0] TA)
  have hz1 : 1 < w.heap.size := h1.lt
  have q7 : ¬ (w.heap.size = 1) := by omega
  have q71 : ¬ (1 = w.heap.size) := by omega
  have N := hide u
  have HR := hide (Blk.new w TA #[.slice none 0 0, .int .i64 0, .int .i64 0, .int .i64 0, .slice none 0 0])
  have HT := hide (h.new u)
  have H1 := hide (h1.new u)
  have H2 := hide (h2.new u)
  have H7 := hide (h7.new u)
  have H8 := hide (h8.new u)
  have hll : s.data.toList.length = s.size := by simp
  have hsp := split_ss s 32 _ HT.out (by omega)
  have hpi := cutR_piece 32 s.data.toList
  have hno := cutR_no 32 s.data.toList
  have hr0 := readT_not (l := s.data.toList)
  have hr5 := fun p a b c t => readT_five (l := s.data.toList) (p := p) (a := a) (b := b) (c := c) (t := t)
  generalize cutR 32 s.data.toList = ps at *
  obtain ⟨R, hR⟩ : ∃ R, R = readT s.data.toList := ⟨_, rfl⟩
  simp only [← hR] at hr0 hr5 ⊢
  have Hsp := hide hsp
  have Hpi := hide hpi
  have Hno := hide hno
  have Hr0 := hide hr0
  have Hr5 := hide hr5
  clear h h1 h2 h7 h8 u hsp hpi hno hr0 hr5 hR hz1
  unfold ReadPost
  go_enter Tryz.func11, Tryz.ntmps11
  go_upto_region 1 with (fail)
  have M := hide (Upd.refl (fun _ => False) (w.alloc (.cells #[.slice none 0 0, .int .i64 0, .int .i64 0, .int .i64 0, .slice none 0 0] TA)))
  generalize w.alloc (.cells #[.slice none 0 0, .int .i64 0, .int .i64 0, .int .i64 0, .slice none 0 0] TA) = W at *
  go_wp2_with fail
  refine Hsp.out.mono ?_
  rintro e w1 ⟨g, rfl, hss, hg, hu⟩
  have HS := hide hss
  have HR := hide (HR.out.new_ hu)
  have M := hide (M.out.trans_new hu)
  have N := hide (N.out.trans_new hu)
  have HZ1 := hide HR.out.lt
  clear hss hg hu Hsp
  by_cases hp5 : ps.length = 5
  rotate_left
  · have i1 : ((ps.length : Int) != 5) = true := by
      rw [bne_iff_ne]
      omega
    have He := hide (Hr0.out hp5)
    clear hp5
    have e1 : w1.cell? ⟨1, 0, none⟩ = some (errv (E 1)) := H1.out.new M.out
    have z1 : 1 < w1.heap.size := (H1.out.new M.out).lt
    unfold errv at e1
    have bq := HR.out
    have r0 := bq.cell 0
    have r1 := bq.cell 1
    have r2 := bq.cell 2
    have r3 := bq.cell 3
    have r4 := bq.cell 4
    have s0 := bq.frozen 0
    have s1 := bq.frozen 1
    have s2 := bq.frozen 2
    have s3 := bq.frozen 3
    have s4 := bq.frozen 4
    have rz := bq.lt
    simp only [List.getElem?_toArray, List.getElem?_cons_zero, List.getElem?_cons_succ] at r0 r1 r2 r3 r4
    clear bq
    go_wp2_with fail
    all_goals
      go_region
      all_goals
        go_wp2_with fail
        refine bodyPost_ret (attr_err_out Tryz.results11 rfl (set5 HR.out).drew) rfl ?_
        rw [He.out]
        exact lead_end (k := 1) (set5_new N.out (Nat.le_refl _)).drew rfl rfl
  obtain ⟨p, a, b, c, t, rfl⟩ : ∃ p a b c t, ps = [p, a, b, c, t] := by
    match ps, hp5 with
    | [p, a, b, c, t], _ => exact ⟨p, a, b, c, t, rfl⟩
  clear hp5 Hr0
  have he := Hr5.out p a b c t rfl
  obtain ⟨bb, oo, hA, hb, hcc⟩ := HS.out (by simp)
  injection hA with hA
  injection hA with hA1 hA2 _
  subst hA1; subst hA2
  have q0 : w1.cell? ⟨g, 0, none⟩ = some (.string ⟨p.toArray⟩) := hcc 0 p rfl
  have q4 : w1.cell? ⟨g, 4, none⟩ = some (.string ⟨t.toArray⟩) := hcc 4 t rfl
  have hpp := Hpi.out p (by simp)
  have hpa := Hpi.out a (by simp)
  have hpb := Hpi.out b (by simp)
  have hpc := Hpi.out c (by simp)
  have hpt := Hpi.out t (by simp)
  have h3 := numsV_three (Hno.out a (by simp)) (Hno.out b (by simp)) (Hno.out c (by simp))
  have hjl : (joinC 32 [a, b, c]).length ≤ 40000 := by
    show (a ++ 32 :: (b ++ 32 :: c)).length ≤ _
    rw [List.length_append, List.length_cons, List.length_append, List.length_cons]
    omega
  have hn0 := fun w' (ht : TxtOk w') => numbers_any ⟨p.toArray⟩ 45 w' ht (by show p.toArray.size ≤ _; simp; omega)
  have hn4 := fun w' (ht : TxtOk w') => numbers_any ⟨t.toArray⟩ 44 w' ht (by show t.toArray.size ≤ _; simp; omega)
  have hn1 := fun w' (ht : TxtOk w') => numbers_any ⟨(joinC 32 [a, b, c]).toArray⟩ 32 w' ht (by show (joinC 32 [a, b, c]).toArray.size ≤ _; simp; omega)
  have hn0 : ∀ w' (ht : TxtOk w'), Calls Tryz.prog 31 #[.string ⟨p.toArray⟩, .string ⟨#[45]⟩] w' (NumsPost (numsV 45 p) w') := hn0
  have hn4 : ∀ w' (ht : TxtOk w'), Calls Tryz.prog 31 #[.string ⟨t.toArray⟩, .string ⟨#[44]⟩] w' (NumsPost (numsV 44 t) w') := hn4
  have hn1 : ∀ w' (ht : TxtOk w'), Calls Tryz.prog 31 #[.string ⟨(joinC 32 [a, b, c]).toArray⟩, .string ⟨#[32]⟩] w' (NumsPost (numsV 32 (joinC 32 [a, b, c])) w') := hn1
  rw [h3] at hn1
  have hlen3 := fun l h => numsL_len [a, b, c] l h
  have hjn := fun w' (h : Ss w' (some ⟨g, 1, none⟩) [a, b, c]) => join_any (some ⟨g, 1, none⟩) 3 4 32 [a, b, c] w' h rfl (by omega) (by omega) (by omega)
  have hL0 := fun l (h : numsV 45 p = some l) => Nat.le_trans (numsV_len h) (show p.length + 1 ≤ 100000 by omega)
  have hL4 := fun l (h : numsV 44 t = some l) => Nat.le_trans (numsV_len h) (show t.length + 1 ≤ 100000 by omega)
  generalize numsV 45 p = np at *
  generalize numsV 44 t = nt at *
  generalize numsL [a, b, c] = nn at *
  have HSj := hide (fun w' (hu : New w1 w') => ((HS.out.new_ hu).part 1 3 : Ss w' (some ⟨g, 0 + 1, none⟩) (([p, a, b, c, t].drop 1).take 3)))
  have Hn0 := hide hn0
  have Hn4 := hide hn4
  have Hn1 := hide hn1
  have Hjn := hide hjn
  have Hl3 := hide hlen3
  have HL0 := hide hL0
  have HL4 := hide hL4
  have He := hide he
  have Hb := hide hb
  clear hpp hpa hpb hpc hpt h3 hjl hn0 hn4 hn1 hjn hlen3 he hb hL0 hL4 HS Hpi Hno Hr5 hcc
  have i1 : (((5 : Nat) : Int) != 5) = false := rfl
  have Q4 := hide q4
  clear q4
  have V := hide (Upd.refl (fun _ => False) w1)
  go_wp2_with fail
  refine (Hn0.out _ (HT.out.new M.out)).mono ?_
  rintro e w2 hpo
  obtain ⟨sv0, rfl, hu, hv0⟩ := hpo.uni
  have M := hide (M.out.trans_new hu)
  have N := hide (N.out.trans_new hu)
  have V := hide (V.out.trans_new hu)
  have HR := hide (HR.out.new_ hu)
  have V0 := hide hv0
  have HZ2 := hide HR.out.lt
  have U0 := hide (Upd.refl (fun _ => False) w2)
  have q4 : w2.cell? ⟨g, 4, none⟩ = some (.string ⟨t.toArray⟩) := (V.out.cell Hb.out (fun x => x)).trans Q4.out
  clear hu Hn0 q0 hv0 hpo
  go_wp2_with fail
  refine (Hn4.out _ (HT.out.new M.out)).mono ?_
  rintro e w3 hpo
  obtain ⟨sv4, rfl, hu, hv4⟩ := hpo.uni
  have M := hide (M.out.trans_new hu)
  have N := hide (N.out.trans_new hu)
  have V := hide (V.out.trans_new hu)
  have HR := hide (HR.out.new_ hu)
  have V4 := hide hv4
  have U0 := hide (U0.out.trans_new hu)
  have U4 := hide (Upd.refl (fun _ => False) w3)
  clear hu Hn4 q4 hv4 hpo
  have HS := hide (HSj.out _ V.out)
  go_wp2_with fail
  refine (Hjn.out _ HS.out).mono ?_
  rintro e w4 ⟨rfl, hu⟩
  have M := hide (M.out.trans_new hu)
  have N := hide (N.out.trans_new hu)
  have V := hide (V.out.trans_new hu)
  have HR := hide (HR.out.new_ hu)
  have U0 := hide (U0.out.trans_new hu)
  have U4 := hide (U4.out.trans_new hu)
  clear hu Hjn
  go_wp2_with fail
  refine (Hn1.out _ (HT.out.new M.out)).mono ?_
  rintro e w5 hpo
  obtain ⟨sv1, rfl, hu, hv1⟩ := hpo.uni
  have M := hide (M.out.trans_new hu)
  have N := hide (N.out.trans_new hu)
  have V := hide (V.out.trans_new hu)
  have HR := hide (HR.out.new_ hu)
  have U0 := hide (U0.out.trans_new hu)
  have U4 := hide (U4.out.trans_new hu)
  have V1 := hide hv1
  clear hu Hn1 hv1 hpo
  cases np with
  | none =>
    rw [readW_p] at He
    dsimp only [Option.isSome]
    have e1 : w5.cell? ⟨1, 0, none⟩ = some (errv (E 1)) := H1.out.new M.out
    have z1 : 1 < w5.heap.size := (H1.out.new M.out).lt
    unfold errv at e1
    have bq := HR.out
    have r0 := bq.cell 0
    have r1 := bq.cell 1
    have r2 := bq.cell 2
    have r3 := bq.cell 3
    have r4 := bq.cell 4
    have s0 := bq.frozen 0
    have s1 := bq.frozen 1
    have s2 := bq.frozen 2
    have s3 := bq.frozen 3
    have s4 := bq.frozen 4
    have rz := bq.lt
    simp only [List.getElem?_toArray, List.getElem?_cons_zero, List.getElem?_cons_succ] at r0 r1 r2 r3 r4
    clear bq
    go_wp2_with fail
    all_goals
      go_region
      all_goals
        go_wp2_with fail
        refine bodyPost_ret (attr_err_out Tryz.results11 rfl (set5 HR.out).drew) rfl ?_
        rw [He.out]
        exact lead_end (k := 1) (set5_new N.out (Nat.le_refl _)).drew rfl rfl
  | some lp =>
  cases nt with
  | none =>
    rw [readW_t] at He
    dsimp only [Option.isSome]
    have e1 : w5.cell? ⟨1, 0, none⟩ = some (errv (E 1)) := H1.out.new M.out
    have z1 : 1 < w5.heap.size := (H1.out.new M.out).lt
    unfold errv at e1
    have bq := HR.out
    have r0 := bq.cell 0
    have r1 := bq.cell 1
    have r2 := bq.cell 2
    have r3 := bq.cell 3
    have r4 := bq.cell 4
    have s0 := bq.frozen 0
    have s1 := bq.frozen 1
    have s2 := bq.frozen 2
    have s3 := bq.frozen 3
    have s4 := bq.frozen 4
    have rz := bq.lt
    simp only [List.getElem?_toArray, List.getElem?_cons_zero, List.getElem?_cons_succ] at r0 r1 r2 r3 r4
    clear bq
    go_wp2_with fail
    all_goals
      go_region
      all_goals
        go_wp2_with fail
        refine bodyPost_ret (attr_err_out Tryz.results11 rfl (set5 HR.out).drew) rfl ?_
        rw [He.out]
        exact lead_end (k := 1) (set5_new N.out (Nat.le_refl _)).drew rfl rfl
  | some lt =>
  cases nn with
  | none =>
    rw [readW_n] at He
    dsimp only [Option.isSome]
    have e1 : w5.cell? ⟨1, 0, none⟩ = some (errv (E 1)) := H1.out.new M.out
    have z1 : 1 < w5.heap.size := (H1.out.new M.out).lt
    unfold errv at e1
    have bq := HR.out
    have r0 := bq.cell 0
    have r1 := bq.cell 1
    have r2 := bq.cell 2
    have r3 := bq.cell 3
    have r4 := bq.cell 4
    have s0 := bq.frozen 0
    have s1 := bq.frozen 1
    have s2 := bq.frozen 2
    have s3 := bq.frozen 3
    have s4 := bq.frozen 4
    have rz := bq.lt
    simp only [List.getElem?_toArray, List.getElem?_cons_zero, List.getElem?_cons_succ] at r0 r1 r2 r3 r4
    clear bq
    go_wp2_with fail
    all_goals
      go_region
      all_goals
        go_wp2_with fail
        refine bodyPost_ret (attr_err_out Tryz.results11 rfl (set5 HR.out).drew) rfl ?_
        rw [He.out]
        exact lead_end (k := 1) (set5_new N.out (Nat.le_refl _)).drew rfl rfl
  | some ln =>
  dsimp only [Option.isSome]
  obtain ⟨A0, cap0, rfl, hi0, hc0, hf0⟩ := V0.out lp rfl
  obtain ⟨A4, cap4, rfl, hi4, hc4, hf4⟩ := V4.out lt rfl
  obtain ⟨A1, cap1, rfl, hi1, hc1, hf1⟩ := V1.out ln rfl
  have hl3 := Hl3.out ln rfl
  obtain ⟨x, y, z, rfl⟩ : ∃ x y z, ln = [x, y, z] := by
    match ln, hl3 with
    | [x, y, z], _ => exact ⟨x, y, z, rfl⟩
  clear hl3 Hl3 V0 V4 V1
  have I0 := hide (hi0.new_ U0.out)
  have I4 := hide (hi4.new_ U4.out)
  have I1 := hide hi1
  have C0 := hide hc0
  have C4 := hide hc4
  have F0 := hide hf0
  have F4 := hide hf4
  clear hi0 hi4 hi1 hc0 hc4 hf0 hf4 hc1 hf1
  have HL0 := hide (HL0.out lp rfl)
  have HL4 := hide (HL4.out lt rfl)
  obtain ⟨b1, o1, hA1, hb1, hcc⟩ := I1.out (by simp)
  subst hA1
  have c0 : w5.cell? ⟨b1, o1, none⟩ = some (.int .i64 x) := hcc 0 x rfl
  have c1 : w5.cell? ⟨b1, o1 + 1, none⟩ = some (.int .i64 y) := hcc 1 y rfl
  have c2 : w5.cell? ⟨b1, o1 + 2, none⟩ = some (.int .i64 z) := hcc 2 z rfl
  clear hcc I1
  have i3 : (([x, y, z].length : Int) != 3) = false := rfl
  have he : R = readC ⟨lp, x, y, z, lt⟩ := He.out
  have Hx := hide he
  clear He he
  go_upto_region 9 with (fail)
  go_region
  have u := ((Upd.refl (fun _ => False) w5).alloc (.cells #[.slice A0 lp.length cap0, .int .i64 x, .int .i64 y, .int .i64 z, .slice A4 lt.length cap4] TA)).drew
  have HB := hide (Blk.new w5 TA #[.slice A0 lp.length cap0, .int .i64 x, .int .i64 y, .int .i64 z, .slice A4 lt.length cap4]).drew
  have M := hide (M.out.trans_new u)
  have N := hide (N.out.trans_new u)
  have HR := hide (HR.out.new_ u)
  have I0 := hide (I0.out.new_ u)
  have I4 := hide (I4.out.new_ u)
  clear u c0 c1 c2 i3 hb1
  generalize (w5.alloc (.cells #[.slice A0 lp.length cap0, .int .i64 x, .int .i64 y, .int .i64 z, .slice A4 lt.length cap4] TA)).drew = W5 at *
  generalize w5.heap.size = X at *
  have HA := hide (show AttrOk W5 ⟨A0, cap0, lp, x, y, z, A4, cap4, lt⟩ from ⟨I0.out, I4.out, C0.out, C4.out⟩)
  have hck := attrCheck_big ⟨A0, cap0, lp, x, y, z, A4, cap4, lt⟩ E W5 (H2.out.new M.out) (H7.out.new M.out) (H8.out.new M.out) HA.out HL0.out HL4.out
  unfold AttrR.cells at hck
  dsimp only at hck
  obtain ⟨C, hC⟩ : ∃ C, C = attrC ⟨A0, cap0, lp, x, y, z, A4, cap4, lt⟩ := ⟨_, rfl⟩
  rw [← hC] at hck
  have HC := hide (show conC ⟨lp, x, y, z, lt⟩ = C from hC.symm)
  have Hck := hide hck
  clear hck hC HL0 HL4 I0 I4 H1 Q4 HSj
  have bq := HB.out
  have m0 := bq.cell 0
  have m1 := bq.cell 1
  have m2 := bq.cell 2
  have m3 := bq.cell 3
  have m4 := bq.cell 4
  have mz := bq.lt
  simp only [List.getElem?_toArray, List.getElem?_cons_zero, List.getElem?_cons_succ] at m0 m1 m2 m3 m4
  clear bq
  go_wp2_with fail
  refine Hck.out.mono ?_
  rintro e w6 ⟨v, rfl, hv, hu⟩
  have HA := hide (HA.out.new_ hu)
  have HB := hide (HB.out.new_ hu)
  have HR := hide (HR.out.new_ hu)
  have M := hide (M.out.trans_new hu)
  have N := hide (N.out.trans_new hu)
  clear hu Hck m0 m1 m2 m3 m4 mz
  have bq := HB.out
  have m0 := bq.cell 0
  have m1 := bq.cell 1
  have m2 := bq.cell 2
  have m3 := bq.cell 3
  have m4 := bq.cell 4
  have mz := bq.lt
  simp only [List.getElem?_toArray, List.getElem?_cons_zero, List.getElem?_cons_succ] at m0 m1 m2 m3 m4
  clear bq
  have bq := HR.out
  have r0 := bq.cell 0
  have r1 := bq.cell 1
  have r2 := bq.cell 2
  have r3 := bq.cell 3
  have r4 := bq.cell 4
  have s0 := bq.frozen 0
  have s1 := bq.frozen 1
  have s2 := bq.frozen 2
  have s3 := bq.frozen 3
  have s4 := bq.frozen 4
  have rz := bq.lt
  simp only [List.getElem?_toArray, List.getElem?_cons_zero, List.getElem?_cons_succ] at r0 r1 r2 r3 r4
  clear bq
  have hfr : (∀ b q, A0 = some ⟨b, q, none⟩ → w.heap.size < b) ∧ (∀ b q, A4 = some ⟨b, q, none⟩ → w.heap.size < b) := ⟨fun b q h => Nat.lt_of_lt_of_le HZ1.out (F0.out b q h), fun b q h => Nat.lt_of_lt_of_le HZ2.out (F4.out b q h)⟩
  rcases hv.form with ⟨hk, _, rfl⟩ | ⟨hk, tv, pv, rfl⟩
  · have hr : R = (0, ⟨lp, x, y, z, lt⟩) := by
      rw [Hx.out]
      unfold readC
      rw [HC.out, if_pos hk]
    have Hr := hide hr
    have Hfr := hide hfr
    clear hr hk hv hfr
    go_wp2_with fail
    refine bodyPost_ret (attr_err_out Tryz.results11 rfl (set5 HR.out)) rfl ?_
    rw [Hr.out]
    exact ⟨⟨A0, cap0, lp, x, y, z, A4, cap4, lt⟩, rfl, rfl, ⟨HA.out.path.upd (set5_one w6 w.heap.size _ _ _ _ _) (fun b q h e => absurd (Hfr.out.1 b q h) (by omega)), HA.out.tags.upd (set5_one w6 w.heap.size _ _ _ _ _) (fun b q h e => absurd (Hfr.out.2 b q h) (by omega)), C0.out, C4.out⟩, ⟨fun b q h => Nat.le_of_lt (Hfr.out.1 b q h), fun b q h => Nat.le_of_lt (Hfr.out.2 b q h)⟩, set5_new N.out (Nat.le_refl _)⟩
  · have hr : R = (C.1, zeroC) := by
      rw [Hx.out]
      unfold readC
      rw [HC.out, if_neg hk]
    have Hr := hide hr
    have Hbr := hide (bare_any _ _ _ _ _ hv)
    clear hr hk hv hfr
    go_wp2_with fail
    refine Hbr.out.mono ?_
    rintro e w7 ⟨rfl, rfl⟩
    go_wp2_with fail
    refine bodyPost_ret (attr_err_out Tryz.results11 rfl (set5 HR.out)) rfl ?_
    rw [Hr.out]
    exact lead_end (set5_new N.out (Nat.le_refl _)) rfl rfl
end Go.Proofs.YtjgecmkfgeajiaaGreatDoor

namespace Go.Proofs.YtjgecmkfgeajiaaGreatDoor
open Go.RowKit

theorem inrY {n lo hi : Int} (h : lo ≤ n ∧ n ≤ hi) : inR n lo hi = true := decide_eq_true h
theorem inrO {n lo hi : Int} (h : inR n lo hi = true) : lo ≤ n ∧ n ≤ hi := of_decide_eq_true h
theorem tagC_rise : ∀ (l : List Int) (pv i : Int), (∀ x ∈ l, 1 ≤ x ∧ x ≤ 9999) → l.Pairwise (· < ·) → (0 < i → ∀ x ∈ l, pv < x) → 0 ≤ i → tagC pv l i = (0, -1)
  | [], _, _, _, _, _, _ => rfl
  | t :: l, pv, i, h1, h2, h3, h0 => by
    have ht := h1 t (List.mem_cons_self ..)
    have hp := List.pairwise_cons.1 h2
    unfold tagC
    rw [if_neg (by rw [inrY ht]; simp), if_neg (by rintro ⟨h4, h5⟩; have := h3 h4 t (List.mem_cons_self ..); omega)]
    exact tagC_rise l t (i + 1) (fun x hx => h1 x (List.mem_cons_of_mem _ hx)) hp.2 (fun _ x hx => hp.1 x hx) (by omega)
theorem good_attrC {a : AttrR} (h : GoodA a.path a.pref a.med a.origin a.tags) : attrC a = (0, -1) := by
  have h1 := h.pl
  have h2 := h.tl
  unfold attrC
  rw [if_neg (by omega), if_neg, if_neg]
  · exact tagC_rise a.tags 0 0 h.tags h.rise (fun h => absurd h (by omega)) (by omega)
  · rw [inrY h.pref, inrY h.med, inrY h.origin]; simp
  · intro h3
    obtain ⟨j, y, hj, hy⟩ := (idxB_ge badAS a.path).1 h3
    have := h.path y (List.mem_of_getElem? hj)
    unfold badAS at hy
    rw [inrY this] at hy
    cases hy
def AtC.good (x : AtC) : Prop := GoodA x.path x.pref x.med x.origin x.tags
theorem conC_good {x : AtC} (h : (conC x).1 = 0) : x.good := attrC_good h
theorem good_conC {x : AtC} (h : x.good) : conC x = (0, -1) := good_attrC h
/-- What is right is read as it was written. -/
theorem read_text {a : AttrR} (h : (attrC a).1 = 0) : readT (attrT a) = (0, a.con) := by
  have g := attrC_good h
  have e : attrT a = attrW a.path a.pref a.med a.origin a.tags := if_pos h
  have n1 : ∀ x ∈ a.path, 0 ≤ x ∧ x ≤ 999999999 := fun x hx => by have := g.path x hx; omega
  have n2 : ∀ x ∈ a.tags, 0 ≤ x ∧ x ≤ 999999999 := fun x hx => by have := g.tags x hx; omega
  have n3 : ∀ x ∈ [a.pref, a.med, a.origin], 0 ≤ x ∧ x ≤ 999999999 := fun x hx => by
    have a1 := g.pref; have a2 := g.med; have a3 := g.origin
    simp only [List.mem_cons, List.not_mem_nil, or_false] at hx
    rcases hx with rfl | rfl | rfl <;> omega
  rw [e, readT_five (attrW_cut a.path a.pref a.med a.origin a.tags (fun x hx => (n1 x hx).1) g.pref.1 g.med.1 g.origin.1 (fun x hx => (n2 x hx).1)),
    numsV_joinT (by decide) n1, numsV_joinT (by decide) n2]
  have h3 : numsL [Lib.itoa a.pref, Lib.itoa a.med, Lib.itoa a.origin] = some [a.pref, a.med, a.origin] := numsL_itoa [a.pref, a.med, a.origin] n3
  rw [h3]
  show readC a.con = _
  unfold readC
  rw [if_pos (show (conC a.con).1 = 0 from h)]
/-- A path that is led is right. -/
theorem leadK_zero {x : AtC} {s n : Int} (h : leadK x s n = 0) : x.good ∧ (1 ≤ s ∧ s ≤ 1000) ∧ (0 ≤ n ∧ n ≤ 12) ∧ (x.path.length : Int) + n ≤ 12 := by
  unfold leadK at h
  split at h
  · rename_i h1; exact absurd h h1
  · rename_i h1
    split at h
    · cases h
    · rename_i h2
      split at h
      · cases h
      · rename_i h3
        have a1 : inR s 1 1000 = true := by
          cases hh : inR s 1 1000 with
          | true => rfl
          | false => exact absurd (.inl hh) h2
        have a2 : inR n 0 12 = true := by
          cases hh : inR n 0 12 with
          | true => rfl
          | false => exact absurd (.inr hh) h2
        exact ⟨conC_good (by simpa using h1), inrO a1, inrO a2, by omega⟩
theorem leadX_good {x : AtC} {s n : Int} (h : leadK x s n = 0) : (leadX x s n).good := by
  obtain ⟨g, h1, h2, h3⟩ := leadK_zero h
  rw [leadX_ok h]
  refine ⟨?_, g.tl, fun y hy => ?_, g.pref, g.med, g.origin, g.tags, g.rise⟩
  · show (List.replicate n.toNat s ++ x.path).length ≤ 12
    rw [List.length_append, List.length_replicate]
    omega
  · have hy : y ∈ List.replicate n.toNat s ++ x.path := hy
    rcases List.mem_append.1 hy with h4 | h4
    · rw [List.eq_of_mem_replicate h4]; exact h1
    · exact g.path y h4
theorem below_take : ∀ (l : List Int) (t : Int), l.Pairwise (· < ·) → (∀ x ∈ l.take (l.countP (· < t)), x < t) ∧ (∀ x ∈ l.drop (l.countP (· < t)), t ≤ x)
  | [], t, _ => ⟨fun _ h => absurd h (by simp), fun _ h => absurd h (by simp)⟩
  | a :: l, t, h => by
    have hp := List.pairwise_cons.1 h
    obtain ⟨r1, r2⟩ := below_take l t hp.2
    by_cases ha : a < t
    · rw [List.countP_cons_of_pos (by simpa using ha)]
      refine ⟨fun x hx => ?_, fun x hx => r2 x (by simpa using hx)⟩
      rw [List.take_succ_cons] at hx
      rcases List.mem_cons.1 hx with rfl | hx
      · exact ha
      · exact r1 x hx
    · have h0 : (a :: l).countP (· < t) = 0 := by
        rw [List.countP_eq_zero]
        intro x hx
        rcases List.mem_cons.1 hx with rfl | hx
        · simpa using ha
        · have := hp.1 x hx
          simp; omega
      rw [h0]
      refine ⟨fun x hx => absurd hx (by simp), fun x hx => ?_⟩
      have hx : x ∈ a :: l := hx
      rcases List.mem_cons.1 hx with rfl | hx
      · omega
      · have := hp.1 x hx
        omega
theorem tagsX_mem {l : List Int} {t : Int} : t ∈ tagsX l t ∧ ∀ x ∈ l, x ∈ tagsX l t := by
  unfold tagsX
  split
  · rename_i h
    exact ⟨List.contains_iff_mem.1 h, fun x hx => hx⟩
  · refine ⟨List.mem_append_right _ (List.mem_cons_self ..), fun x hx => ?_⟩
    rw [← List.take_append_drop (l.countP (· < t)) l] at hx
    rcases List.mem_append.1 hx with h1 | h1
    · exact List.mem_append_left _ h1
    · exact List.mem_append_right _ (List.mem_cons_of_mem _ h1)
theorem tagsX_rise {l : List Int} {t : Int} (h : l.Pairwise (· < ·)) : (tagsX l t).Pairwise (· < ·) := by
  unfold tagsX
  split
  · exact h
  · rename_i hc
    obtain ⟨r1, r2⟩ := below_take l t h
    have hn : t ∉ l := fun hm => hc (List.contains_iff_mem.2 hm)
    have r3 : ∀ x ∈ l.drop (l.countP (· < t)), t < x := fun x hx => by
      have h1 := r2 x hx
      have h2 : x ≠ t := fun e => hn (e ▸ List.mem_of_mem_drop hx)
      omega
    refine List.pairwise_append.2 ⟨h.sublist (List.take_sublist _ _), List.pairwise_cons.2 ⟨r3, h.sublist (List.drop_sublist _ _)⟩, fun x hx y hy => ?_⟩
    rcases List.mem_cons.1 hy with rfl | hy
    · exact r1 x hx
    · have := r1 x hx; have := r3 y hy; omega
theorem tagsX_len (l : List Int) (t : Int) : (tagsX l t).length ≤ l.length + 1 := by
  unfold tagsX
  split
  · omega
  · rw [ins_len]; omega
theorem tagK_zero {x : AtC} {t : Int} (h : tagK x t = 0) : x.good ∧ (1 ≤ t ∧ t ≤ 9999) ∧ ¬ (x.tags.contains t = false ∧ 8 ≤ x.tags.length) := by
  unfold tagK at h
  split at h
  · rename_i h1; exact absurd h h1
  · rename_i h1
    split at h
    · cases h
    · rename_i h2
      split at h
      · cases h
      · rename_i h3
        exact ⟨conC_good (by simpa using h1), inrO (by simpa using h2), h3⟩
theorem tagX_good {x : AtC} {t : Int} (h : tagK x t = 0) : (tagX x t).good := by
  obtain ⟨g, h1, h2⟩ := tagK_zero h
  rw [tagX_ok h]
  refine ⟨g.pl, ?_, g.path, g.pref, g.med, g.origin, fun y hy => ?_, tagsX_rise g.rise⟩
  · show (tagsX x.tags t).length ≤ 8
    have := g.tl
    cases hc : x.tags.contains t with
    | true => rw [tagsX_in hc]; exact this
    | false =>
      have := tagsX_len x.tags t
      have h3 : ¬ 8 ≤ x.tags.length := fun h => h2 ⟨hc, h⟩
      omega
  · have hy : y ∈ tagsX x.tags t := hy
    unfold tagsX at hy
    split at hy
    · exact g.tags y hy
    · rcases List.mem_append.1 hy with h3 | h3
      · exact g.tags y (List.mem_of_mem_take h3)
      · rcases List.mem_cons.1 h3 with rfl | h3
        · exact h1
        · exact g.tags y (List.mem_of_mem_drop h3)
/-- A tag that is put twice is put once. -/
theorem tag_twice {x : AtC} {t : Int} (h : tagK x t = 0) : tagK (tagX x t) t = 0 ∧ tagX (tagX x t) t = tagX x t := by
  obtain ⟨g, h1, h2⟩ := tagK_zero h
  have hg := tagX_good h
  have hc : (tagX x t).tags.contains t = true := by
    rw [tagX_ok h]
    exact List.contains_iff_mem.2 tagsX_mem.1
  have hk : tagK (tagX x t) t = 0 := tagK_ok (by rw [good_conC hg]) (inrY h1) (by rw [hc]; simp)
  refine ⟨hk, ?_⟩
  rw [tagX_ok hk, tagsX_in hc]
theorem count_one : ∀ (l : List Int) (t : Int), l.Pairwise (· < ·) → t ∈ l → l.countP (fun x => decide (x = t)) = 1
  | [], t, _, h => absurd h (by simp)
  | a :: l, t, h, hm => by
    have hp := List.pairwise_cons.1 h
    by_cases ha : a = t
    · subst ha
      rw [List.countP_cons_of_pos (by simp)]
      have h0 : l.countP (fun x => decide (x = a)) = 0 := by
        rw [List.countP_eq_zero]
        intro x hx
        have := hp.1 x hx
        simp; omega
      rw [h0]
    · rw [List.countP_cons_of_neg (by simpa using ha)]
      exact count_one l t hp.2 (by
        rcases List.mem_cons.1 hm with rfl | h
        · exact absurd rfl ha
        · exact h)
theorem count_take {l : List Int} {t : Int} {k : Nat} {x : Int} (h : l[k]? = some x) : (l.take (k + 1)).countP (fun x => decide (x = t)) = (l.take k).countP (fun x => decide (x = t)) + if x = t then 1 else 0 := by
  rw [List.take_add_one, h, List.countP_append]
  simp [List.countP_cons]
theorem count_le (l : List Int) (t : Int) : l.countP (fun x => decide (x = t)) ≤ l.length := List.countP_le_length
end Go.Proofs.YtjgecmkfgeajiaaGreatDoor

namespace Go.Proofs.YtjgecmkfgeajiaaGreatDoor
open Go.RowKit

def toldS : ByteArray := ⟨#[49, 45, 50, 32, 49, 48, 48, 32, 48, 32, 49, 32, 53, 44, 55]⟩
theorem told_read : readT toldS.data.toList = (0, ⟨[1, 2], 100, 0, 1, [5, 7]⟩) := by decide +kernel
theorem told_text (a : AttrR) (h : a.con = ⟨[1, 2], 100, 0, 1, [5, 7]⟩) : attrT a = toldS.data.toList := by
  have e : attrT a = if (conC a.con).1 = 0 then attrW a.con.path a.con.pref a.con.med a.con.origin a.con.tags else [] := rfl
  rw [e, h]
  decide +kernel
end Go.Proofs.YtjgecmkfgeajiaaGreatDoor

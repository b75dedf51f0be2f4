/- The reference: LeadOf. No condition but those that stand in each theorem. -/
import Derived.Test.YtkljanjapcpbdaaDoorRq2
import Derived.Test.YtkljanjapcpbdaaDoorRg0
namespace Go.Proofs.YtkljanjapcpbdaaDoor
open Go.RowKit

/-- What is told after a call, out of what was told before: its rows are the same ones, or new. -/
structure From (w w1 : World) (a a' : AttrR) : Prop where
  path : (a'.P = a.P ∧ a'.path = a.path) ∨ (Ints w1 a'.P a'.path ∧ ∀ b o, a'.P = some ⟨b, o, none⟩ → w.heap.size ≤ b)
  tags : (a'.T = a.T ∧ a'.tags = a.tags) ∨ (Ints w1 a'.T a'.tags ∧ ∀ b o, a'.T = some ⟨b, o, none⟩ → w.heap.size ≤ b)
  pl : a'.path.length ≤ a'.pc
  tl : a'.tags.length ≤ a'.tc
theorem From.zero (w w1 : World) (a : AttrR) : From w w1 a zeroR := ⟨.inr ⟨Ints.nil, fun b o e => by simp [zeroR] at e⟩, .inr ⟨Ints.nil, fun b o e => by simp [zeroR] at e⟩, Nat.le_refl _, Nat.le_refl _⟩
theorem From.same {w w1 : World} {a : AttrR} (h : AttrOk w a) : From w w1 a a := ⟨.inl ⟨rfl, rfl⟩, .inl ⟨rfl, rfl⟩, h.pl, h.tl⟩
/-- Stores into older blocks leave it. -/
theorem From.store {S : Nat → Prop} {w w1 w2 : World} {a a' : AttrR} (h : From w w1 a a') (hu : Upd S w1 w2) (hS : ∀ k, S k → k < w.heap.size) : From w w2 a a' :=
  ⟨h.path.imp id fun ⟨q, f⟩ => ⟨q.upd hu fun b o e hs => by have := f b o e; have := hS b hs; omega, f⟩, h.tags.imp id fun ⟨q, f⟩ => ⟨q.upd hu fun b o e hs => by have := f b o e; have := hS b hs; omega, f⟩, h.pl, h.tl⟩
/-- It reads as what it is, where the old rows still do. -/
theorem From.ok {w w1 : World} {a a' : AttrR} (h : From w w1 a a') (ha : AttrOk w1 a) : AttrOk w1 a' :=
  ⟨by rcases h.path with ⟨e, f⟩ | h1; rw [e, f]; exact ha.path; exact h1.1, by rcases h.tags with ⟨e, f⟩ | h1; rw [e, f]; exact ha.tags; exact h1.1, h.pl, h.tl⟩
/-- One behind the other; the first began in an older world. -/
theorem From.trans {w w1 W W1 : World} {a b c : AttrR} (h : From w w1 a b) (k : From W W1 b c) (hw : w.heap.size ≤ W.heap.size) (hn : New w1 W1) : From w W1 a c :=
  ⟨by
    rcases k.path with ⟨e, f⟩ | h1
    · rcases h.path with ⟨e2, f2⟩ | h2
      · exact .inl ⟨e.trans e2, f.trans f2⟩
      · exact .inr ⟨by rw [e, f]; exact h2.1.new_ hn, fun b o q => h2.2 b o (e ▸ q)⟩
    · exact .inr ⟨h1.1, fun b o q => Nat.le_trans hw (h1.2 b o q)⟩, by
    rcases k.tags with ⟨e, f⟩ | h1
    · rcases h.tags with ⟨e2, f2⟩ | h2
      · exact .inl ⟨e.trans e2, f.trans f2⟩
      · exact .inr ⟨by rw [e, f]; exact h2.1.new_ hn, fun b o q => h2.2 b o (e ▸ q)⟩
    · exact .inr ⟨h1.1, fun b o q => Nat.le_trans hw (h1.2 b o q)⟩, k.pl, k.tl⟩
theorem field_code (x y : Value) (w : World) : (Instr.field TRF (.agg #[x, y]) 0).run Tryd.prog w = .ok x w := by kernel_rfl
theorem of_end {w W : World} {x : AtC} {a : AttrR} {k : Nat} {K : Nat} (hn : New w W) (hk : K = k) (hx : x = zeroC) :
    ∃ a' : AttrR, Ending.returned (.tuple #[.agg #[.slice none 0 0, .int .i64 0, .int .i64 0, .int .i64 0, .slice none 0 0], .int .i64 (k : Int)]) = .returned (.tuple #[.agg a'.cells, .int .i64 (K : Int)]) ∧ a'.con = x ∧ From w W a a' ∧ New w W := by
  subst hk; subst hx
  exact ⟨zeroR, rfl, rfl, From.zero _ _ _, hn⟩

set_option maxRecDepth 20000 in
set_option maxHeartbeats 8000000 in
theorem leadOf_any (a : AttrR) (s n : Int) (w : World) (ha : AttrOk w a) (hl : a.path.length ≤ 1000) (hl2 : a.tags.length ≤ 1000) :
    Calls Tryd.prog 105 #[.agg a.cells, .int .i64 s, .int .i64 n] w fun e w1 => ∃ a' : AttrR, e = .returned (.tuple #[.agg a'.cells, .int .i64 (leadK a.con s n : Nat)]) ∧ a'.con = leadX a.con s n ∧ From w w1 a a' ∧ New w w1 := by
  have u := ((Upd.refl (fun _ => False) w).alloc (.cells a.cells TA)).alloc (.cells #[.slice none 0 0, .int .i64 0, .int .i64 0, .int .i64 0, .slice none 0 0] TA)
  have b0 := (Blk.new w TA a.cells).alloc (.cells #[.slice none 0 0, .int .i64 0, .int .i64 0, .int .i64 0, .slice none 0 0] TA)
  have b1 := Blk.at_ (w.alloc (.cells a.cells TA)) TA #[.slice none 0 0, .int .i64 0, .int .i64 0, .int .i64 0, .slice none 0 0] (w.heap.size + 1) (by simp)
  have Haf := hide (attrFault_any a _ (ha.new_ u) hl hl2)
  have Ha := hide ha
  have N := hide u
  have HM := hide b0
  have HR := hide b1
  clear ha u b0 b1
  obtain ⟨x, hx⟩ : ∃ x, x = a.con := ⟨_, rfl⟩
  rw [← hx]
  have HX := hide hx
  clear hx
  have hfc := field_code
  have d1 : w.heap.size ≠ w.heap.size + 1 := by omega
  have d2 : w.heap.size + 1 ≠ w.heap.size := by omega
  unfold AttrR.cells at *
  unfold faultV at Haf
  rw [attrC_con, ← HX.out] at Haf
  obtain ⟨i0, hi0, hz0, hz1, hz2⟩ := info_parts info_TI
  go_enter Tryd.func105, Tryd.ntmps105
  go_upto_region 1 with (fail)
  generalize ((w.alloc (.cells #[.slice a.P a.path.length a.pc, .int .i64 a.pref, .int .i64 a.med, .int .i64 a.origin, .slice a.T a.tags.length a.tc] TA)).alloc (.cells #[.slice none 0 0, .int .i64 0, .int .i64 0, .int .i64 0, .slice none 0 0] TA)) = W at *
  have bq := HM.out
  have m0 := bq.cell 0
  have m1 := bq.cell 1
  have m2 := bq.cell 2
  have m3 := bq.cell 3
  have m4 := bq.cell 4
  have zM := bq.lt
  simp only [List.getElem?_toArray, List.getElem?_cons_zero, List.getElem?_cons_succ] at m0 m1 m2 m3 m4
  clear bq
  go_wp2_with fail
  refine Haf.out.mono ?_
  rintro e w1 ⟨rfl, hu⟩
  clear Haf m0 m1 m2 m3 m4 zM
  have N1 := hide (N.out.trans_new hu)
  have HM1 := hide (HM.out.new_ hu)
  have HR1 := hide (HR.out.new_ hu)
  clear hu
  have bq := HR1.out
  have r0 := bq.cell 0
  have r1 := bq.cell 1
  have r2 := bq.cell 2
  have r3 := bq.cell 3
  have r4 := bq.cell 4
  have s0 := bq.frozen 0
  have s1 := bq.frozen 1
  have s2 := bq.frozen 2
  have s3 := bq.frozen 3
  have s4 := bq.frozen 4
  have zR := bq.lt
  simp only [List.getElem?_toArray, List.getElem?_cons_zero, List.getElem?_cons_succ] at r0 r1 r2 r3 r4
  clear bq
  by_cases hk : (conC x).1 = 0
  · rw [hk]
    have Hk := hide hk
    clear hk
    have hpl : x.path.length = a.path.length := by rw [HX.out]; rfl
    by_cases g0 : s < 1
    · have HK := hide (leadK_bound Hk.out (n := n) (.inl (show inR s 1 1000 = false from inR_no (by omega))))
      go_wp2_with fail
      refine bodyPost_ret (attr_err_out Tryd.results105 rfl (set5 HR1.out)) rfl ?_
      exact of_end (k := 2) (set5_new N1.out (Nat.le_succ _)) HK.out (leadX_err (by rw [HK.out]; omega))
    by_cases g1 : 1000 < s
    · have HK := hide (leadK_bound Hk.out (n := n) (.inl (show inR s 1 1000 = false from inR_no (by omega))))
      go_wp2_with fail
      refine bodyPost_ret (attr_err_out Tryd.results105 rfl (set5 HR1.out)) rfl ?_
      exact of_end (k := 2) (set5_new N1.out (Nat.le_succ _)) HK.out (leadX_err (by rw [HK.out]; omega))
    by_cases g2 : n < 0
    · have HK := hide (leadK_bound Hk.out (s := s) (.inr (show inR n 0 12 = false from inR_no (by omega))))
      go_wp2_with fail
      refine bodyPost_ret (attr_err_out Tryd.results105 rfl (set5 HR1.out)) rfl ?_
      exact of_end (k := 2) (set5_new N1.out (Nat.le_succ _)) HK.out (leadX_err (by rw [HK.out]; omega))
    by_cases g3 : 12 < n
    · have HK := hide (leadK_bound Hk.out (s := s) (.inr (show inR n 0 12 = false from inR_no (by omega))))
      go_wp2_with fail
      refine bodyPost_ret (attr_err_out Tryd.results105 rfl (set5 HR1.out)) rfl ?_
      exact of_end (k := 2) (set5_new N1.out (Nat.le_succ _)) HK.out (leadX_err (by rw [HK.out]; omega))
    obtain ⟨N0, rfl⟩ : ∃ N0 : Nat, n = N0 := ⟨n.toNat, by omega⟩
    have bq := HM1.out
    have m0 := bq.cell 0
    have m1 := bq.cell 1
    have m2 := bq.cell 2
    have m3 := bq.cell 3
    have m4 := bq.cell 4
    have e0 := bq.frozen 0
    have e1 := bq.frozen 1
    have e2 := bq.frozen 2
    have e3 := bq.frozen 3
    have e4 := bq.frozen 4
    have zM := bq.lt
    simp only [List.getElem?_toArray, List.getElem?_cons_zero, List.getElem?_cons_succ] at m0 m1 m2 m3 m4
    clear bq
    by_cases g4 : 12 < (a.path.length : Int) + (N0 : Int)
    · have HK := hide (leadK_full Hk.out (inR_yes g0 g1) (inR_yes g2 g3) (by rw [hpl]; exact g4))
      go_wp2_with fail
      refine bodyPost_ret (attr_err_out Tryd.results105 rfl (set5 HR1.out)) rfl ?_
      exact of_end (k := 7) (set5_new N1.out (Nat.le_succ _)) HK.out (leadX_err (by rw [HK.out]; omega))
    have HK := hide (leadK_ok Hk.out (inR_yes g0 g1) (inR_yes g2 g3) (by rw [hpl]; exact g4))
    go_wp2_with fail
    go_loopw [9, 10] (fun v i wr => ∃ k : Nat, k ≤ N0 ∧ i = .int .i64 k ∧ wr.ownsRow w1.heap.size 3 1 v k (List.replicate k (.int .i64 s)) ∧ New w1 wr) (fun _ i _ => N0 - (intOf i).toNat)
    case atStart => exact ⟨0, by omega, rfl, World.ownsRow_nil _ _ _ _, Upd.refl _ _⟩
    case round =>
      obtain ⟨k, hk0, rfl, hown, hnr⟩ := hrel
      have Ho := hide hown
      have Nr := hide hnr
      clear hown hnr m0 m1 m2 m3 m4 e0 e1 e2 e3 e4 zM r0 r1 r2 r3 r4 s0 s1 s2 s3 s4 zR
      by_cases hlt : k < N0
      · have i2 : (k : Int) < (N0 : Int) := by omega
        have Ba := hide (Blk.new wr 3 #[.int .i64 s])
        go_wp2_with (at_builtin; refine append_src rfl (.tmp 45) (.tmp 47) 78 rfl w1.heap.size 3 i0 _ 1 8 Tryd.underlying78 hi0 hz0 hz1 hz2 rfl (by omega) _ k (List.replicate k (.int .i64 s)) rfl (Ho.out.alloc (.cells #[.int .i64 s] 3)) (some ⟨wr.heap.size, 0, none⟩) 1 1 [.int .i64 s] rfl rfl (fun _ => ⟨wr.heap.size, 0, rfl, fun j u hj => by rw [Nat.zero_add, Ba.out.cell j]; simpa using hj⟩) (fun u hu => by simp at hu; subst hu; rfl) (by unfold maxLen; omega) (by omega) (Nat.le_trans Nr.out.size (by simp)) ?_)
        intro v2 w2 ho2 hg2
        have N2 := hide (grown_own_new (Nr.out.alloc (.cells #[.int .i64 s] 3)) (Ho.out.alloc _) hg2)
        have Ho2 := hide ho2
        clear ho2 hg2
        go_wp2_with fail
        exact ⟨⟨k + 1, by omega, by go_num, by rw [List.replicate_succ']; exact Ho2.out, N2.out⟩, by simp [intOf]; omega⟩
      · obtain rfl : k = N0 := by omega
        have i2 : ¬ (k : Int) < (k : Int) := by omega
        have HM2 := hide (HM1.out.new_ Nr.out)
        have bq := HM2.out
        have m0 := bq.cell 0
        have m1 := bq.cell 1
        have m2 := bq.cell 2
        have m3 := bq.cell 3
        have m4 := bq.cell 4
        have e0 := bq.frozen 0
        have e1 := bq.frozen 1
        have e2 := bq.frozen 2
        have e3 := bq.frozen 3
        have e4 := bq.frozen 4
        have zM := bq.lt
        simp only [List.getElem?_toArray, List.getElem?_cons_zero, List.getElem?_cons_succ] at m0 m1 m2 m3 m4
        clear bq
        go_wp2_with (at_builtin; refine append_src rfl (.tmp 49) (.tmp 51) 78 rfl w1.heap.size 3 i0 _ 1 8 Tryd.underlying78 hi0 hz0 hz1 hz2 rfl (by omega) _ k (List.replicate k (.int .i64 s)) rfl Ho.out a.P a.path.length a.pc (a.path.map (.int .i64)) rfl (by simp) (((Ha.out.new_ N1.out).new_ Nr.out).path.cells) (ints_one _) (by unfold maxLen; omega) (by omega) Nr.out.size ?_)
        intro v2 w2 ho2 hg2
        have N2 := hide (grown_own_new Nr.out Ho.out hg2)
        obtain ⟨P5, pc5, rfl, _, hc5, hP5, hz5, _⟩ := ints_of_own (xs := List.replicate k s ++ a.path) (by simpa using ho2)
        have HP5 := hide hP5
        have HC5 := hide hc5
        have HZ5 := hide hz5
        clear ho2 hg2 hP5 hc5 hz5 m0 m1 m2 m3 m4 e0 e1 e2 e3 e4 zM
        have HM3 := hide (HM1.out.new_ N2.out)
        have HR3 := hide (HR1.out.new_ N2.out)
        have HR5 := hide (Blk.far HR3.out (p := ⟨w.heap.size, 0, none⟩) (fun e : w.heap.size + 1 = w.heap.size => absurd e (Nat.succ_ne_self _)) (.slice P5 (k + a.path.length) pc5))
        have bq := HM3.out
        have m0 := bq.cell 0
        have m1 := bq.cell 1
        have m2 := bq.cell 2
        have m3 := bq.cell 3
        have m4 := bq.cell 4
        have e0 := bq.frozen 0
        have e1 := bq.frozen 1
        have e2 := bq.frozen 2
        have e3 := bq.frozen 3
        have e4 := bq.frozen 4
        have zM := bq.lt
        simp only [List.getElem?_toArray, List.getElem?_cons_zero, List.getElem?_cons_succ] at m0 m1 m2 m3 m4
        clear bq
        have bq := HR5.out
        have r0 := bq.cell 0
        have r1 := bq.cell 1
        have r2 := bq.cell 2
        have r3 := bq.cell 3
        have r4 := bq.cell 4
        have s0 := bq.frozen 0
        have s1 := bq.frozen 1
        have s2 := bq.frozen 2
        have s3 := bq.frozen 3
        have s4 := bq.frozen 4
        have zR := bq.lt
        simp only [List.getElem?_toArray, List.getElem?_cons_zero, List.getElem?_cons_succ] at r0 r1 r2 r3 r4
        clear bq
        go_wp2_with fail
        refine bodyPost_ret (attr_err_out Tryd.results105 rfl (set5 HR5.out)) rfl ?_
        have uF := set5_upd (y0 := .slice P5 (k + a.path.length) pc5) (y1 := .int .i64 a.pref) (y2 := .int .i64 a.med) (y3 := .int .i64 a.origin) (y4 := .slice a.T a.tags.length a.tc) w2 w.heap.size (w.heap.size + 1) 0 (.slice P5 (k + a.path.length) pc5)
        have nF := (N1.out.trans_new N2.out).trans uF (fun q hq hx => absurd hx (by show ¬ (q = w.heap.size ∨ q = w.heap.size + 1); omega))
        have hlen : (List.replicate k s ++ a.path).length = k + a.path.length := by simp
        have zR1 := HR1.out.lt
        have sN1 := N1.out.size
        refine ⟨⟨P5, pc5, List.replicate k s ++ a.path, a.pref, a.med, a.origin, a.T, a.tc, a.tags⟩, ?_, ?_, ⟨.inr ⟨?_, fun b o e => Nat.le_trans sN1 (HZ5.out b o e)⟩, .inl ⟨rfl, rfl⟩, ?_, Ha.out.tl⟩, nF⟩
        · rw [HK.out]
          show Ending.returned (.tuple #[.agg #[.slice P5 (k + a.path.length) pc5, .int .i64 a.pref, .int .i64 a.med, .int .i64 a.origin, .slice a.T a.tags.length a.tc], .int .i64 0]) = .returned (.tuple #[.agg #[.slice P5 (List.replicate k s ++ a.path).length pc5, .int .i64 a.pref, .int .i64 a.med, .int .i64 a.origin, .slice a.T a.tags.length a.tc], .int .i64 0])
          rw [hlen]
        · rw [leadX_ok HK.out, HX.out]; rfl
        · exact HP5.out.upd uF fun b o e => by have := HZ5.out b o e; omega
        · show (List.replicate k s ++ a.path).length ≤ pc5
          rw [hlen]; exact HC5.out
  · have HK := hide (leadK_con hk (s := s) (n := n))
    have hi : (0 : Int) < ((conC x).1 : Int) := by omega
    have Hk := hide hk
    generalize (conC x).1 = C at *
    clear hk
    go_wp2_with fail
    refine bodyPost_ret (attr_err_out Tryd.results105 rfl (set5 HR1.out)) rfl ?_
    exact of_end (set5_new N1.out (Nat.le_succ _)) HK.out (leadX_err (by rw [HK.out]; exact Hk.out))
end Go.Proofs.YtkljanjapcpbdaaDoor

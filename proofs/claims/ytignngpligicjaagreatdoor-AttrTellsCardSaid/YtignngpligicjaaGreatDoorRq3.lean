/- The reference: LeadOf. No condition but those that stand in each theorem. -/
import Derived.Test.YtignngpligicjaaGreatDoorRf3
import Derived.Test.YtignngpligicjaaGreatDoorRu6
namespace Go.Proofs.YtignngpligicjaaGreatDoor
open Go.RowKit

/-- What is told after a call, out of what was told before: its rows are the same ones, or new. -/
structure From (w w1 : World) (a a' : AttrR) : Prop where
  path : (a'.P = a.P ∧ a'.path = a.path) ∨ (Ints w1 a'.P a'.path ∧ ∀ b o, a'.P = some ⟨b, o, none⟩ → w.heap.size ≤ b)
  tags : (a'.T = a.T ∧ a'.tags = a.tags) ∨ (Ints w1 a'.T a'.tags ∧ ∀ b o, a'.T = some ⟨b, o, none⟩ → w.heap.size ≤ b)
  pl : a'.path.length ≤ a'.pc
  tl : a'.tags.length ≤ a'.tc
theorem From.zero (w w1 : World) (a : AttrR) : From w w1 a zeroR := ⟨.inr ⟨Ints.nil, fun b o e => by simp [zeroR] at e⟩, .inr ⟨Ints.nil, fun b o e => by simp [zeroR] at e⟩, Nat.le_refl _, Nat.le_refl _⟩
theorem From.same {w w1 : World} {a : AttrR} (h : AttrOk w a) : From w w1 a a := ⟨.inl ⟨rfl, rfl⟩, .inl ⟨rfl, rfl⟩, h.pl, h.tl⟩
/-- Stores into older blocks leave it. -/
theorem From.store {S : Nat → Prop} {w w1 w2 : World} {a a' : AttrR} (h : From w w1 a a') (hu : Upd S w1 w2) (hS : ∀ k, S k → k < w.heap.size) : From w w2 a a' :=
  ⟨h.path.imp id fun ⟨q, f⟩ => ⟨q.upd hu fun b o e hs => by have := f b o e; have := hS b hs; omega, f⟩, h.tags.imp id fun ⟨q, f⟩ => ⟨q.upd hu fun b o e hs => by have := f b o e; have := hS b hs; omega, f⟩, h.pl, h.tl⟩
/-- It reads as what it is, where the old rows still do. -/
theorem From.ok {w w1 : World} {a a' : AttrR} (h : From w w1 a a') (ha : AttrOk w1 a) : AttrOk w1 a' :=
  ⟨by rcases h.path with ⟨e, f⟩ | h1; rw [e, f]; exact ha.path; exact h1.1, by rcases h.tags with ⟨e, f⟩ | h1; rw [e, f]; exact ha.tags; exact h1.1, h.pl, h.tl⟩
/-- One behind the other; the first began in an older world. -/
theorem From.trans {w w1 W W1 : World} {a b c : AttrR} (h : From w w1 a b) (k : From W W1 b c) (hw : w.heap.size ≤ W.heap.size) (hn : New w1 W1) : From w W1 a c :=
  ⟨by
    rcases k.path with ⟨e, f⟩ | h1
    · rcases h.path with ⟨e2, f2⟩ | h2
      · exact .inl ⟨e.trans e2, f.trans f2⟩
      · exact .inr ⟨by rw [e, f]; exact h2.1.new_ hn, fun b o q => h2.2 b o (e ▸ q)⟩
    · exact .inr ⟨h1.1, fun b o q => Nat.le_trans hw (h1.2 b o q)⟩, by
    rcases k.tags with ⟨e, f⟩ | h1
    · rcases h.tags with ⟨e2, f2⟩ | h2
      · exact .inl ⟨e.trans e2, f.trans f2⟩
      · exact .inr ⟨by rw [e, f]; exact h2.1.new_ hn, fun b o q => h2.2 b o (e ▸ q)⟩
    · exact .inr ⟨h1.1, fun b o q => Nat.le_trans hw (h1.2 b o q)⟩, k.pl, k.tl⟩
theorem field_code (x y : Value) (w : World) : (Instr.field TRF (.agg #[x, y]) 0).run Tryz.prog w = .ok x w := by kernel_rfl
theorem of_end {w W : World} {x : AtC} {a : AttrR} {k : Nat} {K : Nat} (hn : New w W) (hk : K = k) (hx : x = zeroC) :
    ∃ a' : AttrR, Ending.returned (.tuple #[.agg #[.slice none 0 0, .int .i64 0, .int .i64 0, .int .i64 0, .slice none 0 0], .int .i64 (k : Int)]) = .returned (.tuple #[.agg a'.cells, .int .i64 (K : Int)]) ∧ a'.con = x ∧ From w W a a' ∧ New w W := by
  subst hk; subst hx
  exact ⟨zeroR, rfl, rfl, From.zero _ _ _, hn⟩

set_option maxRecDepth 20000 in
set_option maxHeartbeats 8000000 in
theorem leadOf_any (a : AttrR) (s n : Int) (w : World) (ha : AttrOk w a) (hl : a.path.length ≤ 1000) (hl2 : a.tags.length ≤ 1000) :
    Calls Tryz.prog 51 #[.agg a.cells, .int .i64 s, .int .i64 n] w fun e w1 => ∃ a' : AttrR, e = .returned (.tuple #[.agg a'.cells, .int .i64 (leadK a.con s n : Nat)]) ∧ a'.con = leadX a.con s n ∧ From w w1 a a' ∧ New w w1 := by
  have u := ((Upd.refl (fun _ => False) w).alloc (.cells a.cells TA)).alloc (.cells #[.slice none 0 0, .int .i64 0, .int .i64 0, .int .i64 0, .slice none 0 0] TA)
  have b0 := (Blk.new w TA a.cells).alloc (.cells #[.slice none 0 0, .int .i64 0, .int .i64 0, .int .i64 0, .slice none 0 0] TA)
  have b1 := Blk.at_ (w.alloc (.cells a.cells TA)) TA #[.slice none 0 0, .int .i64 0, .int .i64 0, .int .i64 0, .slice none 0 0] (w.heap.size + 1) (by simp)
  have Haf := hide (attrFault_any a _ (ha.new_ u) hl hl2)
  have Ha := hide ha
  have N := hide u
  have HM := hide b0
  have HR := hide b1
  clear ha u b0 b1
  obtain ⟨x, hx⟩ : ∃ x, x = a.con := ⟨_, rfl⟩
  rw [← hx]
  have HX := hide hx
  clear hx
  have hfc := field_code
  have d1 : w.heap.size ≠ w.heap.size + 1 := by omega
  have d2 : w.heap.size + 1 ≠ w.heap.size := by omega
  unfold AttrR.cells at *
  unfold faultV at Haf
  rw [attrC_con, ← HX.out] at Haf
  obtain ⟨i0, hi0, hz0, hz1, hz2⟩ := info_parts info_TI
  go_enter Tryz.func51, Tryz.ntmps51
  go_upto_region 1 with (fail)
  generalize ((w.alloc (.cells #[.slice a.P a.path.length a.pc, .int .i64 a.pref, .int .i64 a.med, .int .i64 a.origin, .slice a.T a.tags.length a.tc] TA)).alloc (.cells #[.slice none 0 0, .int .i64 0, .int .i64 0, .int .i64 0, .slice none 0 0] TA)) = W at *
  have bq := HM.out
  have m0 := bq.cell 0
  have m1 := bq.cell 1
  have m2 := bq.cell 2
  have m3 := bq.cell 3
  have m4 := bq.cell 4
  have zM := bq.lt
  simp only [List.getElem?_toArray, List.getElem?_cons_zero, List.getElem?_cons_succ] at m0 m1 m2 m3 m4
  clear bq
  go_wp2_with fail
  refine Haf.out.mono ?_
  rintro e w1 ⟨rfl, hu⟩
  clear Haf m0 m1 m2 m3 m4 zM
  have N1 := hide (N.out.trans_new hu)
  have HM1 := hide (HM.out.new_ hu)
  have HR1 := hide (HR.out.new_ hu)
  clear hu
  have bq := HR1.out
  have r0 := bq.cell 0
  have r1 := bq.cell 1
  have r2 := bq.cell 2
  have r3 := bq.cell 3
  have r4 := bq.cell 4
  have s0 := bq.frozen 0
  have s1 := bq.frozen 1
  have s2 := bq.frozen 2
  have s3 := bq.frozen 3
  have s4 := bq.frozen 4
  have zR := bq.lt
  simp only [List.getElem?_toArray, List.getElem?_cons_zero, List.getElem?_cons_succ] at r0 r1 r2 r3 r4
  clear bq
  by_cases hk : (conC x).1 = 0
  · rw [hk]
    have Hk := hide hk
    clear hk
    have hpl : x.path.length = a.path.length := by rw [HX.out]; rfl
    by_cases g0 : s < 1
    · have HK := hide (leadK_bound Hk.out (n := n) (.inl (show inR s 1 1000 = false from inR_no (by omega))))
      go_wp2_with fail
      refine bodyPost_ret (attr_err_out Tryz.results51 rfl (set5 HR1.out)) rfl ?_
      exact of_end (k := 2) (set5_new N1.out (Nat.le_succ _)) HK.out (leadX_err (by rw [HK.out]; omega))
    by_cases g1 : 1000 < s
    · have HK := hide (leadK_bound Hk.out (n := n) (.inl (show inR s 1 1000 = false from inR_no (by omega))))
      go_wp2_with fail
      refine bodyPost_ret (attr_err_out Tryz.results51 rfl (set5 HR1.out)) rfl ?_
      exact of_end (k := 2) (set5_new N1.out (Nat.le_succ _)) HK.out (leadX_err (by rw [HK.out]; omega))
    by_cases g2 : n < 0
    · have HK := hide (leadK_bound Hk.out (s := s) (.inr (show inR n 0 12 = false from inR_no (by omega))))
      go_wp2_with fail
      refine bodyPost_ret (attr_err_out Tryz.results51 rfl (set5 HR1.out)) rfl ?_
      exact of_end (k := 2) (set5_new N1.out (Nat.le_succ _)) HK.out (leadX_err (by rw [HK.out]; omega))
    by_cases g3 : 12 < n
    · have HK := hide (leadK_bound Hk.out (s := s) (.inr (show inR n 0 12 = false from inR_no (by omega))))
      go_wp2_with fail
      refine bodyPost_ret (attr_err_out Tryz.results51 rfl (set5 HR1.out)) rfl ?_
      exact of_end (k := 2) (set5_new N1.out (Nat.le_succ _)) HK.out (leadX_err (by rw [HK.out]; omega))
    obtain ⟨N0, rfl⟩ : ∃ N0 : Nat, n = N0 := ⟨n.toNat, by omega⟩
    have bq := HM1.out
    have m0 := bq.cell 0
    have m1 := bq.cell 1
    have m2 := bq.cell 2
    have m3 := bq.cell 3
    have m4 := bq.cell 4
    have e0 := bq.frozen 0
    have e1 := bq.frozen 1
    have e2 := bq.frozen 2
    have e3 := bq.frozen 3
    have e4 := bq.frozen 4
    have zM := bq.lt
    simp only [List.getElem?_toArray, List.getElem?_cons_zero, List.getElem?_cons_succ] at m0 m1 m2 m3 m4
    clear bq
    by_cases g4 : 12 < (a.path.length : Int) + (N0 : Int)
    · have HK := hide (leadK_full Hk.out (inR_yes g0 g1) (inR_yes g2 g3) (by rw [hpl]; exact g4))
      go_wp2_with fail
      refine bodyPost_ret (attr_err_out Tryz.results51 rfl (set5 HR1.out)) rfl ?_
      exact of_end (k := 7) (set5_new N1.out (Nat.le_succ _)) HK.out (leadX_err (by rw [HK.out]; omega))
    have HK := hide (leadK_ok Hk.out (inR_yes g0 g1) (inR_yes g2 g3) (by rw [hpl]; exact g4))
    go_wp2_with fail
    go_loopw [9, 10] (fun v i wr => ∃ k : Nat, k ≤ N0 ∧ i = .int .i64 k ∧ wr.ownsRow w1.heap.size 3 1 v k (List.replicate k (.int .i64 s)) ∧ New w1 wr) (fun _ i _ => N0 - (intOf i).toNat)
    case atStart => exact ⟨0, by omega, rfl, World.ownsRow_nil _ _ _ _, Upd.refl _ _⟩
    case round =>
      obtain ⟨k, hk0, rfl, hown, hnr⟩ := hrel
      have Ho := hide hown
      have Nr := hide hnr
      clear hown hnr m0 m1 m2 m3 m4 e0 e1 e2 e3 e4 zM r0 r1 r2 r3 r4 s0 s1 s2 s3 s4 zR
      by_cases hlt : k < N0
      · have i2 : (k : Int) < (N0 : Int) := by omega
        have Ba := hide (Blk.new wr 3 #[.int .i64 s])
        go_wp2_with (at_builtin; refine append_src rfl (.tmp 45) (.tmp 47) 60 rfl w1.heap.size 3 i0 _ 1 8 Tryz.underlying60 hi0 hz0 hz1 hz2 rfl (by omega) _ k (List.replicate k (.int .i64 s)) rfl (Ho.out.alloc (.cells #[.int .i64 s] 3)) (some ⟨wr.heap.size, 0, none⟩) 1 1 [.int .i64 s] rfl rfl (fun _ => ⟨wr.heap.size, 0, rfl, fun j u hj => by rw [Nat.zero_add, Ba.out.cell j]; simpa using hj⟩) (fun u hu => by simp at hu; subst hu; rfl) (by unfold maxLen; omega) (by omega) (Nat.le_trans Nr.out.size (by simp)) ?_)
        intro v2 w2 ho2 hg2
        have N2 := hide (grown_own_new (Nr.out.alloc (.cells #[.int .i64 s] 3)) (Ho.out.alloc _) hg2)
        have Ho2 := hide ho2
        clear ho2 hg2
        go_wp2_with fail
        exact ⟨⟨k + 1, by omega, by go_num, by rw [List.replicate_succ']; exact Ho2.out, N2.out⟩, by simp [intOf]; omega⟩
      · obtain rfl : k = N0 := by omega
        have i2 : ¬ (k : Int) < (k : Int) := by omega
        have HM2 := hide (HM1.out.new_ Nr.out)
        have bq := HM2.out
        have m0 := bq.cell 0
        have m1 := bq.cell 1
        have m2 := bq.cell 2
        have m3 := bq.cell 3
        have m4 := bq.cell 4
        have e0 := bq.frozen 0
        have e1 := bq.frozen 1
        have e2 := bq.frozen 2
        have e3 := bq.frozen 3
        have e4 := bq.frozen 4
        have zM := bq.lt
        simp only [List.getElem?_toArray, List.getElem?_cons_zero, List.getElem?_cons_succ] at m0 m1 m2 m3 m4
        clear bq
        go_wp2_with (at_builtin; refine append_src rfl (.tmp 49) (.tmp 51) 60 rfl w1.heap.size 3 i0 _ 1 8 Tryz.underlying60 hi0 hz0 hz1 hz2 rfl (by omega) _ k (List.replicate k (.int .i64 s)) rfl Ho.out a.P a.path.length a.pc (a.path.map (.int .i64)) rfl (by simp) (((Ha.out.new_ N1.out).new_ Nr.out).path.cells) (ints_one _) (by unfold maxLen; omega) (by omega) Nr.out.size ?_)
        intro v2 w2 ho2 hg2
        have N2 := hide (grown_own_new Nr.out Ho.out hg2)
        obtain ⟨P5, pc5, rfl, _, hc5, hP5, hz5, _⟩ := ints_of_own (xs := List.replicate k s ++ a.path) (by simpa using ho2)
        have HP5 := hide hP5
        have HC5 := hide hc5
        have HZ5 := hide hz5
        clear ho2 hg2 hP5 hc5 hz5 m0 m1 m2 m3 m4 e0 e1 e2 e3 e4 zM
        have HM3 := hide (HM1.out.new_ N2.out)
        have HR3 := hide (HR1.out.new_ N2.out)
        have HR5 := hide (Blk.far HR3.out (p := ⟨w.heap.size, 0, none⟩) (fun e : w.heap.size + 1 = w.heap.size => absurd e (Nat.succ_ne_self _)) (.slice P5 (k + a.path.length) pc5))
        have bq := HM3.out
        have m0 := bq.cell 0
        have m1 := bq.cell 1
        have m2 := bq.cell 2
        have m3 := bq.cell 3
        have m4 := bq.cell 4
        have e0 := bq.frozen 0
        have e1 := bq.frozen 1
        have e2 := bq.frozen 2
        have e3 := bq.frozen 3
        have e4 := bq.frozen 4
        have zM := bq.lt
        simp only [List.getElem?_toArray, List.getElem?_cons_zero, List.getElem?_cons_succ] at m0 m1 m2 m3 m4
        clear bq
        have bq := HR5.out
        have r0 := bq.cell 0
        have r1 := bq.cell 1
        have r2 := bq.cell 2
        have r3 := bq.cell 3
        have r4 := bq.cell 4
        have s0 := bq.frozen 0
        have s1 := bq.frozen 1
        have s2 := bq.frozen 2
        have s3 := bq.frozen 3
        have s4 := bq.frozen 4
        have zR := bq.lt
        simp only [List.getElem?_toArray, List.getElem?_cons_zero, List.getElem?_cons_succ] at r0 r1 r2 r3 r4
        clear bq
        go_wp2_with fail
        refine bodyPost_ret (attr_err_out Tryz.results51 rfl (set5 HR5.out)) rfl ?_
        have uF := set5_upd (y0 := .slice P5 (k + a.path.length) pc5) (y1 := .int .i64 a.pref) (y2 := .int .i64 a.med) (y3 := .int .i64 a.origin) (y4 := .slice a.T a.tags.length a.tc) w2 w.heap.size (w.heap.size + 1) 0 (.slice P5 (k + a.path.length) pc5)
        have nF := (N1.out.trans_new N2.out).trans uF (fun q hq hx => absurd hx (by show ¬ (q = w.heap.size ∨ q = w.heap.size + 1); omega))
        have hlen : (List.replicate k s ++ a.path).length = k + a.path.length := by simp
        have zR1 := HR1.out.lt
        have sN1 := N1.out.size
        refine ⟨⟨P5, pc5, List.replicate k s ++ a.path, a.pref, a.med, a.origin, a.T, a.tc, a.tags⟩, ?_, ?_, ⟨.inr ⟨?_, fun b o e => Nat.le_trans sN1 (HZ5.out b o e)⟩, .inl ⟨rfl, rfl⟩, ?_, Ha.out.tl⟩, nF⟩
        · rw [HK.out]
          show Ending.returned (.tuple #[.agg #[.slice P5 (k + a.path.length) pc5, .int .i64 a.pref, .int .i64 a.med, .int .i64 a.origin, .slice a.T a.tags.length a.tc], .int .i64 0]) = .returned (.tuple #[.agg #[.slice P5 (List.replicate k s ++ a.path).length pc5, .int .i64 a.pref, .int .i64 a.med, .int .i64 a.origin, .slice a.T a.tags.length a.tc], .int .i64 0])
          rw [hlen]
        · rw [leadX_ok HK.out, HX.out]; rfl
        · exact HP5.out.upd uF fun b o e => by have := HZ5.out b o e; omega
        · show (List.replicate k s ++ a.path).length ≤ pc5
          rw [hlen]; exact HC5.out
  · have HK := hide (leadK_con hk (s := s) (n := n))
    have hi : (0 : Int) < ((conC x).1 : Int) := by omega
    have Hk := hide hk
    generalize (conC x).1 = C at *
    clear hk
    go_wp2_with fail
    refine bodyPost_ret (attr_err_out Tryz.results51 rfl (set5 HR1.out)) rfl ?_
    exact of_end (set5_new N1.out (Nat.le_succ _)) HK.out (leadX_err (by rw [HK.out]; exact Hk.out))
end Go.Proofs.YtignngpligicjaaGreatDoor

namespace Go.Proofs.YtignngpligicjaaGreatDoor
open Go.RowKit

theorem cnt_at (t : Int) : ∀ (l : List Int) (k : Nat), l.Pairwise (· < ·) → k ≤ l.length → (∀ (j : Nat) x, j < k → l[j]? = some x → x < t) → (∀ x, l[k]? = some x → ¬ x < t) → l.countP (· < t) = k
  | [], k, _, hk, _, _ => by have : k = 0 := by simpa using hk
                             subst this; rfl
  | a :: l, 0, hs, _, _, h2 => by
    have h3 := h2 a (by simp)
    rw [List.countP_eq_zero]
    intro x hx
    rcases List.mem_cons.1 hx with rfl | hx
    · simpa using h3
    · have := (List.pairwise_cons.1 hs).1 x hx
      simp; omega
  | a :: l, k + 1, hs, hk, h1, h2 => by
    have h3 := h1 0 a (by omega) (by simp)
    rw [List.countP_cons_of_pos (by simpa using h3), cnt_at t l k (List.pairwise_cons.1 hs).2 (by simpa using hk) (fun j x hj hx => h1 (j + 1) x (by omega) (by simpa using hx)) (fun x hx => h2 x (by simpa using hx))]
theorem cnt_out {t : Int} {l : List Int} {k : Nat} (hs : l.Pairwise (· < ·)) (h1 : ∀ (j : Nat) x, j < k → l[j]? = some x → x < t) (h2 : ∀ x, l[k]? = some x → t < x) : l.contains t = false := by
  cases hc : l.contains t with
  | false => rfl
  | true =>
    have hm : t ∈ l := by simpa using hc
    obtain ⟨j, hj, hjt⟩ := List.mem_iff_getElem.1 hm
    have hq : l[j]? = some t := by rw [List.getElem?_eq_getElem hj, hjt]
    rcases Nat.lt_trichotomy j k with h | h | h
    · have := h1 j t h hq; omega
    · subst h; have := h2 t hq; omega
    · have hk : k < l.length := by omega
      have h3 := h2 _ (List.getElem?_eq_getElem hk)
      have h4 := List.pairwise_iff_getElem.1 hs k j hk hj h
      omega
theorem Ints.takeAt {w : World} {b o : Nat} {xs : List Int} (h : Ints w (some ⟨b, o, none⟩) xs) (k : Nat) : ∀ (j : Nat) (u : Value), ((xs.take k).map (Value.int .i64))[j]? = some u → w.cell? ⟨b, o + j, none⟩ = some u := fun j u hj => by
  rw [List.getElem?_map, List.getElem?_take] at hj
  split at hj
  · cases hx : xs[j]? with
    | none => rw [hx] at hj; simp at hj
    | some x =>
      rw [hx] at hj
      obtain ⟨b1, o1, e, _, hc⟩ := h (by have := (List.getElem?_eq_some_iff.1 hx).1; omega)
      injection e with e; injection e with e1 e2; subst e1; subst e2
      rw [hc j x hx]; simpa using hj
  · simp at hj
theorem Ints.dropAt {w : World} {b o : Nat} {xs : List Int} (h : Ints w (some ⟨b, o, none⟩) xs) (k : Nat) : ∀ (j : Nat) (u : Value), ((xs.drop k).map (Value.int .i64))[j]? = some u → w.cell? ⟨b, o + k + j, none⟩ = some u := fun j u hj => by
  rw [List.getElem?_map, List.getElem?_drop] at hj
  cases hx : xs[k + j]? with
  | none => rw [hx] at hj; simp at hj
  | some x =>
    rw [hx] at hj
    obtain ⟨b1, o1, e, _, hc⟩ := h (by have := (List.getElem?_eq_some_iff.1 hx).1; omega)
    injection e with e; injection e with e1 e2; subst e1; subst e2
    rw [Nat.add_assoc, hc (k + j) x hx]; simpa using hj

set_option maxRecDepth 20000 in
set_option maxHeartbeats 16000000 in
theorem tagOf_any (a : AttrR) (t : Int) (w : World) (ha : AttrOk w a) (hl : a.path.length ≤ 1000) (hl2 : a.tags.length ≤ 1000) :
    Calls Tryz.prog 53 #[.agg a.cells, .int .i64 t] w fun e w1 => ∃ a' : AttrR, e = .returned (.tuple #[.agg a'.cells, .int .i64 (tagK a.con t : Nat)]) ∧ a'.con = tagX a.con t ∧ From w w1 a a' ∧ New w w1 := by
  have u := ((Upd.refl (fun _ => False) w).alloc (.cells a.cells TA)).alloc (.cells #[.slice none 0 0, .int .i64 0, .int .i64 0, .int .i64 0, .slice none 0 0] TA)
  have b0 := (Blk.new w TA a.cells).alloc (.cells #[.slice none 0 0, .int .i64 0, .int .i64 0, .int .i64 0, .slice none 0 0] TA)
  have b1 := Blk.at_ (w.alloc (.cells a.cells TA)) TA #[.slice none 0 0, .int .i64 0, .int .i64 0, .int .i64 0, .slice none 0 0] (w.heap.size + 1) (by simp)
  have Haf := hide (attrFault_any a _ (ha.new_ u) hl hl2)
  have Ha := hide ha
  have N := hide u
  have HM := hide b0
  have HR := hide b1
  clear ha u b0 b1
  obtain ⟨x, hx⟩ : ∃ x, x = a.con := ⟨_, rfl⟩
  rw [← hx]
  have HX := hide hx
  clear hx
  have hfc := field_code
  have d1 : w.heap.size ≠ w.heap.size + 1 := by omega
  have d2 : w.heap.size + 1 ≠ w.heap.size := by omega
  unfold AttrR.cells at *
  unfold faultV at Haf
  rw [attrC_con, ← HX.out] at Haf
  obtain ⟨i0, hi0, hz0, hz1, hz2⟩ := info_parts info_TI
  go_enter Tryz.func53, Tryz.ntmps53
  go_upto_region 1 with (fail)
  generalize ((w.alloc (.cells #[.slice a.P a.path.length a.pc, .int .i64 a.pref, .int .i64 a.med, .int .i64 a.origin, .slice a.T a.tags.length a.tc] TA)).alloc (.cells #[.slice none 0 0, .int .i64 0, .int .i64 0, .int .i64 0, .slice none 0 0] TA)) = W at *
  have bq := HM.out
  have m0 := bq.cell 0
  have m1 := bq.cell 1
  have m2 := bq.cell 2
  have m3 := bq.cell 3
  have m4 := bq.cell 4
  have zM := bq.lt
  simp only [List.getElem?_toArray, List.getElem?_cons_zero, List.getElem?_cons_succ] at m0 m1 m2 m3 m4
  clear bq
  go_wp2_with fail
  refine Haf.out.mono ?_
  rintro e w1 ⟨rfl, hu⟩
  clear Haf m0 m1 m2 m3 m4 zM
  have N1 := hide (N.out.trans_new hu)
  have HM1 := hide (HM.out.new_ hu)
  have HR1 := hide (HR.out.new_ hu)
  clear hu
  have bq := HR1.out
  have r0 := bq.cell 0
  have r1 := bq.cell 1
  have r2 := bq.cell 2
  have r3 := bq.cell 3
  have r4 := bq.cell 4
  have s0 := bq.frozen 0
  have s1 := bq.frozen 1
  have s2 := bq.frozen 2
  have s3 := bq.frozen 3
  have s4 := bq.frozen 4
  have zR := bq.lt
  simp only [List.getElem?_toArray, List.getElem?_cons_zero, List.getElem?_cons_succ] at r0 r1 r2 r3 r4
  clear bq
  by_cases hk : (conC x).1 = 0
  · rw [hk]
    have Hs := hide (show a.tags.Pairwise (· < ·) from by have h := (conC_zero hk).2.2; rw [HX.out] at h; exact h)
    have hl8 : a.tags.length ≤ 8 := by have h := (conC_zero hk).2.1; rw [HX.out] at h; exact h
    have Hk := hide hk
    have hxt : x.tags = a.tags := by rw [HX.out]; rfl
    have HXt := hide hxt
    clear hk hxt
    by_cases g0 : t < 1
    · have HK := hide (tagK_bound Hk.out (show inR t 1 9999 = false from inR_no (by omega)))
      go_wp2_with fail
      refine bodyPost_ret (attr_err_out Tryz.results53 rfl (set5 HR1.out)) rfl ?_
      exact of_end (k := 2) (set5_new N1.out (Nat.le_succ _)) HK.out (tagX_err (by rw [HK.out]; omega))
    by_cases g1 : 9999 < t
    · have HK := hide (tagK_bound Hk.out (show inR t 1 9999 = false from inR_no (by omega)))
      go_wp2_with fail
      refine bodyPost_ret (attr_err_out Tryz.results53 rfl (set5 HR1.out)) rfl ?_
      exact of_end (k := 2) (set5_new N1.out (Nat.le_succ _)) HK.out (tagX_err (by rw [HK.out]; omega))
    have bq := HM1.out
    have m0 := bq.cell 0
    have m1 := bq.cell 1
    have m2 := bq.cell 2
    have m3 := bq.cell 3
    have m4 := bq.cell 4
    have e0 := bq.frozen 0
    have e1 := bq.frozen 1
    have e2 := bq.frozen 2
    have e3 := bq.frozen 3
    have e4 := bq.frozen 4
    have zM := bq.lt
    simp only [List.getElem?_toArray, List.getElem?_cons_zero, List.getElem?_cons_succ] at m0 m1 m2 m3 m4
    clear bq
    have Hg := hide (show inR t 1 9999 = true from inR_yes g0 g1)
    go_wp2_with fail
    go_loopw [7] (fun i wr => ∃ k : Nat, k ≤ a.tags.length ∧ i = .int .i64 k ∧ wr = w1 ∧ ∀ (j : Nat) z, j < k → a.tags[j]? = some z → z < t) (fun i _ => a.tags.length - (intOf i).toNat)
    case atStart => exact ⟨0, by omega, rfl, rfl, fun j z h => absurd h (by omega)⟩
    case round =>
      obtain ⟨k, hk0, rfl, rfl, hz⟩ := hrel
      have Hz := hide hz
      clear hz
      by_cases hlt : k < a.tags.length
      · have i2 : (k : Int) < (a.tags.length : Int) := by omega
        have i3 : (k : Int) ≤ (a.tags.length : Int) := by omega
        have i4 : (k : Int) ≤ (a.tc : Int) := by have := Ha.out.tl; omega
        have i5 : k ≤ a.tags.length := by omega
        have i6 : k ≤ a.tc := by omega
        have HT := hide ((Ha.out.new_ N1.out).tags)
        obtain ⟨b, q, z, hT, hb, hxk, hcz⟩ := HT.out.at_ (k := k) hlt
        rw [hT] at HT m4 ⊢
        have HTe := hide hT
        have Hxk := hide hxk
        clear hxk hT
        by_cases hzt : z < t
        · go_wp2_with fail
          refine ⟨⟨k + 1, by omega, by go_num, trivial, fun j y hj hy => ?_⟩, by simp [intOf]; omega⟩
          by_cases hjk : j < k
          · exact Hz.out j y hjk hy
          · obtain rfl : j = k := by omega
            rw [Hxk.out] at hy; injection hy with hy; subst hy; exact hzt
        · have Hct := hide (cnt_at t a.tags k Hs.out hk0 Hz.out (fun y hy => by rw [Hxk.out] at hy; injection hy with hy; subst hy; exact hzt))
          by_cases heq : z = t
          · have hin : a.tags.contains t = true := by
              have := List.mem_of_getElem? Hxk.out
              rw [heq] at this
              simpa using this
            have HK := hide (tagK_ok Hk.out Hg.out (by rw [HXt.out, hin]; simp))
            have Hin := hide hin
            have hbe : (z == t) = true := by simp [heq]
            clear hin heq
            go_wp2_with fail
            refine bodyPost_ret (attr_err_out Tryz.results53 rfl (set5 HR1.out)) rfl ?_
            have nF := set5_new (y0 := .slice a.P a.path.length a.pc) (y1 := .int .i64 a.pref) (y2 := .int .i64 a.med) (y3 := .int .i64 a.origin) (y4 := .slice (some ⟨b, q, none⟩) a.tags.length a.tc) N1.out (Nat.le_succ w.heap.size)
            refine ⟨a, ?_, ?_, From.same Ha.out, nF⟩
            · rw [HK.out, HTe.out]; rfl
            · rw [tagX_ok HK.out, HX.out]
              show AtC.mk _ _ _ _ _ = AtC.mk _ _ _ _ (tagsX a.tags t)
              rw [tagsX_in Hin.out]
              rfl
          · have hbe : (z == t) = false := by simp [heq]
            have hout := cnt_out (k := k) Hs.out Hz.out (fun y hy => by rw [Hxk.out] at hy; injection hy with hy; subst hy; omega)
            have Hout := hide hout
            clear hout heq
            by_cases h8 : 8 ≤ a.tags.length
            · have h81 : (8 : Int) ≤ (a.tags.length : Int) := by omega
              have HK := hide (tagK_full Hk.out Hg.out (by rw [HXt.out]; exact Hout.out) (by rw [HXt.out]; exact h8))
              go_wp2_with fail
              refine bodyPost_ret (attr_err_out Tryz.results53 rfl (set5 HR1.out)) rfl ?_
              exact of_end (k := 7) (set5_new N1.out (Nat.le_succ _)) HK.out (tagX_err (by rw [HK.out]; omega))
            · have h81 : ¬ (8 : Int) ≤ (a.tags.length : Int) := by omega
              have HK := hide (tagK_ok Hk.out Hg.out (by rw [HXt.out]; exact fun h => h8 h.2))
              by_cases hck : a.tc = k
              · exact absurd Ha.out.tl (by omega)
              · have hck2 : ¬ k = a.tc := fun h => hck h.symm
                go_wp2_with (at_builtin; refine append_src rfl (.tmp 57) (.tmp 61) 60 rfl wr.heap.size 3 i0 _ 1 8 Tryz.underlying60 hi0 hz0 hz1 hz2 rfl (by omega) (.slice none 0 0) 0 [] rfl (World.ownsRow_nil _ _ _ _) (some ⟨b, q, none⟩) k _ ((a.tags.take k).map (.int .i64)) rfl (by rw [List.length_map, List.length_take]; omega) (fun h => ⟨b, q, rfl, HT.out.takeAt k⟩) (ints_one _) (by unfold maxLen; omega) (by omega) (Nat.le_refl _) ?_)
                intro v2 w2 ho2 hg2
                have N2 := hide (grown_new hg2)
                have Ho2 := hide (show w2.ownsRow wr.heap.size 3 1 v2 k ((a.tags.take k).map (.int .i64)) by simpa using ho2)
                have Ba := hide (Blk.new w2 3 #[.int .i64 t])
                clear ho2 hg2
                go_wp2_with (at_builtin; refine append_src rfl (.tmp 63) (.tmp 65) 60 rfl wr.heap.size 3 i0 _ 1 8 Tryz.underlying60 hi0 hz0 hz1 hz2 rfl (by omega) v2 k ((a.tags.take k).map (.int .i64)) rfl (Ho2.out.alloc (.cells #[.int .i64 t] 3)) (some ⟨w2.heap.size, 0, none⟩) 1 1 [.int .i64 t] rfl rfl (fun _ => ⟨w2.heap.size, 0, rfl, fun j u hj => by rw [Nat.zero_add, Ba.out.cell j]; simpa using hj⟩) (fun u hu => by simp at hu; subst hu; rfl) (by unfold maxLen; omega) (by omega) (Nat.le_trans N2.out.size (by simp)) ?_)
                intro v3 w3 ho3 hg3
                have N3 := hide (grown_own_new (N2.out.alloc (.cells #[.int .i64 t] 3)) (Ho2.out.alloc _) hg3)
                have Ho3 := hide (show w3.ownsRow wr.heap.size 3 1 v3 (k + 1) ((a.tags.take k).map (.int .i64) ++ [.int .i64 t]) by simpa only [List.map_take] using ho3)
                have HM3 := hide (HM1.out.new_ N3.out)
                clear ho3 hg3 m0 m1 m2 m3 m4 e0 e1 e2 e3 e4 zM r0 r1 r2 r3 r4 s0 s1 s2 s3 s4 zR
                rw [HTe.out] at HM3
                have bq := HM3.out
                have m0 := bq.cell 0
                have m1 := bq.cell 1
                have m2 := bq.cell 2
                have m3 := bq.cell 3
                have m4 := bq.cell 4
                have e0 := bq.frozen 0
                have e1 := bq.frozen 1
                have e2 := bq.frozen 2
                have e3 := bq.frozen 3
                have e4 := bq.frozen 4
                have zM := bq.lt
                simp only [List.getElem?_toArray, List.getElem?_cons_zero, List.getElem?_cons_succ] at m0 m1 m2 m3 m4
                clear bq
                go_wp2_with (at_builtin; refine append_src rfl (.tmp 67) (.tmp 71) 60 rfl wr.heap.size 3 i0 _ 1 8 Tryz.underlying60 hi0 hz0 hz1 hz2 rfl (by omega) v3 (k + 1) ((a.tags.take k).map (.int .i64) ++ [.int .i64 t]) rfl Ho3.out (some ⟨b, q + k, none⟩) (a.tags.length - k) _ ((a.tags.drop k).map (.int .i64)) rfl (by simp) (fun h => ⟨b, q + k, rfl, (HT.out.new_ N3.out).dropAt k⟩) (ints_one _) (by unfold maxLen; omega) (by omega) N3.out.size ?_)
                intro v4 w4 ho4 hg4
                have N4 := hide (grown_own_new N3.out Ho3.out hg4)
                obtain ⟨T5, tc5, rfl, _, hc5, hT5, hz5, _⟩ := ints_of_own (xs := a.tags.take k ++ t :: a.tags.drop k) (by simpa using ho4)
                have HT5 := hide hT5
                have HC5 := hide hc5
                have HZ5 := hide hz5
                clear ho4 hg4 hT5 hc5 hz5 m0 m1 m2 m3 m4 e0 e1 e2 e3 e4 zM
                have HM4 := hide (HM1.out.new_ N4.out)
                have HR4 := hide (HR1.out.new_ N4.out)
                have HR5 := hide (Blk.far HR4.out (p := ⟨w.heap.size, 4, none⟩) (fun e : w.heap.size + 1 = w.heap.size => absurd e (Nat.succ_ne_self _)) (.slice T5 (k + 1 + (a.tags.length - k)) tc5))
                rw [HTe.out] at HM4
                have bq := HM4.out
                have m0 := bq.cell 0
                have m1 := bq.cell 1
                have m2 := bq.cell 2
                have m3 := bq.cell 3
                have m4 := bq.cell 4
                have e0 := bq.frozen 0
                have e1 := bq.frozen 1
                have e2 := bq.frozen 2
                have e3 := bq.frozen 3
                have e4 := bq.frozen 4
                have zM := bq.lt
                simp only [List.getElem?_toArray, List.getElem?_cons_zero, List.getElem?_cons_succ] at m0 m1 m2 m3 m4
                clear bq
                have bq := HR5.out
                have r0 := bq.cell 0
                have r1 := bq.cell 1
                have r2 := bq.cell 2
                have r3 := bq.cell 3
                have r4 := bq.cell 4
                have s0 := bq.frozen 0
                have s1 := bq.frozen 1
                have s2 := bq.frozen 2
                have s3 := bq.frozen 3
                have s4 := bq.frozen 4
                have zR := bq.lt
                simp only [List.getElem?_toArray, List.getElem?_cons_zero, List.getElem?_cons_succ] at r0 r1 r2 r3 r4
                clear bq
                go_wp2_with fail
                refine bodyPost_ret (attr_err_out Tryz.results53 rfl (set5 HR5.out)) rfl ?_
                have uF := set5_upd (y0 := .slice a.P a.path.length a.pc) (y1 := .int .i64 a.pref) (y2 := .int .i64 a.med) (y3 := .int .i64 a.origin) (y4 := .slice T5 (k + 1 + (a.tags.length - k)) tc5) w4 w.heap.size (w.heap.size + 1) 4 (.slice T5 (k + 1 + (a.tags.length - k)) tc5)
                have nF := (N1.out.trans_new N4.out).trans uF (fun q hq hx => absurd hx (by show ¬ (q = w.heap.size ∨ q = w.heap.size + 1); omega))
                have hlen : (a.tags.take k ++ t :: a.tags.drop k).length = k + 1 + (a.tags.length - k) := by simp; omega
                have zR1 := HR1.out.lt
                have sN1 := N1.out.size
                refine ⟨⟨a.P, a.pc, a.path, a.pref, a.med, a.origin, T5, tc5, a.tags.take k ++ t :: a.tags.drop k⟩, ?_, ?_, ⟨.inl ⟨rfl, rfl⟩, .inr ⟨?_, fun b o e => Nat.le_trans sN1 (HZ5.out b o e)⟩, Ha.out.pl, ?_⟩, nF⟩
                · rw [HK.out]
                  show Ending.returned (.tuple #[.agg #[.slice a.P a.path.length a.pc, .int .i64 a.pref, .int .i64 a.med, .int .i64 a.origin, .slice T5 (k + 1 + (a.tags.length - k)) tc5], .int .i64 0]) = .returned (.tuple #[.agg #[.slice a.P a.path.length a.pc, .int .i64 a.pref, .int .i64 a.med, .int .i64 a.origin, .slice T5 (a.tags.take k ++ t :: a.tags.drop k).length tc5], .int .i64 0])
                  rw [hlen]
                · rw [tagX_ok HK.out, HX.out]
                  show AtC.mk _ _ _ _ _ = AtC.mk _ _ _ _ (tagsX a.tags t)
                  rw [tagsX_new Hout.out, Hct.out]
                  rfl
                · exact HT5.out.upd uF fun b o e => by have := HZ5.out b o e; omega
                · show (a.tags.take k ++ t :: a.tags.drop k).length ≤ tc5
                  rw [hlen]; exact HC5.out
      · obtain rfl : k = a.tags.length := by omega
        have i2 : ¬ ((a.tags.length : Nat) : Int) < (a.tags.length : Int) := by omega
        have hnone : a.tags[a.tags.length]? = none := List.getElem?_eq_none (Nat.le_refl _)
        have Hct := hide (cnt_at t a.tags a.tags.length Hs.out hk0 Hz.out (fun y hy => by rw [hnone] at hy; cases hy))
        have Hout := hide (cnt_out (k := a.tags.length) Hs.out Hz.out (fun y hy => by rw [hnone] at hy; cases hy))
        clear hnone
        by_cases h8 : 8 ≤ a.tags.length
        · have h81 : (8 : Int) ≤ (a.tags.length : Int) := by omega
          have HK := hide (tagK_full Hk.out Hg.out (by rw [HXt.out]; exact Hout.out) (by rw [HXt.out]; exact h8))
          go_wp2_with fail
          refine bodyPost_ret (attr_err_out Tryz.results53 rfl (set5 HR1.out)) rfl ?_
          exact of_end (k := 7) (set5_new N1.out (Nat.le_succ _)) HK.out (tagX_err (by rw [HK.out]; omega))
        · have h81 : ¬ (8 : Int) ≤ (a.tags.length : Int) := by omega
          have HK := hide (tagK_ok Hk.out Hg.out (by rw [HXt.out]; exact fun h => h8 h.2))
          by_cases hl0 : a.tags.length = 0
          · have Hnil := hide (List.eq_nil_of_length_eq_zero hl0)
            cases hT : a.T with
            | none =>
              rw [hT] at m4
              have HTe := hide hT
              clear hT
              by_cases hck : a.tc = 0
              · have hck2 : ¬ 0 < a.tc := by omega
                go_wp2_with (at_builtin; refine append_src rfl (.tmp 57) (.tmp 61) 60 rfl wr.heap.size 3 i0 _ 1 8 Tryz.underlying60 hi0 hz0 hz1 hz2 rfl (by omega) (.slice none 0 0) 0 [] rfl (World.ownsRow_nil _ _ _ _) _ 0 _ [] rfl rfl (fun h => absurd h (by omega)) (fun u hu => by simp at hu) (by unfold maxLen; omega) (by omega) (Nat.le_refl _) ?_)
                intro v2 w2 ho2 hg2
                have N2 := hide (grown_new hg2)
                have Ho2 := hide (show w2.ownsRow wr.heap.size 3 1 v2 0 [] by simpa using ho2)
                have Ba := hide (Blk.new w2 3 #[.int .i64 t])
                clear ho2 hg2
                go_wp2_with (at_builtin; refine append_src rfl (.tmp 63) (.tmp 65) 60 rfl wr.heap.size 3 i0 _ 1 8 Tryz.underlying60 hi0 hz0 hz1 hz2 rfl (by omega) v2 0 [] rfl (Ho2.out.alloc (.cells #[.int .i64 t] 3)) (some ⟨w2.heap.size, 0, none⟩) 1 1 [.int .i64 t] rfl rfl (fun _ => ⟨w2.heap.size, 0, rfl, fun j u hj => by rw [Nat.zero_add, Ba.out.cell j]; simpa using hj⟩) (fun u hu => by simp at hu; subst hu; rfl) (by unfold maxLen; omega) (by omega) (Nat.le_trans N2.out.size (by simp)) ?_)
                intro v3 w3 ho3 hg3
                have N3 := hide (grown_own_new (N2.out.alloc (.cells #[.int .i64 t] 3)) (Ho2.out.alloc _) hg3)
                have Ho3 := hide (show w3.ownsRow wr.heap.size 3 1 v3 (0 + 1) ([] ++ [.int .i64 t]) by simpa using ho3)
                have HM3 := hide (HM1.out.new_ N3.out)
                clear ho3 hg3 m0 m1 m2 m3 m4 e0 e1 e2 e3 e4 zM r0 r1 r2 r3 r4 s0 s1 s2 s3 s4 zR
                rw [HTe.out] at HM3
                have bq := HM3.out
                have m0 := bq.cell 0
                have m1 := bq.cell 1
                have m2 := bq.cell 2
                have m3 := bq.cell 3
                have m4 := bq.cell 4
                have e0 := bq.frozen 0
                have e1 := bq.frozen 1
                have e2 := bq.frozen 2
                have e3 := bq.frozen 3
                have e4 := bq.frozen 4
                have zM := bq.lt
                simp only [List.getElem?_toArray, List.getElem?_cons_zero, List.getElem?_cons_succ] at m0 m1 m2 m3 m4
                clear bq
                go_wp2_with (at_builtin; refine append_src rfl (.tmp 67) (.tmp 71) 60 rfl wr.heap.size 3 i0 _ 1 8 Tryz.underlying60 hi0 hz0 hz1 hz2 rfl (by omega) v3 (0 + 1) ([] ++ [.int .i64 t]) rfl Ho3.out _ 0 _ [] rfl rfl (fun h => absurd h (by omega)) (fun u hu => by simp at hu) (by unfold maxLen; omega) (by omega) N3.out.size ?_)
                intro v4 w4 ho4 hg4
                have N4 := hide (grown_own_new N3.out Ho3.out hg4)
                obtain ⟨T5, tc5, rfl, _, hc5, hT5, hz5, _⟩ := ints_of_own (xs := a.tags ++ [t]) (by rw [Hnil.out]; simpa using ho4)
                have HT5 := hide hT5
                have HC5 := hide (show 1 ≤ tc5 from by simpa using hc5)
                have HZ5 := hide hz5
                clear ho4 hg4 hT5 hc5 hz5 m0 m1 m2 m3 m4 e0 e1 e2 e3 e4 zM
                have HM4 := hide (HM1.out.new_ N4.out)
                have HR4 := hide (HR1.out.new_ N4.out)
                have HR5 := hide (Blk.far HR4.out (p := ⟨w.heap.size, 4, none⟩) (fun e : w.heap.size + 1 = w.heap.size => absurd e (Nat.succ_ne_self _)) (.slice T5 1 tc5))
                rw [HTe.out] at HM4
                have bq := HM4.out
                have m0 := bq.cell 0
                have m1 := bq.cell 1
                have m2 := bq.cell 2
                have m3 := bq.cell 3
                have m4 := bq.cell 4
                have e0 := bq.frozen 0
                have e1 := bq.frozen 1
                have e2 := bq.frozen 2
                have e3 := bq.frozen 3
                have e4 := bq.frozen 4
                have zM := bq.lt
                simp only [List.getElem?_toArray, List.getElem?_cons_zero, List.getElem?_cons_succ] at m0 m1 m2 m3 m4
                clear bq
                have bq := HR5.out
                have r0 := bq.cell 0
                have r1 := bq.cell 1
                have r2 := bq.cell 2
                have r3 := bq.cell 3
                have r4 := bq.cell 4
                have s0 := bq.frozen 0
                have s1 := bq.frozen 1
                have s2 := bq.frozen 2
                have s3 := bq.frozen 3
                have s4 := bq.frozen 4
                have zR := bq.lt
                simp only [List.getElem?_toArray, List.getElem?_cons_zero, List.getElem?_cons_succ] at r0 r1 r2 r3 r4
                clear bq
                go_wp2_with fail
                refine bodyPost_ret (attr_err_out Tryz.results53 rfl (set5 HR5.out)) rfl ?_
                have uF := set5_upd (y0 := .slice a.P a.path.length a.pc) (y1 := .int .i64 a.pref) (y2 := .int .i64 a.med) (y3 := .int .i64 a.origin) (y4 := .slice T5 1 tc5) w4 w.heap.size (w.heap.size + 1) 4 (.slice T5 1 tc5)
                have nF := (N1.out.trans_new N4.out).trans uF (fun q hq hx => absurd hx (by show ¬ (q = w.heap.size ∨ q = w.heap.size + 1); omega))
                have hlen : (a.tags ++ [t]).length = 1 := by rw [Hnil.out]; rfl
                have zR1 := HR1.out.lt
                have sN1 := N1.out.size
                refine ⟨⟨a.P, a.pc, a.path, a.pref, a.med, a.origin, T5, tc5, a.tags ++ [t]⟩, ?_, ?_, ⟨.inl ⟨rfl, rfl⟩, .inr ⟨?_, fun b o e => Nat.le_trans sN1 (HZ5.out b o e)⟩, Ha.out.pl, ?_⟩, nF⟩
                · rw [HK.out]
                  show Ending.returned (.tuple #[.agg #[.slice a.P a.path.length a.pc, .int .i64 a.pref, .int .i64 a.med, .int .i64 a.origin, .slice T5 1 tc5], .int .i64 0]) = .returned (.tuple #[.agg #[.slice a.P a.path.length a.pc, .int .i64 a.pref, .int .i64 a.med, .int .i64 a.origin, .slice T5 (a.tags ++ [t]).length tc5], .int .i64 0])
                  rw [hlen]
                · rw [tagX_ok HK.out, HX.out]
                  show AtC.mk _ _ _ _ _ = AtC.mk _ _ _ _ (tagsX a.tags t)
                  rw [tagsX_new Hout.out, Hct.out, List.take_length, List.drop_length]
                  rfl
                · exact HT5.out.upd uF fun b o e => by have := HZ5.out b o e; omega
                · show (a.tags ++ [t]).length ≤ tc5
                  rw [hlen]; exact HC5.out
              · have hck2 : ¬ 0 = a.tc := fun h => hck h.symm
                go_wp2_with (at_builtin; refine append_src rfl (.tmp 57) (.tmp 61) 60 rfl wr.heap.size 3 i0 _ 1 8 Tryz.underlying60 hi0 hz0 hz1 hz2 rfl (by omega) (.slice none 0 0) 0 [] rfl (World.ownsRow_nil _ _ _ _) _ 0 _ [] rfl rfl (fun h => absurd h (by omega)) (fun u hu => by simp at hu) (by unfold maxLen; omega) (by omega) (Nat.le_refl _) ?_)
                intro v2 w2 ho2 hg2
                have N2 := hide (grown_new hg2)
                have Ho2 := hide (show w2.ownsRow wr.heap.size 3 1 v2 0 [] by simpa using ho2)
                have Ba := hide (Blk.new w2 3 #[.int .i64 t])
                clear ho2 hg2
                go_wp2_with (at_builtin; refine append_src rfl (.tmp 63) (.tmp 65) 60 rfl wr.heap.size 3 i0 _ 1 8 Tryz.underlying60 hi0 hz0 hz1 hz2 rfl (by omega) v2 0 [] rfl (Ho2.out.alloc (.cells #[.int .i64 t] 3)) (some ⟨w2.heap.size, 0, none⟩) 1 1 [.int .i64 t] rfl rfl (fun _ => ⟨w2.heap.size, 0, rfl, fun j u hj => by rw [Nat.zero_add, Ba.out.cell j]; simpa using hj⟩) (fun u hu => by simp at hu; subst hu; rfl) (by unfold maxLen; omega) (by omega) (Nat.le_trans N2.out.size (by simp)) ?_)
                intro v3 w3 ho3 hg3
                have N3 := hide (grown_own_new (N2.out.alloc (.cells #[.int .i64 t] 3)) (Ho2.out.alloc _) hg3)
                have Ho3 := hide (show w3.ownsRow wr.heap.size 3 1 v3 (0 + 1) ([] ++ [.int .i64 t]) by simpa using ho3)
                have HM3 := hide (HM1.out.new_ N3.out)
                clear ho3 hg3 m0 m1 m2 m3 m4 e0 e1 e2 e3 e4 zM r0 r1 r2 r3 r4 s0 s1 s2 s3 s4 zR
                rw [HTe.out] at HM3
                have bq := HM3.out
                have m0 := bq.cell 0
                have m1 := bq.cell 1
                have m2 := bq.cell 2
                have m3 := bq.cell 3
                have m4 := bq.cell 4
                have e0 := bq.frozen 0
                have e1 := bq.frozen 1
                have e2 := bq.frozen 2
                have e3 := bq.frozen 3
                have e4 := bq.frozen 4
                have zM := bq.lt
                simp only [List.getElem?_toArray, List.getElem?_cons_zero, List.getElem?_cons_succ] at m0 m1 m2 m3 m4
                clear bq
                go_wp2_with (at_builtin; refine append_src rfl (.tmp 67) (.tmp 71) 60 rfl wr.heap.size 3 i0 _ 1 8 Tryz.underlying60 hi0 hz0 hz1 hz2 rfl (by omega) v3 (0 + 1) ([] ++ [.int .i64 t]) rfl Ho3.out _ 0 _ [] rfl rfl (fun h => absurd h (by omega)) (fun u hu => by simp at hu) (by unfold maxLen; omega) (by omega) N3.out.size ?_)
                intro v4 w4 ho4 hg4
                have N4 := hide (grown_own_new N3.out Ho3.out hg4)
                obtain ⟨T5, tc5, rfl, _, hc5, hT5, hz5, _⟩ := ints_of_own (xs := a.tags ++ [t]) (by rw [Hnil.out]; simpa using ho4)
                have HT5 := hide hT5
                have HC5 := hide (show 1 ≤ tc5 from by simpa using hc5)
                have HZ5 := hide hz5
                clear ho4 hg4 hT5 hc5 hz5 m0 m1 m2 m3 m4 e0 e1 e2 e3 e4 zM
                have HM4 := hide (HM1.out.new_ N4.out)
                have HR4 := hide (HR1.out.new_ N4.out)
                have HR5 := hide (Blk.far HR4.out (p := ⟨w.heap.size, 4, none⟩) (fun e : w.heap.size + 1 = w.heap.size => absurd e (Nat.succ_ne_self _)) (.slice T5 1 tc5))
                rw [HTe.out] at HM4
                have bq := HM4.out
                have m0 := bq.cell 0
                have m1 := bq.cell 1
                have m2 := bq.cell 2
                have m3 := bq.cell 3
                have m4 := bq.cell 4
                have e0 := bq.frozen 0
                have e1 := bq.frozen 1
                have e2 := bq.frozen 2
                have e3 := bq.frozen 3
                have e4 := bq.frozen 4
                have zM := bq.lt
                simp only [List.getElem?_toArray, List.getElem?_cons_zero, List.getElem?_cons_succ] at m0 m1 m2 m3 m4
                clear bq
                have bq := HR5.out
                have r0 := bq.cell 0
                have r1 := bq.cell 1
                have r2 := bq.cell 2
                have r3 := bq.cell 3
                have r4 := bq.cell 4
                have s0 := bq.frozen 0
                have s1 := bq.frozen 1
                have s2 := bq.frozen 2
                have s3 := bq.frozen 3
                have s4 := bq.frozen 4
                have zR := bq.lt
                simp only [List.getElem?_toArray, List.getElem?_cons_zero, List.getElem?_cons_succ] at r0 r1 r2 r3 r4
                clear bq
                go_wp2_with fail
                refine bodyPost_ret (attr_err_out Tryz.results53 rfl (set5 HR5.out)) rfl ?_
                have uF := set5_upd (y0 := .slice a.P a.path.length a.pc) (y1 := .int .i64 a.pref) (y2 := .int .i64 a.med) (y3 := .int .i64 a.origin) (y4 := .slice T5 1 tc5) w4 w.heap.size (w.heap.size + 1) 4 (.slice T5 1 tc5)
                have nF := (N1.out.trans_new N4.out).trans uF (fun q hq hx => absurd hx (by show ¬ (q = w.heap.size ∨ q = w.heap.size + 1); omega))
                have hlen : (a.tags ++ [t]).length = 1 := by rw [Hnil.out]; rfl
                have zR1 := HR1.out.lt
                have sN1 := N1.out.size
                refine ⟨⟨a.P, a.pc, a.path, a.pref, a.med, a.origin, T5, tc5, a.tags ++ [t]⟩, ?_, ?_, ⟨.inl ⟨rfl, rfl⟩, .inr ⟨?_, fun b o e => Nat.le_trans sN1 (HZ5.out b o e)⟩, Ha.out.pl, ?_⟩, nF⟩
                · rw [HK.out]
                  show Ending.returned (.tuple #[.agg #[.slice a.P a.path.length a.pc, .int .i64 a.pref, .int .i64 a.med, .int .i64 a.origin, .slice T5 1 tc5], .int .i64 0]) = .returned (.tuple #[.agg #[.slice a.P a.path.length a.pc, .int .i64 a.pref, .int .i64 a.med, .int .i64 a.origin, .slice T5 (a.tags ++ [t]).length tc5], .int .i64 0])
                  rw [hlen]
                · rw [tagX_ok HK.out, HX.out]
                  show AtC.mk _ _ _ _ _ = AtC.mk _ _ _ _ (tagsX a.tags t)
                  rw [tagsX_new Hout.out, Hct.out, List.take_length, List.drop_length]
                  rfl
                · exact HT5.out.upd uF fun b o e => by have := HZ5.out b o e; omega
                · show (a.tags ++ [t]).length ≤ tc5
                  rw [hlen]; exact HC5.out
            | some ad =>
              rw [hT] at m4
              have HTe := hide hT
              clear hT
              by_cases hck : a.tc = 0
              · have hck2 : ¬ 0 < a.tc := by omega
                go_wp2_with (at_builtin; refine append_src rfl (.tmp 57) (.tmp 61) 60 rfl wr.heap.size 3 i0 _ 1 8 Tryz.underlying60 hi0 hz0 hz1 hz2 rfl (by omega) (.slice none 0 0) 0 [] rfl (World.ownsRow_nil _ _ _ _) _ 0 _ [] rfl rfl (fun h => absurd h (by omega)) (fun u hu => by simp at hu) (by unfold maxLen; omega) (by omega) (Nat.le_refl _) ?_)
                intro v2 w2 ho2 hg2
                have N2 := hide (grown_new hg2)
                have Ho2 := hide (show w2.ownsRow wr.heap.size 3 1 v2 0 [] by simpa using ho2)
                have Ba := hide (Blk.new w2 3 #[.int .i64 t])
                clear ho2 hg2
                go_wp2_with (at_builtin; refine append_src rfl (.tmp 63) (.tmp 65) 60 rfl wr.heap.size 3 i0 _ 1 8 Tryz.underlying60 hi0 hz0 hz1 hz2 rfl (by omega) v2 0 [] rfl (Ho2.out.alloc (.cells #[.int .i64 t] 3)) (some ⟨w2.heap.size, 0, none⟩) 1 1 [.int .i64 t] rfl rfl (fun _ => ⟨w2.heap.size, 0, rfl, fun j u hj => by rw [Nat.zero_add, Ba.out.cell j]; simpa using hj⟩) (fun u hu => by simp at hu; subst hu; rfl) (by unfold maxLen; omega) (by omega) (Nat.le_trans N2.out.size (by simp)) ?_)
                intro v3 w3 ho3 hg3
                have N3 := hide (grown_own_new (N2.out.alloc (.cells #[.int .i64 t] 3)) (Ho2.out.alloc _) hg3)
                have Ho3 := hide (show w3.ownsRow wr.heap.size 3 1 v3 (0 + 1) ([] ++ [.int .i64 t]) by simpa using ho3)
                have HM3 := hide (HM1.out.new_ N3.out)
                clear ho3 hg3 m0 m1 m2 m3 m4 e0 e1 e2 e3 e4 zM r0 r1 r2 r3 r4 s0 s1 s2 s3 s4 zR
                rw [HTe.out] at HM3
                have bq := HM3.out
                have m0 := bq.cell 0
                have m1 := bq.cell 1
                have m2 := bq.cell 2
                have m3 := bq.cell 3
                have m4 := bq.cell 4
                have e0 := bq.frozen 0
                have e1 := bq.frozen 1
                have e2 := bq.frozen 2
                have e3 := bq.frozen 3
                have e4 := bq.frozen 4
                have zM := bq.lt
                simp only [List.getElem?_toArray, List.getElem?_cons_zero, List.getElem?_cons_succ] at m0 m1 m2 m3 m4
                clear bq
                go_wp2_with (at_builtin; refine append_src rfl (.tmp 67) (.tmp 71) 60 rfl wr.heap.size 3 i0 _ 1 8 Tryz.underlying60 hi0 hz0 hz1 hz2 rfl (by omega) v3 (0 + 1) ([] ++ [.int .i64 t]) rfl Ho3.out _ 0 _ [] rfl rfl (fun h => absurd h (by omega)) (fun u hu => by simp at hu) (by unfold maxLen; omega) (by omega) N3.out.size ?_)
                intro v4 w4 ho4 hg4
                have N4 := hide (grown_own_new N3.out Ho3.out hg4)
                obtain ⟨T5, tc5, rfl, _, hc5, hT5, hz5, _⟩ := ints_of_own (xs := a.tags ++ [t]) (by rw [Hnil.out]; simpa using ho4)
                have HT5 := hide hT5
                have HC5 := hide (show 1 ≤ tc5 from by simpa using hc5)
                have HZ5 := hide hz5
                clear ho4 hg4 hT5 hc5 hz5 m0 m1 m2 m3 m4 e0 e1 e2 e3 e4 zM
                have HM4 := hide (HM1.out.new_ N4.out)
                have HR4 := hide (HR1.out.new_ N4.out)
                have HR5 := hide (Blk.far HR4.out (p := ⟨w.heap.size, 4, none⟩) (fun e : w.heap.size + 1 = w.heap.size => absurd e (Nat.succ_ne_self _)) (.slice T5 1 tc5))
                rw [HTe.out] at HM4
                have bq := HM4.out
                have m0 := bq.cell 0
                have m1 := bq.cell 1
                have m2 := bq.cell 2
                have m3 := bq.cell 3
                have m4 := bq.cell 4
                have e0 := bq.frozen 0
                have e1 := bq.frozen 1
                have e2 := bq.frozen 2
                have e3 := bq.frozen 3
                have e4 := bq.frozen 4
                have zM := bq.lt
                simp only [List.getElem?_toArray, List.getElem?_cons_zero, List.getElem?_cons_succ] at m0 m1 m2 m3 m4
                clear bq
                have bq := HR5.out
                have r0 := bq.cell 0
                have r1 := bq.cell 1
                have r2 := bq.cell 2
                have r3 := bq.cell 3
                have r4 := bq.cell 4
                have s0 := bq.frozen 0
                have s1 := bq.frozen 1
                have s2 := bq.frozen 2
                have s3 := bq.frozen 3
                have s4 := bq.frozen 4
                have zR := bq.lt
                simp only [List.getElem?_toArray, List.getElem?_cons_zero, List.getElem?_cons_succ] at r0 r1 r2 r3 r4
                clear bq
                go_wp2_with fail
                refine bodyPost_ret (attr_err_out Tryz.results53 rfl (set5 HR5.out)) rfl ?_
                have uF := set5_upd (y0 := .slice a.P a.path.length a.pc) (y1 := .int .i64 a.pref) (y2 := .int .i64 a.med) (y3 := .int .i64 a.origin) (y4 := .slice T5 1 tc5) w4 w.heap.size (w.heap.size + 1) 4 (.slice T5 1 tc5)
                have nF := (N1.out.trans_new N4.out).trans uF (fun q hq hx => absurd hx (by show ¬ (q = w.heap.size ∨ q = w.heap.size + 1); omega))
                have hlen : (a.tags ++ [t]).length = 1 := by rw [Hnil.out]; rfl
                have zR1 := HR1.out.lt
                have sN1 := N1.out.size
                refine ⟨⟨a.P, a.pc, a.path, a.pref, a.med, a.origin, T5, tc5, a.tags ++ [t]⟩, ?_, ?_, ⟨.inl ⟨rfl, rfl⟩, .inr ⟨?_, fun b o e => Nat.le_trans sN1 (HZ5.out b o e)⟩, Ha.out.pl, ?_⟩, nF⟩
                · rw [HK.out]
                  show Ending.returned (.tuple #[.agg #[.slice a.P a.path.length a.pc, .int .i64 a.pref, .int .i64 a.med, .int .i64 a.origin, .slice T5 1 tc5], .int .i64 0]) = .returned (.tuple #[.agg #[.slice a.P a.path.length a.pc, .int .i64 a.pref, .int .i64 a.med, .int .i64 a.origin, .slice T5 (a.tags ++ [t]).length tc5], .int .i64 0])
                  rw [hlen]
                · rw [tagX_ok HK.out, HX.out]
                  show AtC.mk _ _ _ _ _ = AtC.mk _ _ _ _ (tagsX a.tags t)
                  rw [tagsX_new Hout.out, Hct.out, List.take_length, List.drop_length]
                  rfl
                · exact HT5.out.upd uF fun b o e => by have := HZ5.out b o e; omega
                · show (a.tags ++ [t]).length ≤ tc5
                  rw [hlen]; exact HC5.out
              · have hck2 : ¬ 0 = a.tc := fun h => hck h.symm
                go_wp2_with (at_builtin; refine append_src rfl (.tmp 57) (.tmp 61) 60 rfl wr.heap.size 3 i0 _ 1 8 Tryz.underlying60 hi0 hz0 hz1 hz2 rfl (by omega) (.slice none 0 0) 0 [] rfl (World.ownsRow_nil _ _ _ _) _ 0 _ [] rfl rfl (fun h => absurd h (by omega)) (fun u hu => by simp at hu) (by unfold maxLen; omega) (by omega) (Nat.le_refl _) ?_)
                intro v2 w2 ho2 hg2
                have N2 := hide (grown_new hg2)
                have Ho2 := hide (show w2.ownsRow wr.heap.size 3 1 v2 0 [] by simpa using ho2)
                have Ba := hide (Blk.new w2 3 #[.int .i64 t])
                clear ho2 hg2
                go_wp2_with (at_builtin; refine append_src rfl (.tmp 63) (.tmp 65) 60 rfl wr.heap.size 3 i0 _ 1 8 Tryz.underlying60 hi0 hz0 hz1 hz2 rfl (by omega) v2 0 [] rfl (Ho2.out.alloc (.cells #[.int .i64 t] 3)) (some ⟨w2.heap.size, 0, none⟩) 1 1 [.int .i64 t] rfl rfl (fun _ => ⟨w2.heap.size, 0, rfl, fun j u hj => by rw [Nat.zero_add, Ba.out.cell j]; simpa using hj⟩) (fun u hu => by simp at hu; subst hu; rfl) (by unfold maxLen; omega) (by omega) (Nat.le_trans N2.out.size (by simp)) ?_)
                intro v3 w3 ho3 hg3
                have N3 := hide (grown_own_new (N2.out.alloc (.cells #[.int .i64 t] 3)) (Ho2.out.alloc _) hg3)
                have Ho3 := hide (show w3.ownsRow wr.heap.size 3 1 v3 (0 + 1) ([] ++ [.int .i64 t]) by simpa using ho3)
                have HM3 := hide (HM1.out.new_ N3.out)
                clear ho3 hg3 m0 m1 m2 m3 m4 e0 e1 e2 e3 e4 zM r0 r1 r2 r3 r4 s0 s1 s2 s3 s4 zR
                rw [HTe.out] at HM3
                have bq := HM3.out
                have m0 := bq.cell 0
                have m1 := bq.cell 1
                have m2 := bq.cell 2
                have m3 := bq.cell 3
                have m4 := bq.cell 4
                have e0 := bq.frozen 0
                have e1 := bq.frozen 1
                have e2 := bq.frozen 2
                have e3 := bq.frozen 3
                have e4 := bq.frozen 4
                have zM := bq.lt
                simp only [List.getElem?_toArray, List.getElem?_cons_zero, List.getElem?_cons_succ] at m0 m1 m2 m3 m4
                clear bq
                go_wp2_with (at_builtin; refine append_src rfl (.tmp 67) (.tmp 71) 60 rfl wr.heap.size 3 i0 _ 1 8 Tryz.underlying60 hi0 hz0 hz1 hz2 rfl (by omega) v3 (0 + 1) ([] ++ [.int .i64 t]) rfl Ho3.out _ 0 _ [] rfl rfl (fun h => absurd h (by omega)) (fun u hu => by simp at hu) (by unfold maxLen; omega) (by omega) N3.out.size ?_)
                intro v4 w4 ho4 hg4
                have N4 := hide (grown_own_new N3.out Ho3.out hg4)
                obtain ⟨T5, tc5, rfl, _, hc5, hT5, hz5, _⟩ := ints_of_own (xs := a.tags ++ [t]) (by rw [Hnil.out]; simpa using ho4)
                have HT5 := hide hT5
                have HC5 := hide (show 1 ≤ tc5 from by simpa using hc5)
                have HZ5 := hide hz5
                clear ho4 hg4 hT5 hc5 hz5 m0 m1 m2 m3 m4 e0 e1 e2 e3 e4 zM
                have HM4 := hide (HM1.out.new_ N4.out)
                have HR4 := hide (HR1.out.new_ N4.out)
                have HR5 := hide (Blk.far HR4.out (p := ⟨w.heap.size, 4, none⟩) (fun e : w.heap.size + 1 = w.heap.size => absurd e (Nat.succ_ne_self _)) (.slice T5 1 tc5))
                rw [HTe.out] at HM4
                have bq := HM4.out
                have m0 := bq.cell 0
                have m1 := bq.cell 1
                have m2 := bq.cell 2
                have m3 := bq.cell 3
                have m4 := bq.cell 4
                have e0 := bq.frozen 0
                have e1 := bq.frozen 1
                have e2 := bq.frozen 2
                have e3 := bq.frozen 3
                have e4 := bq.frozen 4
                have zM := bq.lt
                simp only [List.getElem?_toArray, List.getElem?_cons_zero, List.getElem?_cons_succ] at m0 m1 m2 m3 m4
                clear bq
                have bq := HR5.out
                have r0 := bq.cell 0
                have r1 := bq.cell 1
                have r2 := bq.cell 2
                have r3 := bq.cell 3
                have r4 := bq.cell 4
                have s0 := bq.frozen 0
                have s1 := bq.frozen 1
                have s2 := bq.frozen 2
                have s3 := bq.frozen 3
                have s4 := bq.frozen 4
                have zR := bq.lt
                simp only [List.getElem?_toArray, List.getElem?_cons_zero, List.getElem?_cons_succ] at r0 r1 r2 r3 r4
                clear bq
                go_wp2_with fail
                refine bodyPost_ret (attr_err_out Tryz.results53 rfl (set5 HR5.out)) rfl ?_
                have uF := set5_upd (y0 := .slice a.P a.path.length a.pc) (y1 := .int .i64 a.pref) (y2 := .int .i64 a.med) (y3 := .int .i64 a.origin) (y4 := .slice T5 1 tc5) w4 w.heap.size (w.heap.size + 1) 4 (.slice T5 1 tc5)
                have nF := (N1.out.trans_new N4.out).trans uF (fun q hq hx => absurd hx (by show ¬ (q = w.heap.size ∨ q = w.heap.size + 1); omega))
                have hlen : (a.tags ++ [t]).length = 1 := by rw [Hnil.out]; rfl
                have zR1 := HR1.out.lt
                have sN1 := N1.out.size
                refine ⟨⟨a.P, a.pc, a.path, a.pref, a.med, a.origin, T5, tc5, a.tags ++ [t]⟩, ?_, ?_, ⟨.inl ⟨rfl, rfl⟩, .inr ⟨?_, fun b o e => Nat.le_trans sN1 (HZ5.out b o e)⟩, Ha.out.pl, ?_⟩, nF⟩
                · rw [HK.out]
                  show Ending.returned (.tuple #[.agg #[.slice a.P a.path.length a.pc, .int .i64 a.pref, .int .i64 a.med, .int .i64 a.origin, .slice T5 1 tc5], .int .i64 0]) = .returned (.tuple #[.agg #[.slice a.P a.path.length a.pc, .int .i64 a.pref, .int .i64 a.med, .int .i64 a.origin, .slice T5 (a.tags ++ [t]).length tc5], .int .i64 0])
                  rw [hlen]
                · rw [tagX_ok HK.out, HX.out]
                  show AtC.mk _ _ _ _ _ = AtC.mk _ _ _ _ (tagsX a.tags t)
                  rw [tagsX_new Hout.out, Hct.out, List.take_length, List.drop_length]
                  rfl
                · exact HT5.out.upd uF fun b o e => by have := HZ5.out b o e; omega
                · show (a.tags ++ [t]).length ≤ tc5
                  rw [hlen]; exact HC5.out
          · have HT := hide ((Ha.out.new_ N1.out).tags)
            obtain ⟨b, q, z, hT, hb, _, _⟩ := HT.out.at_ (k := 0) (by omega)
            rw [hT] at HT m4 ⊢
            have HTe := hide hT
            clear hT
            have i5 : ¬ a.tc = 0 := by have := Ha.out.tl; omega
            have i6 : (a.tags.length : Int) ≤ (a.tc : Int) := by have := Ha.out.tl; omega
            by_cases hck : a.tc = a.tags.length
            · have hck2 : ¬ a.tc < a.tags.length := by omega
              go_wp2_with (at_builtin; refine append_src rfl (.tmp 57) (.tmp 61) 60 rfl wr.heap.size 3 i0 _ 1 8 Tryz.underlying60 hi0 hz0 hz1 hz2 rfl (by omega) (.slice none 0 0) 0 [] rfl (World.ownsRow_nil _ _ _ _) (some ⟨b, q, none⟩) a.tags.length _ (a.tags.map (.int .i64)) rfl (by simp) (HT.out.cells) (ints_one _) (by unfold maxLen; omega) (by omega) (Nat.le_refl _) ?_)
              intro v2 w2 ho2 hg2
              have N2 := hide (grown_new hg2)
              have Ho2 := hide (show w2.ownsRow wr.heap.size 3 1 v2 a.tags.length (a.tags.map (.int .i64)) by simpa using ho2)
              have Ba := hide (Blk.new w2 3 #[.int .i64 t])
              clear ho2 hg2
              go_wp2_with (at_builtin; refine append_src rfl (.tmp 63) (.tmp 65) 60 rfl wr.heap.size 3 i0 _ 1 8 Tryz.underlying60 hi0 hz0 hz1 hz2 rfl (by omega) v2 a.tags.length (a.tags.map (.int .i64)) rfl (Ho2.out.alloc (.cells #[.int .i64 t] 3)) (some ⟨w2.heap.size, 0, none⟩) 1 1 [.int .i64 t] rfl rfl (fun _ => ⟨w2.heap.size, 0, rfl, fun j u hj => by rw [Nat.zero_add, Ba.out.cell j]; simpa using hj⟩) (fun u hu => by simp at hu; subst hu; rfl) (by unfold maxLen; omega) (by omega) (Nat.le_trans N2.out.size (by simp)) ?_)
              intro v3 w3 ho3 hg3
              have N3 := hide (grown_own_new (N2.out.alloc (.cells #[.int .i64 t] 3)) (Ho2.out.alloc _) hg3)
              have Ho3 := hide (show w3.ownsRow wr.heap.size 3 1 v3 (a.tags.length + 1) ((a.tags.map (.int .i64)) ++ [.int .i64 t]) by simpa using ho3)
              have HM3 := hide (HM1.out.new_ N3.out)
              clear ho3 hg3 m0 m1 m2 m3 m4 e0 e1 e2 e3 e4 zM r0 r1 r2 r3 r4 s0 s1 s2 s3 s4 zR
              rw [HTe.out] at HM3
              have bq := HM3.out
              have m0 := bq.cell 0
              have m1 := bq.cell 1
              have m2 := bq.cell 2
              have m3 := bq.cell 3
              have m4 := bq.cell 4
              have e0 := bq.frozen 0
              have e1 := bq.frozen 1
              have e2 := bq.frozen 2
              have e3 := bq.frozen 3
              have e4 := bq.frozen 4
              have zM := bq.lt
              simp only [List.getElem?_toArray, List.getElem?_cons_zero, List.getElem?_cons_succ] at m0 m1 m2 m3 m4
              clear bq
              go_wp2_with (at_builtin; refine append_src rfl (.tmp 67) (.tmp 71) 60 rfl wr.heap.size 3 i0 _ 1 8 Tryz.underlying60 hi0 hz0 hz1 hz2 rfl (by omega) v3 (a.tags.length + 1) ((a.tags.map (.int .i64)) ++ [.int .i64 t]) rfl Ho3.out _ 0 _ [] rfl rfl (fun h => absurd h (by omega)) (fun u hu => by simp at hu) (by unfold maxLen; omega) (by omega) N3.out.size ?_)
              intro v4 w4 ho4 hg4
              have N4 := hide (grown_own_new N3.out Ho3.out hg4)
              obtain ⟨T5, tc5, rfl, _, hc5, hT5, hz5, _⟩ := ints_of_own (xs := a.tags ++ [t]) (by simpa using ho4)
              have HT5 := hide hT5
              have HC5 := hide (show (a.tags.length + 1) ≤ tc5 from by simpa using hc5)
              have HZ5 := hide hz5
              clear ho4 hg4 hT5 hc5 hz5 m0 m1 m2 m3 m4 e0 e1 e2 e3 e4 zM
              have HM4 := hide (HM1.out.new_ N4.out)
              have HR4 := hide (HR1.out.new_ N4.out)
              have HR5 := hide (Blk.far HR4.out (p := ⟨w.heap.size, 4, none⟩) (fun e : w.heap.size + 1 = w.heap.size => absurd e (Nat.succ_ne_self _)) (.slice T5 (a.tags.length + 1) tc5))
              rw [HTe.out] at HM4
              have bq := HM4.out
              have m0 := bq.cell 0
              have m1 := bq.cell 1
              have m2 := bq.cell 2
              have m3 := bq.cell 3
              have m4 := bq.cell 4
              have e0 := bq.frozen 0
              have e1 := bq.frozen 1
              have e2 := bq.frozen 2
              have e3 := bq.frozen 3
              have e4 := bq.frozen 4
              have zM := bq.lt
              simp only [List.getElem?_toArray, List.getElem?_cons_zero, List.getElem?_cons_succ] at m0 m1 m2 m3 m4
              clear bq
              have bq := HR5.out
              have r0 := bq.cell 0
              have r1 := bq.cell 1
              have r2 := bq.cell 2
              have r3 := bq.cell 3
              have r4 := bq.cell 4
              have s0 := bq.frozen 0
              have s1 := bq.frozen 1
              have s2 := bq.frozen 2
              have s3 := bq.frozen 3
              have s4 := bq.frozen 4
              have zR := bq.lt
              simp only [List.getElem?_toArray, List.getElem?_cons_zero, List.getElem?_cons_succ] at r0 r1 r2 r3 r4
              clear bq
              go_wp2_with fail
              refine bodyPost_ret (attr_err_out Tryz.results53 rfl (set5 HR5.out)) rfl ?_
              have uF := set5_upd (y0 := .slice a.P a.path.length a.pc) (y1 := .int .i64 a.pref) (y2 := .int .i64 a.med) (y3 := .int .i64 a.origin) (y4 := .slice T5 (a.tags.length + 1) tc5) w4 w.heap.size (w.heap.size + 1) 4 (.slice T5 (a.tags.length + 1) tc5)
              have nF := (N1.out.trans_new N4.out).trans uF (fun q hq hx => absurd hx (by show ¬ (q = w.heap.size ∨ q = w.heap.size + 1); omega))
              have hlen : (a.tags ++ [t]).length = (a.tags.length + 1) := by simp
              have zR1 := HR1.out.lt
              have sN1 := N1.out.size
              refine ⟨⟨a.P, a.pc, a.path, a.pref, a.med, a.origin, T5, tc5, a.tags ++ [t]⟩, ?_, ?_, ⟨.inl ⟨rfl, rfl⟩, .inr ⟨?_, fun b o e => Nat.le_trans sN1 (HZ5.out b o e)⟩, Ha.out.pl, ?_⟩, nF⟩
              · rw [HK.out]
                show Ending.returned (.tuple #[.agg #[.slice a.P a.path.length a.pc, .int .i64 a.pref, .int .i64 a.med, .int .i64 a.origin, .slice T5 (a.tags.length + 1) tc5], .int .i64 0]) = .returned (.tuple #[.agg #[.slice a.P a.path.length a.pc, .int .i64 a.pref, .int .i64 a.med, .int .i64 a.origin, .slice T5 (a.tags ++ [t]).length tc5], .int .i64 0])
                rw [hlen]
              · rw [tagX_ok HK.out, HX.out]
                show AtC.mk _ _ _ _ _ = AtC.mk _ _ _ _ (tagsX a.tags t)
                rw [tagsX_new Hout.out, Hct.out, List.take_length, List.drop_length]
                rfl
              · exact HT5.out.upd uF fun b o e => by have := HZ5.out b o e; omega
              · show (a.tags ++ [t]).length ≤ tc5
                rw [hlen]; exact HC5.out
            · have hck2 : ¬ a.tags.length = a.tc := fun h => hck h.symm
              go_wp2_with (at_builtin; refine append_src rfl (.tmp 57) (.tmp 61) 60 rfl wr.heap.size 3 i0 _ 1 8 Tryz.underlying60 hi0 hz0 hz1 hz2 rfl (by omega) (.slice none 0 0) 0 [] rfl (World.ownsRow_nil _ _ _ _) (some ⟨b, q, none⟩) a.tags.length _ (a.tags.map (.int .i64)) rfl (by simp) (HT.out.cells) (ints_one _) (by unfold maxLen; omega) (by omega) (Nat.le_refl _) ?_)
              intro v2 w2 ho2 hg2
              have N2 := hide (grown_new hg2)
              have Ho2 := hide (show w2.ownsRow wr.heap.size 3 1 v2 a.tags.length (a.tags.map (.int .i64)) by simpa using ho2)
              have Ba := hide (Blk.new w2 3 #[.int .i64 t])
              clear ho2 hg2
              go_wp2_with (at_builtin; refine append_src rfl (.tmp 63) (.tmp 65) 60 rfl wr.heap.size 3 i0 _ 1 8 Tryz.underlying60 hi0 hz0 hz1 hz2 rfl (by omega) v2 a.tags.length (a.tags.map (.int .i64)) rfl (Ho2.out.alloc (.cells #[.int .i64 t] 3)) (some ⟨w2.heap.size, 0, none⟩) 1 1 [.int .i64 t] rfl rfl (fun _ => ⟨w2.heap.size, 0, rfl, fun j u hj => by rw [Nat.zero_add, Ba.out.cell j]; simpa using hj⟩) (fun u hu => by simp at hu; subst hu; rfl) (by unfold maxLen; omega) (by omega) (Nat.le_trans N2.out.size (by simp)) ?_)
              intro v3 w3 ho3 hg3
              have N3 := hide (grown_own_new (N2.out.alloc (.cells #[.int .i64 t] 3)) (Ho2.out.alloc _) hg3)
              have Ho3 := hide (show w3.ownsRow wr.heap.size 3 1 v3 (a.tags.length + 1) ((a.tags.map (.int .i64)) ++ [.int .i64 t]) by simpa using ho3)
              have HM3 := hide (HM1.out.new_ N3.out)
              clear ho3 hg3 m0 m1 m2 m3 m4 e0 e1 e2 e3 e4 zM r0 r1 r2 r3 r4 s0 s1 s2 s3 s4 zR
              rw [HTe.out] at HM3
              have bq := HM3.out
              have m0 := bq.cell 0
              have m1 := bq.cell 1
              have m2 := bq.cell 2
              have m3 := bq.cell 3
              have m4 := bq.cell 4
              have e0 := bq.frozen 0
              have e1 := bq.frozen 1
              have e2 := bq.frozen 2
              have e3 := bq.frozen 3
              have e4 := bq.frozen 4
              have zM := bq.lt
              simp only [List.getElem?_toArray, List.getElem?_cons_zero, List.getElem?_cons_succ] at m0 m1 m2 m3 m4
              clear bq
              go_wp2_with (at_builtin; refine append_src rfl (.tmp 67) (.tmp 71) 60 rfl wr.heap.size 3 i0 _ 1 8 Tryz.underlying60 hi0 hz0 hz1 hz2 rfl (by omega) v3 (a.tags.length + 1) ((a.tags.map (.int .i64)) ++ [.int .i64 t]) rfl Ho3.out _ 0 _ [] rfl rfl (fun h => absurd h (by omega)) (fun u hu => by simp at hu) (by unfold maxLen; omega) (by omega) N3.out.size ?_)
              intro v4 w4 ho4 hg4
              have N4 := hide (grown_own_new N3.out Ho3.out hg4)
              obtain ⟨T5, tc5, rfl, _, hc5, hT5, hz5, _⟩ := ints_of_own (xs := a.tags ++ [t]) (by simpa using ho4)
              have HT5 := hide hT5
              have HC5 := hide (show (a.tags.length + 1) ≤ tc5 from by simpa using hc5)
              have HZ5 := hide hz5
              clear ho4 hg4 hT5 hc5 hz5 m0 m1 m2 m3 m4 e0 e1 e2 e3 e4 zM
              have HM4 := hide (HM1.out.new_ N4.out)
              have HR4 := hide (HR1.out.new_ N4.out)
              have HR5 := hide (Blk.far HR4.out (p := ⟨w.heap.size, 4, none⟩) (fun e : w.heap.size + 1 = w.heap.size => absurd e (Nat.succ_ne_self _)) (.slice T5 (a.tags.length + 1) tc5))
              rw [HTe.out] at HM4
              have bq := HM4.out
              have m0 := bq.cell 0
              have m1 := bq.cell 1
              have m2 := bq.cell 2
              have m3 := bq.cell 3
              have m4 := bq.cell 4
              have e0 := bq.frozen 0
              have e1 := bq.frozen 1
              have e2 := bq.frozen 2
              have e3 := bq.frozen 3
              have e4 := bq.frozen 4
              have zM := bq.lt
              simp only [List.getElem?_toArray, List.getElem?_cons_zero, List.getElem?_cons_succ] at m0 m1 m2 m3 m4
              clear bq
              have bq := HR5.out
              have r0 := bq.cell 0
              have r1 := bq.cell 1
              have r2 := bq.cell 2
              have r3 := bq.cell 3
              have r4 := bq.cell 4
              have s0 := bq.frozen 0
              have s1 := bq.frozen 1
              have s2 := bq.frozen 2
              have s3 := bq.frozen 3
              have s4 := bq.frozen 4
              have zR := bq.lt
              simp only [List.getElem?_toArray, List.getElem?_cons_zero, List.getElem?_cons_succ] at r0 r1 r2 r3 r4
              clear bq
              go_wp2_with fail
              refine bodyPost_ret (attr_err_out Tryz.results53 rfl (set5 HR5.out)) rfl ?_
              have uF := set5_upd (y0 := .slice a.P a.path.length a.pc) (y1 := .int .i64 a.pref) (y2 := .int .i64 a.med) (y3 := .int .i64 a.origin) (y4 := .slice T5 (a.tags.length + 1) tc5) w4 w.heap.size (w.heap.size + 1) 4 (.slice T5 (a.tags.length + 1) tc5)
              have nF := (N1.out.trans_new N4.out).trans uF (fun q hq hx => absurd hx (by show ¬ (q = w.heap.size ∨ q = w.heap.size + 1); omega))
              have hlen : (a.tags ++ [t]).length = (a.tags.length + 1) := by simp
              have zR1 := HR1.out.lt
              have sN1 := N1.out.size
              refine ⟨⟨a.P, a.pc, a.path, a.pref, a.med, a.origin, T5, tc5, a.tags ++ [t]⟩, ?_, ?_, ⟨.inl ⟨rfl, rfl⟩, .inr ⟨?_, fun b o e => Nat.le_trans sN1 (HZ5.out b o e)⟩, Ha.out.pl, ?_⟩, nF⟩
              · rw [HK.out]
                show Ending.returned (.tuple #[.agg #[.slice a.P a.path.length a.pc, .int .i64 a.pref, .int .i64 a.med, .int .i64 a.origin, .slice T5 (a.tags.length + 1) tc5], .int .i64 0]) = .returned (.tuple #[.agg #[.slice a.P a.path.length a.pc, .int .i64 a.pref, .int .i64 a.med, .int .i64 a.origin, .slice T5 (a.tags ++ [t]).length tc5], .int .i64 0])
                rw [hlen]
              · rw [tagX_ok HK.out, HX.out]
                show AtC.mk _ _ _ _ _ = AtC.mk _ _ _ _ (tagsX a.tags t)
                rw [tagsX_new Hout.out, Hct.out, List.take_length, List.drop_length]
                rfl
              · exact HT5.out.upd uF fun b o e => by have := HZ5.out b o e; omega
              · show (a.tags ++ [t]).length ≤ tc5
                rw [hlen]; exact HC5.out
  · have HK := hide (tagK_con hk (t := t))
    have hi : (0 : Int) < ((conC x).1 : Int) := by omega
    have Hk := hide hk
    generalize (conC x).1 = C at *
    clear hk
    go_wp2_with fail
    refine bodyPost_ret (attr_err_out Tryz.results53 rfl (set5 HR1.out)) rfl ?_
    exact of_end (set5_new N1.out (Nat.le_succ _)) HK.out (tagX_err (by rw [HK.out]; exact Hk.out))
end Go.Proofs.YtignngpligicjaaGreatDoor

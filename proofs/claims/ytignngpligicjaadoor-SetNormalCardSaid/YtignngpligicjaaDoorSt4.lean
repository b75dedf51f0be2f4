/- Package set: spans. No condition but those that stand in each theorem. -/
import Derived.Test.YtignngpligicjaaDoorSt3
import Derived.Test.YtignngpligicjaaDoorPfo
import Derived.Test.YtignngpligicjaaDoorIp3
import Derived.Test.YtignngpligicjaaDoorEv
import Derived.Deep.RegionHeld3
import Derived.Deep.DeepCutAuto
namespace Go.Proofs.YtignngpligicjaaDoor
open Go.RowKit

/-- What is wrong with prefixes, and where. -/
def pfF (l : List Pf) (i : Nat) : Nat := match l[i]? with
  | some p => chk p.a p.n
  | none => 0
def pfsC (l : List Pf) : Nat × Int := firstC (pfF l) l.length 0
theorem pfF_at {l : List Pf} {i : Nat} {p : Pf} (h : l[i]? = some p) : pfF l i = chk p.a p.n := by unfold pfF; rw [h]
theorem info_TSp : (Tryd.prog.info? TSp).map (fun i => (i.zero, i.size, i.bytes)) = some (some (.agg #[.int .i64 0, .int .i64 0]), 2, 16) := by kernel_rfl
/-- What spans gives. -/
def SpPost (E : Nat → Addr) (ps : List Pf) (w : World) (e : Ending) (w1 : World) : Prop := ∃ v er, e = .returned (.tuple #[v, er]) ∧ ErrV w1 E er (pfsC ps).1 (pfsC ps).2 ∧ New w w1 ∧
  ((pfsC ps).1 ≠ 0 → v = .slice none 0 0) ∧ ((pfsC ps).1 = 0 → ∃ l', l'.Perm (ps.map Pf.sp) ∧ l'.Pairwise (fun p q => p.1 ≤ q.1) ∧ OwnS w1 w.heap.size v (mergeL l'))
theorem keep2 {w : World} {X : Nat} {x y : Value} (h : w.cell? ⟨X, 0, none⟩ = some x ∧ w.cell? ⟨X, 1, none⟩ = some y) : w.cell? ⟨X, 0, none⟩ = some x ∧ w.cell? ⟨X, 1, none⟩ = some y := h
theorem rws_two {w : World} {A : Option Addr} {ps : List Pf} (h : Rws w A 2 (ps.map Pf.cells)) {k : Nat} (hk : k < ps.length) : ∃ b o p, A = some ⟨b, o, none⟩ ∧ b < w.heap.size ∧ ps[k]? = some p ∧ w.cell? ⟨b, o + k * 2, none⟩ = some (.int .i64 p.a) ∧ w.cell? ⟨b, o + k * 2 + 1, none⟩ = some (.int .i64 p.n) := by
  obtain ⟨b, o, hA, hb, hc⟩ := h (by simpa using by omega)
  have hp : ps[k]? = some ps[k] := List.getElem?_eq_getElem hk
  have h1 := hc k ps[k].cells (by simp [hp])
  exact ⟨b, o, ps[k], hA, hb, hp, h1 0 _ rfl, h1 1 _ rfl⟩

/-- How far the joining of spans has come. -/
def MgS (L M : List (Nat × Nat)) (k i : Nat) : Prop := (i = 0 ∧ k = 0) ∨ ∃ q c, k = q + 1 ∧ q < i ∧ M[q]? = some c ∧ mergeL L = M.take q ++ mg c (L.drop i)

theorem mg_drop {L M : List (Nat × Nat)} {i q : Nat} {x : Nat × Nat} (h : M.drop i = L.drop i) (hq : q < i + 1) : (M.set q x).drop (i + 1) = L.drop (i + 1) := by
  have h1 := congrArg (List.drop 1) h
  rw [List.drop_drop, List.drop_drop] at h1
  rw [← h1, List.drop_set, if_pos hq]
theorem mg_at {L : List (Nat × Nat)} {i : Nat} {s c : Nat × Nat} (h : L[i]? = some s) : mg c (L.drop i) = if s.1 ≤ c.2 then mg (c.1, max c.2 s.2) (L.drop (i + 1)) else c :: mg s (L.drop (i + 1)) := by
  have hl := (List.getElem?_eq_some_iff.1 h).1
  have e : L.drop i = s :: L.drop (i + 1) := by
    rw [List.drop_eq_getElem_cons hl]
    congr 1
    rw [List.getElem?_eq_getElem hl] at h
    exact Option.some.inj h
  rw [e]; rfl
theorem mg_take {M : List (Nat × Nat)} {q : Nat} {x : Nat × Nat} : (M.set q x).take q = M.take q := by
  rw [List.take_set]
  exact List.set_eq_of_length_le (by rw [List.length_take]; omega)

set_option maxRecDepth 20000 in
set_option maxHeartbeats 4000000 in
theorem spans_any (A : Option Addr) (n c : Nat) (ps : List Pf) (E : Nat → Addr) (w : World) (h2 : Sen w gBound (E 2)) (h3 : Sen w gShape (E 3)) (hx : Rws w A 2 (ps.map Pf.cells)) (hn : ps.length = n) (hl : n ≤ 100000) :
    Calls Tryd.prog 30 #[.slice A n c] w (SpPost E ps w) := by
  obtain ⟨i0, hi0, hz0, hz1, hz2⟩ := info_parts info_TSp
  have H2 := hide h2
  have H3 := hide h3
  have Hx := hide hx
  have Hn := hide hn
  have Hi0 := hide hi0
  have Hz := hide (And.intro hz0 (And.intro hz1 hz2))
  clear h2 h3 hx hn hi0 hz0 hz1 hz2
  go_enter Tryd.func30, Tryd.ntmps30
  go_wp2_with fail
  go_loopw [4, 13] (fun l i wr => ∃ j : Nat, j ≤ n ∧ i = .int .i64 j ∧ New w wr ∧ OwnS wr w.heap.size l ((ps.take j).map Pf.sp) ∧ ∀ q : Nat, 0 ≤ q → q < j → pfF ps q = 0) (fun _ i _ => n - (intOf i).toNat)
  case atStart => exact ⟨0, by omega, rfl, Upd.refl _ _, World.ownsRow_nil _ _ _ _, fun q _ h => absurd h (by omega)⟩
  case round =>
    obtain ⟨j, hj, rfl, hnew, hown, hz⟩ := hrel
    have Hnew := hide hnew
    have Hown := hide hown
    have Hzz := hide hz
    clear hown hz
    obtain ⟨wo, rfl⟩ : ∃ wo : World, wo = wr := ⟨_, rfl⟩
    by_cases hlt : j < n
    · obtain ⟨b, o, p, hA, hbw, hpj, e0, e1⟩ := rws_two (Hx.out.new_ hnew) (k := j) (by have := Hn.out; omega)
      subst hA
      have HF := hide (pfF_at hpj)
      have Hpj := hide hpj
      have i3 : (j : Int) < (n : Int) := by omega
      have n1 := Hnew.out.trans_new ((Upd.refl (fun _ => False) wo).alloc (.cells #[.int .i64 p.a, .int .i64 p.n] TPf))
      have HB := hide (Blk.new wo TPf #[.int .i64 p.a, .int .i64 p.n])
      by_cases hc : chk p.a p.n = 0
      · have Hck := hide (check_yes p.a p.n E _ (H2.out.new n1) (H3.out.new n1) hc)
        have Hc := hide hc
        have N1 := hide n1
        clear hpj hc hnew n1
        go_wp2_with fail
        refine Hck.out.mono ?_
        rintro e w3 ⟨rfl, hu3⟩
        have hb3 := HB.out.new_ hu3
        have hn3 := (((Upd.refl (fun _ => False) wo).alloc (.cells #[.int .i64 p.a, .int .i64 p.n] TPf)).trans_new hu3)
        have HB3 := hide hb3
        have N3 := hide (N1.out.trans_new hu3)
        have Hown3 := hide (row_new Hown.out hn3)
        have k0 := hb3.cell 0
        have k1 := hb3.cell 1
        have kz := hb3.lt
        simp only [List.getElem?_toArray, List.getElem?_cons_zero, List.getElem?_cons_succ] at k0 k1
        clear hb3 hn3 hu3 e0 e1 hbw
        generalize wo.heap.size = X at *
        go_upto_region 8 with (fail)
        obtain ⟨⟨z1, z2⟩, ⟨z3, z4⟩, _⟩ := chk_zero Hc.out
        obtain ⟨Z, hZ⟩ : ∃ Z : Int, Z = ((2 ^ (32 - p.n.toNat) : Nat) : Int) := ⟨_, rfl⟩
        have hsz := size_any p.a p.n E
        rw [if_pos Hc.out, ← hZ] at hsz
        have hz9 := pow_le32 (32 - p.n.toNat) (by omega)
        have hz0 := pow_pos2 (32 - p.n.toNat)
        have hzb : 0 < Z ∧ Z ≤ 4294967296 := by omega
        have Hsz := hide hsz
        have HZ := hide hZ
        obtain ⟨y1, y2⟩ := hzb
        clear hsz hZ hz9 hz0 z3 z4
        have iw : IntKind.i64.wrap (p.a + Z) = p.a + Z := IntWalk.i64_in _ (by omega)
        have iw2 : wrap64 (p.a + Z) = p.a + Z := IntWalk.wrap64_in _ (by omega)
        obtain ⟨l, hl3⟩ : ∃ l : Value, l = u4 := ⟨_, rfl⟩
        rw [← hl3] at Hown3 ⊢
        clear hl3 Hown
        have K0 := hide (keep2 ⟨k0, k1⟩)
        have HX := hide kz
        go_region_held3 (fun w' => w'.cell? ⟨X, 0, none⟩ = some (.int .i64 p.a) ∧ w'.cell? ⟨X, 1, none⟩ = some (.int .i64 p.n))
          (first | go_keep | exact K2.out | exact K1.out)
          (first
            | (go_at_call 18; refine (Hsz.out _ (by exact (H2.out.new N3.out).new (Upd.refl _ _).drew) (by exact (H3.out.new N3.out).new (Upd.refl _ _).drew)).mono ?_; rintro e w4 ⟨rfl, hu4⟩; have K2 := hide (keep2 ⟨(hu4.cell HX.out (fun x => x)).trans K0.out.1, (hu4.cell HX.out (fun x => x)).trans K0.out.2⟩); have U4 := hide ((Upd.refl (fun _ => False) w3).drew.trans_new hu4); have Hown4 := hide (row_new Hown3.out U4.out); clear hu4)
            | (refine step_append_lies _ (by rfl) _ _ _ (by rfl) w.heap.size TSp i0 _ 2 16 Tryd.underlying57 Hi0.out Hz.out.1 Hz.out.2.1 Hz.out.2.2 rfl (by omega) l _ _ (by rfl) (Hown4.out.alloc _) ⟨w4.heap.size, 0, none⟩ 1 1 [.int .i64 p.a, .int .i64 (p.a + Z)] (by rfl) (by rfl) (World.news_of_block (cs := #[.int .i64 p.a, .int .i64 (p.a + Z)]) (t := TSp) (fr := (0, 0)) (heap_alloc_new w4 _)) (by simp [Value.oneCell']) (by omega) (by unfold maxLen; simp; omega) (by simp; omega) (by have := N3.out.size; have := U4.out.size; simp; omega) (w4.heap.size + 1) (by simp) ?_; intro gg cap w5 hown5 hgrow hat hlt5; have hu5 : Upd (fun q => l.ownBlock = some q) w4 w5 := ((Upd.refl _ w4).alloc _).trans' (Upd.of_grown hgrow fun q _ hq => hq); have K1 := hide (keep2 ⟨(hu5.cell (Nat.lt_of_lt_of_le HX.out U4.out.size) (row_ne Hown4.out (HB3.out.new_ U4.out) (by decide))).trans K2.out.1, (hu5.cell (Nat.lt_of_lt_of_le HX.out U4.out.size) (row_ne Hown4.out (HB3.out.new_ U4.out) (by decide))).trans K2.out.2⟩)))
        go_wp2_with fail
        refine ⟨⟨j + 1, by omega, by go_num, (N3.out.trans_new U4.out).trans hu5 fun q hq hx => by have := (row_ge Hown4.out hx).1; omega, ?_, fun q h0 hq => ?_⟩, by simp [intOf]; omega⟩
        · have e1 : (ps.take (j + 1)).map Pf.sp = (ps.take j).map Pf.sp ++ [p.sp] := by rw [List.take_add_one, Hpj.out, List.map_append]; rfl
          have e2 : spc p.sp = #[.int .i64 p.a, .int .i64 (p.a + Z)] := by
            unfold spc Pf.sp
            have e3 : ((p.a.toNat : Nat) : Int) = p.a := by omega
            have e4 : ((p.a.toNat + 2 ^ (32 - p.n.toNat) : Nat) : Int) = p.a + Z := by rw [HZ.out, Int.natCast_add, e3]
            simp only
            rw [e3, e4]
          have e5 : ((ps.take j).map Pf.sp ++ [p.sp]).length = min j ps.length + 1 := by simp
          unfold OwnS
          rw [e1, e5, List.map_append, flat_append]
          have := hown5
          simpa [flat, e2] using this
        · by_cases hqj : q < j
          · exact Hzz.out q h0 hqj
          · obtain rfl : q = j := by omega
            rw [HF.out]; exact Hc.out
      · have Hck := hide (check_no p.a p.n E _ (H2.out.new n1) (H3.out.new n1) hc)
        have HF2 := hide HF.out
        have Hc := hide hc
        have N1 := hide n1
        clear hpj hc hnew n1
        go_wp2_with fail
        refine Hck.out.mono ?_
        rintro e w3 ⟨rfl, hu3⟩
        unfold errv
        have N3 := hide (N1.out.trans_new hu3)
        clear hu3
        go_wp2_with fail
        go_ret2
        have h1 := firstC_at (pfF ps) n 0 j (by omega) (by omega) (by rw [HF2.out]; exact Hc.out) Hzz.out
        rw [HF2.out] at h1
        have h5 : pfsC ps = (chk p.a p.n, (j : Int)) := by unfold pfsC; rw [Hn.out]; exact h1
        refine ⟨_, _, rfl, ?_, N3.out.alloc _, fun _ => rfl, fun h => absurd (by rw [h5] at h; exact h) Hc.out⟩
        rw [h5]
        exact .fault (Nat.pos_of_ne_zero Hc.out) (by have := chk_le p.a p.n; omega) (Blk.new _ _ _)
    · have hjn : j = n := by omega
      subst hjn
      have hown := Hown.out
      rw [List.take_of_length_le (by have := Hn.out; omega)] at hown
      have Hs := hide (sortSpans_any _ _ _ _ hown (by rw [List.length_map]; have := Hn.out; omega))
      have Hfc := hide (show pfsC ps = (0, -1) by unfold pfsC; exact firstC_no _ _ _ (fun i h1 h2 => Hzz.out i h1 (by have := Hn.out; omega)))
      clear Hown hlt hown hnew
      obtain ⟨l, hl3⟩ : ∃ l : Value, l = u4 := ⟨_, rfl⟩
      rw [← hl3] at Hs ⊢
      clear hl3
      go_wp2_with fail
      refine Hs.out.mono ?_
      rintro e w2 ⟨rfl, L, hp, hs, ho, hg⟩
      have N2 := hide (Hnew.out.trans (grown_upd (S := fun k => l.ownBlock = some k) hg fun g h => h) fun q hq hx => by have := (row_ge ho hx).1; omega)
      have Hp := hide hp
      have Hss := hide hs
      have hLn : L.length = j := by rw [hp.length_eq, List.length_map]; exact Hn.out
      have HL := hide hLn
      have HO := hide ho
      clear hp hs hg ho hLn Hs
      rcases HO.out.2 with ⟨rfl, h0⟩ | ⟨g, cap, _, hl, hgb, hgh, hnc, hcm, _⟩
      · obtain rfl : L = [] := List.eq_nil_of_length_eq_zero h0
        clear h0
        go_wp2_with fail
        go_loopw [8, 43] (fun k i wr => k = .int .i64 0 ∧ i = .int .i64 0 ∧ wr = w2) (fun _ i _ => 1 - (intOf i).toNat)
        case atStart => exact ⟨rfl, rfl, rfl⟩
        case round =>
          obtain ⟨rfl, rfl, rfl⟩ := hrel
          go_wp2_with fail
          go_ret2
          exact ⟨_, _, rfl, by rw [Hfc.out]; exact .nil, N2.out, fun h => absurd (show (pfsC ps).1 = 0 by rw [Hfc.out]) h, fun _ => ⟨[], Hp.out, Hss.out, HO.out⟩⟩
      · have hg2 : g < w2.heap.size := Blk.lt (t := TSp) hgh
        have HG := hide (And.intro hgb hg2)
        clear hgh hgb hg2
        have hlj : L.length = j := HL.out
        subst hl
        rw [hlj] at hnc
        have HO := hide (show OwnS w2 w.heap.size (.slice (some ⟨g, 0, none⟩) j cap) L by have := HO.out; rwa [hlj] at this)
        have Hnc := hide hnc
        rw [hlj]
        clear hlj hnc hcm
        go_wp2_with fail
        go_loopw [8, 43] (fun kv iv wr => ∃ (k i : Nat) (M : List (Nat × Nat)), i ≤ j ∧ kv = .int .i64 k ∧ iv = .int .i64 i ∧ Upd (fun q => q = g) w2 wr ∧ OwnS wr w.heap.size (.slice (some ⟨g, 0, none⟩) j cap) M ∧ M.drop i = L.drop i ∧ MgS L M k i) (fun _ iv _ => j - (intOf iv).toNat)
        case atStart => exact ⟨0, 0, L, by omega, rfl, rfl, Upd.refl _ _, HO.out, rfl, .inl ⟨rfl, rfl⟩⟩
        case round =>
          obtain ⟨k, i, M, hi, rfl, rfl, hu, ho, hd, hm⟩ := hrel
          have HM := hide hm
          have HD := hide hd
          have HW := hide ho
          have HU := hide hu
          clear hm hd ho hu
          by_cases hlt : i < j
          · have hMl := HW.out.len.1
            obtain ⟨s, hs1⟩ : ∃ s, M[i]? = some s := ⟨_, List.getElem?_eq_getElem (by omega)⟩
            have hLs : L[i]? = some s := by
              have h1 := congrArg (fun z : List (Nat × Nat) => z[0]?) HD.out
              simp only [List.getElem?_drop, Nat.add_zero] at h1
              rw [← h1]; exact hs1
            obtain ⟨c0, c1, f0, f1⟩ := HW.out.cells hs1
            have Hs1 := hide hs1
            have HLs := hide hLs
            have HMl := hide hMl
            have zg : g < wr.heap.size := Nat.lt_of_lt_of_le HG.out.2 HU.out.size
            have i5 : (i : Int) < (j : Int) := by omega
            have UA := hide ((Upd.refl (fun _ => False) wr).alloc (.cells #[.int .i64 (s.1 : Int), .int .i64 (s.2 : Int)] TSp))
            have BX := hide (Blk.new wr TSp #[.int .i64 (s.1 : Int), .int .i64 (s.2 : Int)])
            clear hs1 hLs hMl
            go_upto_region 15 with (fail)
            clear c0 c1 f0 f1
            have hgx : g ≠ wr.heap.size := by omega
            generalize wr.alloc (.cells #[.int .i64 (s.1 : Int), .int .i64 (s.2 : Int)] TSp) = W at *
            have HWW := hide (HW.out.new_ UA.out)
            have zW : g < W.heap.size := Nat.lt_of_lt_of_le zg UA.out.size
            generalize wr.heap.size = X at *
            have bx := BX.out
            have x0 := bx.cell 0
            have x1 := bx.cell 1
            have xz := bx.lt
            simp only [List.getElem?_toArray, List.getElem?_cons_zero, List.getElem?_cons_succ] at x0 x1
            clear bx zg
            rcases HM.out with ⟨hi0, hk0⟩ | ⟨q, c, hkq, hqi, hMq, hmg⟩
            · subst hi0
              subst hk0
              refine wp_region_new W (Upd.refl _ _) (by kernel_rfl) (by kernel_rfl) ?_
              repeat (go_big_quiet_step (fail))
              refine wpQuiet_nil ?_
              rintro _ ⟨nq, rfl⟩
              obtain ⟨wq, hu⟩ := nq
              dsimp only
              have HWq := hide (HWW.out.new_ hu)
              have bx := BX.out.new_ hu
              have y0 := bx.cell 0
              have y1 := bx.cell 1
              have yz := bx.lt
              simp only [List.getElem?_toArray, List.getElem?_cons_zero, List.getElem?_cons_succ] at y0 y1
              clear bx x0 x1 xz
              obtain ⟨g0, g1, fz0, fz1⟩ := HWq.out.cells (k := 0) (s := s) Hs1.out
              simp only [Nat.zero_mul, Nat.zero_add] at g0 g1 fz0 fz1
              have zq : g < wq.heap.size := Nat.lt_of_lt_of_le zW hu.size
              have Uq := hide hu
              clear hu
              go_wp2_with fail
              have hM0 : 0 < M.length := by have := HMl.out; omega
              have hw9 := HWq.out.put2 (k := 0) s hM0
              simp only [Nat.zero_mul, Nat.zero_add] at hw9
              refine ⟨⟨1, 1, M.set 0 s, by omega, rfl, rfl, (((HU.out.trans_new UA.out).trans_new Uq.out).setCell (p := ⟨g, 0, none⟩) (.inl rfl) _).setCell (p := ⟨g, 1, none⟩) (.inl rfl) _, hw9, ?_, .inr ⟨0, s, rfl, by omega, by simp [hM0], ?_⟩⟩, by simp [intOf]; omega⟩
              · have h1 := congrArg (List.drop 1) HD.out
                rw [List.drop_drop, List.drop_drop] at h1
                rw [List.drop_set]
                simpa using h1
              · have h1 := HLs.out
                cases L with
                | nil => simp at h1
                | cons a b => injection h1 with h1; subst h1; rfl
            · subst hkq
              obtain ⟨K, hK⟩ : ∃ K : Int, K = ((q + 1 : Nat) : Int) := ⟨_, rfl⟩
              rw [← hK]
              have iw : IntKind.i64.wrap (K - 1) = (q : Int) := by rw [hK]; rw [IntWalk.i64_in _ (by omega)]; omega
              have iw2 : wrap64 (K - 1) = (q : Int) := by rw [hK]; rw [IntWalk.wrap64_in _ ⟨by omega, by omega⟩]; omega
              have HK := hide hK
              have HMq := hide hMq
              have Hmg := hide hmg
              have i7 : (0 : Int) < (i : Int) := by omega
              have i9 : 0 < i := by omega
              have i8 : (q : Int) < (j : Int) := by omega
              obtain ⟨g0, g1, fz0, fz1⟩ := HWW.out.cells hMq
              have fb0 := BX.out.frozen 0
              clear hK hMq hmg
              by_cases hle : s.1 ≤ c.2
              · have hle2 : (s.1 : Int) ≤ (c.2 : Int) := by omega
                have Hle := hide hle
                clear hle
                refine wp_region_new W (Upd.refl _ _) (by kernel_rfl) (by kernel_rfl) ?_
                repeat (go_big_quiet_step (fail))
                refine wpQuiet_nil ?_
                rintro _ ⟨nq, rfl⟩
                obtain ⟨wq, hu⟩ := nq
                dsimp only
                have HWq := hide (HWW.out.new_ hu)
                have bx := BX.out.new_ hu
                have y0 := bx.cell 0
                have y1 := bx.cell 1
                have yf1 := bx.frozen 1
                have yz := bx.lt
                simp only [List.getElem?_toArray, List.getElem?_cons_zero, List.getElem?_cons_succ] at y0 y1
                clear bx x0 x1 xz g0 g1 fz0 fz1 fb0
                obtain ⟨g0, g1, fz0, fz1⟩ := HWq.out.cells HMq.out
                have zq : g < wq.heap.size := Nat.lt_of_lt_of_le zW hu.size
                have Uq := hide hu
                clear hu
                go_upto_region 16 with (fail)
                go_region
                all_goals
                  go_wp2_with fail
                  refine ⟨⟨q + 1, i + 1, M.set q (c.1, max c.2 s.2), by omega, by rw [HK.out], by go_num, (((HU.out.trans_new UA.out).trans_new Uq.out).setCell (p := ⟨g, q * 2 + 1, none⟩) (.inl rfl) _).drew, ?_, ?_, .inr ⟨q, (c.1, max c.2 s.2), rfl, by omega, ?_, ?_⟩⟩, by simp [intOf]; omega⟩
                  · have h1 := HWq.out.put1 (y := max c.2 s.2) HMq.out
                    rw [show ((max c.2 s.2 : Nat) : Int) = max (c.2 : Int) (s.2 : Int) by omega] at h1
                    exact h1.new_ (Upd.refl _ _).drew
                  · exact mg_drop HD.out (by omega)
                  · have := (List.getElem?_eq_some_iff.1 HMq.out).1
                    simp [this]
                  · rw [Hmg.out, mg_at HLs.out, if_pos Hle.out, mg_take]
              · have hle2 : ¬ (s.1 : Int) ≤ (c.2 : Int) := by omega
                have Hle := hide hle
                clear hle
                refine wp_region_new W (Upd.refl _ _) (by kernel_rfl) (by kernel_rfl) ?_
                repeat (go_big_quiet_step (fail))
                refine wpQuiet_nil ?_
                rintro _ ⟨nq, rfl⟩
                obtain ⟨wq, hu⟩ := nq
                dsimp only
                have HWq := hide (HWW.out.new_ hu)
                have bx := BX.out.new_ hu
                have y0 := bx.cell 0
                have y1 := bx.cell 1
                have yz := bx.lt
                simp only [List.getElem?_toArray, List.getElem?_cons_zero, List.getElem?_cons_succ] at y0 y1
                clear bx x0 x1 xz g0 g1 fz0 fz1 fb0 iw iw2
                have hM1 : q + 1 < M.length := by have := HMl.out; omega
                obtain ⟨d, hd1⟩ : ∃ d, M[q + 1]? = some d := ⟨_, List.getElem?_eq_getElem hM1⟩
                obtain ⟨g0, g1, fz0, fz1⟩ := HWq.out.cells hd1
                have zq : g < wq.heap.size := Nat.lt_of_lt_of_le zW hu.size
                have Uq := hide hu
                have HM1 := hide hM1
                clear hu hd1 hM1
                have hK := HK.out
                subst hK
                have i10 : (q : Int) + 1 < (j : Int) := by omega
                go_wp2_with fail
                refine ⟨⟨q + 2, i + 1, M.set (q + 1) s, by omega, by go_num, by go_num, (((HU.out.trans_new UA.out).trans_new Uq.out).setCell (p := ⟨g, (q + 1) * 2, none⟩) (.inl rfl) _).setCell (p := ⟨g, (q + 1) * 2 + 1, none⟩) (.inl rfl) _, HWq.out.put2 s HM1.out, mg_drop HD.out (by omega), .inr ⟨q + 1, s, rfl, by omega, by simp [HM1.out], ?_⟩⟩, by simp [intOf]; omega⟩
                rw [Hmg.out, mg_at HLs.out, if_neg Hle.out, mg_take, List.take_add_one, HMq.out, List.append_assoc]
                rfl
          · have hij : i = j := by omega
            subst hij
            have hML := HW.out.len
            obtain ⟨K, hK⟩ : ∃ K : Nat, K = k := ⟨_, rfl⟩
            have hkm : K ≤ M.length ∧ mergeL L = M.take K := by
              rcases HM.out with ⟨h0, h1⟩ | ⟨q, c9, h1, h3, h4, h5⟩
              · subst h0
                have hL0 : L = [] := List.eq_nil_of_length_eq_zero HL.out
                rw [hK, h1, hL0]
                exact ⟨by omega, rfl⟩
              · rw [List.drop_of_length_le (by rw [HL.out]; omega)] at h5
                rw [hK, h1, h5, List.take_add_one, h4]
                exact ⟨by omega, rfl⟩
            rw [← hK]
            have HKm := hide hkm
            have hk1 : K ≤ i := by have := hkm.1; omega
            have hk2 : K ≤ cap := by omega
            have HML := hide hML
            have Hnot := hide hlt
            clear hkm hML hK hlt
            go_wp2_with fail
            go_ret2
            refine ⟨_, _, rfl, by rw [Hfc.out]; exact .nil, N2.out.trans HU.out fun x hx e => by have := HG.out.1; omega, fun h => absurd (show (pfsC ps).1 = 0 by rw [Hfc.out]) h, fun _ => ⟨L, Hp.out, Hss.out, ?_⟩⟩
            rw [HKm.out.2]
            exact HW.out.front HKm.out.1
end Go.Proofs.YtignngpligicjaaDoor

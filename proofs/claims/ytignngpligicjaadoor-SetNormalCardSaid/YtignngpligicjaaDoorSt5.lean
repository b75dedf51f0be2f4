/- Package set: prefixes. No condition but those that stand in each theorem. -/
import Derived.Test.YtignngpligicjaaDoorSt4
import Derived.Test.YtignngpligicjaaDoorSp1
namespace Go.Proofs.YtignngpligicjaaDoor
open Go.RowKit

/-- A slice of the call's own that holds these prefixes. -/
def OwnP (w : World) (base : Nat) (v : Value) (l : List Pf) : Prop := w.ownsRow base TPf 2 v l.length (flat (l.map Pf.cells))
theorem OwnP.upd {S : Nat → Prop} {w w1 : World} {base : Nat} {v : Value} {l : List Pf} (h : OwnP w base v l) (hu : Upd S w w1) (hn : ∀ g, v.ownBlock = some g → ¬ S g) : OwnP w1 base v l := row_upd h hu hn
theorem OwnP.new_ {w w1 : World} {base : Nat} {v : Value} {l : List Pf} (h : OwnP w base v l) (hu : New w w1) : OwnP w1 base v l := row_new h hu
theorem shl_pow (K Z : Nat) (h : Z = 2 ^ K) (hK : K ≤ 32) : wrap64 (2 ^ K) = (Z : Int) := by
  subst h
  exact w64_pow K hK
theorem sum_top {f K Z t : Nat} (h : Z = 2 ^ K) (h1 : f + 2 ^ K ≤ t) (h2 : t ≤ 4294967296) : f + Z ≤ 4294967296 := by
  subst h
  omega
theorem wrap_sum (f Z : Nat) (h : f + Z ≤ 4294967296) : IntKind.i64.wrap ((f : Int) + (Z : Int)) = ((f + Z : Nat) : Int) ∧ wrap64 ((f : Int) + (Z : Int)) = ((f + Z : Nat) : Int) := by
  constructor
  · rw [IntWalk.i64_in _ (by omega)]; omega
  · rw [IntWalk.wrap64_in _ ⟨by omega, by omega⟩]; omega
def mF (X t : Nat) (w : World) : Nat := t - (intOf ((w.cell? ⟨X, 0, none⟩).getD undef)).toNat
theorem rowc {W : World} {g : Nat} {cs : Array Value} {t : TypeId} (hg : g = W.heap.size) : ∀ (j : Nat) (u : Value), cs.toList[j]? = some u → (W.alloc (.cells cs t)).cell? ⟨g, 0 + j, none⟩ = some u := fun j u hu => by
  subst hg
  rw [Nat.zero_add, (Blk.new W t cs).cell]
  simpa using hu
theorem mF_at {X t f : Nat} {w : World} (h : w.cell? ⟨X, 0, none⟩ = some (.int .i64 (f : Int))) : mF X t w = t - f := by unfold mF; rw [h]; rfl
/-- Spans that a slice holds. -/
def Sps (w : World) (A : Option Addr) (r : List (Nat × Nat)) : Prop := Rws w A 2 (r.map spc)
theorem sps_at {w : World} {A : Option Addr} {r : List (Nat × Nat)} (h : Sps w A r) {k : Nat} (hk : k < r.length) : ∃ b o s, A = some ⟨b, o, none⟩ ∧ b < w.heap.size ∧ r[k]? = some s ∧ w.cell? ⟨b, o + k * 2, none⟩ = some (.int .i64 (s.1 : Int)) ∧ w.cell? ⟨b, o + k * 2 + 1, none⟩ = some (.int .i64 (s.2 : Int)) := by
  obtain ⟨b, o, hA, hb, hc⟩ := h (by simpa using by omega)
  have hp : r[k]? = some r[k] := List.getElem?_eq_getElem hk
  have h1 := hc k (spc r[k]) (by simp [hp])
  exact ⟨b, o, r[k], hA, hb, hp, h1 0 _ rfl, h1 1 _ rfl⟩
theorem OwnS.sps {w : World} {base : Nat} {v : Value} {l : List (Nat × Nat)} (h : OwnS w base v l) : ∃ A cap, v = .slice A l.length cap ∧ l.length ≤ cap ∧ Sps w A l := by
  obtain ⟨A, cap, rfl, hn, hc, hr, _, _⟩ := rws_of_own (by omega) h (spc_size l)
  exact ⟨A, cap, rfl, hc, hr⟩
theorem OwnP.rws {w : World} {base : Nat} {v : Value} {l : List Pf} (h : OwnP w base v l) : ∃ A cap, v = .slice A l.length cap ∧ l.length ≤ cap ∧ Rws w A 2 (l.map Pf.cells) ∧ (∀ b o, A = some ⟨b, o, none⟩ → base ≤ b) := by
  obtain ⟨A, cap, rfl, hn, hc, hr, hb, _⟩ := rws_of_own (by omega) h (by intro r hr; obtain ⟨p, _, rfl⟩ := List.mem_map.1 hr; rfl)
  exact ⟨A, cap, rfl, hc, hr, hb⟩

theorem sub32 (K : Nat) (h : K ≤ 32) : IntKind.i64.wrap (32 - (K : Int)) = ((32 - K : Nat) : Int) ∧ wrap64 (32 - (K : Int)) = ((32 - K : Nat) : Int) := by
  constructor
  · rw [IntWalk.i64_in _ (by omega)]; omega
  · rw [IntWalk.wrap64_in _ ⟨by omega, by omega⟩]; omega
theorem u64_in (x : Nat) (h : x < 18446744073709551616) : IntKind.u64.wrap (x : Int) = (x : Int) := by
  simp [IntKind.wrap, IntKind.bits, IntKind.signed]; omega
theorem pre_facts {f t : Nat} (h : f < t) (ht : t ≤ 4294967296) : ∃ F D C L B K : Nat, C = Lib.ctz 64 F ∧ L = Lib.bitLen D ∧ F < 18446744073709551616 ∧ D < 18446744073709551616 ∧ Top f t K ∧
    IntKind.u64.wrap (f : Int) = (f : Int) ∧ bits .or .u64 (f : Int) 4294967296 = (F : Int) ∧ IntKind.i64.wrap ((t : Int) - (f : Int)) = (D : Int) ∧ IntKind.u64.wrap (D : Int) = (D : Int) ∧ IntKind.i64.wrap ((L : Int) - 1) = (B : Int) ∧ min (C : Int) (B : Int) = (K : Int) := by
  obtain ⟨htop, hc32, hb1, hb33⟩ := topK_ok h ht
  have hKm : min (Lib.ctz 64 (f + 4294967296)) (Lib.bitLen (t - f) - 1) = topK f t := rfl
  refine ⟨f + 4294967296, t - f, _, _, Lib.bitLen (t - f) - 1, topK f t, rfl, rfl, by omega, by omega, htop, u64_in f (by omega), or_high f (by omega), ?_, u64_in _ (by omega), ?_, ?_⟩
  · rw [IntWalk.i64_in _ (by omega)]; omega
  · rw [IntWalk.i64_in _ (by omega)]; omega
  · rw [← hKm]; omega
/-- How far a span is taken. -/
def PreR (w : World) (X : Nat) (P : List (Nat × Nat)) (s : Nat × Nat) (l : Value) (wr : World) : Prop := ∃ (f : Nat) (Q : List (Nat × Nat)), f ≤ s.2 ∧ New w wr ∧ Blk wr X TSp #[.int .i64 (f : Int), .int .i64 (s.2 : Int)] ∧ OwnP wr w.heap.size l ((P ++ Q).map pfOf) ∧ GreTo s.1 f s.2 Q ∧ (P ++ Q).length ≤ f
theorem pre_step {w w' wi : World} {X f K Z : Nat} {P Q : List (Nat × Nat)} {s : Nat × Nat} {v' : Value} (hu : New w w') (hb : Blk w' X TSp #[.int .i64 (f : Int), .int .i64 (s.2 : Int)]) (ho : OwnP w' w.heap.size v' ((P ++ Q).map pfOf ++ [pfOf (f, K)]))
    (ht : Top f s.2 K) (hg : GreTo s.1 f s.2 Q) (hq : (P ++ Q).length ≤ f) (zX : w.heap.size ≤ X) (hz : Z = 2 ^ K) (hm : mF X s.2 wi = s.2 - f) :
    PreR w X P s v' (w'.setCell ⟨X, 0, none⟩ (.int .i64 ((f : Int) + (Z : Int)))).drew ∧ mF X s.2 (w'.setCell ⟨X, 0, none⟩ (.int .i64 ((f : Int) + (Z : Int)))).drew < mF X s.2 wi := by
  have hzp : 0 < Z := by rw [hz]; exact pow_pos2 K
  have hfz : f + Z ≤ s.2 := by rw [hz]; exact ht.2.2.1
  have hg2 := greTo_snoc Q s.1 f s.2 K hg ht
  rw [← hz] at hg2
  clear hz ht
  have hn9 := (hu.setCell (p := ⟨X, 0, none⟩) (.inr zX) (.int .i64 ((f : Int) + (Z : Int)))).drew
  have hb9 : Blk (w'.setCell ⟨X, 0, none⟩ (.int .i64 ((f : Int) + (Z : Int)))).drew X TSp #[.int .i64 ((f + Z : Nat) : Int), .int .i64 (s.2 : Int)] := by
    have := (hb.set_ 0 (.int .i64 ((f : Int) + (Z : Int)))).drew
    rw [Int.natCast_add]
    simpa using this
  have ho9 : OwnP (w'.setCell ⟨X, 0, none⟩ (.int .i64 ((f : Int) + (Z : Int)))).drew w.heap.size v' ((P ++ Q).map pfOf ++ [pfOf (f, K)]) :=
    ho.upd (S := fun q => q = X) ((Upd.refl (fun q => q = X) w').setCell (p := ⟨X, 0, none⟩) (.inl rfl) _).drew (fun g h1 h2 => row_ne ho hb (by decide) (by rw [h1, h2]))
  have hcel := hb9.cell 0
  simp only [List.getElem?_toArray, List.getElem?_cons_zero] at hcel
  have hm2 := mF_at (t := s.2) hcel
  refine ⟨⟨f + Z, Q ++ [(f, K)], hfz, hn9, hb9, ?_, hg2, ?_⟩, ?_⟩
  · rw [← List.append_assoc, List.map_append]
    exact ho9
  · rw [← List.append_assoc, List.length_append]
    simp only [List.length_cons, List.length_nil]
    omega
  · rw [hm, hm2]
    omega

set_option maxRecDepth 20000 in
set_option maxHeartbeats 4000000 in
theorem prefixes_any (A : Option Addr) (n c : Nat) (r : List (Nat × Nat)) (w : World) (htz : TzOk w) (hx : Sps w A r) (hn : r.length = n) (hl : n ≤ 1000000) (ha : Apart r) :
    Calls Tryd.prog 31 #[.slice A n c] w fun e w1 => ∃ v P, e = .returned v ∧ Gres r P ∧ OwnP w1 w.heap.size v (P.map pfOf) ∧ P.length ≤ 4294967296 ∧ New w w1 := by
  obtain ⟨i0, hi0, hz0, hz1, hz2⟩ := info_parts info_TPf
  have Htz := hide htz
  have Hx := hide hx
  have Hn := hide hn
  have Ha := hide ha
  have Hi0 := hide hi0
  have Hz := hide (And.intro hz0 (And.intro hz1 hz2))
  clear htz hx hn ha hi0 hz0 hz1 hz2
  go_enter Tryd.func31, Tryd.ntmps31
  go_wp2_with fail
  go_loopw [3, 9] (fun l i wr => ∃ (j : Nat) (P : List (Nat × Nat)), j ≤ n ∧ i = .int .i64 j ∧ New w wr ∧ OwnP wr w.heap.size l (P.map pfOf) ∧ Gres (r.take j) P ∧ P.length ≤ 4294967296 ∧ ∀ s, r[j]? = some s → P.length ≤ s.1) (fun _ i _ => n - (intOf i).toNat)
  case atStart => exact ⟨0, [], by omega, rfl, Upd.refl _ _, World.ownsRow_nil _ _ _ _, rfl, by simp, fun s _ => by simp⟩
  case round =>
    obtain ⟨j, P, hj, rfl, hnew, hown, hg, hP, hPs⟩ := hrel
    have Hnew := hide hnew
    have Hown := hide hown
    have HGr := hide hg
    have HP := hide hP
    have HPs := hide hPs
    clear hown hg hP hPs
    obtain ⟨wo, rfl⟩ : ∃ wo : World, wo = wr := ⟨_, rfl⟩
    obtain ⟨l, hl3⟩ : ∃ l : Value, l = u3 := ⟨_, rfl⟩
    rw [← hl3] at Hown ⊢
    clear hl3
    by_cases hlt : j < n
    · obtain ⟨b, o, s, hA, hbw, hsj, e0, e1⟩ := sps_at (k := j) (show Sps wo A r from Hx.out.new_ hnew) (by have := Hn.out; omega)
      subst hA
      have Hsj := hide hsj
      have Hsp := hide (apart_at r Ha.out j s hsj)
      have i3 : (j : Int) < (n : Int) := by omega
      have BX := hide (Blk.new wo TSp #[.int .i64 (s.1 : Int), .int .i64 (s.2 : Int)])
      have UA := hide ((Upd.refl (fun _ => False) wo).alloc (.cells #[.int .i64 (s.1 : Int), .int .i64 (s.2 : Int)] TSp))
      have zX : w.heap.size ≤ wo.heap.size := hnew.size
      clear hsj hnew
      go_wp2_with fail
      clear e0 e1 hbw
      have Hown := hide (Hown.out.new_ UA.out)
      have Hnew := hide (Hnew.out.trans_new UA.out)
      generalize wo.alloc (.cells #[.int .i64 (s.1 : Int), .int .i64 (s.2 : Int)] TSp) = W at *
      generalize wo.heap.size = X at *
      go_loopw [3] (fun l wr => PreR w X P s l wr) (fun _ wr => mF X s.2 wr)
      case atStart => exact ⟨s.1, [], by have := Hsp.out; omega, Hnew.out, BX.out, by rw [List.append_nil]; exact Hown.out, rfl, by rw [List.append_nil]; exact HPs.out s Hsj.out⟩
      case round =>
        obtain ⟨f, Q, hf, hu, hb, ho, hgr, hq⟩ := hrel
        have HU := hide hu
        have HB := hide hb
        have HO := hide ho
        have HG := hide hgr
        have HQ := hide hq
        have zXr := hb.lt
        have x0 := hb.cell 0
        have x1 := hb.cell 1
        simp only [List.getElem?_toArray, List.getElem?_cons_zero, List.getElem?_cons_succ] at x0 x1
        have Hm := hide (mF_at (t := s.2) x0)
        have hsp := Hsp.out
        clear hu hb ho hgr hq Hown BX
        obtain ⟨wi, rfl⟩ : ∃ wi : World, wi = wr := ⟨_, rfl⟩
        obtain ⟨l, hl3⟩ : ∃ l : Value, l = u3 := ⟨_, rfl⟩
        rw [← hl3] at HO ⊢
        clear hl3
        by_cases hlt2 : f < s.2
        · obtain ⟨F, D, C, L, B, K, hC, hL, hF, hD, htop, ir1, ir2, ir3, ir4, ir5, ir6⟩ := pre_facts hlt2 hsp.2
          have htz := fun w' h => tz_any F hF w' h
          have hbl := fun w' => bitlen_any D hD w'
          rw [← hC] at htz
          rw [← hL] at hbl
          have i1 : (f : Int) < (s.2 : Int) := Int.ofNat_lt.2 hlt2
          have Htop := hide htop
          have Htz2 := hide htz
          have Hbl := hide hbl
          clear htop hF hD htz hbl hC hL
          go_upto_region 6 with (fail)
          refine wp_region_new wi (Upd.refl _ _) (by kernel_rfl) (by kernel_rfl) ?_
          repeat (go_big_quiet_step (first | (go_at_call 59; exact new_call_same (Htz2.out _ ((Htz.out.new HU.out).new (NewW.h _)))) | (go_at_call 60; exact new_call_same (Hbl.out _))))
          refine wpQuiet_nil ?_
          rintro _ ⟨nq, rfl⟩
          obtain ⟨wq, hu⟩ := nq
          dsimp only
          have HB := hide (HB.out.new_ hu)
          have HO := hide (HO.out.new_ hu)
          have HU := hide (HU.out.trans_new hu)
          clear hu ir1 ir2 ir3 ir4 ir5 ir6 x0 x1 zXr
          have x0 := HB.out.cell 0
          have x1 := HB.out.cell 1
          have zXr := HB.out.lt
          simp only [List.getElem?_toArray, List.getElem?_cons_zero, List.getElem?_cons_succ] at x0 x1
          have hK32 : K ≤ 32 := Htop.out.1
          obtain ⟨ir7, ir8⟩ := sub32 K hK32
          have hft := Htop.out.2.2.1
          have hz0 := pow_pos2 K
          have hq9 := HQ.out
          have hlen9 : ((P ++ Q).map pfOf).length = (P ++ Q).length := List.length_map ..
          obtain ⟨R, hR⟩ : ∃ R, R = (P ++ Q).map pfOf := ⟨_, rfl⟩
          rw [← hR] at HO hlen9
          have hlR : R.length ≤ f := by omega
          have HR := hide hR
          clear hR hlen9 hq9
          go_upto_region 7 with (fail)
          go_wp2_with (at_builtin; refine append_src rfl (.tmp 32) (.tmp 38) 22 rfl w.heap.size TPf i0 _ 2 16 Tryd.underlying22 Hi0.out Hz.out.1 Hz.out.2.1 Hz.out.2.2 rfl (by omega) l _ _ rfl (HO.out.alloc _) (some ⟨wq.heap.size, 0, none⟩) 1 1 [.int .i64 (f : Int), .int .i64 ((32 - K : Nat) : Int)] rfl rfl (fun _ => ⟨_, _, rfl, rowc rfl⟩) (by simp [Value.oneCell']) (by unfold maxLen; omega) (by omega) (by have := HU.out.size; simp; omega) ?_)
          intro v' w' ho hg
          have hu5 : Upd (fun q => l.ownBlock = some q) wq w' := ((Upd.refl _ wq).alloc _).trans' (grown_upd hg fun g h => h)
          have HU5 := hide (HU.out.trans hu5 fun q hq hx => by have := (row_ge HO.out hx).1; omega)
          have HB5 := hide (HB.out.upd hu5 (row_ne HO.out HB.out (by decide)))
          have HO5 := hide (show OwnP w' w.heap.size v' (R ++ [pfOf (f, K)]) by
            unfold OwnP
            rw [List.map_append, flat_append, List.length_append]
            simpa [flat, pfOf, Pf.cells] using ho)
          clear ho hg hu5 x0 x1 zXr
          have x0 := HB5.out.cell 0
          have x1 := HB5.out.cell 1
          have xf := HB5.out.frozen 0
          have zXr := HB5.out.lt
          simp only [List.getElem?_toArray, List.getElem?_cons_zero, List.getElem?_cons_succ] at x0 x1
          obtain ⟨Z, hZ⟩ : ∃ Z : Nat, Z = 2 ^ K := ⟨_, rfl⟩
          have js1 := shl_pow K Z hZ hK32
          have js4 := sum_top hZ hft hsp.2
          obtain ⟨js2, js3⟩ := wrap_sum f Z js4
          have HZ9 := hide hZ
          clear hZ ir7 ir8 hft hz0 hlR
          go_upto_region 8 with (fail)
          go_region
          all_goals
            go_wp2_with fail
            exact pre_step HU5.out HB5.out (by have h9 := HO5.out; rw [HR.out] at h9; exact h9) Htop.out HG.out HQ.out zX HZ9.out Hm.out
        · have i1 : ¬ (f : Int) < (s.2 : Int) := by omega
          have Hfs := hide (show f = s.2 by omega)
          clear hlt2 hsp hf
          go_wp2_with fail
          have e1 : r.take (j + 1) = r.take j ++ [s] := by rw [List.take_add_one, Hsj.out]; rfl
          have hg9 := HG.out
          rw [Hfs.out] at hg9
          have hq9 := HQ.out
          rw [Hfs.out] at hq9
          refine ⟨⟨j + 1, P ++ Q, by omega, by go_num, HU.out, HO.out, ?_, Nat.le_trans hq9 Hsp.out.2, fun t ht => ?_⟩, by simp [intOf]; omega⟩
          · rw [e1]
            exact gres_snoc _ _ _ _ HGr.out (greTo_gre Q s.1 s.2 hg9)
          · have := apart_next r Ha.out j (j + 1) s t Hsj.out ht (by omega)
            omega
    · have hjn : j = n := by omega
      subst hjn
      have hg9 := HGr.out
      rw [List.take_of_length_le (by have := Hn.out; omega)] at hg9
      have HG9 := hide hg9
      clear hg9 hlt
      go_wp2_with fail
      go_ret
      exact ⟨_, P, rfl, HG9.out, Hown.out, HP.out, Hnew.out⟩
end Go.Proofs.YtignngpligicjaaDoor

/- Rows of spans joined by the library: Grow, Concat. No condition but those that stand in each theorem. -/
import Derived.Test.YtignngpligicjaaGreatDoorSt7
import Derived.Lib.AppendZeros
namespace Go.Proofs.YtignngpligicjaaGreatDoor
open Go.RowKit

set_option maxHeartbeats 1000000 in
theorem grow_any (n : Nat) (w : World) (hn : n ≤ 10000000) :
    Calls Tryz.prog 149 #[.slice none 0 0, .int .i64 n] w fun e w1 => ∃ v, e = .returned v ∧ OwnS w1 w.heap.size v [] ∧ New w w1 := by
  by_cases h0 : n = 0
  · subst h0
    go_enter Tryz.func149, Tryz.ntmps149
    go_wp2_with fail
    go_ret
    exact ⟨_, rfl, World.ownsRow_nil _ _ _ _, Upd.refl _ _⟩
  · obtain ⟨i0, hi0, hz0, hz1, hz2⟩ := info_parts info_TSp
    have hr := fun (w : World) => Go.Lib.run_append_nil_zeros (P := Tryz.prog) w 94 3 94 TSp i0 _ .i64 .i64 Tryz.underlying94 Tryz.underlying3 hi0 hz0 n (by omega) (by rw [hz1]; omega) (by omega) (by rw [hz2]; omega)
    have Hr := hide hr
    have i1 : (0 : Int) < (n : Int) := by omega
    have i2 : 0 < n := by omega
    have hcap := fun (w : World) => grownCap_ge w n 0 TSp
    have Hcap := hide hcap
    have Hm := hide (fun (w : World) => grownCap_le_maxLen w n 0 TSp (by unfold maxLen; omega))
    clear hr h0 hcap hi0 hz0 hz1 hz2
    go_enter Tryz.func149, Tryz.ntmps149
    go_wp2_with (at_builtin; refine Go.Lib.wpList_append_run _ rfl _ _ _ _ rfl _ _ rfl rfl _ _ (Hr.out _) ?_)
    go_ret
    refine ⟨_, rfl, ⟨rfl, .inr ⟨w.heap.size, grownCap w n 0 TSp, _, rfl, Nat.le_refl _, Blk.new w TSp _, Nat.zero_le _, Hm.out w, ?_, rfl⟩⟩, ((Upd.refl _ w).alloc _).drew⟩
    have h1 := Hcap.out w
    rw [Array.size_append, size_zeroCells, size_zeroCells]
    simp only [List.size_toArray, List.length_cons, List.length_nil]
    omega

abbrev TSS : TypeId := 94
theorem own_join {w : World} {base : Nat} {v : Value} {x y : List (Nat × Nat)} (h : w.ownsRow base TSp 2 v (x.length + y.length) (flat (x.map spc) ++ flat (y.map spc))) : OwnS w base v (x ++ y) := by
  unfold OwnS
  rw [List.map_append, flat_append, List.length_append]
  exact h
theorem one_flat (l : List (Nat × Nat)) : ∀ u ∈ flat (l.map spc), u.oneCell' = true := fun u hu => by
  unfold flat at hu
  obtain ⟨r, hr, hu⟩ := List.mem_flatMap.1 hu
  obtain ⟨s, _, rfl⟩ := List.mem_map.1 hr
  unfold spc at hu
  simp at hu
  rcases hu with rfl | rfl <;> rfl
theorem sps_flat {w : World} {A : Option Addr} {x : List (Nat × Nat)} (h : Sps w A x) (h0 : 0 < x.length) : ∃ b q, A = some ⟨b, q, none⟩ ∧ ∀ (j : Nat) (u : Value), (flat (x.map spc))[j]? = some u → w.cell? ⟨b, q + j, none⟩ = some u :=
  Rws.flat (by omega) h (spc_size x) (by simpa using h0)
theorem len_flat (l : List (Nat × Nat)) : (flat (l.map spc)).length = l.length * 2 := by rw [flat_length _ (spc_size l)]; simp

set_option maxRecDepth 8000 in
set_option maxHeartbeats 4000000 in
theorem concat_any (B c1 c2 : Nat) (A1 A2 : Option Addr) (x y : List (Nat × Nat)) (w : World) (hB : Blk w B TSS #[.slice A1 x.length c1, .slice A2 y.length c2]) (hx : Sps w A1 x) (hy : Sps w A2 y) (l1 : x.length ≤ 1000000) (l2 : y.length ≤ 1000000) :
    Calls Tryz.prog 116 #[.slice (some ⟨B, 0, none⟩) 2 2] w fun e w1 => ∃ v, e = .returned v ∧ OwnS w1 w.heap.size v (x ++ y) ∧ New w w1 := by
  obtain ⟨i0, hi0, hz0, hz1, hz2⟩ := info_parts info_TSp
  have lf1 := len_flat x
  have lf2 := len_flat y
  have Lf1 := hide lf1
  have Lf2 := hide lf2
  have HB := hide hB
  have Hx := hide hx
  have Hy := hide hy
  have Hi0 := hide hi0
  have Hz := hide (And.intro hz0 (And.intro hz1 hz2))
  clear hx hy hB hi0 hz0 hz1 hz2 lf1 lf2
  generalize hn1 : x.length = n1 at *
  generalize hn2 : y.length = n2 at *
  have Hn1 := hide hn1
  have Hn2 := hide hn2
  clear hn1 hn2
  have Hgr := hide (fun w => grow_any (n1 + n2) w (by omega))
  go_enter Tryz.func116, Tryz.ntmps116
  go_wp2_with fail
  go_loopw [3, 11] (fun sz iv wr => wr = w ∧ ((iv = .int .i64 0 ∧ sz = .int .i64 0) ∨ (iv = .int .i64 1 ∧ sz = .int .i64 (n1 : Int)) ∨ (iv = .int .i64 2 ∧ sz = .int .i64 ((n1 + n2 : Nat) : Int)))) (fun _ iv _ => 3 - (intOf iv).toNat)
  case atStart => exact ⟨rfl, .inl ⟨rfl, rfl⟩⟩
  case round =>
    have c0 := HB.out.cell 0
    have c1' := HB.out.cell 1
    have zb := HB.out.lt
    simp only [List.getElem?_toArray, List.getElem?_cons_zero, List.getElem?_cons_succ] at c0 c1'
    obtain ⟨rfl, ⟨rfl, rfl⟩ | ⟨rfl, rfl⟩ | ⟨rfl, rfl⟩⟩ := hrel
    · have j1 : ¬ (n1 : Int) < 0 := by omega
      go_wp2_with fail
      exact ⟨⟨by trivial, .inr (.inl ⟨rfl, rfl⟩)⟩, by simp [intOf]⟩
    · have j1 : ¬ ((n1 : Int) + (n2 : Int)) < 0 := by omega
      go_wp2_with fail
      exact ⟨⟨by trivial, .inr (.inr ⟨rfl, by go_num⟩)⟩, by simp [intOf]⟩
    · obtain ⟨K, hK⟩ : ∃ K : Int, K = ((n1 + n2 : Nat) : Int) := ⟨_, rfl⟩
      rw [← hK] at Hgr ⊢
      clear hK
      go_wp2_with fail
      refine (Hgr.out _).mono ?_
      rintro e w1 ⟨v, rfl, ho, hu⟩
      have HO := hide ho
      have U := hide hu
      clear ho hu c0 c1' zb
      go_wp2_with fail
      obtain ⟨w0, rfl⟩ : ∃ w0 : World, w0 = wr := ⟨_, rfl⟩
      go_loopw [6, 27] (fun nv iv wz => New w0 wz ∧ ((iv = .int .i64 0 ∧ OwnS wz w0.heap.size nv []) ∨ (iv = .int .i64 1 ∧ OwnS wz w0.heap.size nv x) ∨ (iv = .int .i64 2 ∧ OwnS wz w0.heap.size nv (x ++ y)))) (fun _ iv _ => 3 - (intOf iv).toNat)
      case atStart => exact ⟨U.out, .inl ⟨rfl, HO.out⟩⟩
      case round =>
        obtain ⟨hu, hc⟩ := hrel
        have N := hide hu
        have hb := HB.out.new_ hu
        have c0 := hb.cell 0
        have c1' := hb.cell 1
        have zb := hb.lt
        simp only [List.getElem?_toArray, List.getElem?_cons_zero, List.getElem?_cons_succ] at c0 c1'
        have hsz : w0.heap.size ≤ wr.heap.size := hu.size
        clear hb hu
        have sx := fun h => sps_flat (show Sps wr A1 x from Hx.out.new_ N.out) h
        have sy := fun h => sps_flat (show Sps wr A2 y from Hy.out.new_ N.out) h
        have Sx := hide sx
        have Sy := hide sy
        clear sx sy
        rcases hc with ⟨rfl, ho⟩ | ⟨rfl, ho⟩ | ⟨rfl, ho⟩
        · have HO := hide ho
          clear ho
          go_wp2_with (at_builtin; refine append_src rfl (.tmp 31) (.tmp 32) 94 rfl w0.heap.size TSp i0 _ 2 16 Tryz.underlying94 Hi0.out Hz.out.1 Hz.out.2.1 Hz.out.2.2 rfl (by omega) _ 0 [] rfl HO.out A1 n1 c1 (flat (x.map spc)) rfl (by rw [Lf1.out]) (fun h => Sx.out (by have := Hn1.out; omega)) (one_flat x) (by unfold maxLen; omega) (by omega) hsz ?_)
          intro v' w' ho hg
          have N9 := hide (N.out.trans (grown_upd (S := fun q => Value.ownBlock _ = some q) hg fun g h => h) fun q hq hx => by have := (row_ge HO.out hx).1; omega)
          have O9 := hide (show OwnS w' w0.heap.size v' x by unfold OwnS; rw [Hn1.out]; exact ho)
          clear ho hg
          go_wp2_with fail
          exact ⟨⟨N9.out, .inr (.inl ⟨rfl, O9.out⟩)⟩, by simp [intOf]⟩
        · have HO := hide ho
          have hl0 := ho.1
          clear ho
          go_wp2_with (at_builtin; refine append_src rfl (.tmp 31) (.tmp 32) 94 rfl w0.heap.size TSp i0 _ 2 16 Tryz.underlying94 Hi0.out Hz.out.1 Hz.out.2.1 Hz.out.2.2 rfl (by omega) _ x.length (flat (x.map spc)) rfl HO.out A2 n2 c2 (flat (y.map spc)) rfl (by rw [Lf2.out]) (fun h => Sy.out (by have := Hn2.out; omega)) (one_flat y) (by have := Hn1.out; unfold maxLen; omega) (by have := Hn1.out; omega) hsz ?_)
          intro v' w' ho hg
          have N9 := hide (N.out.trans (grown_upd (S := fun q => Value.ownBlock _ = some q) hg fun g h => h) fun q hq hx => by have := (row_ge HO.out hx).1; omega)
          have O9 := hide (show OwnS w' w0.heap.size v' (x ++ y) from own_join (by rw [Hn2.out]; exact ho))
          clear ho hg
          go_wp2_with fail
          exact ⟨⟨N9.out, .inr (.inr ⟨rfl, O9.out⟩)⟩, by simp [intOf]⟩
        · have HO := hide ho
          clear ho
          go_wp2_with fail
          go_ret
          exact ⟨_, rfl, HO.out, N.out⟩
end Go.Proofs.YtignngpligicjaaGreatDoor

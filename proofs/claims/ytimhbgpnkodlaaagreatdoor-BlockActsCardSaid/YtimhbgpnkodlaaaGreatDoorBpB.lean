/- Package block: Loose: what a host has outside its blocks, rising. No condition but those that stand in each theorem. -/
import Derived.Test.YtimhbgpnkodlaaaGreatDoorBpA
import Derived.Test.YtimhbgpnkodlaaaGreatDoorSt1
namespace Go.Proofs.YtimhbgpnkodlaaaGreatDoor
open Go.RowKit Go.Maps
section
variable {w w1 : World} {kp bm tm : Nat} {p : Pf} {L : Int} {c : PoolC} {E : Nat → Addr} {host : Int}
theorem plbegin_adr (hg : PoolG p L) (h : PoolM w kp bm tm p L c) (i : Nat) (hi : i < plN p) :
    Calls Tryz.prog 32 #[.pointer (some ⟨kp, 0, none⟩), .int .i64 (p.a + (i : Int))] w fun e w1 => e = .returned (.int .i64 (adr p L (i / plZ L))) ∧ New w w1 :=
  (plbegin_any hg h i hi).mono fun e w1 ⟨he, n, hn⟩ => ⟨he, by rw [hn]; exact (Upd.refl _ _).drewN n⟩
/-- Is an address loose? -/
def isLoose (p : Pf) (L : Int) (c : PoolC) (host : Int) (x : Int) : Bool := decide (atT p.a c x = host) && decide (atB p.a (plZ L) c (beginZ p.a (plZ L) x) ≠ host)
theorem isLoose_at (i : Nat) : isLoose p L c host (p.a + (i : Int)) = (decide (c.T i = host) && decide (c.B (i / plZ L) ≠ host)) := by
  unfold isLoose
  rw [atT_place, block_of p.a c (plZ_pos L)]
/-- A number is put behind. -/
theorem wpList_app1 {ops : Array Oper} {rest : List Oper} {o : Oper} {a : Act} {Q : Exit → Act → World → Prop} (w : World) (hgd : o.guard = none) (s x : Operand) (ho : o.op = .call { callee := .builtin .append, args := #[s, x], argTypes := #[49, 49] })
    (base g : Nat) (v : Value) (l : List Int) (y : Int) (hs : a.eval s = v) (hx : a.eval x = .slice (some ⟨g, 0, none⟩) 1 1) (hown : OwnI w base v l) (hb : Blk w g 3 #[.int .i64 y]) (hl : l.length < 5000) (hbase : base ≤ w.heap.size)
    (hK : ∀ v2 w2, OwnI w2 base v2 (l ++ [y]) → w.grownBy w2 v.ownBlock → wpList Tryz.prog ops Q rest (a.put o.dst v2) w2) : wpList Tryz.prog ops Q (o :: rest) a w := by
  obtain ⟨i0, hi0, hz0, hz1, hz2⟩ := info_parts info_TI
  refine wpList_append_own w hgd s x 49 ho base 3 i0 _ 1 8 Tryz.underlying49 hi0 hz0 hz1 hz2 rfl (by decide) v l.length (l.map (.int .i64)) hs hown ⟨g, 0, none⟩ 1 1 [.int .i64 y] hx rfl
    (fun j u hu => by
      match j, hu with
      | 0, hu => simp at hu; subst hu; exact hb.cell 0
      | k + 1, hu => simp at hu) (fun u hu => by simp at hu; subst hu; rfl) (by unfold maxLen; omega) (by omega) hbase fun v2 w2 h2 h3 _ => hK v2 w2 ?_ h3
  unfold OwnI
  rw [List.length_append, List.map_append]
  exact h2
/-- What the range has met. -/
structure LsW (w wr : World) (tm r : Nat) (p : Pf) (L : Int) (c : PoolC) (host : Int) (v : Value) (out : List Int) (left : Int → Bool) (cnt : Nat) : Prop where
  new : New w wr
  row : OwnI wr w.heap.size v out
  rng : MapR Tryz.prog 3 3 wr tm r (atT p.a c) left cnt
  met : Met (atT p.a c) (isLoose p L c host) left out
  len : out.length + cnt ≤ cntC (plN p) c.T
theorem MapR.not_row {P : Program} {k e t : TypeId} {wr : World} {b r cnt base size n : Nat} {f : Int → Int} {left : Int → Bool} {v : Value} {xs : List Value} (h : MapR P k e wr b r f left cnt) (hr : wr.ownsRow base t size v n xs) : v.ownBlock ≠ some r := fun he => by
  obtain ⟨D, n2, L, ⟨es, clock, since, seen, c0, g1, g2, g3, g4, g5, g6⟩, h2⟩ := h
  rcases hr.2 with ⟨rfl, _⟩ | ⟨g, cap, cur, rfl, _, hh, _⟩
  · simp [Value.ownBlock] at he
  · have : g = r := by simpa [Value.ownBlock] using he
    subst this
    rw [hh] at g5
    cases g5
theorem MapR.kept_row {P : Program} {k e t : TypeId} {wr w2 : World} {b r cnt base size n : Nat} {f : Int → Int} {left : Int → Bool} {v : Value} {xs : List Value} (h : MapR P k e wr b r f left cnt) (hr : wr.ownsRow base t size v n xs) (hb : b < base) (hg : wr.grownBy w2 v.ownBlock) : MapR P k e w2 b r f left cnt :=
  h.upd (Upd.of_grown (S := fun q => v.ownBlock = some q) hg fun k _ e => e) (fun e => by have := (row_ge hr e).1; omega) (h.not_row hr)
theorem LsW.one {wr w2 : World} {r : Nat} {v : Value} {out : List Int} {left left2 : Int → Bool} {cnt cnt2 : Nat} (h : LsW w wr tm r p L c host v out left cnt) (hr : w.heap.size ≤ r) (hu : Upd (fun q => q = r) wr w2) (hm : MapR Tryz.prog 3 3 w2 tm r (atT p.a c) left2 cnt2) : New w w2 ∧ OwnI w2 w.heap.size v out :=
  ⟨h.new.trans hu fun k hk e => by omega, row_upd h.row hu fun g hg e => h.rng.not_row h.row (e ▸ hg)⟩
/-- What a host has loose; nobody has nothing. -/
def looseH (n z : Nat) (a0 : Int) (c : PoolC) (h : Int) : List Int := if h = 0 then [] else looseZ n z a0 c h

set_option maxRecDepth 20000 in
set_option maxHeartbeats 4000000 in
theorem plloose_any (hg : PoolG p L) (h : PoolM w kp bm tm p L c) (host : Int) :
    Calls Tryz.prog 21 #[.pointer (some ⟨kp, 0, none⟩), .int .i64 host] w fun e w1 => ∃ v, e = .returned v ∧ OwnI w1 w.heap.size v (looseH (plN p) (plZ L) p.a c host) ∧ New w w1 := by
  have c4 : w.cell? ⟨kp, 4, none⟩ = some (.map (some tm)) := h.blk.cell 4
  have z0 := h.blk.lt
  have hn := hg.n_le
  have hcn := cntC_le (plN p) c.T
  have HT := hide h.T
  have Hh := hide h
  have Hg := hide hg
  clear h hg
  go_enter Tryz.func21, Tryz.ntmps21
  go_wp2_with (first
    | (at_range; refine wpList_rng _ rfl _ 53 rfl 3 3 Tryz.underlying3 Tryz.underlying53 tm _ _ rfl HT.out ?_; intro w0 hr0 hu0)
    | go_in)
  go_frame
  go_loopw [5] (fun v wr => ∃ (out : List Int) (left : Int → Bool) (cnt : Nat), LsW w wr tm w.heap.size p L c host v out left cnt) (fun _ wr => wr.rangeLeft tm w.heap.size)
  case atStart => exact ⟨[], _, _, hu0, World.ownsRow_nil _ _ _ _, hr0, Met.start _ _, by simp⟩
  case round =>
    obtain ⟨out, left, cnt, hls⟩ := hrel
    have Hls := hide hls
    have Hrg := hide hls.rng
    clear hls
    go_wp2_with (first
      | (at_next; refine wpList_step _ rfl _ rfl 3 3 Tryz.underlying3 Tryz.underlying3 tm w.heap.size _ _ _ rfl Hrg.out ?_ ?_)
      | go_in)
    · intro hall
      have Hall := hide hall
      have hll := Hls.out.len
      clear hall
      go_wp2_with ((go_at_call 39; refine (sortInts_any _ _ _ _ Hls.out.row (by omega)).mono ?_; rintro e w' ⟨rfl, l2, hp2, hs2, ho2, hg2⟩))
      go_ret
      refine ⟨_, rfl, ?_, Hls.out.new.trans (Upd.of_grown (S := fun k => w.heap.size ≤ k) hg2 fun k _ e => (row_ge Hls.out.row e).1) fun k hk hx => by omega⟩
      have he : l2 = looseH (plN p) (plZ L) p.a c host := by
        unfold looseH
        by_cases h0 : host = 0
        · rw [if_pos h0]
          subst h0
          have e0 := Met.none_ Hls.out.met
          rw [e0] at hp2
          exact List.perm_nil.1 hp2
        · rw [if_neg h0]
          exact loose_sorted hp2 hs2 (Met.loose (plZ_pos L) Hh.out.out Hls.out.met Hall.out h0)
      rw [← he]
      exact ho2
    · intro x w1 cnt1 hx64 hlx hfx hr1 hlt hu1 hen
      obtain ⟨i, hi, rfl, hT⟩ := atT_in Hh.out.out hfx
      obtain ⟨hn1, ho1⟩ := Hls.out.one (Nat.le_refl _) hu1 hr1
      have pm := Hh.out.new_ hn1
      have hat := atT_place p.a c i
      rw [hat] at hen ⊢
      have hr1 : MapR Tryz.prog 3 3 w1 tm w.heap.size (atT p.a c) (fun z => left z && decide (z ≠ p.a + (i : Int))) cnt1 := by simpa only [ne_eq, decide_not] using hr1
      have hll := Hls.out.len
      have c3 : w1.cell? ⟨kp, 3, none⟩ = some (.map (some bm)) := pm.blk.cell 3
      have z1 := pm.blk.lt
      have Hlo := hide (isLoose_at (p := p) (L := L) (c := c) (host := host) i)
      have Hi := hide hi
      have Hlx := hide hlx
      have Hfx := hide hfx
      have Hr1 := hide hr1
      have Hlt := hide hlt
      have Hn1 := hide hn1
      have Ho1 := hide ho1
      have Hpm := hide pm
      have hjm := Hg.out.pp.in_block Hi.out
      have hl : ∀ n : NewW w1, (Instr.lookup 53 (.map (some bm)) (.int .i64 (adr p L (i / plZ L))) false).run Tryz.prog n.w = .ok (.int .i64 (c.B (i / plZ L))) n.w := fun n => (Hpm.out.new_ n.h).lookB Hg.out hjm
      clear hi hlx hfx hr1 hlt hn1 ho1 pm hx64 hT hat hu1 hjm
      go_upto_region 5 with (fail)
      by_cases h1 : c.T i = host
      · have hb1 : (c.T i == host) = true := by simpa using h1
        have H1 := hide h1
        clear h1
        by_cases h2 : c.B (i / plZ L) = host
        · have hb2 : (c.B (i / plZ L) != host) = false := by simpa using h2
          have H2 := hide h2
          clear h2
          refine wp_region_new w1 (Upd.refl _ _) (by kernel_rfl) (by kernel_rfl) ?_
          repeat (go_big_quiet_step ((go_at_call 32; exact new_call (plbegin_adr Hg.out (Hpm.out.new_ (NewW.h _)) i Hi.out))))
          refine wpQuiet_nil ?_
          rintro _ ⟨nq, rfl⟩
          go_wp2_with fail
          have hr2 := Hr1.out.new_ nq.h
          exact ⟨⟨out, _, cnt1, Hn1.out.trans_new nq.h, row_new Ho1.out nq.h, hr2, Hls.out.met.no (by rw [Hlo.out, decide_eq_false (p := c.B (i / plZ L) ≠ host) (fun hx => hx H2.out), Bool.and_false]), by have := Hlt.out; omega⟩, by rw [hr2.many, Hrg.out.many]; exact Hlt.out⟩
        · have hb2 : (c.B (i / plZ L) != host) = true := by simpa using h2
          have H2 := hide h2
          clear h2
          refine wp_region_new w1 (Upd.refl _ _) (by kernel_rfl) (by kernel_rfl) ?_
          repeat (go_big_quiet_step ((go_at_call 32; exact new_call (plbegin_adr Hg.out (Hpm.out.new_ (NewW.h _)) i Hi.out))))
          refine wpQuiet_nil ?_
          rintro _ ⟨nq, rfl⟩
          have Ho2 := hide (row_new Ho1.out nq.h)
          have hnw := nq.h.size
          have hnz := Hn1.out.size
          go_wp2_with (first
            | (at_builtin; refine wpList_app1 _ rfl _ _ rfl w.heap.size _ _ _ _ rfl rfl (row_new Ho2.out ((Upd.refl _ _).alloc _)) (Blk.new _ _ _) (by omega) (by simp; omega) ?_; intro v2 w2 ho2 hg2)
            | go_in)
          have ua : New nq.w (nq.w.alloc (.cells #[.int .i64 (p.a + (i : Int))] 3)) := (Upd.refl _ _).alloc _
          have hrw := row_new Ho2.out ua
          have hr2 := ((Hr1.out.new_ nq.h).new_ ua).kept_row hrw HT.out.lt hg2
          exact ⟨⟨out ++ [p.a + (i : Int)], _, cnt1, ((Hn1.out.trans_new nq.h).trans_new ua).trans (Upd.of_grown (S := fun k => w.heap.size ≤ k) hg2 fun k _ e => (row_ge hrw e).1) (fun k hk hx => by omega), ho2, hr2,
            Hls.out.met.yes (by rw [Hlo.out, decide_eq_true H1.out, decide_eq_true H2.out]; rfl) Hlx.out Hfx.out, by have := Hlt.out; rw [List.length_append, List.length_singleton]; omega⟩, by rw [hr2.many, Hrg.out.many]; exact Hlt.out⟩
      · have hb1 : (c.T i == host) = false := by simpa using h1
        have H1 := hide h1
        clear h1
        refine wp_region_new w1 (Upd.refl _ _) (by kernel_rfl) (by kernel_rfl) ?_
        repeat (go_big_quiet_step (fail))
        refine wpQuiet_nil ?_
        rintro _ ⟨nq, rfl⟩
        go_wp2_with fail
        have hr2 := Hr1.out.new_ nq.h
        exact ⟨⟨out, _, cnt1, Hn1.out.trans_new nq.h, row_new Ho1.out nq.h, hr2, Hls.out.met.no (by rw [Hlo.out, decide_eq_false H1.out]; rfl), by have := Hlt.out; omega⟩, by rw [hr2.many, Hrg.out.many]; exact Hlt.out⟩
end
end Go.Proofs.YtimhbgpnkodlaaaGreatDoor

/- Package block: Blocks: the blocks of a host. No condition but those that stand in each theorem. -/
import Derived.Test.YtimhbgpnkodlaaaGreatDoorBp5
import Derived.Test.YtimhbgpnkodlaaaGreatDoorSt3
namespace Go.Proofs.YtimhbgpnkodlaaaGreatDoor
open Go.RowKit Go.Maps Go.Shelf
attribute [local go_sem] Oper.semAt_some
section
variable {w w1 : World} {kp bm tm : Nat} {p : Pf} {L : Int} {c : PoolC} {E : Nat → Addr}
theorem wp_append_eq {P : Program} {o : Oper} {a : Act} {K : Act → World → Prop} {Q : Exit → Act → World → Prop} {w w2 : World} {s x : Operand} {t : TypeId} {v v2 sl : Value} (ho : o.op = .call { callee := .builtin .append, args := #[s, x], argTypes := #[t, t] })
    (hs : a.eval s = v) (hx : a.eval x = sl) (hr : (Builtin.append_ #[t, t] o.type #[v, sl]).run P w = .ok v2 w2) (hK : K (a.put o.dst v2) w2) : Oper.wp P o a w K Q := by
  unfold Oper.wp execOp
  simp only [ho, resolve, invoke, builtin, Sem.run_bind, Sem.run_pure, Result.andThen_ok, List.map_toArray, List.map_cons, List.map_nil, hs, hx, hr]
  exact hK
/-- The boxes of Blocks; what has been met. -/
structure BlksW (w W : World) (kp : Nat) (host : Int) (l : List Pf) (v : Value) : Prop where
  new : New w W
  k : Blk W w.heap.size 26 #[.pointer (some ⟨kp, 0, none⟩)]
  h : Blk W (w.heap.size + 1) 3 #[.int .i64 host]
  o : Blk W (w.heap.size + 2) 46 #[v]
  row : OwnP W w.heap.size v l
variable {host : Int} {l : List Pf} {v : Value}
theorem BlksW.start (w : World) (kp : Nat) (host : Int) : BlksW w (((w.alloc (.cells #[.pointer (some ⟨kp, 0, none⟩)] 26)).alloc (.cells #[.int .i64 host] 3)).alloc (.cells #[.slice none 0 0] 46)) kp host [] (.slice none 0 0) :=
  ⟨(((Upd.refl _ w).alloc _).alloc _).alloc _, ((Blk.new w _ _).alloc _).alloc _, (Blk.at_ _ _ _ _ (by simp)).alloc _, Blk.at_ _ _ _ _ (by simp), World.ownsRow_nil _ _ _ _⟩
theorem row_not {W : World} {base : Nat} {e : TypeId} {size n : Nat} {xs : List Value} (h : W.ownsRow base e size v n xs) {g : Nat} {t : TypeId} {cs : Array Value} (hb : Blk W g t cs) (hne : t ≠ e) : v.ownBlock ≠ some g := fun he => by
  rcases h.2 with ⟨rfl, _⟩ | ⟨g1, cap, cur, rfl, _, hh, _⟩
  · simp [Value.ownBlock] at he
  · have : g1 = g := by simpa [Value.ownBlock] using he
    subst this
    unfold Blk at hb
    rw [hb] at hh
    injection hh with hh
    injection hh with _ hh
    exact hne hh
theorem BlksW.new_ {W W2 : World} (h : BlksW w W kp host l v) (hu : New W W2) : BlksW w W2 kp host l v := ⟨h.new.trans_new hu, h.k.new_ hu, h.h.new_ hu, h.o.new_ hu, h.row.new_ hu⟩
theorem BlksW.grown {W W2 : World} {row : Option Nat} {B : Nat} (h : BlksW w W kp host l v) (hB : w.heap.size + 3 ≤ B) (hg : W.grownBy W2 row) (hr : ∀ r, row = some r → B ≤ r ∧ ∃ o : Obj, W.heap[r]? = some o ∧ o.isCells = false) : BlksW w W2 kp host l v := by
  have hr1 : ∀ r, row = some r → B ≤ r := fun r e => (hr r e).1
  refine ⟨new_grownFrom h.new (by omega) hg hr1, h.k.grownFrom (by omega) hg hr1, h.h.grownFrom (by omega) hg hr1, h.o.grownFrom (by omega) hg hr1, h.row.kept hg ?_⟩
  rcases h.row.2 with ⟨rfl, _⟩ | ⟨g, cap, cur, rfl, _, hgb, _⟩
  · exact .inl rfl
  · refine .inr fun e => ?_
    obtain ⟨_, o, ho, hc⟩ := hr g (by simpa [Value.ownBlock] using e.symm)
    rw [hgb] at ho
    cases ho
    cases hc
/-- One more is put behind. -/
theorem BlksW.app {W : World} (h : BlksW w W kp host l v) (q : Pf) (hl : l.length < 5000) (ty : TypeId) :
    ∃ v2 W2, (Builtin.append_ #[46, 46] ty #[v, .slice (some ⟨W.heap.size, 0, none⟩) 1 1]).run Tryz.prog (W.drew.alloc (.cells #[.int .i64 q.a, .int .i64 q.n] TPf)) = .ok v2 W2 ∧
      BlksW w (W2.setCell ⟨w.heap.size + 2, 0, none⟩ v2) kp host (l ++ [q]) v2 ∧ W2.cell? ⟨w.heap.size + 2, 0, none⟩ = some v ∧ W2.frozen? ⟨w.heap.size + 2, 0, none⟩ = false ∧ (∃ g cap, v2 = .slice (some ⟨g, 0, none⟩) (l.length + 1) cap) ∧
      ∀ B, w.heap.size + 3 ≤ B → Upd (ownB w.heap.size B W) W (W2.setCell ⟨w.heap.size + 2, 0, none⟩ v2) := by
  obtain ⟨i0, hi0, hz0, hz1, hz2⟩ := info_parts info_TPf
  obtain ⟨Wa, hWa⟩ : ∃ Wa, W.drew.alloc (.cells #[.int .i64 q.a, .int .i64 q.n] TPf) = Wa := ⟨_, rfl⟩
  have ua : New W Wa := by rw [← hWa]; exact (Upd.refl _ W).drew.alloc _
  have ba : Blk Wa W.heap.size TPf #[.int .i64 q.a, .int .i64 q.n] := by rw [← hWa]; exact Blk.at_ _ _ _ _ rfl
  have hs0 := h.new.size
  have hs1 := ua.size
  have hrow : Wa.ownsRow w.heap.size TPf 2 v l.length (flat (l.map Pf.cells)) := h.row.new_ ua
  obtain ⟨v2, W2, hr, h2, h3, _, h5⟩ := run_append_own_at (P := Tryz.prog) Wa w.heap.size 46 ty TPf i0 _ 2 16 Tryz.underlying46 hi0 hz0 hz1 hz2 rfl (by decide) v l.length (flat (l.map Pf.cells)) hrow ⟨W.heap.size, 0, none⟩ 1 1 [.int .i64 q.a, .int .i64 q.n] rfl
    (fun j u hu => by
      have e := ba.cell j
      match j, hu with
      | 0, hu => simp at hu; subst hu; exact e
      | 1, hu => simp at hu; subst hu; exact e
      | k + 2, hu => simp at hu) (fun u hu => by simp at hu; rcases hu with rfl | rfl <;> rfl) (by unfold maxLen; omega) (by omega) (by omega)
  have hg2 : ∀ g t cs, Blk Wa g t cs → t ≠ TPf → Blk W2 g t cs := fun g t cs hb ht => (h3.block g hb.lt fun e => row_not hrow hb ht e.symm).trans hb
  have b2 : Blk W2 (w.heap.size + 2) 46 #[v] := hg2 _ _ _ (h.o.new_ ua) (by decide)
  have hge : ∀ k, v.ownBlock = some k → w.heap.size ≤ k := fun k hk => (row_ge hrow hk).1
  have nw : New w W2 := (h.new.trans_new ua).trans (Upd.of_grown (S := fun k => w.heap.size ≤ k) h3 fun k _ e => hge k e) fun k hk hx => by omega
  have r2 : OwnP W2 w.heap.size v2 (l ++ [q]) := by
    unfold OwnP
    rw [List.map_append, List.length_append, show flat (l.map Pf.cells ++ [q].map Pf.cells) = flat (l.map Pf.cells) ++ [.int .i64 q.a, .int .i64 q.n] by simp [flat, Pf.cells]]
    exact h2
  refine ⟨v2, W2, by rw [hWa]; exact hr, ⟨nw.setCell (p := ⟨w.heap.size + 2, 0, none⟩) (.inr (Nat.le_add_right _ 2)) _, (hg2 _ _ _ (h.k.new_ ua) (by decide)).far (by simp) _, (hg2 _ _ _ (h.h.new_ ua) (by decide)).far (by simp) _, b2.set_ 0 v2, ?_⟩, b2.cell 0, b2.frozen 0, ownsRow_succ h2, fun B hB => ?_⟩
  · exact r2.upd ((Upd.refl (fun k => k = w.heap.size + 2) W2).setCell (p := ⟨w.heap.size + 2, 0, none⟩) (.inl rfl) v2) fun g hg he => row_not r2 (he ▸ b2) (by decide) hg
  · have u2 : Upd (ownB w.heap.size B W) W W2 := (Upd.of_new ua).trans (Upd.of_grown (S := fun k => v.ownBlock = some k) h3 fun k _ e => e) fun k hk hx => by
      refine ⟨hge k hx, .inr ?_⟩
      rcases h.row.2 with ⟨rfl, _⟩ | ⟨g, cap, cur, rfl, _, hgb, _⟩
      · simp [Value.ownBlock] at hx
      · obtain rfl : g = k := by simpa [Value.ownBlock] using hx
        exact ⟨_, _, _, hgb⟩
    exact u2.setCell (p := ⟨w.heap.size + 2, 0, none⟩) (.inl ⟨Nat.le_add_right _ 2, .inl (by show w.heap.size + 2 < B; omega)⟩) _
theorem own_back {W W2 : World} {n0 B k : Nat} (h : New W W2) (hk : k < W.heap.size) (hx : ownB n0 B W2 k) : ownB n0 B W k := by
  refine ⟨hx.1, hx.2.imp id fun ⟨cs, t, f, e⟩ => ⟨cs, t, f, ?_⟩⟩
  rw [← h.block k hk fun z => z]
  exact e
theorem blocks_step {z : Nat} {a L : Int} {h : Int} (x : Nat) : blocksC (x + 1) z a L c h = if c.B x = h then blocksC x z a L c h ++ [⟨a + ((x * z : Nat) : Int), L⟩] else blocksC x z a L c h := by
  unfold blocksC
  rw [List.range_succ, List.filter_append, List.map_append]
  by_cases hb : c.B x = h
  · rw [if_pos hb]
    simp [hb]
  · rw [if_neg hb]
    simp [hb]
theorem blocks_len (m z : Nat) (a L : Int) (h : Int) : (blocksC m z a L c h).length ≤ m := by
  unfold blocksC
  rw [List.length_map]
  exact Nat.le_trans (List.length_filter_le _ _) (Nat.le_of_eq List.length_range)
/-- The blocks of a host; nobody has none. -/
def blksH (m z : Nat) (a L : Int) (c : PoolC) (h : Int) : List Pf := if h = 0 then [] else blocksC m z a L c h
theorem blks_step {z : Nat} {a L : Int} {h : Int} (x : Nat) : blksH (x + 1) z a L c h = if h ≠ 0 ∧ c.B x = h then blksH x z a L c h ++ [⟨a + ((x * z : Nat) : Int), L⟩] else blksH x z a L c h := by
  unfold blksH
  by_cases h0 : h = 0
  · simp [h0]
  · rw [if_neg h0, if_neg h0, blocks_step]
    by_cases hb : c.B x = h
    · rw [if_pos hb, if_pos ⟨h0, hb⟩]
    · rw [if_neg hb, if_neg fun hx => hb hx.2]
theorem blks_len (m z : Nat) (a L : Int) (h : Int) : (blksH m z a L c h).length ≤ m := by
  unfold blksH
  split
  · exact Nat.zero_le _
  · exact blocks_len m z a L h
set_option maxRecDepth 20000 in
set_option maxHeartbeats 4000000 in
theorem plblocks_any (hg : PoolG p L) (h : PoolM w kp bm tm p L c) (h2 : Sen w gBound (E 2)) (h3 : Sen w gShape (E 3)) (host : Int) :
    Calls Tryz.prog 18 #[.pointer (some ⟨kp, 0, none⟩), .int .i64 host] w fun e w1 => ∃ v, e = .returned v ∧ OwnP w1 w.heap.size v (blksH (plM p L) (plZ L) p.a L c host) ∧ New w w1 := by
  refine (callsIn_wide (n := 9)).1 ?_
  refine callsIn_of_wp_marks Tryz.func18 rfl trivial ?_
  simp only [Tryz.ntmps18, List.size_toArray, List.length_cons, List.length_nil, Nat.reduceAdd, Nat.reduceSub, Array.replicate_succ, Array.replicate_zero, List.push_toArray, List.append_toArray, List.nil_append, List.cons_append]
  refine wpIn_wide.2 ?_
  have hW := BlksW.start w kp host
  have hsz : (((w.alloc (.cells #[.pointer (some ⟨kp, 0, none⟩)] 26)).alloc (.cells #[.int .i64 host] 3)).alloc (.cells #[.slice none 0 0] 46)).heap.size = w.heap.size + 3 := by simp
  have HW := hide hW
  have Hsz := hide hsz
  have z0 := h.blk.lt
  have z2 := h2.lt
  have z3 := h3.lt
  have Hh := hide h
  have Hg := hide hg
  have H2 := hide h2
  have H3 := hide h3
  clear hW hsz h hg h2 h3
  go_upto_region 2 with (fail)
  generalize (((w.alloc (.cells #[.pointer (some ⟨kp, 0, none⟩)] 26)).alloc (.cells #[.int .i64 host] 3)).alloc (.cells #[.slice none 0 0] 46)) = W0 at *
  have k0 : W0.cell? ⟨w.heap.size, 0, none⟩ = some (.pointer (some ⟨kp, 0, none⟩)) := HW.out.k.cell 0
  have y0 := HW.out.k.lt
  go_wp2_with fail
  have pm0 := Hh.out.new_ HW.out.new
  refine wp_range_bound (n := 9) (gf := 38) (fb := #[.pointer (some ⟨kp, 0, none⟩)]) rfl (enters_of Tryz.func38 (by kernel_rfl) rfl)
    (plall_seq 8 Hg.out w.heap.size pm0.blk (H2.out.new HW.out.new) (H3.out.new HW.out.new) z0 z2 z3 HW.out.new.size) (Below.refl _ _) HW.out.new.size (fun _ => rfl)
    (fun pre W => ∃ v, BlksW w W kp host (blksH pre.length (plZ L) p.a L c host) v) (fun _ _ => False)
    (fun s A B row hs hg hr => by
      obtain ⟨v, hv⟩ := hs
      exact ⟨v, hv.grown (by rw [Hsz.out]; exact Nat.le_refl _) hg hr⟩)
    (fun s A B row hs hg hr => hs.elim)
    ⟨.slice none 0 0, by have := HW.out; unfold blksH blocksC; simpa using this⟩
    (fun x => { tmps := #[.pointer (some ⟨kp, 0, none⟩), .int .i64 host, .pointer (some ⟨w.heap.size, 0, none⟩), .pointer (some ⟨w.heap.size + 1, 0, none⟩), .slice none 0 0, .pointer (some ⟨w.heap.size + 2, 0, none⟩), .int .i64 (adr p L x), .pointer (some ⟨kp, 0, none⟩), .func (.func 38) #[.pointer (some ⟨kp, 0, none⟩)] #[], .int .i64 (adr p L x),
      undef, undef, undef, undef, undef, undef, undef, undef, undef, undef, undef, undef, undef, undef, undef, undef, undef, undef, undef, undef, undef, undef], defers := [] }) ?assign ?body ?done ?stop
  case assign =>
    intro l x W K hK
    unfold encJ
    gi_wp2
    exact hK
  case body =>
    rintro l pre x W ⟨v, hf⟩ ⟨rfl, hx⟩ hle
    rw [List.length_range] at hf
    have pm := Hh.out.new_ hf.new
    have hl : ∀ n : NewW W, (Instr.lookup 53 (.map (some bm)) (.int .i64 (adr p L x)) false).run Tryz.prog n.w = .ok (.int .i64 (c.B x)) n.w := fun n => (pm.new_ n.h).lookB Hg.out hx
    have b0 : W.cell? ⟨w.heap.size, 0, none⟩ = some (.pointer (some ⟨kp, 0, none⟩)) := hf.k.cell 0
    have b1 : W.cell? ⟨w.heap.size + 1, 0, none⟩ = some (.int .i64 host) := hf.h.cell 0
    have b2 : W.cell? ⟨w.heap.size + 2, 0, none⟩ = some v := hf.o.cell 0
    have c2 : W.cell? ⟨kp, 2, none⟩ = some (.int .i64 L) := pm.blk.cell 2
    have c3 : W.cell? ⟨kp, 3, none⟩ = some (.map (some bm)) := pm.blk.cell 3
    have y0 := hf.k.lt
    have y1 := hf.h.lt
    have y2 := pm.blk.lt
    have y3 := hf.o.lt
    have Hf := hide hf
    have Hx := hide hx
    have Hle := hide hle
    have Hst := hide (blks_step (c := c) (z := plZ L) (a := p.a) (L := L) (h := host) x)
    have Hln := hide (blks_len (c := c) x (plZ L) p.a L host)
    clear hf hx hle pm pm0
    refine wpIn_block (wpIn_seq ?_)
    by_cases hh0 : host = 0
    · have hb : (host != 0) = false := by simpa using hh0
      have Hh0 := hide hh0
      clear hh0
      refine wpIn_region_round W (Upd.refl _ _) (by kernel_rfl) (by kernel_rfl) (by kernel_rfl) ?_
      repeat (go_big_quiet_step (fail))
      refine wpQuiet_nil ?_
      rintro _ ⟨nq, rfl⟩
      gi_wp2
      exact ⟨Upd.of_new nq.h, _, by rw [List.length_append, List.length_range, List.length_singleton, Hst.out, if_neg fun hx => hx.1 Hh0.out]; exact Hf.out.new_ nq.h⟩
    · have hb : (host != 0) = true := by simpa using hh0
      have Hh0 := hide hh0
      clear hh0
      by_cases hbx : c.B x = host
      · have hb2 : (c.B x == host) = true := by simpa using hbx
        have Hbx := hide hbx
        clear hbx
        refine wpIn_region_round W (Upd.refl _ _) (by kernel_rfl) (by kernel_rfl) (by kernel_rfl) ?_
        repeat (go_big_quiet_step (fail))
        refine wpQuiet_nil ?_
        rintro _ ⟨nq, rfl⟩
        refine wpIn_cond_true rfl ?_
        have hq := Hf.out.new_ nq.h
        have Hnq := hide nq.h
        generalize nq.w = Wq at *
        have d0 : Wq.cell? ⟨w.heap.size, 0, none⟩ = some (.pointer (some ⟨kp, 0, none⟩)) := hq.k.cell 0
        have d2 : Wq.cell? ⟨w.heap.size + 2, 0, none⟩ = some v := hq.o.cell 0
        have dc2 : Wq.cell? ⟨kp, 2, none⟩ = some (.int .i64 L) := (Hh.out.new_ hq.new).blk.cell 2
        obtain ⟨v2, W2, hr, hB2, hc2, hf2, ⟨g, cap, rfl⟩, hU⟩ := hq.app ⟨adr p L x, L⟩ (by have := Hln.out; have := plM_le Hg.out; have := Hx.out; omega) 46
        have y4 := hq.k.lt
        have y5 := hq.o.lt
        have y6 := (Hh.out.new_ hq.new).blk.lt
        have Hq := hide hq
        have HB2 := hide hB2
        have HU := hide hU
        clear hl hq hB2 hU b0 b1 b2 c2 c3 y0 y1 y2 y3
        refine wpIn_region_held_round (fun w2 => w2.cell? ⟨w.heap.size, 0, none⟩ = some (.pointer (some ⟨kp, 0, none⟩)) ∧ w2.cell? ⟨kp, 2, none⟩ = some (.int .i64 L)) (by kernel_rfl) (by kernel_rfl) (fun h => by obtain ⟨_, _, h⟩ := h; exact h) ?_
        have hS : Wq.drew.cell? ⟨w.heap.size, 0, none⟩ = some (.pointer (some ⟨kp, 0, none⟩)) ∧ Wq.drew.cell? ⟨kp, 2, none⟩ = some (.int .i64 L) := ⟨d0, dc2⟩
        refine wpAnyH_take (i := 1) (v := .int .i64 (adr p L x)) rfl (by kernel_rfl) (by kernel_rfl) (by kernel_rfl) (fun _ _ _ h => h) (Or.inl ⟨by rfl, ?_⟩) hS ?_
        · rintro w2 ⟨s0, s2⟩
          go_simp
        simp only [List.getElem_toArray, List.getElem_cons_succ, List.getElem_cons_zero, Act.put, List.setIfInBounds_toArray, List.set_cons_zero, List.set_cons_succ]
        refine wpAnyH_take (i := 2) (v := .pointer (some ⟨kp, 0, none⟩)) rfl (by kernel_rfl) (by kernel_rfl) (by kernel_rfl) (fun _ _ _ h => h) (Or.inl ⟨by rfl, ?_⟩) hS ?_
        · rintro w2 ⟨s0, s2⟩
          go_simp
        simp only [List.getElem_toArray, List.getElem_cons_succ, List.getElem_cons_zero, Act.put, List.setIfInBounds_toArray, List.set_cons_zero, List.set_cons_succ]
        refine wpAnyH_take (i := 3) (v := .pointer (some ⟨kp, 0, none⟩)) rfl (by kernel_rfl) (by kernel_rfl) (by kernel_rfl) (fun _ _ _ h => h) (Or.inl ⟨by rfl, ?_⟩) hS ?_
        · rintro w2 ⟨s0, s2⟩
          go_simp
        simp only [List.getElem_toArray, List.getElem_cons_succ, List.getElem_cons_zero, Act.put, List.setIfInBounds_toArray, List.set_cons_zero, List.set_cons_succ]
        refine wpAnyH_take (i := 4) (v := .pointer (some ⟨kp, 2, none⟩)) rfl (by kernel_rfl) (by kernel_rfl) (by kernel_rfl) (fun _ _ _ h => h) (Or.inl ⟨by rfl, ?_⟩) hS ?_
        · rintro w2 ⟨s0, s2⟩
          go_simp
        simp only [List.getElem_toArray, List.getElem_cons_succ, List.getElem_cons_zero, Act.put, List.setIfInBounds_toArray, List.set_cons_zero, List.set_cons_succ]
        refine wpAnyH_take (i := 5) (v := .int .i64 L) rfl (by kernel_rfl) (by kernel_rfl) (by kernel_rfl) (fun _ _ _ h => h) (Or.inl ⟨by rfl, ?_⟩) hS ?_
        · rintro w2 ⟨s0, s2⟩
          go_simp
        simp only [List.getElem_toArray, List.getElem_cons_succ, List.getElem_cons_zero, Act.put, List.setIfInBounds_toArray, List.set_cons_zero, List.set_cons_succ]
        refine wpAnyH_take (i := 6) (v := .agg #[.int .i64 (adr p L x), .int .i64 L]) rfl (by kernel_rfl) (by kernel_rfl) (by kernel_rfl) (fun _ _ _ h => h) (Or.inl ⟨by rfl, ?_⟩) hS ?_
        · rintro w2 ⟨s0, s2⟩
          go_simp
        simp only [List.getElem_toArray, List.getElem_cons_succ, List.getElem_cons_zero, Act.put, List.setIfInBounds_toArray, List.set_cons_zero, List.set_cons_succ]
        have e := ((Upd.refl (fun _ => False) Wq).alloc (.cells #[.int .i64 (adr p L x), .int .i64 L] TPf)).drew
        have hE := And.intro ((e.cell (o := 0) y4 fun z => z).trans d0) ((e.cell (o := 2) y6 fun z => z).trans dc2)
        have d3 := (e.cell (o := 0) y5 fun z => z).trans d2
        have s0 := (World.cell?_setCell_far W2 ⟨w.heap.size + 2, 0, none⟩ ⟨w.heap.size, 0, none⟩ (.slice (some ⟨g, 0, none⟩) ((blksH x (plZ L) p.a L c host).length + 1) cap) (by simp)).symm.trans (HB2.out.k.cell 0)
        have s2 : W2.cell? ⟨kp, 2, none⟩ = some (.int .i64 L) := (World.cell?_setCell_far W2 ⟨w.heap.size + 2, 0, none⟩ ⟨kp, 2, none⟩ (.slice (some ⟨g, 0, none⟩) ((blksH x (plZ L) p.a L c host).length + 1) cap) (by simp; omega)).symm.trans ((Hh.out.new_ HB2.out.new).blk.cell 2)
        have hE2 : W2.cell? ⟨w.heap.size, 0, none⟩ = some (.pointer (some ⟨kp, 0, none⟩)) ∧ W2.cell? ⟨kp, 2, none⟩ = some (.int .i64 L) := ⟨s0, s2⟩
        have hE3 := And.intro (HB2.out.k.cell 0) ((Hh.out.new_ HB2.out.new).blk.cell 2)
        have Hr := hide hr
        have hU2 := hide (HU.out W0.heap.size (by rw [Hsz.out]; exact Nat.le_refl _))
        clear hr s0 s2 e
        refine wpAnyH_ready (rs := [0, 7]) (by kernel_rfl) (by simp) ?_
        refine AllReadyH.cons rfl (fun K hK => ?_) (AllReadyH.cons rfl (fun K hK => ?_) AllReadyH.nil)
        · go_simp
          refine hK.out _ _ hS (fun _ => ?_)
          refine wpAnyH_ready (rs := [7]) (by kernel_rfl) (by simp) ?_
          refine AllReadyH.cons rfl (fun K7 hK7 => ?_) AllReadyH.nil
          go_simp
          refine hK7.out _ _ hE (fun _ => ?_)
          refine wpAnyH_ready (rs := [8]) (by kernel_rfl) (by simp) ?_
          refine AllReadyH.cons rfl (fun K8 hK8 => ?_) AllReadyH.nil
          rw [if_pos (by rfl)]
          refine wp_append_eq rfl rfl rfl Hr.out ?_
          refine hK8.out _ _ hE2 (fun _ => ?_)
          simp only [List.getElem_toArray, List.getElem_cons_succ, List.getElem_cons_zero, Act.put, List.setIfInBounds_toArray, List.set_cons_zero, List.set_cons_succ]
          refine wpAnyH_ready (rs := [9]) (by kernel_rfl) (by simp) ?_
          refine AllReadyH.cons rfl (fun K9 hK9 => ?_) AllReadyH.nil
          go_simp
          refine hK9.out _ _ hE3 (fun _ => ?_)
          exact ⟨by kernel_rfl, (Upd.of_new Hnq.out).trans hU2.out (fun k hk hx => own_back Hnq.out hk hx), _, by rw [List.length_append, List.length_range, List.length_singleton, Hst.out, if_pos ⟨Hh0.out, Hbx.out⟩]; exact HB2.out⟩
        · go_simp
          refine hK.out _ _ hE (fun _ => ?_)
          refine wpAnyH_ready (rs := [0]) (by kernel_rfl) (by simp) ?_
          refine AllReadyH.cons rfl (fun K7 hK7 => ?_) AllReadyH.nil
          go_simp
          refine hK7.out _ _ hE (fun _ => ?_)
          refine wpAnyH_ready (rs := [8]) (by kernel_rfl) (by simp) ?_
          refine AllReadyH.cons rfl (fun K8 hK8 => ?_) AllReadyH.nil
          rw [if_pos (by rfl)]
          refine wp_append_eq rfl rfl rfl Hr.out ?_
          refine hK8.out _ _ hE2 (fun _ => ?_)
          simp only [List.getElem_toArray, List.getElem_cons_succ, List.getElem_cons_zero, Act.put, List.setIfInBounds_toArray, List.set_cons_zero, List.set_cons_succ]
          refine wpAnyH_ready (rs := [9]) (by kernel_rfl) (by simp) ?_
          refine AllReadyH.cons rfl (fun K9 hK9 => ?_) AllReadyH.nil
          go_simp
          refine hK9.out _ _ hE3 (fun _ => ?_)
          exact ⟨by kernel_rfl, (Upd.of_new Hnq.out).trans hU2.out (fun k hk hx => own_back Hnq.out hk hx), _, by rw [List.length_append, List.length_range, List.length_singleton, Hst.out, if_pos ⟨Hh0.out, Hbx.out⟩]; exact HB2.out⟩
      · have hb2 : (c.B x == host) = false := by simpa using hbx
        have Hbx := hide hbx
        clear hbx
        refine wpIn_region_round W (Upd.refl _ _) (by kernel_rfl) (by kernel_rfl) (by kernel_rfl) ?_
        repeat (go_big_quiet_step (fail))
        refine wpQuiet_nil ?_
        rintro _ ⟨nq, rfl⟩
        gi_wp2
        exact ⟨Upd.of_new nq.h, _, by rw [List.length_append, List.length_range, List.length_singleton, Hst.out, if_neg fun hx => Hbx.out hx.2]; exact Hf.out.new_ nq.h⟩
  case done =>
    rintro D ys W hD rfl ⟨v, hf⟩ hK
    rw [List.length_range] at hf
    have b2 : W.cell? ⟨w.heap.size + 2, 0, none⟩ = some v := hf.o.cell 0
    go_wp2_with fail
    refine ⟨by simp, .inl ⟨_, _, rfl, run_takeDeferred hK, ?_⟩⟩
    have hF := hf.grown (B := w.heap.size + 3) (Nat.le_refl _) (grownBy_putObj' _ D (.deferred none)) (fun r e => by cases e; have := Hsz.out; exact ⟨by omega, _, hK, rfl⟩)
    exact ⟨_, results_tmp rfl _ _ _, v, rfl, hF.row, hF.new⟩
  case stop =>
    rintro D pre W hD hpre h _
    exact h.elim
end
end Go.Proofs.YtimhbgpnkodlaaaGreatDoor

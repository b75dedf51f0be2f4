/- Package block: Ways: a host's blocks and what it has outside them, rising. No condition but those that stand in each theorem. -/
import Derived.Test.YtimhbgpnkodlaaaGreatDoorBpB
import Derived.Test.YtimhbgpnkodlaaaGreatDoorSf1
namespace Go.Proofs.YtimhbgpnkodlaaaGreatDoor
open Go.RowKit Go.Maps
section
variable {w w1 : World} {kp bm tm : Nat} {p : Pf} {L : Int} {c : PoolC} {E : Nat → Addr} {host : Int}
/-- A prefix is put behind. -/
theorem wpList_appP {ops : Array Oper} {rest : List Oper} {o : Oper} {a : Act} {Q : Exit → Act → World → Prop} (w : World) (hgd : o.guard = none) (s x : Operand) (ho : o.op = .call { callee := .builtin .append, args := #[s, x], argTypes := #[46, 46] })
    (base g : Nat) (v : Value) (l : List Pf) (q : Pf) (hs : a.eval s = v) (hx : a.eval x = .slice (some ⟨g, 0, none⟩) 1 1) (hown : OwnP w base v l) (hb : Blk w g TPf #[.int .i64 q.a, .int .i64 q.n]) (hl : l.length < 50000) (hbase : base ≤ w.heap.size)
    (hK : ∀ v2 w2, OwnP w2 base v2 (l ++ [q]) → w.grownBy w2 v.ownBlock → wpList Tryz.prog ops Q rest (a.put o.dst v2) w2) : wpList Tryz.prog ops Q (o :: rest) a w := by
  obtain ⟨i0, hi0, hz0, hz1, hz2⟩ := info_parts info_TPf
  refine wpList_append_own w hgd s x 46 ho base TPf i0 _ 2 16 Tryz.underlying46 hi0 hz0 hz1 hz2 rfl (by decide) v l.length (flat (l.map Pf.cells)) hs hown ⟨g, 0, none⟩ 1 1 [.int .i64 q.a, .int .i64 q.n] hx rfl
    (fun j u hu => by
      have e := hb.cell j
      match j, hu with
      | 0, hu => simp at hu; subst hu; exact e
      | 1, hu => simp at hu; subst hu; exact e
      | k + 2, hu => simp at hu) (fun u hu => by simp at hu; rcases hu with rfl | rfl <;> rfl) (by unfold maxLen; omega) (by omega) hbase fun v2 w2 h2 h3 _ => hK v2 w2 ?_ h3
  unfold OwnP
  rw [List.map_append, List.length_append, show flat (l.map Pf.cells ++ [q].map Pf.cells) = flat (l.map Pf.cells) ++ [.int .i64 q.a, .int .i64 q.n] by simp [flat, Pf.cells]]
  exact h2
theorem rows_apart {w : World} {base base2 : Nat} {e e2 : TypeId} {size size2 n n2 : Nat} {v v2 : Value} {xs ys : List Value} (h : w.ownsRow base e size v n xs) (h2 : w.ownsRow base2 e2 size2 v2 n2 ys) (hne : e ≠ e2) {g : Nat} (hg : v.ownBlock = some g) : v2.ownBlock ≠ some g := fun hg2 => by
  rcases h.2 with ⟨rfl, _⟩ | ⟨g1, cap, cur, rfl, _, hh, _⟩
  · simp [Value.ownBlock] at hg
  · have : g1 = g := by simpa [Value.ownBlock] using hg
    subst this
    exact row_not h2 (show Blk w g1 e cur from hh) hne hg2
/-- A host's ways, as they come: its blocks, then what is loose. -/
def waysRaw (n m z : Nat) (a0 L : Int) (c : PoolC) (h : Int) : List Pf := blksH m z a0 L c h ++ (looseH n z a0 c h).map oneP
def waysH (n m z : Nat) (a0 L : Int) (c : PoolC) (h : Int) : List Pf := if h = 0 then [] else waysS n m z a0 L c h
theorem ways_of {n m z : Nat} {a0 L h : Int} {c : PoolC} {l : List Pf} (hz : 0 < z) (hL : L = 32 → z = 1) (hp : l.Perm (waysRaw n m z a0 L c h)) (hs : l.Pairwise fun p q => ¬ ltP q p) : l = waysH n m z a0 L c h := by
  unfold waysRaw blksH looseH at hp
  unfold waysH
  by_cases h0 : h = 0
  · rw [if_pos h0, if_pos h0] at hp
    rw [if_pos h0]
    exact List.perm_nil.1 hp
  · rw [if_neg h0, if_neg h0] at hp
    rw [if_neg h0]
    exact ways_sorted hz hL hp hs
theorem loose_len (n z : Nat) (a0 : Int) (c : PoolC) (h : Int) : (looseH n z a0 c h).length ≤ n := by
  unfold looseH
  split
  · exact Nat.zero_le _
  · unfold looseZ looseC
    rw [List.length_map]
    exact Nat.le_trans (List.length_filter_le _ _) (Nat.le_of_eq List.length_range)

set_option maxRecDepth 20000 in
set_option maxHeartbeats 4000000 in
theorem plways_any (hg : PoolG p L) (h : PoolM w kp bm tm p L c) (h2 : Sen w gBound (E 2)) (h3 : Sen w gShape (E 3)) (host : Int) :
    Calls Tryz.prog 23 #[.pointer (some ⟨kp, 0, none⟩), .int .i64 host] w fun e w1 => ∃ v, e = .returned v ∧ OwnP w1 w.heap.size v (waysH (plN p) (plM p L) (plZ L) p.a L c host) ∧ New w w1 := by
  have hL1 := plZ_one (L := L)
  have hn := hg.n_le
  have hm := plM_le hg
  have hbl := blks_len (c := c) (plM p L) (plZ L) p.a L host
  have hll := loose_len (plN p) (plZ L) p.a c host
  have Hw := hide (fun l hp hs => ways_of (n := plN p) (m := plM p L) (a0 := p.a) (c := c) (h := host) (l := l) (plZ_pos L) hL1 hp hs)
  unfold waysRaw at Hw
  have Hh := hide h
  have Hg := hide hg
  have H2 := hide h2
  have H3 := hide h3
  have Hb := hide (plblocks_any hg h h2 h3 host)
  have Hl := hide (fun W (hu : New w W) => plloose_any hg (h.new_ hu) host)
  generalize hlb : blksH (plM p L) (plZ L) p.a L c host = lb at *
  generalize hlo : looseH (plN p) (plZ L) p.a c host = lo at *
  clear h hg h2 h3 hL1
  go_enter Tryz.func23, Tryz.ntmps23
  go_upto_region 2 with ((go_at_call 18; refine Hb.out.mono ?_; rintro e w' ⟨v1, rfl, ho1, hu1⟩))
  generalize w' = W1 at *
  have Ho1 := hide ho1
  have Hu1 := hide hu1
  clear ho1 hu1
  go_wp2_with ((go_at_call 21; refine (Hl.out _ Hu1.out).mono ?_; rintro e w' ⟨v2, rfl, ho2, hu2⟩; obtain ⟨A, cap, rfl, _, _, hi2, hb2, _⟩ := ints_of_own ho2))
  generalize w' = W2 at *
  have nu2 := hide (Hu1.out.trans_new hu2)
  have ho1b := Ho1.out.new_ hu2
  have hs2 := hu2.size
  have hs1 := Hu1.out.size
  have Hi0 := hide ho2
  clear hi2 hb2 hu2 ho2
  go_loopw [5, 15] (fun v i wr => ∃ k : Nat, k ≤ lo.length ∧ i = .int .i64 k ∧ New w wr ∧ OwnP wr w.heap.size v (lb ++ (lo.take k).map oneP) ∧ OwnI wr W1.heap.size (.slice A lo.length cap) lo) (fun _ i _ => lo.length - (intOf i).toNat)
  case atStart => exact ⟨0, by omega, rfl, nu2.out, by simpa using ho1b, Hi0.out⟩
  case round =>
    obtain ⟨k, hk, rfl, hnw, hov, hoi⟩ := hrel
    have Hnw := hide hnw
    have Hov := hide hov
    have Hoi := hide hoi
    clear hov hoi
    by_cases hlt : k < lo.length
    · obtain ⟨A2, cap2, he, _, _, hi2, _, _⟩ := ints_of_own Hoi.out
      injection he with he1 he2 he3
      subst he1
      subst he3
      obtain ⟨b, o, rfl, hbw, hcc⟩ := hi2 (by omega)
      have hck := hcc k _ (List.getElem?_eq_getElem hlt)
      have Htk := hide (List.take_succ_eq_append_getElem hlt)
      generalize lo[k] = x at *
      have Hcc := hide hcc
      have ua : New wr (wr.alloc (.cells #[.int .i64 x, .int .i64 32] TPf)) := (Upd.refl _ _).alloc _
      have hsw := hnw.size
      clear hcc hnw
      go_wp2_with (first
        | (at_builtin; refine wpList_appP _ rfl _ _ rfl w.heap.size _ _ _ ⟨x, 32⟩ rfl rfl (Hov.out.new_ ua) (Blk.new _ _ _) (by rw [List.length_append, List.length_map, List.length_take]; omega) (by simp; omega) ?_; intro v2 w2 ho2 hg2)
        | go_in)
      have hr1 := Hov.out.new_ ua
      have hr2 := row_new Hoi.out ua
      exact ⟨⟨k + 1, by omega, by congr 1, (Hnw.out.trans_new ua).trans (Upd.of_grown (S := fun k => w.heap.size ≤ k) hg2 fun k _ e => (row_ge hr1 e).1) (fun k hk hx => by omega),
        by rw [Htk.out, List.map_append, ← List.append_assoc]; exact ho2, row_upd hr2 (Upd.of_grown (S := fun k => u5.ownBlock = some k) hg2 fun k _ e => e) fun g hg1 hg3 => rows_apart hr1 hr2 (by decide) hg3 hg1⟩, by simp [intOf]; omega⟩
    · have hkl : k = lo.length := by omega
      subst hkl
      rw [List.take_length] at Hov
      have Hln := hide (show (lb ++ lo.map oneP).length ≤ 1000000 by rw [List.length_append, List.length_map]; omega)
      go_wp2_with ((go_at_call 40; refine (sortPfs_any _ _ _ _ Hov.out Hln.out).mono ?_; rintro e w' ⟨rfl, l2, hp2, hs2, ho2, hg2⟩))
      go_ret
      refine ⟨_, rfl, ?_, Hnw.out.trans (Upd.of_grown (S := fun k => w.heap.size ≤ k) hg2 fun k _ e => (row_ge Hov.out e).1) fun k hk hx => by omega⟩
      rw [← Hw.out l2 hp2 hs2]
      exact ho2
end
end Go.Proofs.YtimhbgpnkodlaaaGreatDoor

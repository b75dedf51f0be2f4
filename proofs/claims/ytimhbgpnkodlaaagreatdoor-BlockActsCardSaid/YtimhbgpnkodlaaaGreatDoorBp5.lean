/- Package block: Take's three questions; Owner; Count. No condition but those that stand in each theorem. -/
import Derived.Test.YtimhbgpnkodlaaaGreatDoorBp4
namespace Go.Proofs.YtimhbgpnkodlaaaGreatDoor
open Go.RowKit Go.Maps
section
variable {w w1 : World} {kp bm tm : Nat} {p : Pf} {L : Int} {c : PoolC} {E : Nat → Addr}
set_option maxHeartbeats 400000 in
theorem plask1 (bx : Nat) (h : Int) (w : World) (hb : Blk w bx 3 #[.int .i64 h]) (x : Int) :
    Calls Tryz.prog 30 #[.int .i64 x, .pointer (some ⟨bx, 0, none⟩)] w fun e w1 => e = .returned (.bool (decide (x = h))) ∧ New w w1 := by
  have c0 := hb.cell 0
  simp only [List.getElem?_toArray, List.getElem?_cons_zero] at c0
  have z0 := hb.lt
  clear hb
  by_cases hx : x = h
  · have hb : (x == h) = true := by simpa using hx
    rw [decide_eq_true hx]
    have Hx := hide hx
    clear hx
    go_enter Tryz.func30, Tryz.ntmps30
    go_wp2_with fail
    go_ret
    exact ⟨rfl, Upd.refl _ _⟩
  · have hb : (x == h) = false := by simpa using hx
    rw [decide_eq_false hx]
    have Hx := hide hx
    clear hx
    go_enter Tryz.func30, Tryz.ntmps30
    go_wp2_with fail
    go_ret
    exact ⟨rfl, Upd.refl _ _⟩
set_option maxHeartbeats 400000 in
theorem plask2 (x : Int) (w : World) : Calls Tryz.prog 31 #[.int .i64 x] w fun e w1 => e = .returned (.bool (decide (x = 0))) ∧ New w w1 := by
  by_cases hx : x = 0
  · have hb : (x == 0) = true := by simpa using hx
    rw [decide_eq_true hx]
    have Hx := hide hx
    clear hx
    go_enter Tryz.func31, Tryz.ntmps31
    go_wp2_with fail
    go_ret
    exact ⟨rfl, Upd.refl _ _⟩
  · have hb : (x == 0) = false := by simpa using hx
    rw [decide_eq_false hx]
    have Hx := hide hx
    clear hx
    go_enter Tryz.func31, Tryz.ntmps31
    go_wp2_with fail
    go_ret
    exact ⟨rfl, Upd.refl _ _⟩
set_option maxHeartbeats 400000 in
theorem plask3 (x : Int) (w : World) : Calls Tryz.prog 33 #[.int .i64 x] w fun e w1 => e = .returned (.bool true) ∧ New w w1 := by
  go_enter Tryz.func33, Tryz.ntmps33
  go_wp2_with fail
  go_ret
  exact ⟨rfl, Upd.refl _ _⟩
set_option maxHeartbeats 400000 in
theorem plowner_any (h : PoolM w kp bm tm p L c) {x : Int} (hx : I64 x) : Calls Tryz.prog 13 #[.pointer (some ⟨kp, 0, none⟩), .int .i64 x] w fun e w1 => e = .returned (.int .i64 (atT p.a c x)) ∧ w = w1 := by
  have c4 : w.cell? ⟨kp, 4, none⟩ = some (.map (some tm)) := h.blk.cell 4
  have z0 := h.blk.lt
  have hl := h.lookT hx
  clear h
  go_enter Tryz.func13, Tryz.ntmps13
  go_wp2_with fail
  go_ret
  exact ⟨rfl, rfl⟩
set_option maxHeartbeats 400000 in
set_option maxRecDepth 20000 in
theorem plcount_any (h : PoolM w kp bm tm p L c) : Calls Tryz.prog 15 #[.pointer (some ⟨kp, 0, none⟩)] w fun e w1 => e = .returned (.int .i64 ((cntC (plN p) c.T : Nat) : Int)) ∧ w = w1 := by
  have c4 : w.cell? ⟨kp, 4, none⟩ = some (.map (some tm)) := h.blk.cell 4
  have z0 := h.blk.lt
  have hT := hide h.T
  clear h
  go_enter Tryz.func15, Tryz.ntmps15
  go_wp2_with (first
    | (at_len; refine wpList_many _ rfl _ 53 rfl 3 3 Tryz.underlying53 tm _ _ rfl hT.out ?_)
    | go_in)
  go_ret
  exact ⟨rfl, rfl⟩
end
end Go.Proofs.YtimhbgpnkodlaaaGreatDoor

namespace Go.Proofs.YtimhbgpnkodlaaaGreatDoor
open Go.RowKit Go.Maps
section
variable {w w1 : World} {kp bm tm : Nat} {p : Pf} {L : Int} {c : PoolC} {E : Nat → Addr}
/-- A store of what is not 0. -/
theorem MapI.stor {P : Program} {k e t : TypeId} {b cnt : Nat} {f : Int → Int} (h : MapI P k e w b f cnt) (hn : cnt < maxLen) (hk : P.underlying k = some (.int .i64)) (ht : P.underlying t = some (.map k e)) (he : P.underlying e = some (.int .i64))
    {key val : Int} (hkey : I64 key) (hval : I64 val) (h0 : val ≠ 0) :
    ∃ w1, (Instr.mapUpdate t (.map (some b)) (.int .i64 key) (.int .i64 val)).run P w = .ok () w1 ∧ MapI P k e w1 b (updZ f key val) (if f key = 0 then cnt + 1 else cnt) ∧ Upd (fun q => q = b) w w1 := by
  obtain ⟨D, h1, h2, h3⟩ := h
  obtain ⟨w1, hr, h4, h5⟩ := h1.update (int_keyed hk) ht hn (keyOf_int_mk hk (WalkArith.wf_i64 hkey)) (plainElem_int he (WalkArith.wf_i64 hval))
  have hs : Maps.size (D.put (.int .i64 key) (.lit (.int .i64 val))) = if f key = 0 then cnt + 1 else cnt := by
    rw [size_put (h1.tidy (int_keyed hk)), (h3 key).1, h2]
    by_cases hf : f key = 0
    · rw [if_pos hf, decide_eq_false (by simpa using hf), if_neg (by simp)]
    · rw [if_neg hf, decide_eq_true hf, if_pos rfl]
  refine ⟨w1, hr, ⟨D.put (.int .i64 key) (.lit (.int .i64 val)), hs ▸ owns_size h4, hs, fun a => ?_⟩, Upd.of_grown h5 fun q _ hq => (Option.some.inj hq).symm⟩
  by_cases ha : a = key
  · subst ha
    unfold updZ
    rw [if_pos rfl, has_put_same h1.isMap (show WideAt.IsKeyLit (.int .i64 a) from trivial), atKey_put_same h1.isMap (show WideAt.IsKeyLit (.int .i64 a) from trivial)]
    exact ⟨(decide_eq_true h0).symm, rfl⟩
  · have hne : (Lit.int .i64 a) ≠ .int .i64 key := fun e => ha (by injection e)
    unfold updZ
    rw [if_neg ha, has_put_other hne, atKey_put_other hne]
    exact h3 a
theorem max_le (n : Nat) (h : n ≤ 4096) : n < maxLen := by unfold maxLen; omega
theorem plM_le (hg : PoolG p L) : plM p L ≤ 4096 := by
  have h1 := hg.pp.mz
  have h2 := hg.n_le
  have h3 := plZ_pos L
  have h4 := Nat.mul_le_mul_left (plM p L) h3
  rw [Nat.mul_one] at h4
  omega
theorem cnt_upd {n i : Nat} {T : Nat → Int} {v : Int} (hi : i < n) (hv : v ≠ 0) : cntC n (updI T i v) = if T i = 0 then cntC n T + 1 else cntC n T := by
  have := cntC_upd n T i v hi
  rw [if_pos hv] at this
  by_cases h : T i = 0
  · rw [if_pos h]
    rw [if_neg (by simpa using h)] at this
    omega
  · rw [if_neg h]
    rw [if_pos h] at this
    omega
theorem cnt_upd0 {n i : Nat} {T : Nat → Int} (hi : i < n) : cntC n (updI T i 0) = if T i = 0 then cntC n T else cntC n T - 1 := by
  have h1 := cntC_upd n T i 0 hi
  by_cases h : T i = 0
  · rw [if_pos h]
    simp only [h, ne_eq, not_true, if_false] at h1
    omega
  · rw [if_neg h]
    simp only [h, ne_eq, not_true, not_false_eq_true, if_true, if_false] at h1
    omega
theorem out_T (ho : OutC (plN p) (plZ L) c) {i : Nat} (hi : i < plN p) (v : Int) : OutC (plN p) (plZ L) ⟨updI c.T i v, c.B⟩ :=
  ⟨fun k hk => by show updI c.T i v k = 0; rw [updI_other _ _ (by omega)]; exact ho.1 k hk, ho.2⟩
theorem out_B (hg : PoolG p L) (ho : OutC (plN p) (plZ L) c) {j : Nat} (hj : j < plM p L) (v : Int) : OutC (plN p) (plZ L) ⟨c.T, updI c.B j v⟩ :=
  ⟨ho.1, fun k hk => by
    have h1 : j ≠ k := fun e => by
      subst e
      have := hg.pp.block_lt hj (plZ_pos L)
      omega
    show updI c.B j v k = 0
    rw [updI_other _ _ (Ne.symm h1)]
    exact ho.2 k hk⟩
theorem PoolM.setT (h : PoolM w kp bm tm p L c) (hg : PoolG p L) {i : Nat} (hi : i < plN p) {v : Int} (hv : I64 v) (h0 : v ≠ 0) :
    ∃ w1, (Instr.mapUpdate 53 (.map (some tm)) (.int .i64 (p.a + (i : Int))) (.int .i64 v)).run Tryz.prog w = .ok () w1 ∧ PoolM w1 kp bm tm p L ⟨updI c.T i v, c.B⟩ ∧ Upd (fun q => q = tm) w w1 := by
  obtain ⟨a0, a1⟩ := hg.a_le
  have hn := hg.n_le
  have hc := cntC_le (plN p) c.T
  obtain ⟨w1, hr, hm, hu⟩ := h.T.stor (t := 53) (max_le _ (by omega)) Tryz.underlying3 Tryz.underlying53 Tryz.underlying3 (key := p.a + (i : Int)) (val := v) ⟨by omega, by omega⟩ hv h0
  refine ⟨w1, hr, ⟨h.blk.upd hu h.nt, h.B.upd hu h.ne, ?_, h.ne, out_T h.out hi v⟩, hu⟩
  rw [atT_upd p.a c.T c.B c.B i v]
  show MapP w1 tm _ (cntC (plN p) (updI c.T i v))
  rw [cnt_upd hi h0]
  rw [atT_place] at hm
  exact hm
theorem PoolM.setB (h : PoolM w kp bm tm p L c) (hg : PoolG p L) {j : Nat} (hj : j < plM p L) {v : Int} (hv : I64 v) (h0 : v ≠ 0) :
    ∃ w1, (Instr.mapUpdate 53 (.map (some bm)) (.int .i64 (p.a + ((j * plZ L : Nat) : Int))) (.int .i64 v)).run Tryz.prog w = .ok () w1 ∧ PoolM w1 kp bm tm p L ⟨c.T, updI c.B j v⟩ ∧ Upd (fun q => q = bm) w w1 := by
  obtain ⟨a0, a1⟩ := hg.a_le
  have hn := plM_le hg
  have hl := hg.pp.block_lt hj (plZ_pos L)
  have hc := cntC_le (plM p L) c.B
  obtain ⟨w1, hr, hm, hu⟩ := h.B.stor (t := 53) (max_le _ (by omega)) Tryz.underlying3 Tryz.underlying53 Tryz.underlying3 (key := p.a + ((j * plZ L : Nat) : Int)) (val := v) ⟨by omega, by omega⟩ hv h0
  refine ⟨w1, hr, ⟨h.blk.upd hu h.nb, ?_, h.T.upd hu (Ne.symm h.ne), h.ne, out_B hg h.out hj v⟩, hu⟩
  rw [atB_upd p.a c.T c.T c.B (plZ_pos L) j v]
  show MapP w1 bm _ (cntC (plM p L) (updI c.B j v))
  rw [cnt_upd hj h0]
  rw [atB_block _ _ (plZ_pos L)] at hm
  exact hm
/-- What a map says after 0 is put in. -/
theorem PoolM.zeroT (h : PoolM w kp bm tm p L c) {i : Nat} (hi : i < plN p) (hu : Upd (fun q => q = tm) w w1) (hm : MapP w1 tm (updZ (atT p.a c) (p.a + (i : Int)) 0) (if atT p.a c (p.a + (i : Int)) = 0 then cntC (plN p) c.T else cntC (plN p) c.T - 1)) : PoolM w1 kp bm tm p L ⟨updI c.T i 0, c.B⟩ := by
  refine ⟨h.blk.upd hu h.nt, h.B.upd hu h.ne, ?_, h.ne, out_T h.out hi 0⟩
  rw [atT_upd p.a c.T c.B c.B i 0]
  show MapP w1 tm _ (cntC (plN p) (updI c.T i 0))
  rw [cnt_upd0 hi]
  rw [atT_place] at hm
  exact hm
theorem PoolM.zeroB (h : PoolM w kp bm tm p L c) (hg : PoolG p L) {j : Nat} (hj : j < plM p L) (hu : Upd (fun q => q = bm) w w1) (hm : MapP w1 bm (updZ (atB p.a (plZ L) c) (p.a + ((j * plZ L : Nat) : Int)) 0) (if atB p.a (plZ L) c (p.a + ((j * plZ L : Nat) : Int)) = 0 then cntC (plM p L) c.B else cntC (plM p L) c.B - 1)) :
    PoolM w1 kp bm tm p L ⟨c.T, updI c.B j 0⟩ := by
  refine ⟨h.blk.upd hu h.nb, ?_, h.T.upd hu (Ne.symm h.ne), h.ne, out_B hg h.out hj 0⟩
  rw [atB_upd p.a c.T c.T c.B (plZ_pos L) j 0]
  show MapP w1 bm _ (cntC (plM p L) (updI c.B j 0))
  rw [cnt_upd0 hj]
  rw [atB_block _ _ (plZ_pos L)] at hm
  exact hm
end
end Go.Proofs.YtimhbgpnkodlaaaGreatDoor

namespace Go.Proofs.YtimhbgpnkodlaaaGreatDoor
open Go.RowKit Go.Maps
section
variable {w w1 : World} {kp bm tm : Nat} {p : Pf} {L : Int} {c : PoolC} {E : Nat → Addr}
abbrev gFullB : Nat := 1
abbrev gNoneB : Nat := 2
def qHost (h : Int) : Int → Bool := fun x => decide (x = h)
def qAny : Int → Bool := fun _ => true
/-- A host that is none. -/
theorem pltake_out (h2 : Sen w gBound (E 2)) (host : Int) (hh : host < 1 ∨ 1000 < host) :
    Calls Tryz.prog 8 #[.pointer (some ⟨kp, 0, none⟩), .int .i64 host] w fun e w1 => e = .returned (.tuple #[.int .i64 0, errv (E 2)]) ∧ New w w1 := by
  have b0 := Blk.new w 3 #[.int .i64 host]
  have u := (Upd.refl (fun _ => False) w).alloc (.cells #[.int .i64 host] 3)
  have H2 := hide (h2.new u)
  have z2 := h2.lt
  have Hu := hide u
  have Hb := hide b0
  clear u h2 b0
  go_enter Tryz.func8, Tryz.ntmps8
  go_upto_region 1 with (fail)
  generalize (w.alloc (.cells #[.int .i64 host] 3)) = W at *
  have c0 := Hb.out.cell 0
  simp only [List.getElem?_toArray, List.getElem?_cons_zero] at c0
  have z0 := Hb.out.lt
  have c2 : W.cell? ⟨gBound, 0, none⟩ = some (errv (E 2)) := H2.out
  rcases Int.lt_or_le host 1 with hl | hl
  · go_wp2_with fail
    go_region
    go_wp2_with fail
    go_ret2
    exact ⟨rfl, Hu.out.drew⟩
  · have hl2 : 1000 < host := by omega
    clear hh
    go_wp2_with fail
    go_region
    go_wp2_with fail
    go_ret2
    exact ⟨rfl, Hu.out.drew⟩

/-- What Take finds. -/
structure TakeW (w W : World) (kp bm tm : Nat) (p : Pf) (L : Int) (c : PoolC) (E : Nat → Addr) (host : Int) : Prop where
  new : New w W
  box : Blk W w.heap.size 3 #[.int .i64 host]
  pool : PoolM W kp bm tm p L c
  e2 : Sen W gBound (E 2)
  e3 : Sen W gShape (E 3)
  e7 : Sen W gFullB (E 7)
theorem TakeW.more {W W2 : World} {host : Int} (h : TakeW w W kp bm tm p L c E host) (hu : New W W2) : TakeW w W2 kp bm tm p L c E host :=
  ⟨h.new.trans_new hu, h.box.new_ hu, h.pool.new_ hu, h.e2.new hu, h.e3.new hu, h.e7.new hu⟩
theorem TakeW.start (h : PoolM w kp bm tm p L c) (h2 : Sen w gBound (E 2)) (h3 : Sen w gShape (E 3)) (h7 : Sen w gFullB (E 7)) (host : Int) : TakeW w (w.alloc (.cells #[.int .i64 host] 3)) kp bm tm p L c E host := by
  have u := (Upd.refl (fun _ => False) w).alloc (.cells #[.int .i64 host] 3)
  exact ⟨u, Blk.new w _ _, h.new_ u, h2.new u, h3.new u, h7.new u⟩
theorem TakeW.find1 {W : World} {host : Int} (h : TakeW w W kp bm tm p L c E host) (hg : PoolG p L) :
    Calls Tryz.prog 29 #[.pointer (some ⟨kp, 0, none⟩), .func (.func 30) #[] #[.pointer (some ⟨w.heap.size, 0, none⟩)]] W fun e w1 => e = .returned (encO p.a (freeC (plN p) (plZ L) c (qHost host))) ∧ New W w1 :=
  plfind1 hg h.pool h.e2 h.e3 (qHost host) w.heap.size fun W2 x hu => plask1 w.heap.size host W2 (h.box.new_ hu) x
theorem TakeW.find2 {W : World} {host : Int} (h : TakeW w W kp bm tm p L c E host) (hg : PoolG p L) :
    Calls Tryz.prog 29 #[.pointer (some ⟨kp, 0, none⟩), .func (.func 31) #[] #[]] W fun e w1 => e = .returned (encO p.a (freeC (plN p) (plZ L) c (qHost 0))) ∧ New W w1 :=
  plfind2 hg h.pool h.e2 h.e3 (qHost 0) fun W2 x _ => plask2 x W2
theorem TakeW.find3 {W : World} {host : Int} (h : TakeW w W kp bm tm p L c E host) (hg : PoolG p L) :
    Calls Tryz.prog 29 #[.pointer (some ⟨kp, 0, none⟩), .func (.func 33) #[] #[]] W fun e w1 => e = .returned (encO p.a (freeC (plN p) (plZ L) c qAny)) ∧ New W w1 :=
  plfind3 hg h.pool h.e2 h.e3 qAny fun W2 x _ => plask3 x W2
/-- What is found, as the program has it. -/
theorem as_some {f : Nat} {args : Array Value} {W : World} {a0 : Int} {o : Option Nat} {i : Nat} (h : Calls Tryz.prog f args W fun e w1 => e = .returned (encO a0 o) ∧ New W w1) (ho : o = some i) :
    Calls Tryz.prog f args W fun e w1 => e = .returned (.tuple #[.int .i64 (a0 + (i : Int)), .bool true]) ∧ New W w1 := by subst ho; exact h
theorem as_none {f : Nat} {args : Array Value} {W : World} {a0 : Int} {o : Option Nat} (h : Calls Tryz.prog f args W fun e w1 => e = .returned (encO a0 o) ∧ New W w1) (ho : o = none) :
    Calls Tryz.prog f args W fun e w1 => e = .returned (.tuple #[.int .i64 0, .bool false]) ∧ New W w1 := by subst ho; exact h

set_option maxRecDepth 20000 in
set_option maxHeartbeats 1000000 in
theorem pltake_A (hg : PoolG p L) (h : PoolM w kp bm tm p L c) (h2 : Sen w gBound (E 2)) (h3 : Sen w gShape (E 3)) (h7 : Sen w gFullB (E 7)) (host : Int) (hh : 1 ≤ host ∧ host ≤ 1000) (i : Nat) (hi : i < plN p) (f1 : freeC (plN p) (plZ L) c (qHost host) = some i) :
    Calls Tryz.prog 8 #[.pointer (some ⟨kp, 0, none⟩), .int .i64 host] w fun e w1 => e = .returned (.tuple #[.int .i64 (p.a + (i : Int)), .nilIface]) ∧ PoolM w1 kp bm tm p L ⟨updI c.T i host, c.B⟩ ∧ Upd (fun k => k = bm ∨ k = tm) w w1 := by
  have HW := hide (TakeW.start h h2 h3 h7 host)
  have Hg := hide hg
  have H1 := hide f1
  have Hi := hide hi
  obtain ⟨hh1, hh2⟩ := hh
  clear h h2 h3 h7 hg f1 hi
  go_enter Tryz.func8, Tryz.ntmps8
  go_upto_region 1 with (fail)
  generalize (w.alloc (.cells #[.int .i64 host] 3)) = W at *
  have c0 := HW.out.box.cell 0
  simp only [List.getElem?_toArray, List.getElem?_cons_zero] at c0
  have z0 := HW.out.box.lt
  go_upto_region 4 with ((go_at_call 29; refine (as_some (HW.out.find1 Hg.out) H1.out).mono ?_; rintro e w' ⟨rfl, hu1⟩))
  have h1 := HW.out.more hu1
  generalize w' = W1 at *
  have c4 : W1.cell? ⟨kp, 4, none⟩ = some (.map (some tm)) := h1.pool.blk.cell 4
  have c1 := h1.box.cell 0
  simp only [List.getElem?_toArray, List.getElem?_cons_zero] at c1
  obtain ⟨w2, hr, hp2, hu2⟩ := (h1.pool.new_ ((Upd.refl _ W1).drew)).setT Hg.out Hi.out (v := host) ⟨by omega, by omega⟩ (by omega)
  have y0 := h1.box.lt
  have y1 := h1.pool.blk.lt
  go_upto_region 12 with (fail)
  go_region
  go_wp2_with fail
  go_ret2
  exact ⟨rfl, hp2, ((Upd.of_new h1.new).drew).trans hu2 fun k _ hk => .inr hk⟩
set_option maxRecDepth 20000 in
set_option maxHeartbeats 1000000 in
theorem pltake_C (hg : PoolG p L) (h : PoolM w kp bm tm p L c) (h2 : Sen w gBound (E 2)) (h3 : Sen w gShape (E 3)) (h7 : Sen w gFullB (E 7)) (host : Int) (hh : 1 ≤ host ∧ host ≤ 1000) (i : Nat) (hi : i < plN p) (f1 : freeC (plN p) (plZ L) c (qHost host) = none) (f2 : freeC (plN p) (plZ L) c (qHost 0) = none) (f3 : freeC (plN p) (plZ L) c qAny = some i) :
    Calls Tryz.prog 8 #[.pointer (some ⟨kp, 0, none⟩), .int .i64 host] w fun e w1 => e = .returned (.tuple #[.int .i64 (p.a + (i : Int)), .nilIface]) ∧ PoolM w1 kp bm tm p L ⟨updI c.T i host, c.B⟩ ∧ Upd (fun k => k = bm ∨ k = tm) w w1 := by
  have HW := hide (TakeW.start h h2 h3 h7 host)
  have Hg := hide hg
  have H1 := hide f1
  have H2 := hide f2
  have H3 := hide f3
  have Hi := hide hi
  clear f1 f2 f3 hi
  obtain ⟨hh1, hh2⟩ := hh
  clear h h2 h3 h7 hg
  go_enter Tryz.func8, Tryz.ntmps8
  go_upto_region 1 with (fail)
  generalize (w.alloc (.cells #[.int .i64 host] 3)) = W at *
  have c0 := HW.out.box.cell 0
  simp only [List.getElem?_toArray, List.getElem?_cons_zero] at c0
  have z0 := HW.out.box.lt
  go_upto_region 4 with ((go_at_call 29; refine (as_none (HW.out.find1 Hg.out) H1.out).mono ?_; rintro e w' ⟨rfl, hu1⟩))
  have h1 := hide (HW.out.more hu1)
  generalize w' = W1 at *
  go_upto_region 6 with ((go_at_call 29; refine (as_none (h1.out.find2 Hg.out) H2.out).mono ?_; rintro e w' ⟨rfl, hu2⟩))
  have h2 := hide (h1.out.more hu2)
  generalize w' = W2 at *
  go_upto_region 10 with ((go_at_call 29; refine (as_some (h2.out.find3 Hg.out) H3.out).mono ?_; rintro e w' ⟨rfl, hu3⟩))
  have h3 := hide (h2.out.more hu3)
  generalize w' = W3 at *
  have c4 : W3.cell? ⟨kp, 4, none⟩ = some (.map (some tm)) := h3.out.pool.blk.cell 4
  have c1 := h3.out.box.cell 0
  simp only [List.getElem?_toArray, List.getElem?_cons_zero] at c1
  have y0 := h3.out.box.lt
  have y1 := h3.out.pool.blk.lt
  obtain ⟨w2, hr, hp2, hv2⟩ := (h3.out.pool.new_ ((Upd.refl _ W3).drew)).setT Hg.out Hi.out (v := host) ⟨by omega, by omega⟩ (by omega)
  go_upto_region 12 with (fail)
  go_region
  go_wp2_with fail
  go_ret2
  exact ⟨rfl, hp2, ((Upd.of_new h3.out.new).drew).trans hv2 fun k _ hk => .inr hk⟩
set_option maxRecDepth 20000 in
set_option maxHeartbeats 1000000 in
theorem pltake_D (hg : PoolG p L) (h : PoolM w kp bm tm p L c) (h2 : Sen w gBound (E 2)) (h3 : Sen w gShape (E 3)) (h7 : Sen w gFullB (E 7)) (host : Int) (hh : 1 ≤ host ∧ host ≤ 1000) (f1 : freeC (plN p) (plZ L) c (qHost host) = none) (f2 : freeC (plN p) (plZ L) c (qHost 0) = none) (f3 : freeC (plN p) (plZ L) c qAny = none) :
    Calls Tryz.prog 8 #[.pointer (some ⟨kp, 0, none⟩), .int .i64 host] w fun e w1 => e = .returned (.tuple #[.int .i64 0, errv (E 7)]) ∧ New w w1 := by
  have HW := hide (TakeW.start h h2 h3 h7 host)
  have Hg := hide hg
  have H1 := hide f1
  have H2 := hide f2
  have H3 := hide f3
  clear f1 f2 f3
  obtain ⟨hh1, hh2⟩ := hh
  clear h h2 h3 h7 hg
  go_enter Tryz.func8, Tryz.ntmps8
  go_upto_region 1 with (fail)
  generalize (w.alloc (.cells #[.int .i64 host] 3)) = W at *
  have c0 := HW.out.box.cell 0
  simp only [List.getElem?_toArray, List.getElem?_cons_zero] at c0
  have z0 := HW.out.box.lt
  go_upto_region 4 with ((go_at_call 29; refine (as_none (HW.out.find1 Hg.out) H1.out).mono ?_; rintro e w' ⟨rfl, hu1⟩))
  have h1 := hide (HW.out.more hu1)
  generalize w' = W1 at *
  go_upto_region 6 with ((go_at_call 29; refine (as_none (h1.out.find2 Hg.out) H2.out).mono ?_; rintro e w' ⟨rfl, hu2⟩))
  have h2 := hide (h1.out.more hu2)
  generalize w' = W2 at *
  go_upto_region 10 with ((go_at_call 29; refine (as_none (h2.out.find3 Hg.out) H3.out).mono ?_; rintro e w' ⟨rfl, hu3⟩))
  have h3 := hide (h2.out.more hu3)
  generalize w' = W3 at *
  have c7 : W3.cell? ⟨gFullB, 0, none⟩ = some (errv (E 7)) := h3.out.e7
  have y7 := h3.out.e7.lt
  go_upto_region 11 with (fail)
  go_region
  go_wp2_with fail
  go_ret2
  exact ⟨rfl, h3.out.new.drew⟩
set_option maxRecDepth 20000 in
set_option maxHeartbeats 1000000 in
theorem pltake_B (hg : PoolG p L) (h : PoolM w kp bm tm p L c) (h2 : Sen w gBound (E 2)) (h3 : Sen w gShape (E 3)) (h7 : Sen w gFullB (E 7)) (host : Int) (hh : 1 ≤ host ∧ host ≤ 1000) (i : Nat) (hi : i < plN p) (f1 : freeC (plN p) (plZ L) c (qHost host) = none) (f2 : freeC (plN p) (plZ L) c (qHost 0) = some i) :
    Calls Tryz.prog 8 #[.pointer (some ⟨kp, 0, none⟩), .int .i64 host] w fun e w1 => e = .returned (.tuple #[.int .i64 (p.a + (i : Int)), .nilIface]) ∧ PoolM w1 kp bm tm p L ⟨updI c.T i host, updI c.B (i / plZ L) host⟩ ∧ Upd (fun k => k = bm ∨ k = tm) w w1 := by
  have HW := hide (TakeW.start h h2 h3 h7 host)
  have Hg := hide hg
  have H1 := hide f1
  have H2 := hide f2
  have Hi := hide hi
  have zb := h.B.lt
  clear f1 f2 hi
  obtain ⟨hh1, hh2⟩ := hh
  clear h h2 h3 h7 hg
  go_enter Tryz.func8, Tryz.ntmps8
  go_upto_region 1 with (fail)
  generalize (w.alloc (.cells #[.int .i64 host] 3)) = W at *
  have c0 := HW.out.box.cell 0
  simp only [List.getElem?_toArray, List.getElem?_cons_zero] at c0
  have z0 := HW.out.box.lt
  go_upto_region 4 with ((go_at_call 29; refine (as_none (HW.out.find1 Hg.out) H1.out).mono ?_; rintro e w' ⟨rfl, hu1⟩))
  have h1 := hide (HW.out.more hu1)
  generalize w' = W1 at *
  go_upto_region 6 with ((go_at_call 29; refine (as_some (h1.out.find2 Hg.out) H2.out).mono ?_; rintro e w' ⟨rfl, hu2⟩))
  have h2 := hide (h1.out.more hu2)
  generalize w' = W2 at *
  have c3 : W2.cell? ⟨kp, 3, none⟩ = some (.map (some bm)) := h2.out.pool.blk.cell 3
  have c1 := h2.out.box.cell 0
  simp only [List.getElem?_toArray, List.getElem?_cons_zero] at c1
  have y0 := h2.out.box.lt
  have y1 := h2.out.pool.blk.lt
  have hB := fun n : Nat => (h2.out.pool.new_ ((Upd.refl _ W2).drewN (1 + n))).setB Hg.out (j := i / plZ L) (Hg.out.pp.in_block Hi.out) (v := host) ⟨by omega, by omega⟩ (by omega)
  have hb := plbegin_any Hg.out (h2.out.pool.new_ (Upd.refl _ W2).drew) i Hi.out
  obtain ⟨bg, hbg⟩ : ∃ bg : Int, p.a + ((i / plZ L * plZ L : Nat) : Int) = bg := ⟨_, rfl⟩
  rw [hbg] at hb
  rw [hbg] at hB
  have HB := hide hB
  have Hb := hide hb
  clear hB hb hbg
  go_upto_region 7 with (fail)
  go_region_with ((go_at_call 32; refine Hb.out.mono ?_; rintro e w' ⟨rfl, n, rfl⟩; obtain ⟨w5, hr, hp5, hv5⟩ := HB.out n))
  all_goals (
    have c4 : w5.cell? ⟨kp, 4, none⟩ = some (.map (some tm)) := hp5.blk.cell 4
    have b5 := (h2.out.box.new_ ((Upd.refl (fun _ => False) W2).drewN (1 + n))).upd hv5 (by omega)
    have c5 := b5.cell 0
    simp only [List.getElem?_toArray, List.getElem?_cons_zero] at c5
    have y2 := b5.lt
    have y3 := hp5.blk.lt
    obtain ⟨w6, hr6, hp6, hv6⟩ := (hp5.new_ ((Upd.refl _ w5).drew)).setT Hg.out Hi.out (v := host) ⟨by omega, by omega⟩ (by omega)
    have hu5 := hide (((Upd.of_new h2.out.new).drewN (1 + n)).trans hv5 (S := fun k => k = bm ∨ k = tm) fun k _ hk => .inl hk)
    clear hr hp5 b5
    go_upto_region 12 with (fail)
    go_region
    go_wp2_with fail
    go_ret2
    exact ⟨rfl, hp6, hu5.out.drew.trans hv6 fun k _ hk => .inr hk⟩)
theorem qHost_eq (n z : Nat) (c : PoolC) (h : Int) : freeC n z c (qHost h) = freeC n z c fun x => decide (x = h) := rfl
/-- Take, when there is a place. -/
theorem pltake_some (hg : PoolG p L) (h : PoolM w kp bm tm p L c) (h2 : Sen w gBound (E 2)) (h3 : Sen w gShape (E 3)) (h7 : Sen w gFullB (E 7)) (host : Int) (hh : 1 ≤ host ∧ host ≤ 1000) {i : Nat} {c1 : PoolC} (e : takeC (plN p) (plZ L) c host = (some i, c1)) :
    Calls Tryz.prog 8 #[.pointer (some ⟨kp, 0, none⟩), .int .i64 host] w fun e w1 => e = .returned (.tuple #[.int .i64 (p.a + (i : Int)), .nilIface]) ∧ PoolM w1 kp bm tm p L c1 ∧ Upd (fun k => k = bm ∨ k = tm) w w1 := by
  have hi := (take_some e (by omega)).1
  unfold takeC at e
  split at e
  · rename_i j hj
    injection e with e1 e2
    injection e1 with e1
    subst e1; subst e2
    exact pltake_A hg h h2 h3 h7 host hh j hi hj
  · rename_i hn
    split at e
    · rename_i j hj
      injection e with e1 e2
      injection e1 with e1
      subst e1; subst e2
      exact pltake_B hg h h2 h3 h7 host hh j hi hn hj
    · rename_i hn2
      split at e
      · rename_i j hj
        injection e with e1 e2
        injection e1 with e1
        subst e1; subst e2
        exact pltake_C hg h h2 h3 h7 host hh j hi hn hn2 hj
      · cases e
/-- Take, when there is none. -/
theorem pltake_none (hg : PoolG p L) (h : PoolM w kp bm tm p L c) (h2 : Sen w gBound (E 2)) (h3 : Sen w gShape (E 3)) (h7 : Sen w gFullB (E 7)) (host : Int) (hh : 1 ≤ host ∧ host ≤ 1000) {c1 : PoolC} (e : takeC (plN p) (plZ L) c host = (none, c1)) :
    Calls Tryz.prog 8 #[.pointer (some ⟨kp, 0, none⟩), .int .i64 host] w fun e w1 => e = .returned (.tuple #[.int .i64 0, errv (E 7)]) ∧ New w w1 := by
  unfold takeC at e
  split at e
  · cases e
  · rename_i hn
    split at e
    · cases e
    · rename_i hn2
      split at e
      · cases e
      · rename_i hn3
        exact pltake_D hg h h2 h3 h7 host hh hn hn2 hn3
end
end Go.Proofs.YtimhbgpnkodlaaaGreatDoor

namespace Go.Proofs.YtimhbgpnkodlaaaGreatDoor
open Go.RowKit Go.Maps
section
variable {w w1 : World} {kp bm tm : Nat} {p : Pf} {L : Int} {c : PoolC} {E : Nat → Addr}
set_option maxHeartbeats 400000 in
/-- What nobody has. -/
theorem plgive_no (h : PoolM w kp bm tm p L c) (h5 : Sen w gNoneB (E 5)) {a : Int} (ha : I64 a) (h0 : atT p.a c a = 0) :
    Calls Tryz.prog 10 #[.pointer (some ⟨kp, 0, none⟩), .int .i64 a] w fun e w1 => e = .returned (errv (E 5)) ∧ w = w1 := by
  have c4 : w.cell? ⟨kp, 4, none⟩ = some (.map (some tm)) := h.blk.cell 4
  have z0 := h.blk.lt
  have hl := h.lookT ha
  rw [h0] at hl
  have c5 : w.cell? ⟨gNoneB, 0, none⟩ = some (errv (E 5)) := h5
  have z5 := h5.lt
  clear h h0
  go_enter Tryz.func10, Tryz.ntmps10
  go_wp2_with fail
  go_ret
  exact ⟨rfl, rfl⟩
set_option maxRecDepth 20000 in
set_option maxHeartbeats 1000000 in
theorem plgive_yes (hg : PoolG p L) (h : PoolM w kp bm tm p L c) {i : Nat} (hi : i < plN p) (h0 : c.T i ≠ 0) :
    Calls Tryz.prog 10 #[.pointer (some ⟨kp, 0, none⟩), .int .i64 (p.a + (i : Int))] w fun e w1 => e = .returned .nilIface ∧ PoolM w1 kp bm tm p L (giveC (plZ L) c i) ∧ Upd (fun k => k = bm ∨ k = tm) w w1 := by
  have c4 : w.cell? ⟨kp, 4, none⟩ = some (.map (some tm)) := h.blk.cell 4
  have z0 := h.blk.lt
  obtain ⟨a0, a1⟩ := hg.a_le
  have hn := hg.n_le
  have ha : I64 (p.a + (i : Int)) := ⟨by omega, by omega⟩
  have hl := h.lookT ha
  rw [atT_place] at hl
  have hb0 : (c.T i == 0) = false := by simpa using h0
  have Hh := hide h
  have Hg := hide hg
  have Hi := hide hi
  have H0 := hide h0
  have HT := hide h.T
  have Ha := hide ha
  clear h h0 hi ha
  go_enter Tryz.func10, Tryz.ntmps10
  go_upto_region 4 with (first
    | (at_delete; refine wpList_dele _ rfl _ _ 53 3 rfl 3 Tryz.underlying3 Tryz.underlying53 tm _ _ rfl HT.out (p.a + (i : Int)) rfl Ha.out ?_; intro w1 hm1 hu1)
    | go_in)
  have hp1 := Hh.out.zeroT Hi.out hu1 hm1
  obtain ⟨c1, hc1⟩ : ∃ c1 : PoolC, (⟨updI c.T i 0, c.B⟩ : PoolC) = c1 := ⟨_, rfl⟩
  have Hgv := hide (show giveC (plZ L) c i = ⟨c1.T, if emptyC (plZ L) c1.T (i / plZ L) then updI c1.B (i / plZ L) 0 else c1.B⟩ by rw [← hc1]; rfl)
  rw [hc1] at hp1
  obtain ⟨j, hj⟩ : ∃ j, i / plZ L = j := ⟨_, rfl⟩
  have Hj := hide (show j < plM p L from hj ▸ Hg.out.pp.in_block Hi.out)
  have hb := plbegin_any Hg.out hp1 i Hi.out
  obtain ⟨b, hbz⟩ : ∃ b, j * plZ L = b := ⟨_, rfl⟩
  rw [hj] at Hgv
  rw [hj, hbz] at hb
  have Hbz := hide hbz
  have Hb := hide hb
  have Hu1 := hide hu1
  have Hp1 := hide hp1
  clear hm1 hu1 hb hl hb0 hp1 hc1 hj hbz
  simp only [Act.put]
  go_upto_region 6 with ((go_at_call 32; refine Hb.out.mono ?_; rintro e w' ⟨rfl, n, rfl⟩))
  have hp3 := Hp1.out.new_ ((Upd.refl (fun _ => False) w1).drewN n)
  have hu3 := hide (Hu1.out.drewN n)
  generalize w1.drewN n = W3 at *
  have d3 : W3.cell? ⟨kp, 3, none⟩ = some (.map (some bm)) := hp3.blk.cell 3
  have d4 : W3.cell? ⟨kp, 4, none⟩ = some (.map (some tm)) := hp3.blk.cell 4
  have y0 := hp3.blk.lt
  have HT3 := hide hp3.T
  have HB3 := hide hp3.B
  have hz := plsize_any Hg.out hp3
  have hzl := hg.z_le
  have hzp := plZ_pos L
  have hlt := fun x hx => hg.pp.block_lt (x := x) Hj.out hx
  have hat := fun i => atT_place p.a c1 i
  have he := empty_iff (z := plZ L) (T := c1.T) (j := j)
  simp only [Hbz.out] at hlt he
  have He := hide he
  clear he
  have Hp3 := hide hp3
  clear hp3 hg
  generalize hzz : plZ L = z at *
  generalize hnn : plN p = N at *
  have Hlt := hide hlt
  have Hat := hide hat
  have Hz := hide hz
  clear hlt hat hz
  go_loop [6] (fun i => ∃ x : Nat, x ≤ z ∧ i = .int .i64 (p.a + ((b + x : Nat) : Int)) ∧ ∀ y, y < x → c1.T (b + y) = 0) (fun i => z - (intOf i - p.a - (b : Int)).toNat)
  case atStart => exact ⟨0, by omega, by simp, fun y h => absurd h (by omega)⟩
  case round =>
    obtain ⟨x, hx, rfl, hy⟩ := hrel
    have Hy := hide hy
    clear hy
    by_cases hlx : x < z
    · have hin := Hlt.out x hlx
      have i1 : p.a + ((b + x : Nat) : Int) < p.a + (b : Int) + (z : Int) := by omega
      have hk : I64 (p.a + ((b + x : Nat) : Int)) := ⟨by omega, by omega⟩
      have hl := Hat.out (b + x)
      by_cases h0 : c1.T (b + x) = 0
      · have H0 := hide h0
        rw [h0] at hl
        have Hl := hide hl
        clear h0 hl
        go_wp2_with (first
          | (go_at_call 36; refine Hz.out.mono ?_; rintro e w' ⟨rfl, rfl⟩)
          | (at_lookup; refine wpList_look _ rfl _ _ 53 rfl 3 3 Tryz.underlying3 Tryz.underlying53 Tryz.underlying3 (Tryz.zeroValue3 _) tm _ _ rfl HT3.out (p.a + ((b + x : Nat) : Int)) rfl hk ?_; rw [Hl.out])
          | go_in)
        exact ⟨⟨x + 1, by omega, by congr 1; omega, fun y hy => by
          by_cases hyx : y < x
          · exact Hy.out y hyx
          · rw [show y = x by omega]
            exact H0.out⟩, by simp [intOf]; omega⟩
      · have hb0 : (c1.T (b + x) != 0) = true := by simpa using h0
        have H0 := hide h0
        have Hl := hide hl
        clear h0 hl
        go_wp2_with (first
          | (go_at_call 36; refine Hz.out.mono ?_; rintro e w' ⟨rfl, rfl⟩)
          | (at_lookup; refine wpList_look _ rfl _ _ 53 rfl 3 3 Tryz.underlying3 Tryz.underlying53 Tryz.underlying3 (Tryz.zeroValue3 _) tm _ _ rfl HT3.out (p.a + ((b + x : Nat) : Int)) rfl hk ?_; rw [Hl.out])
          | go_in)
        go_ret
        refine ⟨rfl, ?_, hu3.out.mono fun k _ hk => .inr hk⟩
        have he : emptyC z c1.T j = false := Bool.eq_false_iff.2 fun he => H0.out (He.out.1 he x hlx)
        rw [he] at Hgv
        rw [hzz, Hgv.out]
        exact Hp3.out
    · have hxz := hide (show x = z by omega)
      have i1 : p.a + (b : Int) + (z : Int) ≤ p.a + ((b : Int) + (x : Int)) := by omega
      have hin := Hlt.out 0 hzp
      have hkb : I64 (p.a + (b : Int)) := ⟨by omega, by omega⟩
      clear hlx hx
      go_wp2_with (first
        | (go_at_call 36; refine Hz.out.mono ?_; rintro e w' ⟨rfl, rfl⟩)
        | (at_delete; refine wpList_dele _ rfl _ _ 53 3 rfl 3 Tryz.underlying3 Tryz.underlying53 bm _ _ rfl HB3.out (p.a + (b : Int)) rfl hkb ?_; intro w4 hm4 hu4; simp only [Act.put])
        | go_in)
      go_ret
      have he : emptyC z c1.T j = true := He.out.2 fun y hy => Hy.out y (by have := hxz.out; omega)
      rw [he] at Hgv
      rw [hzz, Hgv.out]
      subst hzz
      rw [← Hbz.out] at hm4
      exact ⟨rfl, Hp3.out.zeroB Hg.out Hj.out hu4 hm4, (hu3.out.mono fun k _ hk => .inr hk).trans hu4 fun k _ hk => .inl hk⟩
end
end Go.Proofs.YtimhbgpnkodlaaaGreatDoor

namespace Go.Proofs.YtimhbgpnkodlaaaGreatDoor
open Go.RowKit Go.Maps
section
variable {w w1 : World} {p : Pf} {L : Int} {E : Nat → Addr}
def badL (p : Pf) (L : Int) : Prop := L < p.n ∨ p.n + 6 < L ∨ 32 < L ∨ L < 20
def zeroP : PoolC := ⟨fun _ => 0, fun _ => 0⟩
theorem zero_out (n z : Nat) : OutC n z zeroP := ⟨fun _ _ => rfl, fun _ _ => rfl⟩
set_option maxRecDepth 20000 in
set_option maxHeartbeats 1000000 in
theorem plnew_chk (h2 : Sen w gBound (E 2)) (h3 : Sen w gShape (E 3)) (hc : chk p.a p.n ≠ 0) :
    Calls Tryz.prog 5 #[.agg #[.int .i64 p.a, .int .i64 p.n], .int .i64 L] w fun e w1 => e = .returned (.tuple #[.pointer none, .iface 142 (.pointer (some (E (chk p.a p.n))))]) ∧ New w w1 := by
  have u := (Upd.refl (fun _ => False) w).alloc (.cells #[.int .i64 p.a, .int .i64 p.n] 23)
  have b0 := Blk.new w 23 #[.int .i64 p.a, .int .i64 p.n]
  have H2 := hide (h2.new u)
  have H3 := hide (h3.new u)
  have Hu := hide u
  have c0 := b0.cell 0
  have c1 := b0.cell 1
  have z0 := b0.lt
  simp only [List.getElem?_toArray, List.getElem?_cons_zero, List.getElem?_cons_succ] at c0 c1
  have Hc := hide (check_no2 p.a p.n E _ H2.out H3.out hc)
  clear u h2 h3 b0
  go_enter Tryz.func5, Tryz.ntmps5
  go_upto_region 1 with (fail)
  generalize (w.alloc (.cells #[.int .i64 p.a, .int .i64 p.n] 23)) = W at *
  go_wp2_with (go_at_call 25; refine Hc.out.mono ?_; rintro e w' ⟨rfl, hu1⟩)
  go_ret2
  exact ⟨rfl, Hu.out.trans_new hu1⟩
set_option maxRecDepth 20000 in
set_option maxHeartbeats 1000000 in
theorem plnew_len (h2 : Sen w gBound (E 2)) (h3 : Sen w gShape (E 3)) (hc : chk p.a p.n = 0) (hl : badL p L) :
    Calls Tryz.prog 5 #[.agg #[.int .i64 p.a, .int .i64 p.n], .int .i64 L] w fun e w1 => e = .returned (.tuple #[.pointer none, errv (E 2)]) ∧ New w w1 := by
  have u := (Upd.refl (fun _ => False) w).alloc (.cells #[.int .i64 p.a, .int .i64 p.n] 23)
  have b0 := Blk.new w 23 #[.int .i64 p.a, .int .i64 p.n]
  have H2 := hide (h2.new u)
  have H3 := hide (h3.new u)
  have Hu := hide u
  have Hb := hide b0
  have c0 := b0.cell 0
  have c1 := b0.cell 1
  have z0 := b0.lt
  simp only [List.getElem?_toArray, List.getElem?_cons_zero, List.getElem?_cons_succ] at c0 c1
  have Hc := hide (check_yes p.a p.n E _ H2.out H3.out hc)
  obtain ⟨_, ⟨n0, n1⟩, _⟩ := chk_zero hc
  clear u h2 h3 b0 hc
  go_enter Tryz.func5, Tryz.ntmps5
  go_upto_region 1 with (fail)
  generalize (w.alloc (.cells #[.int .i64 p.a, .int .i64 p.n] 23)) = W at *
  go_upto_region 4 with (go_at_call 25; refine Hc.out.mono ?_; rintro e w' ⟨rfl, hu1⟩)
  have d1 := (Hb.out.new_ hu1).cell 1
  simp only [List.getElem?_toArray, List.getElem?_cons_succ, List.getElem?_cons_zero] at d1
  have y0 := (Hb.out.new_ hu1).lt
  have s2 : w'.cell? ⟨gBound, 0, none⟩ = some (errv (E 2)) := H2.out.new hu1
  have y2 := (H2.out.new hu1).lt
  have Hl := hide hl
  clear hl
  by_cases l1 : L < p.n
  · have k1 := hide l1
    go_upto_region 5 with (fail)
    go_region
    go_wp2_with fail
    go_ret2
    exact ⟨rfl, (Hu.out.trans_new hu1).drew⟩
  · have l1b : p.n ≤ L := by omega
    clear l1
    by_cases l2 : p.n + 6 < L
    · have k1 := hide l2
      go_upto_region 5 with (fail)
      go_region
      go_wp2_with fail
      go_ret2
      exact ⟨rfl, (Hu.out.trans_new hu1).drew⟩
    · have l2b : L ≤ p.n + 6 := by omega
      clear l2
      by_cases l3 : 32 < L
      · have k1 := hide l3
        go_upto_region 5 with (fail)
        go_region
        go_wp2_with fail
        go_ret2
        exact ⟨rfl, (Hu.out.trans_new hu1).drew⟩
      · have l3b : L ≤ 32 := by omega
        clear l3
        have l4 : L < 20 := by have := Hl.out; unfold badL at this; omega
        go_upto_region 5 with (fail)
        go_region
        go_wp2_with fail
        go_ret2
        exact ⟨rfl, (Hu.out.trans_new hu1).drew⟩
set_option maxRecDepth 20000 in
set_option maxHeartbeats 1000000 in
theorem plnew_ok (h2 : Sen w gBound (E 2)) (h3 : Sen w gShape (E 3)) (hc : chk p.a p.n = 0) (hl : ¬ badL p L) :
    Calls Tryz.prog 5 #[.agg #[.int .i64 p.a, .int .i64 p.n], .int .i64 L] w fun e w1 => ∃ kp bm tm, e = .returned (.tuple #[.pointer (some ⟨kp, 0, none⟩), .nilIface]) ∧ PoolM w1 kp bm tm p L zeroP ∧ New w w1 ∧ w.heap.size ≤ kp ∧ w.heap.size ≤ bm ∧ w.heap.size ≤ tm := by
  have u := (Upd.refl (fun _ => False) w).alloc (.cells #[.int .i64 p.a, .int .i64 p.n] 23)
  have b0 := Blk.new w 23 #[.int .i64 p.a, .int .i64 p.n]
  have H2 := hide (h2.new u)
  have H3 := hide (h3.new u)
  have Hu := hide u
  have Hb := hide b0
  have c0 := b0.cell 0
  have c1 := b0.cell 1
  have z0 := b0.lt
  simp only [List.getElem?_toArray, List.getElem?_cons_zero, List.getElem?_cons_succ] at c0 c1
  have Hc := hide (check_yes p.a p.n E _ H2.out H3.out hc)
  obtain ⟨_, ⟨n0, n1⟩, _⟩ := chk_zero hc
  have l1 : p.n ≤ L := by unfold badL at hl; omega
  have l2 : L ≤ p.n + 6 := by unfold badL at hl; omega
  have l3 : L ≤ 32 := by unfold badL at hl; omega
  have l4 : 20 ≤ L := by unfold badL at hl; omega
  clear u h2 h3 b0 hc hl
  have hmm := @run_makeMap Tryz.prog
  go_enter Tryz.func5, Tryz.ntmps5
  go_upto_region 1 with (fail)
  generalize (w.alloc (.cells #[.int .i64 p.a, .int .i64 p.n] 23)) = W at *
  go_upto_region 4 with (go_at_call 25; refine Hc.out.mono ?_; rintro e w' ⟨rfl, hu1⟩)
  have d0 := (Hb.out.new_ hu1).cell 0
  have d1 := (Hb.out.new_ hu1).cell 1
  simp only [List.getElem?_toArray, List.getElem?_cons_succ, List.getElem?_cons_zero] at d0 d1
  have y0 := (Hb.out.new_ hu1).lt
  go_upto_region 6 with (fail)
  go_wp2_with fail
  go_ret2
  have hn := Hu.out.trans_new hu1
  have hs := hn.size
  have nw : ∀ (W : World) (o : Obj), New W (W.alloc o) := fun W o => (Upd.refl _ W).alloc o
  have mB : MapP (w'.alloc (Obj.map #[] 0)) w'.heap.size (atB p.a (plZ L) zeroP) (cntC (plM p L) zeroP.B) := by
    rw [show atB p.a (plZ L) zeroP = fun _ => 0 from atB_zero _ _, show cntC (plM p L) zeroP.B = 0 from cntC_zero _]
    exact mapI_made _ _ _ _
  have mT : MapP ((w'.alloc (Obj.map #[] 0)).alloc (Obj.map #[] 0)) (w'.heap.size + 1) (atT p.a zeroP) (cntC (plN p) zeroP.T) := by
    rw [show atT p.a zeroP = fun _ => 0 from atT_zero _, show cntC (plN p) zeroP.T = 0 from cntC_zero _]
    have := mapI_made (w'.alloc (Obj.map #[] 0)) Tryz.prog 3 3
    rw [World.size_alloc] at this
    exact this
  exact ⟨w'.heap.size + 2, w'.heap.size, w'.heap.size + 1, rfl, ⟨Blk.at_ _ _ _ _ (by simp), (mB.new_ (nw _ _)).new_ (nw _ _), mT.new_ (nw _ _), by omega, zero_out _ _⟩, ((hn.alloc _).alloc _).alloc _, by omega, hs, by omega⟩
end
end Go.Proofs.YtimhbgpnkodlaaaGreatDoor

/- Own memory for a message that came in. No condition but those that stand in each theorem. -/
import Derived.Test.YtjgecmkfgeajiaaGreatDoorOw1
import Derived.Test.YtjgecmkfgeajiaaGreatDoorRf3
namespace Go.Proofs.YtjgecmkfgeajiaaGreatDoor
open Go.RowKit

theorem info_TRt : (Tryz.prog.info? TRt).map (fun i => (i.zero, i.size, i.bytes)) = some (some (.agg #[.int .i64 0, .int .i64 0, .slice none 0 0, .int .i64 0, .int .i64 0, .int .i64 0, .slice none 0 0, .int .i64 0]), 8, 96) := by kernel_rfl
theorem rt_size (rs : List RouteR) : ∀ r ∈ rs.map RouteR.cells, r.size = 8 := fun r hr => by obtain ⟨p, _, rfl⟩ := List.mem_map.1 hr; rfl
theorem route_cells (r : RouteR) (a : AttrR) : ({ r with at_ := a } : RouteR).cells = #[.int .i64 r.a, .int .i64 r.n, .slice a.P a.path.length a.pc, .int .i64 a.pref, .int .i64 a.med, .int .i64 a.origin, .slice a.T a.tags.length a.tc, .int .i64 r.frm] := rfl

/-- The rows of routes that a call has made so far. -/
structure OwnRts (base : Nat) (w : World) (v : Value) (rs : List RouteR) : Prop where
  own : w.ownsRow base TRt 8 v rs.length (flat (rs.map RouteR.cells))
  ok : ∀ r ∈ rs, AttrOk w r.at_ ∧ AttrTy w r.at_
theorem AttrTy.upd {S : Nat → Prop} {w w1 : World} {a : AttrR} (h : AttrTy w a) (hu : Upd S w w1) (hp : ∀ b o, a.P = some ⟨b, o, none⟩ → ¬ S b) (ht : ∀ b o, a.T = some ⟨b, o, none⟩ → ¬ S b) : AttrTy w1 a := ⟨h.1.upd hu hp, h.2.upd hu ht⟩
theorem AttrOk.upd {S : Nat → Prop} {w w1 : World} {a : AttrR} (h : AttrOk w a) (hu : Upd S w w1) (hp : ∀ b o, a.P = some ⟨b, o, none⟩ → ¬ S b) (ht : ∀ b o, a.T = some ⟨b, o, none⟩ → ¬ S b) : AttrOk w1 a := ⟨h.path.upd hu hp, h.tags.upd hu ht, h.pl, h.tl⟩
theorem AttrTy.new_ {w w1 : World} {a : AttrR} (h : AttrTy w a) (hu : New w w1) : AttrTy w1 a := ⟨h.1.new_ hu, h.2.new_ hu⟩
theorem own_new {w w1 : World} {base : Nat} {e : TypeId} {size n : Nat} {v : Value} {xs : List Value} (h : w.ownsRow base e size v n xs) (hu : New w w1) : w1.ownsRow base e size v n xs := by
  obtain ⟨h1, h2⟩ := h
  refine ⟨h1, ?_⟩
  rcases h2 with h2 | ⟨g, cap, cur, rfl, hg, hh, r⟩
  · exact .inl h2
  · exact .inr ⟨g, cap, cur, rfl, hg, Blk.new_ (t := e) hh hu, r⟩
theorem OwnRts.new_ {base : Nat} {w w1 : World} {v : Value} {rs : List RouteR} (h : OwnRts base w v rs) (hu : New w w1) : OwnRts base w1 v rs := ⟨own_new h.own hu, fun r hr => ⟨(h.ok r hr).1.new_ hu, (h.ok r hr).2.new_ hu⟩⟩
/-- One more. -/
theorem OwnRts.snoc {base : Nat} {w w1 : World} {v v1 : Value} {rs : List RouteR} {r : RouteR} (h : OwnRts base w v rs) (hok : AttrOk w r.at_) (hty : AttrTy w r.at_) (ho : w1.ownsRow base TRt 8 v1 (rs.length + 1) (flat (rs.map RouteR.cells) ++ r.cells.toList)) (hg : w.grownBy w1 v.ownBlock) : OwnRts base w1 v1 (rs ++ [r]) := by
  have hu : Upd (fun k => v.ownBlock = some k) w w1 := grown_upd hg fun g hg => hg
  have keep : ∀ x : RouteR, AttrOk w x.at_ → AttrTy w x.at_ → AttrOk w1 x.at_ ∧ AttrTy w1 x.at_ := fun x h1 h2 =>
    ⟨h1.upd hu (h2.1.ne_ h.own (by decide)) (h2.2.ne_ h.own (by decide)), h2.upd hu (h2.1.ne_ h.own (by decide)) (h2.2.ne_ h.own (by decide))⟩
  refine ⟨?_, fun x hx => ?_⟩
  · rw [List.map_append, flat_append, List.length_append]
    simpa [flat] using ho
  · rcases List.mem_append.1 hx with hx | hx
    · exact keep x (h.ok x hx).1 (h.ok x hx).2
    · obtain rfl := List.mem_singleton.1 hx
      exact keep x hok hty
theorem OwnRts.nil (base : Nat) (w : World) : OwnRts base w (.slice none 0 0) [] := ⟨World.ownsRow_nil _ _ _ _, fun r hr => absurd hr (by simp)⟩

theorem set5r {w : World} {R : Nat} {x0 x1 x2 x3 x4 x5 x6 x7 y0 y1 y2 y3 y4 : Value} {t : TypeId} (hb : Blk w R t #[x0, x1, x2, x3, x4, x5, x6, x7]) :
    Blk (((((w.setCell ⟨R, 2, none⟩ y0).setCell ⟨R, 3, none⟩ y1).setCell ⟨R, 4, none⟩ y2).setCell ⟨R, 5, none⟩ y3).setCell ⟨R, 6, none⟩ y4) R t #[x0, x1, y0, y1, y2, y3, y4, x7] := by
  have := ((((hb.set_ 2 y0).set_ 3 y1).set_ 4 y2).set_ 5 y3).set_ 6 y4
  simpa using this
theorem set5r_new {w W : World} {R : Nat} {y0 y1 y2 y3 y4 : Value} (hn : New w W) (hR : w.heap.size ≤ R) :
    New w (((((W.setCell ⟨R, 2, none⟩ y0).setCell ⟨R, 3, none⟩ y1).setCell ⟨R, 4, none⟩ y2).setCell ⟨R, 5, none⟩ y3).setCell ⟨R, 6, none⟩ y4) :=
  ((((hn.setCell (p := ⟨R, 2, none⟩) (.inr hR) y0).setCell (p := ⟨R, 3, none⟩) (.inr hR) y1).setCell (p := ⟨R, 4, none⟩) (.inr hR) y2).setCell (p := ⟨R, 5, none⟩) (.inr hR) y3).setCell (p := ⟨R, 6, none⟩) (.inr hR) y4
theorem set5r_upd {y0 y1 y2 y3 y4 : Value} (w2 : World) (R : Nat) : Upd (fun b => b = R) w2 (((((w2.setCell ⟨R, 2, none⟩ y0).setCell ⟨R, 3, none⟩ y1).setCell ⟨R, 4, none⟩ y2).setCell ⟨R, 5, none⟩ y3).setCell ⟨R, 6, none⟩ y4) :=
  (((((Upd.refl (fun b => b = R) w2).setCell (p := ⟨R, 2, none⟩) (.inl rfl) y0).setCell (p := ⟨R, 3, none⟩) (.inl rfl) y1).setCell (p := ⟨R, 4, none⟩) (.inl rfl) y2).setCell (p := ⟨R, 5, none⟩) (.inl rfl) y3).setCell (p := ⟨R, 6, none⟩) (.inl rfl) y4
theorem ty_ne {w : World} {A : Option Addr} {t e : TypeId} {R : Nat} {cs : Array Value} (h : Typed w A t) (hb : Blk w R e cs) (hne : t ≠ e) : ∀ b o, A = some ⟨b, o, none⟩ → ¬ b = R := fun b o e1 e2 => by
  obtain ⟨cs2, h2⟩ := h b o e1
  subst e2
  exact Blk.ne_ h2 hb hne rfl
theorem owns_ge {w : World} {base : Nat} {e : TypeId} {size n : Nat} {v : Value} {xs : List Value} (h : w.ownsRow base e size v n xs) {g : Nat} (hg : v.ownBlock = some g) : base ≤ g := by
  rcases h.2 with ⟨rfl, _⟩ | ⟨g1, cap, cur, rfl, hb, _⟩
  · simp [Value.ownBlock] at hg
  · have : g1 = g := by simpa [Value.ownBlock] using hg
    omega
theorem con_snoc {adds rs : List RouteR} {j : Nat} {r : RouteR} {a' : AttrR} (h : rs.map RouteR.con = (adds.take j).map RouteR.con) (hr : adds[j]? = some r) (hc : a'.con = r.at_.con) :
    (rs ++ [({ r with at_ := a' } : RouteR)]).map RouteR.con = (adds.take (j + 1)).map RouteR.con := by
  rw [List.map_append, h, List.take_add_one, hr, List.map_append]
  simp [RouteR.con, hc]
theorem TM_info : (Tryz.prog.info? TM).map (·.size) = some 4 := by kernel_rfl
theorem msg_out {fn : Func} {p : Tmp} {tmps : Array Value} {w : World} {R : Nat} {x0 x1 x2 x3 : Value} (h : fn.results = #[.cell p TM]) (hp : tmps.getD p undef = .pointer (some ⟨R, 0, none⟩)) (hb : Blk w R TM #[x0, x1, x2, x3]) :
    (results fn tmps).run Tryz.prog w = .ok (.agg #[x0, x1, x2, x3]) w := by
  exact results_cell_row h tmps w R TM #[x0, x1, x2, x3] (0, 0) _ hp hb Tryz.underlying25 rfl (by rw [TM_info]; rfl)
theorem set4 {w : World} {R : Nat} {x0 x1 x2 x3 y0 y1 y2 y3 : Value} {t : TypeId} (hb : Blk w R t #[x0, x1, x2, x3]) :
    Blk ((((w.setCell ⟨R, 0, none⟩ y0).setCell ⟨R, 1, none⟩ y1).setCell ⟨R, 2, none⟩ y2).setCell ⟨R, 3, none⟩ y3) R t #[y0, y1, y2, y3] := by
  have := (((hb.set_ 0 y0).set_ 1 y1).set_ 2 y2).set_ 3 y3
  simpa using this
theorem set4_upd {y0 y1 y2 y3 : Value} (w2 : World) (M R : Nat) (y y' : Value) :
    Upd (fun b => b = M ∨ b = R) w2 ((((((w2.setCell ⟨M, 2, none⟩ y).setCell ⟨M, 3, none⟩ y').setCell ⟨R, 0, none⟩ y0).setCell ⟨R, 1, none⟩ y1).setCell ⟨R, 2, none⟩ y2).setCell ⟨R, 3, none⟩ y3) :=
  ((((((Upd.refl (fun b => b = M ∨ b = R) w2).setCell (p := ⟨M, 2, none⟩) (.inl (.inl rfl)) y).setCell (p := ⟨M, 3, none⟩) (.inl (.inl rfl)) y').setCell (p := ⟨R, 0, none⟩) (.inl (.inr rfl)) y0).setCell (p := ⟨R, 1, none⟩) (.inl (.inr rfl)) y1).setCell (p := ⟨R, 2, none⟩) (.inl (.inr rfl)) y2).setCell (p := ⟨R, 3, none⟩) (.inl (.inr rfl)) y3
theorem row_cells {W : World} {g : Nat} {cs : Array Value} {t : TypeId} (hg : g = W.heap.size) : ∀ (j : Nat) (u : Value), cs.toList[j]? = some u → (W.alloc (.cells cs t)).cell? ⟨g, 0 + j, none⟩ = some u := fun j u hu => by
  subst hg
  rw [Nat.zero_add, (Blk.new W t cs).cell]
  simpa using hu

/-- The same message, wherever it lies. -/
def SameM (m m' : MsgR) : Prop := m'.kind = m.kind ∧ m'.n = m.n ∧ m'.drops = m.drops ∧ m'.adds.map RouteR.con = m.adds.map RouteR.con

set_option maxRecDepth 8000 in
set_option maxHeartbeats 600000 in
theorem ownMsg_any (m : MsgR) (w : World) (hm : MsgOk w m) (hs : Short m) (hl : m.drops.length ≤ 1000) (hl2 : m.adds.length ≤ 1000) :
    Calls Tryz.prog 8 #[.agg m.cells] w fun e w1 => ∃ m' : MsgR, e = .returned (.agg m'.cells) ∧ SameM m m' ∧ MsgOk w1 m' ∧ New w w1 := by
  have u := ((Upd.refl (fun _ => False) w).alloc (.cells m.cells TM)).alloc (.cells #[.string ⟨#[]⟩, .int .i64 0, .slice none 0 0, .slice none 0 0] TM)
  have b0 := (Blk.new w TM m.cells).alloc (.cells #[.string ⟨#[]⟩, .int .i64 0, .slice none 0 0, .slice none 0 0] TM)
  have b1 := Blk.at_ (w.alloc (.cells m.cells TM)) TM #[.string ⟨#[]⟩, .int .i64 0, .slice none 0 0, .slice none 0 0] (w.heap.size + 1) (by simp)
  have hm' := hm.new_ u
  generalize hn : m.drops.length = n at *
  generalize hk : m.adds.length = k at *
  have hcs : m.cells = #[.string m.kind, .int .i64 m.n, .slice m.D n m.dc, .slice m.A k m.ac] := by unfold MsgR.cells; rw [hn, hk]
  rw [hcs] at b0 b1 u hm' ⊢
  have Hb0 := hide b0
  have Hb1 := hide b1
  have Hu := hide u
  have Hm := hide hm'
  have Hs := hide hs
  have Hn := hide hn
  have Hk := hide hk
  clear hm' u b0 b1 hm hs hn hk hcs
  obtain ⟨i0, hi0, hz0, hz1, hz2⟩ := info_parts info_TRt
  go_enter Tryz.func8, Tryz.ntmps8
  go_upto_region 1 with (fail)
  generalize ((w.alloc (.cells #[.string m.kind, .int .i64 m.n, .slice m.D n m.dc, .slice m.A k m.ac] TM)).alloc (.cells #[.string ⟨#[]⟩, .int .i64 0, .slice none 0 0, .slice none 0 0] TM)) = W at *
  go_wp2_with fail
  go_loopw [3, 4] (fun l i wr => ∃ (j : Nat) (rs : List RouteR), j ≤ k ∧ i = .int .i64 j ∧ New W wr ∧ OwnRts W.heap.size wr l rs ∧ rs.length = j ∧ rs.map RouteR.con = (m.adds.take j).map RouteR.con) (fun _ i _ => k - (intOf i).toNat)
  case atStart => exact ⟨0, [], by omega, rfl, Upd.refl _ _, OwnRts.nil _ _, rfl, by simp⟩
  case round =>
    obtain ⟨j, rs, hj, rfl, hnew, hrs, hrl, hcon⟩ := hrel
    have Hrs := hide hrs
    have Hrl := hide hrl
    have Hcon := hide hcon
    have Hnew := hide hnew
    clear hrs hcon
    have c3 := (Hb0.out.new_ hnew).cell 3
    have z0 := (Hb0.out.new_ hnew).lt
    simp only [List.getElem?_toArray, List.getElem?_cons_zero, List.getElem?_cons_succ] at c3
    by_cases hlt : j < k
    · obtain ⟨b, o, r, hA, hb, hr, hok, q0, q1, q2, q3, q4, q5, q6, q7⟩ := (Hm.out.adds.new_ hnew).at_ (k := j) (by have := Hk.out; omega)
      rw [hA] at c3
      have Hr := hide hr
      have i3 : (j : Int) < (k : Int) := by omega
      have Hr8 := hide (Blk.new wr TRt #[.int .i64 r.a, .int .i64 r.n, .slice r.at_.P r.at_.path.length r.at_.pc, .int .i64 r.at_.pref, .int .i64 r.at_.med, .int .i64 r.at_.origin, .slice r.at_.T r.at_.tags.length r.at_.tc, .int .i64 r.frm])
      have ual := (Upd.refl (fun _ => False) wr).alloc (.cells #[.int .i64 r.a, .int .i64 r.n, .slice r.at_.P r.at_.path.length r.at_.pc, .int .i64 r.at_.pref, .int .i64 r.at_.med, .int .i64 r.at_.origin, .slice r.at_.T r.at_.tags.length r.at_.tc, .int .i64 r.frm] TRt)
      have hoa := ownAttr_any r.at_ _ (hok.new_ ual) (Hs.out j r hr).1 (Hs.out j r hr).2
      unfold AttrR.cells at hoa
      have Hoa := hide hoa
      have Hal := hide ual
      clear hA hr hok hoa ual hnew hrl
      go_wp2_with fail
      clear q0 q1 q2 q3 q4 q5 q6 q7 c3 z0
      obtain ⟨X, hX⟩ : ∃ X, X = wr.heap.size := ⟨_, rfl⟩
      rw [← hX] at Hr8 ⊢
      have HX := hide hX
      clear hX
      generalize (wr.alloc (.cells #[.int .i64 r.a, .int .i64 r.n, .slice r.at_.P r.at_.path.length r.at_.pc, .int .i64 r.at_.pref, .int .i64 r.at_.med, .int .i64 r.at_.origin, .slice r.at_.T r.at_.tags.length r.at_.tc, .int .i64 r.frm] TRt)) = wa at *
      refine Hoa.out.mono ?_
      rintro e w2 ⟨a', rfl, hcon, hok, hty, hu2⟩
      have b8 := Hr8.out.new_ hu2
      have zx := b8.lt
      have r0 := b8.cell 0
      have r1 := b8.cell 1
      have r2 := b8.cell 2
      have r3 := b8.cell 3
      have r4 := b8.cell 4
      have r5 := b8.cell 5
      have r6 := b8.cell 6
      have r7 := b8.cell 7
      have t2 := b8.frozen 2
      have t3 := b8.frozen 3
      have t4 := b8.frozen 4
      have t5 := b8.frozen 5
      have t6 := b8.frozen 6
      simp only [List.getElem?_toArray, List.getElem?_cons_zero, List.getElem?_cons_succ] at r0 r1 r2 r3 r4 r5 r6 r7
      have Hb8 := hide b8
      have Hcon2 := hide hcon
      have Hok := hide hok
      have Hty := hide hty
      have U2 := hide hu2
      clear hcon hok hty hu2 b8
      have hX := HX.out
      have n2 : New wr w2 := Hal.out.trans_new U2.out
      have nW := set5r_new (y0 := .slice a'.P a'.path.length a'.pc) (y1 := .int .i64 a'.pref) (y2 := .int .i64 a'.med) (y3 := .int .i64 a'.origin) (y4 := .slice a'.T a'.tags.length a'.tc) n2 (R := X) (by omega)
      have hb9 := set5r (y0 := .slice a'.P a'.path.length a'.pc) (y1 := .int .i64 a'.pref) (y2 := .int .i64 a'.med) (y3 := .int .i64 a'.origin) (y4 := .slice a'.T a'.tags.length a'.tc) Hb8.out
      have NW := hide nW
      have Hb9 := hide hb9
      clear hX n2 nW hb9
      have hln : ∀ y0 y1 y2 y3 y4, w2.heap.size = (((((w2.setCell ⟨X, 2, none⟩ y0).setCell ⟨X, 3, none⟩ y1).setCell ⟨X, 4, none⟩ y2).setCell ⟨X, 5, none⟩ y3).setCell ⟨X, 6, none⟩ y4).heap.size := fun _ _ _ _ _ => by simp
      have Hln := hide hln
      clear hln
      go_wp2_with (at_builtin; refine append_src rfl (.tmp 22) (.tmp 24) 23 rfl W.heap.size TRt i0 _ 8 96 Tryz.underlying23 hi0 hz0 hz1 hz2 rfl (by omega) _ rs.length (flat (rs.map RouteR.cells)) rfl (own_new Hrs.out.own (NW.out.alloc _)) (some ⟨w2.heap.size, 0, none⟩) 1 1 [.int .i64 r.a, .int .i64 r.n, .slice a'.P a'.path.length a'.pc, .int .i64 a'.pref, .int .i64 a'.med, .int .i64 a'.origin, .slice a'.T a'.tags.length a'.tc, .int .i64 r.frm] rfl rfl (fun _ => ⟨_, _, rfl, row_cells (Hln.out _ _ _ _ _)⟩) (by simp [Value.oneCell']) (by unfold maxLen; have := Hrl.out; omega) (by have := Hrl.out; omega) (Nat.le_trans (Hnew.out.trans_new (NW.out.alloc _)).size (Nat.le_refl _)) ?_)
      intro v' w' ho hg
      have upx := set5r_upd (y0 := .slice a'.P a'.path.length a'.pc) (y1 := .int .i64 a'.pref) (y2 := .int .i64 a'.med) (y3 := .int .i64 a'.origin) (y4 := .slice a'.T a'.tags.length a'.tc) w2 X
      have okA := Hok.out.upd upx (ty_ne Hty.out.1 Hb8.out (by decide)) (ty_ne Hty.out.2 Hb8.out (by decide))
      have tyA := Hty.out.upd upx (ty_ne Hty.out.1 Hb8.out (by decide)) (ty_ne Hty.out.2 Hb8.out (by decide))
      have ual := (Upd.refl (fun _ => False) (((((w2.setCell ⟨X, 2, none⟩ (.slice a'.P a'.path.length a'.pc)).setCell ⟨X, 3, none⟩ (.int .i64 a'.pref)).setCell ⟨X, 4, none⟩ (.int .i64 a'.med)).setCell ⟨X, 5, none⟩ (.int .i64 a'.origin)).setCell ⟨X, 6, none⟩ (.slice a'.T a'.tags.length a'.tc))).alloc (.cells #[.int .i64 r.a, .int .i64 r.n, .slice a'.P a'.path.length a'.pc, .int .i64 a'.pref, .int .i64 a'.med, .int .i64 a'.origin, .slice a'.T a'.tags.length a'.tc, .int .i64 r.frm] TRt)
      have hrs2 := OwnRts.snoc (r := { r with at_ := a' }) (Hrs.out.new_ (NW.out.trans_new ual)) (okA.new_ ual) (tyA.new_ ual) ho hg
      have hnew2 : New W w' := (Hnew.out.trans_new (NW.out.trans_new ual)).trans (grown_upd (S := fun q => Value.ownBlock _ = some q) hg fun g h => h) fun q hq hx => by have := owns_ge Hrs.out.own hx; omega
      have Hrs2 := hide hrs2
      have Hnew2 := hide hnew2
      clear upx okA tyA ual ho hg hrs2 hnew2
      go_wp2_with fail
      refine ⟨⟨j + 1, rs ++ [{ r with at_ := a' }], by omega, by go_num, Hnew2.out, Hrs2.out, by rw [List.length_append, Hrl.out]; rfl, ?_⟩, by simp [intOf]; omega⟩
      exact con_snoc Hcon.out Hr.out Hcon2.out
    · have hjk : j = k := by omega
      subst hjk
      have c2 := (Hb0.out.new_ hnew).cell 2
      simp only [List.getElem?_toArray, List.getElem?_cons_zero, List.getElem?_cons_succ] at c2
      obtain ⟨wo, rfl⟩ : ∃ wo : World, wo = wr := ⟨_, rfl⟩
      have Hd := hide (ownPrefixes_any m.D n m.dc m.drops wo (Hm.out.drops.new_ hnew) Hn.out (by omega))
      have hown := Hrs.out.own
      rw [Hrl.out] at hown
      obtain ⟨A', ac', rfl, _, hac, hrws, hfr, hty⟩ := rws_of_own (by omega) hown (rt_size rs)
      have Hac := hide hac
      have Hrws := hide hrws
      have Hfr := hide hfr
      clear hac hrws hfr hty hown
      go_wp2_with fail
      refine Hd.out.mono ?_
      rintro e w2 ⟨D', dc', rfl, hD, hdc, hfd, htd, hu2⟩
      have n2 : New W w2 := Hnew.out.trans_new hu2
      have bM := Hb0.out.new_ n2
      have bR := Hb1.out.new_ n2
      have zM := bM.lt
      have zR := bR.lt
      have m0 := bM.cell 0
      have m1 := bM.cell 1
      have m2 := bM.cell 2
      have m3 := bM.cell 3
      have e2 := bM.frozen 2
      have e3 := bM.frozen 3
      have r0 := bR.cell 0
      have r1 := bR.cell 1
      have r2 := bR.cell 2
      have r3 := bR.cell 3
      have s0 := bR.frozen 0
      have s1 := bR.frozen 1
      have s2 := bR.frozen 2
      have s3 := bR.frozen 3
      simp only [List.getElem?_toArray, List.getElem?_cons_zero, List.getElem?_cons_succ] at m0 m1 m2 m3 r0 r1 r2 r3
      have HbR := hide bR
      have HbM := hide bM
      have HD := hide hD
      have Hdc := hide hdc
      have Hfd := hide hfd
      have N2 := hide n2
      have U2 := hide hu2
      clear c2 c3 z0 hD hdc hfd htd n2 hu2 bR bM hnew
      go_wp2_with fail
      have hMR : w.heap.size + 1 ≠ w.heap.size := Nat.succ_ne_self _
      have hR2 := Blk.far (Blk.far HbR.out (p := ⟨w.heap.size, 2, none⟩) hMR (.slice D' n dc')) (p := ⟨w.heap.size, 3, none⟩) hMR (.slice A' j ac')
      refine bodyPost_ret (msg_out Tryz.results8 rfl (set4 hR2)) rfl ?_
      have uS := set4_upd (y0 := .string m.kind) (y1 := .int .i64 m.n) (y2 := .slice D' n dc') (y3 := .slice A' j ac') w2 w.heap.size (w.heap.size + 1) (.slice D' n dc') (.slice A' j ac')
      have hMW := Hb0.out.lt
      have hRW := Hb1.out.lt
      refine ⟨⟨m.kind, m.n, D', dc', m.drops, A', ac', rs⟩, ?_, ⟨rfl, rfl, rfl, ?_⟩, ⟨?_, ⟨?_, ?_⟩, ?_, ?_⟩, ?_⟩
      · unfold MsgR.cells
        rw [Hn.out, Hrl.out]
      · rw [Hcon.out, ← Hk.out, List.take_length]
      · exact HD.out.upd uS fun b o e => by have := Hfd.out b o e; have := Hnew.out.size; omega
      · exact (Hrws.out.new_ U2.out).upd uS fun b o e => by have := Hfr.out b o e; omega
      · intro i r hr
        have h := Hrs.out.ok r (List.mem_of_getElem? hr)
        have h2 := h.2.new_ U2.out
        have hb9 : ∀ A, Typed w2 A 3 → ∀ b o, A = some ⟨b, o, none⟩ → ¬ (b = w.heap.size ∨ b = w.heap.size + 1) := fun A hA b o e hx => by
          rcases hx with hx | hx
          · exact ty_ne hA HbM.out (by decide) b o e hx
          · exact ty_ne hA HbR.out (by decide) b o e hx
        exact (h.1.new_ U2.out).upd uS (hb9 _ h2.1) (hb9 _ h2.2)
      · rw [Hn.out]; exact Hdc.out
      · rw [Hrl.out]; exact Hac.out
      · exact (Hu.out.trans_new N2.out).trans uS fun q hq hx => by omega
end Go.Proofs.YtjgecmkfgeajiaaGreatDoor

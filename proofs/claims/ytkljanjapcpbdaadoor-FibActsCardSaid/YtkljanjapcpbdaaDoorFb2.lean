/- Package fib: all entries of a trie: the walk of a node. No condition but those that stand in each theorem. -/
import Derived.Test.YtkljanjapcpbdaaDoorFb1
namespace Go.Proofs.YtkljanjapcpbdaaDoor
open Go.RowKit

theorem own_ge {w : World} {base : Nat} {e : TypeId} {size n : Nat} {v : Value} {xs : List Value} (h : w.ownsRow base e size v n xs) {g : Nat} (hg : v.ownBlock = some g) : base ≤ g := by
  rcases h.2 with ⟨rfl, _⟩ | ⟨g1, cap, cur, rfl, hb, _⟩
  · simp [Value.ownBlock] at hg
  · have : g1 = g := by simpa [Value.ownBlock] using hg
    omega

/-- The same block, or a new one. -/
def Rel (w : World) (a b : Value) : Prop := a.ownBlock = b.ownBlock ∨ ∃ g, w.heap.size ≤ g ∧ a.ownBlock = some g
theorem rel_trans {w w1 : World} {a b c : Value} (h1 : a.ownBlock = b.ownBlock ∨ ∃ g, w1.heap.size ≤ g ∧ a.ownBlock = some g) (h2 : Rel w b c) (hs : w.heap.size ≤ w1.heap.size) : Rel w a c := by
  rcases h1 with h1 | ⟨g, hg, h1⟩
  · rcases h2 with h2 | ⟨g, hg, h2⟩
    · exact .inl (h1.trans h2)
    · exact .inr ⟨g, hg, h1.trans h2⟩
  · exact .inr ⟨g, by omega, h1⟩
theorem rel_in {w : World} {a b : Value} (h : Rel w a b) {k : Nat} (hk : k < w.heap.size) (ha : a.ownBlock = some k) : b.ownBlock = some k := by
  rcases h with h | ⟨g, hg, h⟩
  · rw [← h]; exact ha
  · rw [h] at ha; injection ha with ha; omega
theorem kid_call {P : Program} {f : FuncId} {p o : Value} {i : Nat} {a z : Int} {w : World} {R : Ending → World → Prop} (ha : a = z) (h : Calls P f #[p, .agg #[.int .i64 a, .int .i64 ((i + 1 : Nat) : Int)], o] w R) : Calls P f #[p, .agg #[.int .i64 z, .int .i64 ((i : Int) + 1)], o] w R := by
  subst ha
  rw [Int.natCast_add] at h
  exact h
theorem keep6 {w : World} {b g1 g2 : Nat} {t0 t1 t2 : TypeId} {x0 x1 x2 x3 y0 y1 z0 z1 : Value} (h0 : Blk w b t0 #[x0, x1, x2, x3]) (h1 : Blk w g1 t1 #[y0, y1]) (h2 : Blk w g2 t2 #[z0, z1]) :
    w.cell? ⟨b, 0, none⟩ = some x0 ∧ w.cell? ⟨b, 1, none⟩ = some x1 ∧ w.cell? ⟨g1, 0, none⟩ = some y0 ∧ w.cell? ⟨g1, 1, none⟩ = some y1 ∧ w.cell? ⟨g2, 0, none⟩ = some z0 ∧ w.cell? ⟨g2, 1, none⟩ = some z1 :=
  ⟨h0.cell 0, h0.cell 1, h1.cell 0, h1.cell 1, h2.cell 0, h2.cell 1⟩

theorem keep3 {w : World} {p b : Nat} {t1 t2 : TypeId} {x y c0 c1 c2 z : Value} (h1 : Blk w p t1 #[x, y]) (h2 : Blk w b t2 #[c0, c1, c2, z]) : w.cell? ⟨p, 0, none⟩ = some x ∧ w.cell? ⟨p, 1, none⟩ = some y ∧ w.cell? ⟨b, 3, none⟩ = some z :=
  ⟨h1.cell 0, h1.cell 1, h2.cell 3⟩

set_option maxRecDepth 20000 in
set_option maxHeartbeats 4000000 in
theorem all_any (base : Nat) (E : Nat → Addr) (V : Fm.VM) (N : Nat → Nat → Option Nat) (r : Nat) (g2 : gBound < base) (g3 : gShape < base) (g5 : gNone < base) :
    ∀ (k i v n : Nat) (out : Value) (xs : List Value) (w : World), i + k = 33 → 0 < k → v < 2 ^ i → Nodes w r N V → w.ownsRow base TE 3 out n xs → Sen w gBound (E 2) → Sen w gShape (E 3) → Sen w gNone (E 5) → n + (lst V k i v).length ≤ 1000 → base ≤ w.heap.size →
    Calls Tryd.prog 83 #[ptr (N i v), .agg #[.int .i64 (adr i v), .int .i64 i], out] w (AllPost base out n xs (lst V k i v) w) := by
  intro k
  induction k with
  | zero => intro i v n out xs w _ h; omega
  | succ k ih =>
    intro i v n out xs w hik _ hv hN hown h2 h3 h5 hlen hbase
    cases hb : N i v with
    | none => exact all_nil base E V N r (k + 1) i v n out xs _ _ rfl w hN hown hb
    | some b =>
      have IH := hide ih
      clear ih
      obtain ⟨i0, hi0, hz0, hz1, hz2⟩ := info_parts info_TE
      have hchk := adr_chk i v (by omega) hv
      have u := (Upd.refl (fun _ => False) w).alloc (.cells #[.int .i64 (adr i v), .int .i64 i] TP)
      have bb : Blk (w.alloc (.cells #[.int .i64 (adr i v), .int .i64 i] TP)) w.heap.size TP #[.int .i64 (adr i v), .int .i64 i] := Blk.new _ _ _
      have nb := (hN.new u).blk _ _ _ hb
      have hown0 := hown.alloc (.cells #[.int .i64 (adr i v), .int .i64 i] TP)
      have oneb := own_ne hown0 nb (by decide)
      have onep := own_ne hown0 bb (by decide)
      have HN := hide (hN.new u)
      have Hown := hide hown0
      have H2 := hide (h2.new u)
      have H3 := hide (h3.new u)
      have H5 := hide (h5.new u)
      have Hu := hide u
      have Hbb := hide bb
      have Hb := hide hb
      have Hchk := hide hchk
      have Hone := hide (And.intro oneb onep)
      have Hik := hide hik
      have Hlen := hide hlen
      have Hz := hide (And.intro hz0 (And.intro hz1 hz2))
      have Hi0 := hide hi0
      have b2 := nb.cell 2
      have b3 := nb.cell 3
      have zb := nb.lt
      have c0 := bb.cell 0
      have c1 := bb.cell 1
      have zp := bb.lt
      have hbase2 : base ≤ w.heap.size := hbase
      simp only [List.getElem?_toArray, List.getElem?_cons_zero, List.getElem?_cons_succ] at b2 b3 c0 c1
      have Hlo := hide (fun hi => adr_low i v hi)
      generalize hav : adr i v = av at *
      have Hav := hide hav
      clear hav
      cases hov : V i v with
      | none =>
        rw [hov] at b2 b3 nb
        simp only [Option.isSome_none, Option.getD_none] at b2 b3 nb
        have Hl := hide (show lst V (k + 1) i v = lst V k (i + 1) (2 * v) ++ lst V k (i + 1) (2 * v + 1) by rw [lst, hov]; rfl)
        have Hnb := hide nb
        clear hov hik hlen hchk hb nb bb u hown0 oneb onep hN hown h2 h3 h5 hi0 hz0 hz1 hz2
        simp only [ptr]
        go_enter Tryd.func83, Tryd.ntmps83
        go_upto_region 5 with (fail)
        generalize (w.alloc (.cells #[.int .i64 av, .int .i64 i] 51)) = X at *
        have uX : Upd (fun q => out.ownBlock = some q) X X := Upd.refl _ _
        have ownX := Hown.out
        have rel : out.ownBlock = out.ownBlock ∨ ∃ g, w.heap.size ≤ g ∧ out.ownBlock = some g := .inl rfl
        have bX := Hbb.out.upd uX Hone.out.2
        have nX := Hnb.out.upd uX Hone.out.1
        have NX := HN.out.upd uX fun i1 v1 b1 e1 => own_ne Hown.out (HN.out.blk i1 v1 b1 e1) (by decide)
        have S2 := H2.out.upd uX fun e1 => by have := own_ge Hown.out e1; omega
        have S3 := H3.out.upd uX fun e1 => by have := own_ge Hown.out e1; omega
        have S5 := H5.out.upd uX fun e1 => by have := own_ge Hown.out e1; omega
        have zw : w.heap.size < X.heap.size := bX.lt
        have zb1 : b < X.heap.size := nX.lt
        have uw : Upd (fun q => out.ownBlock = some q) w X := (Upd.of_new Hu.out).trans' uX
        have p0 := bX.cell 0
        have p1 := bX.cell 1
        simp only [List.getElem?_toArray, List.getElem?_cons_zero, List.getElem?_cons_succ] at p0 p1
        have BX := hide bX
        have NbX := hide nX
        have HNX := hide NX
        have HS2 := hide S2
        have HS3 := hide S3
        have HS5 := hide S5
        have HoX := hide ownX
        have Hrel := hide rel
        clear bX nX NX S2 S3 S5 ownX rel
        by_cases hi32 : i < 32
        · have hc := halves_yes av i E X HS2.out HS3.out Hchk.out (by omega)
          obtain ⟨av2, hav2⟩ : ∃ z, z = av + ((2 ^ (31 - (i : Int).toNat) : Nat) : Int) := ⟨_, rfl⟩
          rw [← hav2] at hc
          have Hc := hide hc
          have hl2 : (adr (i + 1) (2 * v) = av ∧ adr (i + 1) (2 * v + 1) = av2) := by rw [hav2]; exact Hlo.out hi32
          have I1 := hide (fun (w' : World) (hN' : Nodes w' r N V) (ho : w'.ownsRow base TE 3 out n xs) (s2 : Sen w' gBound (E 2)) (s3 : Sen w' gShape (E 3)) (s5 : Sen w' gNone (E 5)) (hb' : base ≤ w'.heap.size) =>
            kid_call hl2.1 (IH.out (i + 1) (2 * v) n out xs w' (by have := Hik.out; omega) (by have := Hik.out; omega) (by rw [Nat.pow_succ]; omega) hN' ho s2 s3 s5 (by have := Hlen.out; rw [Hl.out] at this; simp at this; omega) hb'))
          have I2 := hide (fun (w' : World) (o1 : Value) (hN' : Nodes w' r N V) (ho : w'.ownsRow base TE 3 o1 (n + (lst V k (i + 1) (2 * v)).length) (xs ++ cells3 (lst V k (i + 1) (2 * v)))) (s2 : Sen w' gBound (E 2)) (s3 : Sen w' gShape (E 3)) (s5 : Sen w' gNone (E 5)) (hb' : base ≤ w'.heap.size) =>
            kid_call hl2.2 (IH.out (i + 1) (2 * v + 1) _ o1 _ w' (by have := Hik.out; omega) (by have := Hik.out; omega) (by rw [Nat.pow_succ]; omega) hN' ho s2 s3 s5 (by have := Hlen.out; rw [Hl.out] at this; simp at this; omega) hb'))
          have Hi := hide hi32
          have i1 : (i : Int) < 32 := by omega
          clear hi32 hav2 hl2 hc
          go_wp2_with fail
          refine Hc.out.mono ?_
          rintro e w2 ⟨rfl, hu2⟩
          go_upto_region 8 with (fail)
          have uY := (hu2.alloc (.cells #[.int .i64 av, .int .i64 ((i : Int) + 1)] TP)).alloc (.cells #[.int .i64 av2, .int .i64 ((i : Int) + 1)] TP)
          have B7 := (Blk.new w2 TP #[.int .i64 av, .int .i64 ((i : Int) + 1)]).alloc (.cells #[.int .i64 av2, .int .i64 ((i : Int) + 1)] TP)
          have B8 := Blk.at_ (w2.alloc (.cells #[.int .i64 av, .int .i64 ((i : Int) + 1)] TP)) TP #[.int .i64 av2, .int .i64 ((i : Int) + 1)] (w2.heap.size + 1) (by simp)
          have HB7 := hide B7
          have HB8 := hide B8
          have HuY := hide uY
          have zxw2 := hu2.size
          clear B7 B8 uY p0 p1
          generalize ((w2.alloc (.cells #[.int .i64 av, .int .i64 ((i : Int) + 1)] 51)).alloc (.cells #[.int .i64 av2, .int .i64 ((i : Int) + 1)] 51)) = Y at *
          have oY := HoX.out
          have oY2 := own_upd oY HuY.out fun _ _ hx => hx
          have HoY := hide oY2
          have nY := NbX.out.new_ HuY.out
          have HnY := hide nY
          have HNY := hide (HNX.out.new HuY.out)
          have q0 := nY.cell 0
          have q1 := nY.cell 1
          have q2 := HB7.out.cell 0
          have q3 := HB7.out.cell 1
          have q4 := HB8.out.cell 0
          have q5 := HB8.out.cell 1
          have y0 := nY.lt
          have y1 := HB7.out.lt
          have y2 := HB8.out.lt
          have zbase : base ≤ Y.heap.size := by have := HuY.out.size; omega
          simp only [List.getElem?_toArray, List.getElem?_cons_zero, List.getElem?_cons_succ] at q0 q1 q2 q3 q4 q5
          clear oY oY2 nY
          generalize ptr (N (i + 1) (2 * v)) = pl at *
          generalize ptr (N (i + 1) (2 * v + 1)) = pr at *
          go_region_held3 (fun w' => w'.cell? ⟨b, 0, none⟩ = some pl ∧ w'.cell? ⟨b, 1, none⟩ = some pr ∧ w'.cell? ⟨w2.heap.size, 0, none⟩ = some (.int .i64 av) ∧ w'.cell? ⟨w2.heap.size, 1, none⟩ = some (.int .i64 ((i : Int) + 1)) ∧ w'.cell? ⟨w2.heap.size + 1, 0, none⟩ = some (.int .i64 av2) ∧ w'.cell? ⟨w2.heap.size + 1, 1, none⟩ = some (.int .i64 ((i : Int) + 1)))
            (first | go_keep | exact K5.out | exact K6.out)
            (first
              | (go_at_call_of 83 pl; refine (I1.out _ (by exact HNY.out.new (Upd.refl _ _).drew) (by exact HoY.out.drew) (by exact (HS2.out.new HuY.out).drew) (by exact (HS3.out.new HuY.out).drew) (by exact (HS5.out.new HuY.out).drew) (by exact zbase)).mono ?_; rintro e w5 ⟨o1, rfl, own1, hu5, rel1⟩; have K5 := hide (keep6 (HnY.out.drew.upd hu5 (own_ne HoY.out HnY.out (by decide))) (HB7.out.drew.upd hu5 (own_ne HoY.out HB7.out (by decide))) (HB8.out.drew.upd hu5 (own_ne HoY.out HB8.out (by decide)))); have Own1 := hide own1; clear own1)
              | (go_at_call_of 83 pr; refine (I2.out _ o1 (by exact (HNY.out.new (Upd.refl _ _).drew).upd hu5 fun i9 v9 b9 e9 => own_ne HoY.out (HNY.out.blk i9 v9 b9 e9) (by decide)) (by exact Own1.out) (by exact (HS2.out.new HuY.out).drew.upd hu5 fun e9 => by have := own_ge HoY.out e9; omega) (by exact (HS3.out.new HuY.out).drew.upd hu5 fun e9 => by have := own_ge HoY.out e9; omega) (by exact (HS5.out.new HuY.out).drew.upd hu5 fun e9 => by have := own_ge HoY.out e9; omega) (by exact Nat.le_trans zbase hu5.size)).mono ?_; rintro e w6 ⟨o2, rfl, own2, hu6, rel2⟩; have K6 := hide (keep6 ((HnY.out.drew.upd hu5 (own_ne HoY.out HnY.out (by decide))).upd hu6 (own_ne Own1.out (HnY.out.drew.upd hu5 (own_ne HoY.out HnY.out (by decide))) (by decide))) ((HB7.out.drew.upd hu5 (own_ne HoY.out HB7.out (by decide))).upd hu6 (own_ne Own1.out (HB7.out.drew.upd hu5 (own_ne HoY.out HB7.out (by decide))) (by decide))) ((HB8.out.drew.upd hu5 (own_ne HoY.out HB8.out (by decide))).upd hu6 (own_ne Own1.out (HB8.out.drew.upd hu5 (own_ne HoY.out HB8.out (by decide))) (by decide)))); have Own2 := hide own2; clear own2))
          go_wp2_with fail
          go_ret
          have r0 : Rel w out out := by first | exact Or.inl rfl | exact Hrel.out
          have r1 : Rel w o1 out := rel_trans (w1 := Y) rel1 r0 (by have := HuY.out.size; omega)
          have zz : w.heap.size ≤ Y.heap.size := by have := HuY.out.size; omega
          have s5 : Y.heap.size ≤ w5.heap.size := hu5.size
          refine ⟨o2, rfl, ?_, ?_, rel_trans rel2 r1 (by omega)⟩
          · have e := Own2.out
            rw [Hl.out]
            simpa [cells3_append, Nat.add_assoc] using e
          · refine (((uw.trans_new HuY.out).drew).trans hu5 fun q hq hx => rel_in r0 hq hx).trans hu6 fun q hq hx => rel_in r1 hq hx
        · have hi : (i : Int) = 32 := by have := Hik.out; omega
          have hk0 : k = 0 := by have := Hik.out; omega
          have Hc := hide (halves_end2 av i hi E X HS2.out HS3.out HS5.out Hchk.out)
          have Hk0 := hide hk0
          clear hi hi32 hk0
          go_wp2_with fail
          refine Hc.out.mono ?_
          rintro e w2 ⟨rfl, hu2⟩
          go_wp2_with fail
          go_ret
          refine ⟨_, rfl, ?_, uw.trans_new ((hu2.alloc _).alloc _), by first | exact Or.inl rfl | exact Hrel.out⟩
          have e : lst V (k + 1) i v = [] := by rw [Hl.out, Hk0.out]; rfl
          rw [e]
          simpa [cells3, Hav.out] using own_upd HoX.out ((hu2.alloc (.cells #[.int .i64 0, .int .i64 0] TP)).alloc (.cells #[.int .i64 0, .int .i64 0] TP)) fun _ _ hx => hx
      | some h =>
        rw [hov] at b2 b3 nb
        simp only [Option.isSome_some, Option.getD_some] at b2 b3 nb
        have Hl := hide (show lst V (k + 1) i v = (i, v, h) :: (lst V k (i + 1) (2 * v) ++ lst V k (i + 1) (2 * v + 1)) by rw [lst, hov]; rfl)
        have Hnb := hide nb
        clear hov hik hlen hchk hb nb bb u hown0 oneb onep hN hown h2 h3 h5 hi0 hz0 hz1 hz2
        simp only [ptr]
        go_enter Tryd.func83, Tryd.ntmps83
        go_wp2_with fail
        generalize (w.alloc (.cells #[.int .i64 av, .int .i64 i] 51)) = W at *
        go_region_held3 (fun w' => w'.cell? ⟨w.heap.size, 0, none⟩ = some (.int .i64 av) ∧ w'.cell? ⟨w.heap.size, 1, none⟩ = some (.int .i64 i) ∧ w'.cell? ⟨b, 3, none⟩ = some (.int .i64 h))
          (first | go_keep | exact K1.out)
          ((refine step_append_lies _ (by rfl) _ _ _ (by rfl) base TE i0 _ 3 24 Tryd.underlying62 Hi0.out Hz.out.1 Hz.out.2.1 Hz.out.2.2 rfl (by omega) out n xs (by rfl) ((Hown.out.alloc _).drew) ⟨W.heap.size, 0, none⟩ 1 1 [.int .i64 av, .int .i64 i, .int .i64 h] (by rfl) (by rfl) (World.news_of_block (cs := #[.int .i64 av, .int .i64 i, .int .i64 h]) (t := TE) (fr := (0, 0)) (heap_alloc_new W _)) (by simp [Value.oneCell']) (by omega) (by unfold maxLen; have := Hlen.out; omega) (by have := Hlen.out; omega) (by simp; omega) (W.heap.size + 1) (by simp) ?_; intro gg cap w1 hown1 hgrow hat hlt; have hu1 : Upd (fun q => out.ownBlock = some q) W w1 := (((Upd.refl _ W).alloc _).drew).trans' (Upd.of_grown hgrow fun q _ hq => hq); have K1 := hide (keep3 (Hbb.out.upd hu1 Hone.out.2) (Hnb.out.upd hu1 Hone.out.1))))
        go_upto_region 5 with (fail)
        have uX := hu1
        have ownX := hown1
        have rel : (Value.slice (some ⟨gg, 0, none⟩) (n + 1) cap).ownBlock = out.ownBlock ∨ ∃ g, w.heap.size ≤ g ∧ (Value.slice (some ⟨gg, 0, none⟩) (n + 1) cap).ownBlock = some g := by
          rcases hat with h1 | h1
          · exact .inl h1.symm
          · exact .inr ⟨gg, by have := Hu.out.size; omega, rfl⟩
        clear hu1 hown1
        generalize w1 = X at *
        have bX := Hbb.out.upd uX Hone.out.2
        have nX := Hnb.out.upd uX Hone.out.1
        have NX := HN.out.upd uX fun i1 v1 b1 e1 => own_ne Hown.out (HN.out.blk i1 v1 b1 e1) (by decide)
        have S2 := H2.out.upd uX fun e1 => by have := own_ge Hown.out e1; omega
        have S3 := H3.out.upd uX fun e1 => by have := own_ge Hown.out e1; omega
        have S5 := H5.out.upd uX fun e1 => by have := own_ge Hown.out e1; omega
        have zw : w.heap.size < X.heap.size := bX.lt
        have zb1 : b < X.heap.size := nX.lt
        have uw : Upd (fun q => out.ownBlock = some q) w X := (Upd.of_new Hu.out).trans' uX
        have p0 := bX.cell 0
        have p1 := bX.cell 1
        simp only [List.getElem?_toArray, List.getElem?_cons_zero, List.getElem?_cons_succ] at p0 p1
        have BX := hide bX
        have NbX := hide nX
        have HNX := hide NX
        have HS2 := hide S2
        have HS3 := hide S3
        have HS5 := hide S5
        have HoX := hide ownX
        have Hrel := hide rel
        clear bX nX NX S2 S3 S5 ownX rel
        by_cases hi32 : i < 32
        · have hc := halves_yes av i E X HS2.out HS3.out Hchk.out (by omega)
          obtain ⟨av2, hav2⟩ : ∃ z, z = av + ((2 ^ (31 - (i : Int).toNat) : Nat) : Int) := ⟨_, rfl⟩
          rw [← hav2] at hc
          have Hc := hide hc
          have hl2 : (adr (i + 1) (2 * v) = av ∧ adr (i + 1) (2 * v + 1) = av2) := by rw [hav2]; exact Hlo.out hi32
          have I1 := hide (fun (w' : World) (hN' : Nodes w' r N V) (ho : w'.ownsRow base TE 3 (.slice (some ⟨gg, 0, none⟩) (n + 1) cap) (n + 1) (xs ++ [.int .i64 av, .int .i64 i, .int .i64 h])) (s2 : Sen w' gBound (E 2)) (s3 : Sen w' gShape (E 3)) (s5 : Sen w' gNone (E 5)) (hb' : base ≤ w'.heap.size) =>
            kid_call hl2.1 (IH.out (i + 1) (2 * v) (n + 1) (.slice (some ⟨gg, 0, none⟩) (n + 1) cap) (xs ++ [.int .i64 av, .int .i64 i, .int .i64 h]) w' (by have := Hik.out; omega) (by have := Hik.out; omega) (by rw [Nat.pow_succ]; omega) hN' ho s2 s3 s5 (by have := Hlen.out; rw [Hl.out] at this; simp at this; omega) hb'))
          have I2 := hide (fun (w' : World) (o1 : Value) (hN' : Nodes w' r N V) (ho : w'.ownsRow base TE 3 o1 ((n + 1) + (lst V k (i + 1) (2 * v)).length) ((xs ++ [.int .i64 av, .int .i64 i, .int .i64 h]) ++ cells3 (lst V k (i + 1) (2 * v)))) (s2 : Sen w' gBound (E 2)) (s3 : Sen w' gShape (E 3)) (s5 : Sen w' gNone (E 5)) (hb' : base ≤ w'.heap.size) =>
            kid_call hl2.2 (IH.out (i + 1) (2 * v + 1) _ o1 _ w' (by have := Hik.out; omega) (by have := Hik.out; omega) (by rw [Nat.pow_succ]; omega) hN' ho s2 s3 s5 (by have := Hlen.out; rw [Hl.out] at this; simp at this; omega) hb'))
          have Hi := hide hi32
          have i1 : (i : Int) < 32 := by omega
          clear hi32 hav2 hl2 hc
          go_wp2_with fail
          refine Hc.out.mono ?_
          rintro e w2 ⟨rfl, hu2⟩
          go_upto_region 8 with (fail)
          have uY := (hu2.alloc (.cells #[.int .i64 av, .int .i64 ((i : Int) + 1)] TP)).alloc (.cells #[.int .i64 av2, .int .i64 ((i : Int) + 1)] TP)
          have B7 := (Blk.new w2 TP #[.int .i64 av, .int .i64 ((i : Int) + 1)]).alloc (.cells #[.int .i64 av2, .int .i64 ((i : Int) + 1)] TP)
          have B8 := Blk.at_ (w2.alloc (.cells #[.int .i64 av, .int .i64 ((i : Int) + 1)] TP)) TP #[.int .i64 av2, .int .i64 ((i : Int) + 1)] (w2.heap.size + 1) (by simp)
          have HB7 := hide B7
          have HB8 := hide B8
          have HuY := hide uY
          have zxw2 := hu2.size
          clear B7 B8 uY p0 p1
          generalize ((w2.alloc (.cells #[.int .i64 av, .int .i64 ((i : Int) + 1)] 51)).alloc (.cells #[.int .i64 av2, .int .i64 ((i : Int) + 1)] 51)) = Y at *
          have oY := HoX.out
          have oY2 := own_upd oY HuY.out fun _ _ hx => hx
          have HoY := hide oY2
          have nY := NbX.out.new_ HuY.out
          have HnY := hide nY
          have HNY := hide (HNX.out.new HuY.out)
          have q0 := nY.cell 0
          have q1 := nY.cell 1
          have q2 := HB7.out.cell 0
          have q3 := HB7.out.cell 1
          have q4 := HB8.out.cell 0
          have q5 := HB8.out.cell 1
          have y0 := nY.lt
          have y1 := HB7.out.lt
          have y2 := HB8.out.lt
          have zbase : base ≤ Y.heap.size := by have := HuY.out.size; omega
          simp only [List.getElem?_toArray, List.getElem?_cons_zero, List.getElem?_cons_succ] at q0 q1 q2 q3 q4 q5
          clear oY oY2 nY
          generalize ptr (N (i + 1) (2 * v)) = pl at *
          generalize ptr (N (i + 1) (2 * v + 1)) = pr at *
          go_region_held3 (fun w' => w'.cell? ⟨b, 0, none⟩ = some pl ∧ w'.cell? ⟨b, 1, none⟩ = some pr ∧ w'.cell? ⟨w2.heap.size, 0, none⟩ = some (.int .i64 av) ∧ w'.cell? ⟨w2.heap.size, 1, none⟩ = some (.int .i64 ((i : Int) + 1)) ∧ w'.cell? ⟨w2.heap.size + 1, 0, none⟩ = some (.int .i64 av2) ∧ w'.cell? ⟨w2.heap.size + 1, 1, none⟩ = some (.int .i64 ((i : Int) + 1)))
            (first | go_keep | exact K5.out | exact K6.out)
            (first
              | (go_at_call_of 83 pl; refine (I1.out _ (by exact HNY.out.new (Upd.refl _ _).drew) (by exact HoY.out.drew) (by exact (HS2.out.new HuY.out).drew) (by exact (HS3.out.new HuY.out).drew) (by exact (HS5.out.new HuY.out).drew) (by exact zbase)).mono ?_; rintro e w5 ⟨o1, rfl, own1, hu5, rel1⟩; have K5 := hide (keep6 (HnY.out.drew.upd hu5 (own_ne HoY.out HnY.out (by decide))) (HB7.out.drew.upd hu5 (own_ne HoY.out HB7.out (by decide))) (HB8.out.drew.upd hu5 (own_ne HoY.out HB8.out (by decide)))); have Own1 := hide own1; clear own1)
              | (go_at_call_of 83 pr; refine (I2.out _ o1 (by exact (HNY.out.new (Upd.refl _ _).drew).upd hu5 fun i9 v9 b9 e9 => own_ne HoY.out (HNY.out.blk i9 v9 b9 e9) (by decide)) (by exact Own1.out) (by exact (HS2.out.new HuY.out).drew.upd hu5 fun e9 => by have := own_ge HoY.out e9; omega) (by exact (HS3.out.new HuY.out).drew.upd hu5 fun e9 => by have := own_ge HoY.out e9; omega) (by exact (HS5.out.new HuY.out).drew.upd hu5 fun e9 => by have := own_ge HoY.out e9; omega) (by exact Nat.le_trans zbase hu5.size)).mono ?_; rintro e w6 ⟨o2, rfl, own2, hu6, rel2⟩; have K6 := hide (keep6 ((HnY.out.drew.upd hu5 (own_ne HoY.out HnY.out (by decide))).upd hu6 (own_ne Own1.out (HnY.out.drew.upd hu5 (own_ne HoY.out HnY.out (by decide))) (by decide))) ((HB7.out.drew.upd hu5 (own_ne HoY.out HB7.out (by decide))).upd hu6 (own_ne Own1.out (HB7.out.drew.upd hu5 (own_ne HoY.out HB7.out (by decide))) (by decide))) ((HB8.out.drew.upd hu5 (own_ne HoY.out HB8.out (by decide))).upd hu6 (own_ne Own1.out (HB8.out.drew.upd hu5 (own_ne HoY.out HB8.out (by decide))) (by decide)))); have Own2 := hide own2; clear own2))
          go_wp2_with fail
          go_ret
          have r0 : Rel w (.slice (some ⟨gg, 0, none⟩) (n + 1) cap) out := by first | exact Or.inl rfl | exact Hrel.out
          have r1 : Rel w o1 out := rel_trans (w1 := Y) rel1 r0 (by have := HuY.out.size; omega)
          have zz : w.heap.size ≤ Y.heap.size := by have := HuY.out.size; omega
          have s5 : Y.heap.size ≤ w5.heap.size := hu5.size
          refine ⟨o2, rfl, ?_, ?_, rel_trans rel2 r1 (by omega)⟩
          · have e := Own2.out
            rw [Hl.out]
            rw [show n + ((i, v, h) :: (lst V k (i + 1) (2 * v) ++ lst V k (i + 1) (2 * v + 1))).length = n + 1 + (lst V k (i + 1) (2 * v)).length + (lst V k (i + 1) (2 * v + 1)).length by simp; omega]
            simpa [cells3, Hav.out] using e
          · refine (((uw.trans_new HuY.out).drew).trans hu5 fun q hq hx => rel_in r0 hq hx).trans hu6 fun q hq hx => rel_in r1 hq hx
        · have hi : (i : Int) = 32 := by have := Hik.out; omega
          have hk0 : k = 0 := by have := Hik.out; omega
          have Hc := hide (halves_end2 av i hi E X HS2.out HS3.out HS5.out Hchk.out)
          have Hk0 := hide hk0
          clear hi hi32 hk0
          go_wp2_with fail
          refine Hc.out.mono ?_
          rintro e w2 ⟨rfl, hu2⟩
          go_wp2_with fail
          go_ret
          refine ⟨_, rfl, ?_, uw.trans_new ((hu2.alloc _).alloc _), by first | exact Or.inl rfl | exact Hrel.out⟩
          have e : lst V (k + 1) i v = [(i, v, h)] := by rw [Hl.out, Hk0.out]; rfl
          rw [e]
          simpa [cells3, Hav.out] using own_upd HoX.out ((hu2.alloc (.cells #[.int .i64 0, .int .i64 0] TP)).alloc (.cells #[.int .i64 0, .int .i64 0] TP)) fun _ _ hx => hx
end Go.Proofs.YtkljanjapcpbdaaDoor

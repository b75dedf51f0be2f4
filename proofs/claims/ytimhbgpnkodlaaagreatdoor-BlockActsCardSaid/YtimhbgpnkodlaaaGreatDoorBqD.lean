/- Both pools side by side: an act, and what is read in the end. No condition but those that stand in each theorem. -/
import Derived.Test.YtimhbgpnkodlaaaGreatDoorBq7
import Derived.Test.YtimhbgpnkodlaaaGreatDoorSmp
import Derived.Test.YtimhbgpnkodlaaaGreatDoorCdB
import Derived.Test.YtimhbgpnkodlaaaGreatDoorBpE
namespace Go.Proofs.YtimhbgpnkodlaaaGreatDoor
open Go.RowKit Go.Maps
section
variable {w w1 wr wx wy : World} {kp bm tm mp gT gB : Nat} {p : Pf} {L : Int} {c c1 : PoolC} {E : Nat → Addr} {host : Int}
/-- What lies there between two acts: the program's pool and the document's with the same in them. -/
structure ActW (w wr : World) (kp bm tm mp gT gB : Nat) (p : Pf) (L : Int) (c : PoolC) : Prop where
  new : New w wr
  pool : PoolM wr kp bm tm p L c
  ref : RefM wr mp gT gB p L c
/-- The blocks of both are new. -/
structure ActN (w : World) (kp bm tm gT gB : Nat) : Prop where
  pool : PoolN w kp bm tm
  T : w.heap.size ≤ gT
  B : w.heap.size ≤ gB
theorem ActN.in_ (h : ActN w kp bm tm gT gB) : ∀ k, (k = gB ∨ k = gT) → w.heap.size ≤ k := fun k hk => by
  have := h.T
  have := h.B
  omega
theorem ActW.new_ (h : ActW w wr kp bm tm mp gT gB p L c) (hu : New wr wx) : ActW w wx kp bm tm mp gT gB p L c := ⟨h.new.trans_new hu, h.pool.new_ hu, h.ref.new_ hu⟩
/-- The program's pool is turned. -/
theorem ActW.first (h : ActW w wr kp bm tm mp gT gB p L c) (hN : ActN w kp bm tm gT gB) (hu : Upd (fun k => k = bm ∨ k = tm) wr wx) : New w wx ∧ RefM wx mp gT gB p L c := by
  refine ⟨h.new.keep hu hN.pool.in_, h.ref.upd hu ?_ ?_ ?_⟩
  · rintro (e | e)
    · exact map_blk h.pool.B h.ref.blk e
    · exact map_blk h.pool.T h.ref.blk e
  · rintro (e | e)
    · exact map_blk h.pool.B h.ref.T e
    · exact map_blk h.pool.T h.ref.T e
  · rintro (e | e)
    · exact map_blk h.pool.B h.ref.B e
    · exact map_blk h.pool.T h.ref.B e
/-- Then the document's. -/
theorem act_then (hn : New w wx) (hp : PoolM wx kp bm tm p L c1) (hr : RefM wx mp gT gB p L c) (hN : ActN w kp bm tm gT gB) (hr1 : RefM wy mp gT gB p L c1) (hu : Upd (fun k => k = gB ∨ k = gT) wx wy) : ActW w wy kp bm tm mp gT gB p L c1 := by
  refine ⟨hn.keep hu hN.in_, hp.upd hu ?_ ?_ ?_, hr1⟩
  · rintro (e | e)
    · exact (hp.blk.ne_ hr.B (by decide)) e
    · exact (hp.blk.ne_ hr.T (by decide)) e
  · rintro (e | e)
    · exact map_blk hp.B hr.B e.symm
    · exact map_blk hp.B hr.T e.symm
  · rintro (e | e)
    · exact map_blk hp.T hr.B e.symm
    · exact map_blk hp.T hr.T e.symm
/-- What is given back: nobody's, or a place that somebody has. -/
theorem give_cases {n z : Nat} {a0 x : Int} (ho : OutC n z c) : atT a0 c x = 0 ∨ ∃ i : Nat, i < n ∧ x = a0 + (i : Int) ∧ c.T i ≠ 0 := by
  by_cases h : atT a0 c x = 0
  · exact Or.inl h
  · exact Or.inr (atT_in ho h)
theorem sh_facts {a x : Int} (ha : 0 ≤ a ∧ a ≤ 4294967296) (hx : 0 ≤ x ∧ x < 1000) : IntKind.i64.wrap (a + x) = a + x ∧ wrap64 (a + x) = a + x ∧ I64 (a + x) :=
  ⟨by rw [IntKind.wrap_i64]; omega, by unfold wrap64; omega, by unfold I64; omega⟩
theorem chk_le9k (a n : Int) : chk a n ≤ 9 := by unfold chk; split <;> (try split) <;> omega
/-- An answer's number is the document's. -/
theorem coded_sent {W : World} (h : Errs W E) {k : Nat} {i : Int} (h1 : 1 ≤ k) (h9 : k ≤ 9) (hk : (k : Int) = i) :
    Calls Tryz.prog 7 #[.iface 142 (.pointer (some (E k))), .int .i64 i] W fun e w1 => e = .returned (.bool true) ∧ New W w1 := by
  have hc := codedB_any (errv (E k)) k (-1) i W E h (ErrV.sent h1 h9)
  rw [decide_eq_true ⟨hk, rfl⟩] at hc
  exact hc
theorem coded_nil {W : World} (h : Errs W E) :
    Calls Tryz.prog 7 #[.nilIface, .int .i64 0] W fun e w1 => e = .returned (.bool true) ∧ New W w1 := by
  have hc := codedB_any .nilIface 0 (-1) 0 W E h ErrV.nil
  rw [decide_eq_true (show ((0 : Nat) : Int) = 0 ∧ (-1 : Int) = -1 from ⟨rfl, rfl⟩)] at hc
  exact hc
theorem ways_len2 (hg : PoolG p L) : (waysH (plN p) (plM p L) (plZ L) p.a L c host).length ≤ 10000 := by
  have h1 := ways_fold (plN p) (plM p L) (plZ L) p.a L c host
  have h2 := dropFold_len ((looseH (plN p) (plZ L) p.a c host).map oneP) (blksH (plM p L) (plZ L) p.a L c host)
  have h3 := blks_len (c := c) (plM p L) (plZ L) p.a L host
  have h4 := loose_len (plN p) (plZ L) p.a c host
  have h5 := hg.n_le
  have h6 := plM_le hg
  rw [← h1, List.length_map] at h2
  omega
theorem own_pfs {W : World} {base : Nat} {v : Value} {l : List Pf} (h : OwnP W base v l) : ∃ A cap, v = .slice A l.length cap ∧ Pfs W A l := by
  obtain ⟨A, cap, rfl, _, _, h3, _, _⟩ := rws_of_own (by omega) h (wpf_sizeW _)
  exact ⟨A, cap, rfl, h3⟩
theorem same_pfs {A B : Option Addr} {k d : Nat} {l : List Pf} {W : World} (hx : Pfs W A l) (hy : Pfs W B l) (hl : l.length ≤ 10000) :
    Calls Tryz.prog 17 #[.slice A l.length k, .slice B l.length d] W fun e w1 => e = .returned (.bool true) ∧ New W w1 := by
  have h := samePrefixes_any A B _ _ k d l l W hx hy rfl rfl (by omega) (by omega)
  rw [show sameL l l = true from (sameL_iff _ _).2 rfl] at h
  exact h
theorem same_ints {A B : Option Addr} {k d : Nat} {l : List Int} {W : World} (hx : Ints W A l) (hy : Ints W B l) (hl : l.length ≤ 10000) :
    Calls Tryz.prog 20 #[.slice A l.length k, .slice B l.length d] W fun e w1 => e = .returned (.bool true) ∧ New W w1 := by
  have h := sameInts_any A B _ _ k d l l W hx hy rfl rfl (by omega) (by omega)
  rw [decide_eq_true rfl] at h
  exact h
theorem plblocks_row (hg : PoolG p L) (h : PoolM w kp bm tm p L c) (h2 : Sen w gBound (E 2)) (h3 : Sen w gShape (E 3)) (host : Int) :
    Calls Tryz.prog 18 #[.pointer (some ⟨kp, 0, none⟩), .int .i64 host] w fun e w1 => ∃ A cap, e = .returned (.slice A (blksH (plM p L) (plZ L) p.a L c host).length cap) ∧ Pfs w1 A (blksH (plM p L) (plZ L) p.a L c host) ∧ New w w1 := by
  refine (plblocks_any hg h h2 h3 host).mono ?_
  rintro e w1 ⟨v, rfl, ho, hu⟩
  obtain ⟨A, cap, rfl, h3⟩ := own_pfs ho
  exact ⟨A, cap, rfl, h3, hu⟩
theorem plways_row (hg : PoolG p L) (h : PoolM w kp bm tm p L c) (h2 : Sen w gBound (E 2)) (h3 : Sen w gShape (E 3)) (host : Int) :
    Calls Tryz.prog 23 #[.pointer (some ⟨kp, 0, none⟩), .int .i64 host] w fun e w1 => ∃ A cap, e = .returned (.slice A (waysH (plN p) (plM p L) (plZ L) p.a L c host).length cap) ∧ Pfs w1 A (waysH (plN p) (plM p L) (plZ L) p.a L c host) ∧ New w w1 := by
  refine (plways_any hg h h2 h3 host).mono ?_
  rintro e w1 ⟨v, rfl, ho, hu⟩
  obtain ⟨A, cap, rfl, h3⟩ := own_pfs ho
  exact ⟨A, cap, rfl, h3, hu⟩
theorem refblocks_row (hg : PoolG p L) (h : RefM w mp gT gB p L c) (host : Int) :
    Calls Tryz.prog 19 #[.pointer (some ⟨mp, 0, none⟩), .int .i64 host] w fun e w1 => ∃ A cap, e = .returned (.slice A (blksH (plM p L) (plZ L) p.a L c host).length cap) ∧ Pfs w1 A (blksH (plM p L) (plZ L) p.a L c host) ∧ New w w1 := by
  refine (refblocks_any hg h host).mono ?_
  rintro e w1 ⟨v, rfl, ho, hu⟩
  obtain ⟨A, cap, rfl, h3⟩ := own_pfs ho
  exact ⟨A, cap, rfl, h3, hu⟩
theorem plloose_row (hg : PoolG p L) (h : PoolM w kp bm tm p L c) (host : Int) :
    Calls Tryz.prog 21 #[.pointer (some ⟨kp, 0, none⟩), .int .i64 host] w fun e w1 => ∃ A cap, e = .returned (.slice A (looseH (plN p) (plZ L) p.a c host).length cap) ∧ Ints w1 A (looseH (plN p) (plZ L) p.a c host) ∧ New w w1 := by
  refine (plloose_any hg h host).mono ?_
  rintro e w1 ⟨v, rfl, ho, hu⟩
  obtain ⟨A, cap, rfl, _, _, h3, _, _⟩ := ints_of_own ho
  exact ⟨A, cap, rfl, h3, hu⟩
theorem refloose_row (hg : PoolG p L) (h : RefM w mp gT gB p L c) (host : Int) :
    Calls Tryz.prog 22 #[.pointer (some ⟨mp, 0, none⟩), .int .i64 host] w fun e w1 => ∃ A cap, e = .returned (.slice A (looseH (plN p) (plZ L) p.a c host).length cap) ∧ Ints w1 A (looseH (plN p) (plZ L) p.a c host) ∧ New w w1 := by
  refine (refloose_any hg h host).mono ?_
  rintro e w1 ⟨v, rfl, ho, hu⟩
  obtain ⟨A, cap, rfl, _, _, h3, _, _⟩ := ints_of_own ho
  exact ⟨A, cap, rfl, h3, hu⟩
end
end Go.Proofs.YtimhbgpnkodlaaaGreatDoor

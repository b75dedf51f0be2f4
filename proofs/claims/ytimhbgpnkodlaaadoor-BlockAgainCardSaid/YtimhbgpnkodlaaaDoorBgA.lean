/- The law BlockAgain, its walk: the first acts. No condition but those that stand in each theorem. -/
import Derived.Test.YtimhbgpnkodlaaaDoorBpE
import Derived.Test.YtimhbgpnkodlaaaDoorCdB
namespace Go.Proofs.YtimhbgpnkodlaaaDoor
open Go.RowKit Go.Maps
section
variable {w w1 w2 : World} {kp bm tm : Nat} {p : Pf} {L : Int} {c : PoolC} {E : Nat → Addr} {host : Int}
/-- An address of a place. -/
def plA (p : Pf) (i : Nat) : Int := p.a + (i : Int)
/-- What lies there between two acts. -/
structure AgW (w wr : World) (kp bm tm : Nat) (p : Pf) (L : Int) (c : PoolC) (v1 v2 : Value) (hv : List Nat) (hs : List Int) : Prop where
  new : New w wr
  pool : PoolM wr kp bm tm p L c
  r1 : OwnI wr w.heap.size v1 (hv.map (plA p))
  r2 : OwnI wr w.heap.size v2 hs
  apt : Apt v1 v2
  law : LawA (plN p) (plZ L) c hv hs
variable {wr wx : World} {v1 v2 u : Value} {hv : List Nat} {hs : List Int}
theorem AgW.new_ (h : AgW w wr kp bm tm p L c v1 v2 hv hs) (hu : New wr wx) : AgW w wx kp bm tm p L c v1 v2 hv hs := ⟨h.new.trans_new hu, h.pool.new_ hu, row_new h.r1 hu, row_new h.r2 hu, h.apt, h.law⟩
theorem AgW.len (h : AgW w wr kp bm tm p L c v1 v2 hv hs) (hg : PoolG p L) : hv.length ≤ 4096 := by
  have h1 := h.law.nd
  have h2 : hv.length = cntC (plN p) c.T := by
    refine (cntC_had h1 (fun k => ⟨h.law.had k, h.law.mem k⟩) fun k hk => h.law.out.1 k hk).symm
  have h3 := cntC_le (plN p) c.T
  have h4 := hg.n_le
  omega
theorem own_start (w : World) (base : Nat) : OwnI w base (.slice none 0 0) [] := World.ownsRow_nil _ _ _ _
theorem agw_start (hn : New w wr) (hp : PoolM wr kp bm tm p L zeroP) : AgW w wr kp bm tm p L zeroP (.slice none 0 0) (.slice none 0 0) [] [] :=
  ⟨hn, hp, own_start _ _, own_start _ _, fun g h => by simp [Value.ownBlock] at h, LawA.start _ _⟩
/-- A place is had: the pool is turned. -/
theorem AgW.took (h : AgW w wr kp bm tm p L c v1 v2 hv hs) (hN : PoolN w kp bm tm) {c1 : PoolC} (hp : PoolM wx kp bm tm p L c1) (hu : Upd (fun k => k = bm ∨ k = tm) wr wx) :
    New w wx ∧ OwnI wx w.heap.size v1 (hv.map (plA p)) ∧ OwnI wx w.heap.size v2 hs := ⟨h.new.keep hu hN.in_, row_pool h.r1 h.pool hu, row_pool h.r2 h.pool hu⟩
theorem waysH_zero {n m z : Nat} {a L h : Int} (hz : 0 < z) (hL : L = 32 → z = 1) : waysH n m z a L zeroP h = [] := by
  unfold waysH
  by_cases h0 : h = 0
  · rw [if_pos h0]
  · rw [if_neg h0]
    have h1 := (waysS_rise (n := n) (m := m) (a := a) (L := L) (c := zeroP) (h := h) hz hL).2
    rw [show waysC n m z a L zeroP h = [] from ways_zero h0] at h1
    exact List.perm_nil.1 h1
theorem looseH_full {n z : Nat} {a h : Int} (hz : 0 < z) : looseH n z a (fullC z n h) h = [] := by
  unfold looseH
  split
  · rfl
  · unfold looseZ
    rw [loose_full hz]
    rfl
theorem fullC_start (z : Nat) (h : Int) : fullC z 0 h = zeroP := fullC_zero z h
end
end Go.Proofs.YtimhbgpnkodlaaaDoor

/- The closed fact pooled: an address is taken. No condition but those that stand in each theorem. -/
import Derived.Test.YtimhbgpnkodlaaaGreatDoorBpC
namespace Go.Proofs.YtimhbgpnkodlaaaGreatDoor
open Go.RowKit Go.Maps
def p256 : Pf := ⟨256, 28⟩
theorem g256 : PoolG p256 30 := ⟨⟨by decide, by decide, by decide⟩, by decide⟩
def c256 : PoolC := ⟨updI (fun _ => 0) 0 7, updI (fun _ => 0) 0 7⟩
def d256 : PoolC := ⟨updI c256.T 4 8, updI c256.B 1 8⟩
theorem take256 : takeC (plN p256) (plZ 30) zeroP 7 = (some 0, c256) := by kernel_rfl
theorem take260 : takeC (plN p256) (plZ 30) c256 8 = (some 4, d256) := by kernel_rfl
theorem cnt260 : cntC (plN p256) d256.T = 2 := by kernel_rfl
theorem at260 : atT 256 d256 260 = 8 := by kernel_rfl
section
variable {w : World} {E : Nat → Addr}
theorem Sen.keep {S : Nat → Prop} {w W W2 : World} {g : Nat} {a : Addr} (h0 : Sen w g a) (h : Sen W g a) (hu : Upd S W W2) (hs : ∀ k, S k → w.heap.size ≤ k) : Sen W2 g a :=
  h.upd hu fun hx => by have := hs g hx; have := h0.lt; omega
theorem New.keep {S : Nat → Prop} {w W W2 : World} (h : New w W) (hu : Upd S W W2) (hs : ∀ k, S k → w.heap.size ≤ k) : New w W2 := h.trans hu fun k hk hx => by have := hs k hx; omega
set_option maxRecDepth 20000 in
set_option maxHeartbeats 4000000 in
theorem pooled_any (h2 : Sen w gBound (E 2)) (h3 : Sen w gShape (E 3)) (h7 : Sen w gFullB (E 7)) :
    Calls Tryz.prog 4 #[] w fun e w1 => e = .returned (.bool true) ∧ New w w1 := by
  have H2 := hide h2
  have H3 := hide h3
  have H7 := hide h7
  have Hn := hide (plnew_ok (p := p256) (L := 30) h2 h3 (by decide) (by unfold badL p256; decide))
  clear h2 h3 h7
  go_enter Tryz.func4, Tryz.ntmps4
  go_upto_region 4 with ((go_at_call 5; refine Hn.out.mono ?_; rintro e w' ⟨kp, bm, tm, rfl, hp, hu, s0, s1, s2⟩))
  generalize w' = W1 at *
  have hS : ∀ k, (k = bm ∨ k = tm) → w.heap.size ≤ k := fun k hk => by omega
  have Ht := hide (pltake_some g256 hp (H2.out.new hu) (H3.out.new hu) (H7.out.new hu) 7 ⟨by decide, by decide⟩ take256)
  have Hu := hide hu
  clear hp hu
  go_upto_region 5 with ((go_at_call 8; refine Ht.out.mono ?_; rintro e w' ⟨rfl, hp, hu⟩))
  generalize w' = W2 at *
  have Hu2 := hide (Hu.out.keep hu hS)
  have Ht2 := hide (pltake_some g256 hp (H2.out.new Hu2.out) (H3.out.new Hu2.out) (H7.out.new Hu2.out) 8 ⟨by decide, by decide⟩ take260)
  clear hp hu
  go_upto_region 6 with ((go_at_call 8; refine Ht2.out.mono ?_; rintro e w' ⟨rfl, hp, hu⟩))
  generalize w' = W3 at *
  have Hu3 := hide (Hu2.out.keep hu hS)
  have ho := plowner_any hp (x := 260) ⟨by decide, by decide⟩
  rw [show p256.a = 256 from rfl, at260] at ho
  have hc := plcount_any hp
  rw [cnt260] at hc
  have Ho := hide ho
  have Hc := hide hc
  have ha : p256.a = 256 := rfl
  clear hp hu ho hc
  go_wp2_with (first
    | (go_at_call 13; refine Ho.out.mono ?_; rintro e w' ⟨rfl, rfl⟩)
    | (go_at_call 15; refine Hc.out.mono ?_; rintro e w' ⟨rfl, rfl⟩))
  go_ret
  exact ⟨rfl, Hu3.out⟩
end
end Go.Proofs.YtimhbgpnkodlaaaGreatDoor

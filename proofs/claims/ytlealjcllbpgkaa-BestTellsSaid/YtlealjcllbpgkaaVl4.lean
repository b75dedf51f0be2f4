/- slices.Collect, Values, SortStableFunc, SortedStableFunc of routes. No condition but those that stand in each theorem. -/
import Derived.Test.YtlealjcllbpgkaaVl3
namespace Go.Proofs.Ytlealjcllbpgkaa
open Go.RowKit Go.Maps Go.Shelf
section
variable {ls : List RouteR} {A : Option Addr} {N cap bx : Nat} {w : World}
theorem collect_any (hN : ls.length = N) (hN2 : N ≤ 1000) (hr : Rws w A 8 (ls.map RouteR.cells)) (hb : Blk w bx TRs #[.slice A N cap]) :
    Calls Try.prog 29 #[.func (.func 31) #[] #[.pointer (some ⟨bx, 0, none⟩)]] w fun e w1 => ∃ v, e = .returned v ∧ w1.ownsRow w.heap.size TRt 8 v ls.length (flat (ls.map RouteR.cells)) ∧ New w w1 := by
  have Ha := hide (appSeq_any ls A N cap bx w hN hN2 hr hb)
  clear hN hr hb hN2
  go_enter Try.func29, Try.ntmps29
  go_wp2_with ((go_at_call 34; refine Ha.out.mono ?_; rintro e w1 ⟨v, rfl, ho, hu⟩))
  go_ret
  exact ⟨v, rfl, ho, hu⟩
theorem rt_sizeV (l : List RouteR) : ∀ r ∈ l.map RouteR.cells, r.size = 8 := fun r hr => by obtain ⟨p, _, rfl⟩ := List.mem_map.1 hr; rfl
theorem sortSF_any (v : Value) (w0 : World) (hn : New w0 w) (ho : w.ownsRow w0.heap.size TRt 8 v ls.length (flat (ls.map RouteR.cells))) (hok : ∀ r ∈ ls, AttrOk w0 r.at_ ∧ r.at_.path.length ≤ 1000 ∧ r.at_.tags.length ≤ 1000) (hl : ls.length ≤ 39) :
    Calls Try.prog 30 #[v, .func (.func 16) #[] #[]] w fun e w1 => e = .returned (.tuple #[]) ∧ ∃ ls' : List RouteR, ls'.Perm ls ∧ (ls'.map RouteR.con).Pairwise (fun x y => leL ltC x y) ∧ w1.ownsRow w0.heap.size TRt 8 v ls'.length (flat (ls'.map RouteR.cells)) ∧ New w0 w1 := by
  have Hs := hide (sortStable_any v ls w0 w hn ho hok hl)
  obtain ⟨A1, c1, rfl, _, _, _, _, _⟩ := rws_of_own (by omega) ho (rt_sizeV ls)
  clear hn ho hok hl
  go_enter Try.func30, Try.ntmps30
  go_wp2_with ((go_at_call 35; refine Hs.out.mono ?_; rintro e w1 ⟨rfl, ls', h1, h2, h3, h4⟩))
  go_end0
  exact ⟨rfl, ls', h1, h2, h3, h4⟩
theorem values_any (A : Option Addr) (N cap : Nat) (w : World) : Calls Try.prog 20 #[.slice A N cap] w fun e w1 => e = .returned (.func (.func 31) #[] #[.pointer (some ⟨w.heap.size, 0, none⟩)]) ∧ w1 = w.alloc (.cells #[.slice A N cap] TRs) := by
  go_enter Try.func20, Try.ntmps20
  go_wp2_with fail
  go_ret
  exact ⟨rfl, rfl⟩
theorem sortedSF_any (hN : ls.length = N) (hr : Rws w A 8 (ls.map RouteR.cells)) (hb : Blk w bx TRs #[.slice A N cap]) (hok : ∀ r ∈ ls, AttrOk w r.at_ ∧ r.at_.path.length ≤ 1000 ∧ r.at_.tags.length ≤ 1000) (hl : N ≤ 39) :
    Calls Try.prog 19 #[.func (.func 31) #[] #[.pointer (some ⟨bx, 0, none⟩)], .func (.func 16) #[] #[]] w fun e w1 => ∃ v, ∃ ls' : List RouteR, e = .returned v ∧ ls'.Perm ls ∧ (ls'.map RouteR.con).Pairwise (fun x y => leL ltC x y) ∧ w1.ownsRow w.heap.size TRt 8 v ls'.length (flat (ls'.map RouteR.cells)) ∧ New w w1 := by
  have Hc := hide (collect_any (cap := cap) hN (by omega) hr hb)
  have Hs := hide (fun (v : Value) (W : World) (hn : New w W) (ho : W.ownsRow w.heap.size TRt 8 v ls.length (flat (ls.map RouteR.cells))) => sortSF_any v w hn ho hok (by omega))
  clear hN hr hb hok hl
  go_enter Try.func19, Try.ntmps19
  go_wp2_with (first
    | (go_at_call 29; refine Hc.out.mono ?_; rintro e w1 ⟨v, rfl, ho, hu⟩; have Hs2 := hide (Hs.out v w1 hu ho); clear ho hu)
    | (go_at_call 30; refine Hs2.out.mono ?_; rintro e w2 ⟨rfl, ls', h1, h2, h3, h4⟩))
  go_ret
  exact ⟨v, ls', rfl, h1, h2, h3, h4⟩
end
end Go.Proofs.Ytlealjcllbpgkaa

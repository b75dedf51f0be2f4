/- slices.SortStableFunc of routes of the call's own. No condition but those that stand in each theorem. -/
import Derived.Test.YtlealjcllbpgkaaVl2
import Derived.Test.YtlealjcllbpgkaaSt1
import Derived.Shelf.SlSortCmp.NoneTotal
namespace Go.Proofs.Ytlealjcllbpgkaa
open Go.RowKit Go.Maps Go.Shelf
/-- Routes whose rows lie in w. -/
structure RtS (w : World) where
  val : RouteR
  property : AttrOk w val.at_ ∧ val.at_.path.length ≤ 1000 ∧ val.at_.tags.length ≤ 1000
instance (w : World) : Inhabited (RtS w) := ⟨⟨⟨0, 0, ⟨none, 0, [], 0, 0, 0, none, 0, []⟩, 0⟩, ⟨⟨fun h => absurd h (by simp), fun h => absurd h (by simp), Nat.le_refl _, Nat.le_refl _⟩, by simp, by simp⟩⟩⟩
def encU {w : World} (x : RtS w) : List Value := x.1.cells.toList
def cmpU {w : World} (x y : RtS w) : Int := ordC x.1.con y.1.con
theorem swoU (w : World) : SwoL (Go.Proofs.ltOf (cmpU (w := w))) :=
  ⟨fun x y h => ltC_swo.asym x.1.con y.1.con h, fun x y z h => ltC_swo.neg x.1.con y.1.con z.1.con h⟩
theorem sz8 {w : World} (l : List (RtS w)) : ∀ r ∈ l.map fun x => x.1.cells, r.size = 8 := fun r hr => by obtain ⟨p, _, rfl⟩ := List.mem_map.1 hr; rfl
theorem flatK_rts {w : World} (l : List (RtS w)) : Go.Sort.flatK encU 8 l.toArray = (flat (l.map fun x => x.1.cells)).toArray := by
  have hlen : (flat (l.map fun x => x.1.cells)).length = l.length * 8 := by rw [flat_length _ (sz8 l)]; simp
  refine Go.Sort.ext_get! (by simp [hlen]) fun t ht => ?_
  have ht' : t < l.length * 8 := by simpa using ht
  rw [Go.Sort.get_flatK _ _ _ t (by simpa using ht')]
  have hi : t / 8 < l.length := by omega
  have hr : (l.map fun x => x.1.cells)[t / 8]? = some (l[t / 8]).1.cells := by rw [List.getElem?_map, List.getElem?_eq_getElem hi]; rfl
  have hg := flat_get (l.map fun x => x.1.cells) (sz8 l) (t / 8) _ hr (t % 8) (by omega)
  rw [show t / 8 * 8 + t % 8 = t by omega] at hg
  have h1 : l.toArray[t / 8]! = l[t / 8] := by
    rw [getElem!_pos l.toArray (t / 8) (by simpa using hi)]; simp
  rw [h1]
  have h2 : ((flat (l.map fun x => x.1.cells)).toArray)[t]! = ((flat (l.map fun x => x.1.cells))[t]?).getD default := by
    rw [getElem!_pos _ t (by simp [hlen]; exact ht')]
    simp [List.getElem?_eq_getElem (show t < (flat (l.map fun x => x.1.cells)).length by omega)]
  rw [h2, hg]
  have h8 : t % 8 < (l[t / 8]).1.cells.size := by rw [show (l[t / 8]).1.cells.size = 8 from rfl]; omega
  unfold encU
  rw [Array.getElem?_eq_getElem h8, Option.getD_some, getElem!_pos _ _ (by simpa using h8)]
  simp
theorem toList_range {α : Type} [Inhabited α] (d : Array α) (N : Nat) (h : d.size = N) : (List.range' 0 (N - 0)).map (fun t => d[t]!) = d.toList := by
  rw [← extract_range d 0 N (by omega), ← h]
  simp
theorem srt_list {w : World} {d : Array (RtS w)} {N : Nat} (hN : d.size = N) (h : SrtIn (Go.Proofs.ltOf cmpU) d 0 N) : (d.toList.map fun x => x.1.con).Pairwise fun x y => leL ltC x y := by
  rw [List.pairwise_map, List.pairwise_iff_getElem]
  intro i j hi hj hij
  have hi' : i < d.size := by simpa using hi
  have hj' : j < d.size := by simpa using hj
  have := h i j (Nat.zero_le _) hij (by omega)
  rw [getElem!_pos d j hj', getElem!_pos d i hi'] at this
  have e : leL ltC d[i].1.con d[j].1.con := this
  simpa only [Array.getElem_toList] using e
theorem enters_cmpR : ∀ args w, (callFunc 16 args).run Try.prog w = .ok (.enter 16 args) w := Go.Proofs.enters_of Try.func16 (by kernel_rfl) rfl
theorem none_any (w : World) : Calls Try.prog 36 #[.slice none 0 0, .int .i64 0, .int .i64 0, .func (.func 16) #[] #[]] w fun e w' => e = .returned (.tuple #[]) ∧ w' = w :=
  (Go.Proofs.AnyF.insertionSortCmpFunc_none (P := Try.prog) (ρ := sr_ren) sr_lays none 0 (.func (.func 16) #[] #[]) w : Calls Try.prog 36 _ _ _)
set_option maxHeartbeats 1000000 in
theorem stable_none (w : World) : Calls Try.prog 35 #[.slice none 0 0, .int .i64 0, .func (.func 16) #[] #[]] w fun e w' => e = .returned (.tuple #[]) ∧ w' = w := by
  have Hn := hide (none_any w)
  go_enter Try.func35, Try.ntmps35
  go_upto_region 2 with (fail)
  go_loopw [7, 8] (fun va vb wr => va = .int .i64 0 ∧ vb = .int .i64 20 ∧ w = wr) (fun va _ _ => 100 - (intOf va).toNat)
  case atStart => exact ⟨rfl, rfl, rfl⟩
  case round =>
    obtain ⟨rfl, rfl, rfl⟩ := hrel
    go_upto_region 7 with ((go_at_call 36; refine Hn.out.mono ?_; rintro e w' ⟨rfl, rfl⟩))
    go_loopw [6, 7, 8, 9] (fun v6 _ _ _ wr => v6 = .int .i64 20 ∧ w' = wr) (fun v6 _ _ _ _ => 100 - (intOf v6).toNat)
    case atStart => exact ⟨rfl, rfl⟩
    case round =>
      obtain ⟨rfl, rfl⟩ := hrel
      go_wp2_with fail
      go_end0
      exact ⟨rfl, rfl⟩
set_option maxHeartbeats 2000000 in
/-- slices.SortStableFunc of routes of the call's own, whose rows lie ahead of them. -/
theorem sortStable_any (v : Value) (ls : List RouteR) (w0 w : World) (hn : New w0 w) (ho : w.ownsRow w0.heap.size TRt 8 v ls.length (flat (ls.map RouteR.cells))) (hok : ∀ r ∈ ls, AttrOk w0 r.at_ ∧ r.at_.path.length ≤ 1000 ∧ r.at_.tags.length ≤ 1000) (hl : ls.length ≤ 39) :
    Calls Try.prog 35 #[v, .int .i64 ls.length, .func (.func 16) #[] #[]] w fun e w1 => e = .returned (.tuple #[]) ∧ ∃ ls' : List RouteR, ls'.Perm ls ∧ (ls'.map RouteR.con).Pairwise (fun x y => leL ltC x y) ∧ w1.ownsRow w0.heap.size TRt 8 v ls'.length (flat (ls'.map RouteR.cells)) ∧ New w0 w1 := by
  rcases ho.2 with ⟨rfl, h0⟩ | ⟨g, cap, cur, rfl, hb, hh, hnn, hm, hcs, ht⟩
  · obtain rfl : ls = [] := List.eq_nil_of_length_eq_zero h0
    refine (stable_none w).mono ?_
    rintro e w1 ⟨rfl, rfl⟩
    exact ⟨rfl, [], List.Perm.refl _, List.Pairwise.nil, ho, hn⟩
  · obtain ⟨l, rfl⟩ : ∃ l : List (RtS w0), ls = l.map (fun x => x.1) := ⟨ls.attach.map fun x => ⟨x.1, hok x.1 x.2⟩, by rw [List.map_map]; exact (List.attach_map_subtype_val ls).symm⟩
    have hmm : (l.map fun x => x.1).map RouteR.cells = l.map fun x => x.1.cells := by rw [List.map_map]; rfl
    rw [hmm] at ht ho
    have hlen : (flat (l.map fun x => x.1.cells)).length = l.length * 8 := by rw [flat_length _ (sz8 l)]; simp
    have hll : (l.map fun x => x.1).length = l.length := by simp
    simp only [List.length_map] at ht ho hnn hl ⊢
    have hlt : g < w.heap.size := Blk.lt (t := TRt) (cs := cur) hh
    have hH : Go.Sort.HoldsK encU 8 w g 0 l.toArray := by
      unfold Go.Sort.HoldsK
      rw [flatK_rts]
      exact holds_of_blockV hh (by rw [hlen]; exact ht)
    have hnew : ∀ (m : Nat) (os : Array Obj) (dk : Array (RtS w0)), New w0 (Go.Proofs.sortWorldK encU 8 w g 0 m dk os) := fun m os dk =>
      hn.trans (Upd.of_grown (S := fun k => k = g) (grownBy_sortedV (w := w) (g := g) (n := m) (os := os) (Go.Sort.flatK encU 8 dk)) fun k _ e => by injection e with e; exact e.symm) fun k hk hx => by omega
    have R : Go.Proofs.RowK encU 8 w g 0 l.toArray := ⟨fun _ => rfl, fun x u hu => by
      obtain ⟨⟨xa, xn, ⟨P, pc, p, xp, xm, xo, T, tc, t⟩, xf⟩, _⟩ := x
      unfold encU RouteR.cells at hu
      simp at hu
      rcases hu with rfl | rfl | rfl | rfl | rfl | rfl | rfl | rfl <;> rfl, hH, hlt⟩
    have hC : Go.Proofs.CmpLays (α := RtS w0) Try.prog 16 #[] encU 8 cmpU g 0 l.toArray.size w := fun m os dk _ x y => by
      have hx := x.2
      have hy := y.2
      have h := cmpRoutes_any x.1 y.1 (Go.Proofs.sortWorldK encU 8 w g 0 m dk os) (hx.1.new_ (hnew m os dk)) (hy.1.new_ (hnew m os dk)) hx.2.1 hx.2.2 hy.2.1 hy.2.2
      rw [Array.append_empty]
      unfold encU
      rw [Array.toArray_toList, Array.toArray_toList]
      exact h
    have h := stable_any encU cmpU 16 enters_cmpR (swoU w0) g 0 cap l.length l.toArray w R hC (by simp) hl
    refine h.mono ?_
    rintro e w1 ⟨rfl, d', hm', hs', n, os, rfl⟩
    have hsz : d'.size = l.length := by rw [hm'.size]; simp
    have hp := hm'.perm
    rw [toList_range d' l.length hsz, toList_range l.toArray l.length (by simp)] at hp
    have hmm' : (d'.toList.map fun x => x.1).map RouteR.cells = d'.toList.map fun x => x.1.cells := by rw [List.map_map]; rfl
    refine ⟨rfl, d'.toList.map fun x => x.1, (by simpa using hp.map _), by rw [List.map_map]; exact srt_list hsz hs', ?_, hnew n os d'⟩
    rw [hmm', List.length_map]
    have hsz' : d'.toList.length = l.length := by simpa using hsz
    have e1 : Go.Proofs.sortWorldK encU 8 w g 0 n d' os = Go.Sort.grow (Go.Sort.putRow id (Go.Sort.ahead w n) g 0 (flat (d'.toList.map fun x => x.1.cells)).toArray) os := by
      unfold Go.Proofs.sortWorldK Go.Sort.putRowK
      rw [← flatK_rts]
    have hlen' : (flat (d'.toList.map fun x => x.1.cells)).length = l.length * 8 := by rw [flat_length _ (sz8 _)]; simp [hsz']
    rw [e1, hsz']
    refine ⟨hlen', .inr ⟨g, cap, _, rfl, hb, heap_sortedV _ hh, hnn, hm, by simp [Go.Sort.putCells, hcs], ?_⟩⟩
    rw [← hlen']
    exact take_putCellsV cur _ (by rw [hlen', hcs]; omega)
end Go.Proofs.Ytlealjcllbpgkaa

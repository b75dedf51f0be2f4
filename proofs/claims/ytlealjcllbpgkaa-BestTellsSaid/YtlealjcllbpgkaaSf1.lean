/- slices.SortFunc of prefixes of the call's own by ip.Compare: the same prefixes, rising. No condition but those that stand in each theorem. -/
import Derived.Test.YtlealjcllbpgkaaSt3
import Derived.Test.YtlealjcllbpgkaaSf0
import Derived.Test.YtlealjcllbpgkaaRis
namespace Go.Proofs.Ytlealjcllbpgkaa
open Go.RowKit

instance : Inhabited Pf := ⟨⟨0, 0⟩⟩
instance (p q : Pf) : Decidable (ltP p q) := by unfold ltP; infer_instance
def encP (p : Pf) : List Value := [.int .i64 p.a, .int .i64 p.n]
def cmpQ (x y : Pf) : Int := cmpP x.a x.n y.a y.n
theorem pfc_size (l : List Pf) : ∀ r ∈ l.map Pf.cells, r.size = 2 := fun r hr => by obtain ⟨p, _, rfl⟩ := List.mem_map.1 hr; rfl
theorem flatK_pfs (l : List Pf) : Go.Sort.flatK encP 2 l.toArray = (flat (l.map Pf.cells)).toArray := by
  have hlen : (flat (l.map Pf.cells)).length = l.length * 2 := by rw [flat_length _ (pfc_size l)]; simp
  refine Go.Sort.ext_get! (by simp [hlen]) fun t ht => ?_
  have ht' : t < l.length * 2 := by simpa using ht
  rw [Go.Sort.get_flatK _ _ _ t (by simpa using ht')]
  have hi : t / 2 < l.length := by omega
  have hr : (l.map Pf.cells)[t / 2]? = some (l[t / 2]).cells := by rw [List.getElem?_map, List.getElem?_eq_getElem hi]; rfl
  have hg := flat_get (l.map Pf.cells) (pfc_size l) (t / 2) _ hr (t % 2) (by omega)
  rw [show t / 2 * 2 + t % 2 = t by omega] at hg
  have h1 : l.toArray[t / 2]! = l[t / 2] := by
    rw [getElem!_pos l.toArray (t / 2) (by simpa using hi)]; simp
  rw [h1]
  have h2 : ((flat (l.map Pf.cells)).toArray)[t]! = ((flat (l.map Pf.cells))[t]?).getD default := by
    rw [getElem!_pos _ t (by simp [hlen]; exact ht')]
    simp [List.getElem?_eq_getElem (show t < (flat (l.map Pf.cells)).length by omega)]
  rw [h2, hg]
  have : t % 2 = 0 ∨ t % 2 = 1 := by omega
  rcases this with e | e <;> rw [e] <;> rfl
theorem ltQ (x y : Pf) : Go.Proofs.ltOf cmpQ x y = decide (ltP x y) := by
  have h := cmp_ltP x.a x.n y.a y.n
  unfold Go.Proofs.ltOf cmpQ
  by_cases h1 : ltP x y
  · rw [decide_eq_true h1, decide_eq_true (h.2 h1)]
  · rw [decide_eq_false h1, decide_eq_false (fun hc => h1 (h.1 hc))]
theorem swoQ : Go.Sort.SWO (Go.Proofs.ltOf cmpQ) where
  irrefl x := by rw [ltQ]; simp [ltP]
  trans x y z h1 h2 := by
    rw [ltQ] at *
    exact decide_eq_true (ltP_trans (of_decide_eq_true h1) (of_decide_eq_true h2))
  ntrans x y z h1 h2 := by
    rw [ltQ] at *
    have a := of_decide_eq_false h1
    have b := of_decide_eq_false h2
    exact decide_eq_false (by unfold ltP at *; omega)
theorem sorted_pfs {d : Array Pf} (h : Go.Sort.SortedIn (Go.Proofs.ltOf cmpQ) 0 d.size d) : d.toList.Pairwise (fun p q => ¬ ltP q p) := by
  rw [List.pairwise_iff_getElem]
  intro i j hi hj hij
  have hi' : i < d.size := by simpa using hi
  have hj' : j < d.size := by simpa using hj
  have := h i j (Nat.zero_le _) hij hj'
  rw [getElem!_pos d j hj', getElem!_pos d i hi', ltQ] at this
  simpa using this

theorem grown_drew (w : World) (os : Array Obj) (o : Obj) : ((Go.Sort.grow w os).alloc o).drew = Go.Sort.grow (w.drewN 1) (os ++ #[o]) := by
  rw [Go.Sort.alloc_eq_grow, Go.Sort.grow_grow]
  rfl
set_option maxHeartbeats 1000000 in
/-- ip.Compare, and how the world grows. -/
theorem compareG_any (x y : Pf) (w : World) :
    Calls Try.prog 26 #[.agg #[.int .i64 x.a, .int .i64 x.n], .agg #[.int .i64 y.a, .int .i64 y.n]] w fun e w1 => e = .returned (.int .i64 (cmpQ x y)) ∧ ∃ q os', w1 = Go.Sort.grow (w.drewN q) os' := by
  obtain ⟨a, n⟩ := x
  obtain ⟨b, m⟩ := y
  show Calls Try.prog 26 #[.agg #[.int .i64 a, .int .i64 n], .agg #[.int .i64 b, .int .i64 m]] w fun e w1 => e = .returned (.int .i64 (cmpP a n b m)) ∧ ∃ q os', w1 = Go.Sort.grow (w.drewN q) os'
  have b0 := (Blk.new w 26 #[.int .i64 a, .int .i64 n]).alloc (.cells #[.int .i64 b, .int .i64 m] 26)
  have b1 := Blk.at_ (w.alloc (.cells #[.int .i64 a, .int .i64 n] 26)) 26 #[.int .i64 b, .int .i64 m] (w.heap.size + 1) (by simp)
  have u : ∃ os, (w.alloc (.cells #[.int .i64 a, .int .i64 n] 26)).alloc (.cells #[.int .i64 b, .int .i64 m] 26) = Go.Sort.grow w os := ⟨_, by rw [Go.Sort.alloc_eq_grow, Go.Sort.alloc_eq_grow, Go.Sort.grow_grow]⟩
  have Hb0 := hide b0
  have Hb1 := hide b1
  have Hu := hide u
  clear b0 b1 u
  go_enter Try.func26, Try.ntmps26
  go_wp2_with fail
  generalize ((w.alloc (.cells #[.int .i64 a, .int .i64 n] 26)).alloc (.cells #[.int .i64 b, .int .i64 m] 26)) = W at *
  have c00 := Hb0.out.cell 0
  have c01 := Hb0.out.cell 1
  have c10 := Hb1.out.cell 0
  have c11 := Hb1.out.cell 1
  have z0 := Hb0.out.lt
  have z1 := Hb1.out.lt
  simp only [List.getElem?_toArray, List.getElem?_cons_zero, List.getElem?_cons_succ] at c00 c01 c10 c11
  go_region_held3 (fun w' => w'.cell? ⟨w.heap.size, 0, none⟩ = some (.int .i64 a) ∧ w'.cell? ⟨w.heap.size, 1, none⟩ = some (.int .i64 n) ∧ w'.cell? ⟨w.heap.size + 1, 0, none⟩ = some (.int .i64 b) ∧ w'.cell? ⟨w.heap.size + 1, 1, none⟩ = some (.int .i64 m))
    (first | go_keep | skip)
    (first
      | (go_at_call 24; refine (compare_any _ _ _).mono ?_; rintro e w' ⟨rfl, rfl⟩)
      | (go_at_call 33; refine (or_any _ 0 _ [sgn a b, sgn n m] _ (by exact or2_cells _ _ _ _) (by simp)).mono ?_; rintro e w' ⟨rfl, rfl⟩))
  go_wp2_with fail
  go_ret
  obtain ⟨os, rfl⟩ := Hu.out
  exact ⟨rfl, 1, _, grown_drew _ _ _⟩
theorem enters_cmpP : ∀ args w, (callFunc 26 args).run Try.prog w = .ok (.enter 26 args) w := Go.Proofs.enters_of Try.func26 (by kernel_rfl) rfl

end Go.Proofs.Ytlealjcllbpgkaa

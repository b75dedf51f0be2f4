/- The reference's table: a row of entries that the call made. No condition but those that stand in each theorem. -/
import Derived.Test.YtkljanjapcpbdaaDoorAp1
import Derived.Test.YtkljanjapcpbdaaDoorRf2
import Derived.Test.YtkljanjapcpbdaaDoorFoA
import Derived.Test.YtkljanjapcpbdaaDoorEq
import Derived.Laws.OwnMore
import Derived.Deep.DeepCutAuto
namespace Go.Proofs.YtkljanjapcpbdaaDoor
open Go.RowKit

abbrev TRTb : TypeId := 73
abbrev TRE : TypeId := 71
def E3.cells (x : E3) : Array Value := #[.int .i64 x.a, .int .i64 x.n, .int .i64 x.h]
def rows (L : List E3) : List Value := flat (L.map E3.cells)
theorem info_TRE : (Tryd.prog.info? TRE).map (fun i => (i.zero, i.size, i.bytes)) = some (some (.agg #[.int .i64 0, .int .i64 0, .int .i64 0]), 3, 24) := by kernel_rfl
theorem e3_size (L : List E3) : ∀ r ∈ L.map E3.cells, r.size = 3 := fun r hr => by obtain ⟨p, _, rfl⟩ := List.mem_map.1 hr; rfl
theorem e3_one (L : List E3) : ∀ u ∈ rows L, u.oneCell' = true := fun u hu => by
  obtain ⟨r, hr, hu⟩ := List.mem_flatMap.1 hu
  obtain ⟨p, _, rfl⟩ := List.mem_map.1 hr
  simp [E3.cells] at hu
  rcases hu with rfl | rfl | rfl <;> rfl
theorem rows_len (L : List E3) : (rows L).length = L.length * 3 := by unfold rows; rw [flat_length _ (e3_size L), List.length_map]
theorem rows_app (L M : List E3) : rows (L ++ M) = rows L ++ rows M := by unfold rows; rw [List.map_append, flat_append]
theorem rows_get {L : List E3} {i : Nat} {x : E3} (h : L[i]? = some x) (k : Nat) (hk : k < 3) : (rows L)[i * 3 + k]? = x.cells[k]? :=
  flat_get _ (e3_size L) i x.cells (by rw [List.getElem?_map, h]; rfl) k hk

/-- The reference's table: how many at most, its entries, the blocks that are its own. -/
structure TabL (B : Nat) (w : World) (y : Nat) (ms : Int) (L : List E3) (G : Nat → Prop) : Prop where
  ex : ∃ v, Blk w y TRTb #[.int .i64 ms, v] ∧ w.ownsRow B TRE 3 v L.length (rows L) ∧ G = fun k => k = y ∨ v.ownBlock = some k
  from_ : B ≤ y
theorem TabL.ge {B : Nat} {w : World} {y : Nat} {ms : Int} {L : List E3} {G : Nat → Prop} (h : TabL B w y ms L G) {k : Nat} (hk : G k) : B ≤ k := by
  obtain ⟨v, hb, ho, rfl⟩ := h.ex
  rcases hk with rfl | hk
  · exact h.from_
  · rcases ho.2 with ⟨rfl, _⟩ | ⟨g1, cap, cur, rfl, hb, _⟩
    · simp [Value.ownBlock] at hk
    · have : g1 = k := by simpa [Value.ownBlock] using hk
      omega
theorem own_lt {w : World} {base : Nat} {e : TypeId} {size n : Nat} {v : Value} {xs : List Value} (h : w.ownsRow base e size v n xs) {g : Nat} (hg : v.ownBlock = some g) : g < w.heap.size := by
  rcases h.2 with ⟨rfl, _⟩ | ⟨g1, cap, cur, rfl, hb, hh, _⟩
  · simp [Value.ownBlock] at hg
  · have : g1 = g := by simpa [Value.ownBlock] using hg
    subst this
    rcases Nat.lt_or_ge g1 w.heap.size with hlt | hge
    · exact hlt
    · rw [Array.getElem?_eq_none hge] at hh; cases hh
theorem TabL.lt {B : Nat} {w : World} {y : Nat} {ms : Int} {L : List E3} {G : Nat → Prop} (h : TabL B w y ms L G) {k : Nat} (hk : G k) : k < w.heap.size := by
  obtain ⟨v, hb, ho, rfl⟩ := h.ex
  rcases hk with rfl | hk
  · exact hb.lt
  · exact own_lt ho hk
theorem own_keep {S : Nat → Prop} {w w1 : World} {base : Nat} {e : TypeId} {size n : Nat} {v : Value} {xs : List Value} (h : w.ownsRow base e size v n xs) (hu : Upd S w w1) (hn : ∀ g, v.ownBlock = some g → ¬ S g) : w1.ownsRow base e size v n xs := by
  have hlt := fun g (hg : v.ownBlock = some g) => own_lt h hg
  obtain ⟨h1, h2⟩ := h
  refine ⟨h1, ?_⟩
  rcases h2 with h2 | ⟨g, cap, cur, rfl, hg, hh, r⟩
  · exact .inl h2
  · exact .inr ⟨g, cap, cur, rfl, hg, (hu.block g (hlt g (by simp [Value.ownBlock])) (hn g (by simp [Value.ownBlock]))).trans hh, r⟩
theorem TabL.upd {B : Nat} {S : Nat → Prop} {w w1 : World} {y : Nat} {ms : Int} {L : List E3} {G : Nat → Prop} (h : TabL B w y ms L G) (hu : Upd S w w1) (hs : ∀ k, G k → ¬ S k) : TabL B w1 y ms L G := by
  obtain ⟨v, hb, ho, rfl⟩ := h.ex
  exact ⟨⟨v, hb.upd hu (hs y (.inl rfl)), own_keep ho hu fun g hg => hs g (.inr hg), rfl⟩, h.from_⟩
theorem TabL.new {B : Nat} {w w1 : World} {y : Nat} {ms : Int} {L : List E3} {G : Nat → Prop} (h : TabL B w y ms L G) (hu : New w w1) : TabL B w1 y ms L G := h.upd hu fun _ _ x => x
theorem own_ne2 {w : World} {base g : Nat} {e t : TypeId} {size n : Nat} {v : Value} {xs : List Value} {cs : Array Value} (h : w.ownsRow base e size v n xs) (hg : Blk w g t cs) (hne : e ≠ t) : v.ownBlock ≠ some g := by
  rcases h.2 with ⟨rfl, _⟩ | ⟨g1, cap, cur, rfl, _, hh, _⟩
  · simp [Value.ownBlock]
  · intro he
    have : g1 = g := by simpa [Value.ownBlock] using he
    subst this
    exact Blk.ne_ (t := e) hh hg hne rfl

/-- The table as the walk sees it: its cells. -/
theorem TabL.open_ {B : Nat} {w : World} {y : Nat} {ms : Int} {L : List E3} {G : Nat → Prop} (h : TabL B w y ms L G) : ∃ A cap, Blk w y TRTb #[.int .i64 ms, .slice A L.length cap] ∧ w.ownsRow B TRE 3 (.slice A L.length cap) L.length (rows L) ∧ Rws w A 3 (L.map E3.cells) ∧ L.length ≤ cap ∧
    (G = fun k => k = y ∨ (Value.slice A L.length cap).ownBlock = some k) ∧ (∀ g, (Value.slice A L.length cap).ownBlock = some g → g ≠ y) ∧ ((A = none ∧ L.length = 0 ∧ cap = 0) ∨ ∃ g, A = some ⟨g, 0, none⟩) := by
  obtain ⟨v, hb, ho, rfl⟩ := h.ex
  have hne := own_ne2 ho hb (by decide)
  obtain ⟨A, cap, rfl, _, hc, hr, _, _⟩ := rws_of_own (by omega) ho (e3_size L)
  refine ⟨A, cap, hb, ho, hr, hc, rfl, fun g hg e => hne (e ▸ hg), ?_⟩
  rcases ho.2 with ⟨h, h0⟩ | ⟨g, cap', cur, h, _⟩
  · injection h with h1 h2 h3
    exact .inl ⟨h1, h2, h3⟩
  · injection h with h1 h2 h3
    exact .inr ⟨g, h1⟩
theorem Rws.e3 {w : World} {A : Option Addr} {L : List E3} (h : Rws w A 3 (L.map E3.cells)) {k : Nat} (hk : k < L.length) : ∃ b o x, A = some ⟨b, o, none⟩ ∧ b < w.heap.size ∧ L[k]? = some x ∧
    w.cell? ⟨b, o + k * 3, none⟩ = some (.int .i64 x.a) ∧ w.cell? ⟨b, o + k * 3 + 1, none⟩ = some (.int .i64 x.n) ∧ w.cell? ⟨b, o + k * 3 + 2, none⟩ = some (.int .i64 x.h) := by
  obtain ⟨b, o, hA, hb, hc⟩ := h (by simpa using by omega)
  have hp : L[k]? = some L[k] := List.getElem?_eq_getElem hk
  have h1 := hc k L[k].cells (by simp [hp])
  exact ⟨b, o, L[k], hA, hb, hp, h1 0 _ rfl, h1 1 _ rfl, h1 2 _ rfl⟩

theorem mm {m : Int} : min (max m 0) 60 = if m < 0 then 0 else if 60 < m then 60 else m := by
  simp only [Int.min_def, Int.max_def]
  split <;> split <;> (try split) <;> omega
set_option maxHeartbeats 1000000 in
theorem newTable_any (B : Nat) (m : Int) (w : World) (hB : B ≤ w.heap.size) :
    Calls Tryd.prog 23 #[.int .i64 m] w fun e w1 => ∃ y G, e = .returned (.pointer (some ⟨y, 0, none⟩)) ∧ TabL B w1 y (min (max m 0) 60) [] G ∧ (∀ k, G k → w.heap.size ≤ k) ∧ New w w1 := by
  have fin : ∀ m2 : Int, m2 = min (max m 0) 60 → ∃ y G, Ending.returned (.pointer (some ⟨w.heap.size, 0, none⟩)) = Ending.returned (.pointer (some ⟨y, 0, none⟩)) ∧ TabL B (w.alloc (.cells #[.int .i64 m2, .slice none 0 0] TRTb)) y (min (max m 0) 60) [] G ∧ (∀ k, G k → w.heap.size ≤ k) ∧ New w (w.alloc (.cells #[.int .i64 m2, .slice none 0 0] TRTb)) := by
    rintro _ rfl
    refine ⟨w.heap.size, _, rfl, ⟨⟨.slice none 0 0, Blk.new _ _ _, World.ownsRow_nil _ _ _ _, rfl⟩, hB⟩, ?_, (Upd.refl _ _).alloc _⟩
    rintro k (rfl | hk)
    · exact Nat.le_refl _
    · simp [Value.ownBlock] at hk
  have Fin := hide fin
  have Hmm := hide (@mm m)
  clear fin
  by_cases h1 : m < 0
  · have e : (0 : Int) = min (max m 0) 60 := by rw [Hmm.out, if_pos h1]
    have He := hide e
    clear e
    go_enter Tryd.func23, Tryd.ntmps23
    go_wp2_with fail
    go_ret
    obtain ⟨y, G, q1, q2, q3, q4⟩ := Fin.out _ He.out
    first | exact ⟨y, G, q1, q2, q3, q4⟩ | exact ⟨y, q1, G, q2, q3, q4⟩
  · by_cases h2 : 60 < m
    · have e : (60 : Int) = min (max m 0) 60 := by rw [Hmm.out, if_neg h1, if_pos h2]
      have He := hide e
      clear e
      go_enter Tryd.func23, Tryd.ntmps23
      go_wp2_with fail
      go_ret
      obtain ⟨y, G, q1, q2, q3, q4⟩ := Fin.out _ He.out
      first | exact ⟨y, G, q1, q2, q3, q4⟩ | exact ⟨y, q1, G, q2, q3, q4⟩
    · have e : m = min (max m 0) 60 := by rw [Hmm.out, if_neg h1, if_neg h2]
      have He := hide e
      clear e
      go_enter Tryd.func23, Tryd.ntmps23
      go_wp2_with fail
      go_ret
      obtain ⟨y, G, q1, q2, q3, q4⟩ := Fin.out _ He.out
      first | exact ⟨y, G, q1, q2, q3, q4⟩ | exact ⟨y, q1, G, q2, q3, q4⟩
end Go.Proofs.YtkljanjapcpbdaaDoor

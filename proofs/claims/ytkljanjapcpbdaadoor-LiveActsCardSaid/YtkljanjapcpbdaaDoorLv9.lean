/- The law LiveUp at every input: too long, no system's number, else the walk. No condition but those that stand in each theorem. -/
import Derived.Test.YtkljanjapcpbdaaDoorLv8
namespace Go.Proofs.YtkljanjapcpbdaaDoor
open Go.RowKit

set_option maxRecDepth 8000 in
set_option maxHeartbeats 4000000 in
theorem liveUp_any (ya : Int) (A : Option Addr) (n c : Nat) (es : List EvR) (E : Nat → Addr) (w : World) (h : WSen w E) (hx : Evs w A es) (hn : es.length = n) :
    Calls Tryd.prog 3 #[.int .i64 ya, .slice A n c] w fun e w1 => e = .returned (.bool true) ∧ New w w1 := by
  by_cases hl : longEs es = true
  · have Hlv := hide (lived_any E w h)
    have hle := fun w1 (hu : New w w1) => longEvents_any A n c es w1 (hx.new_ hu) hn
    rw [hl] at hle
    have Hle := hide hle
    clear hle hl h hx hn
    go_enter Tryd.func3, Tryd.ntmps3
    go_wp2_with fail
    refine Hlv.out.mono ?_
    rintro e w1 ⟨rfl, hu1⟩
    have Hle1 := hide (Hle.out w1 hu1)
    have U1 := hide hu1
    clear hu1
    go_wp2_with fail
    refine Hle1.out.mono ?_
    rintro e w2 ⟨rfl, hu2⟩
    have n2 : New w w2 := U1.out.trans_new hu2
    go_wp2_with fail
    go_ret
    exact ⟨rfl, n2⟩
  · have hl : longEs es = false := by simpa using hl
    by_cases hy : 1 ≤ ya ∧ ya ≤ 1000
    · exact liveUp_main ya A n c es E w h hx hn hl hy
    · have Hlv := hide (lived_any E w h)
      have hle := fun w1 (hu : New w w1) => longEvents_any A n c es w1 (hx.new_ hu) hn
      rw [hl] at hle
      have Hle := hide hle
      have Hnw := hide (fun w1 (hu : New w w1) => liveNew_no ya E w1 (h.h2.new hu) hy)
      clear hle hl h hx hn hy
      go_enter Tryd.func3, Tryd.ntmps3
      go_wp2_with fail
      refine Hlv.out.mono ?_
      rintro e w1 ⟨rfl, hu1⟩
      have Hle1 := hide (Hle.out w1 hu1)
      have U1 := hide hu1
      clear hu1
      go_wp2_with fail
      refine Hle1.out.mono ?_
      rintro e w2 ⟨rfl, hu2⟩
      have n2 : New w w2 := U1.out.trans_new hu2
      have hnw2 := Hnw.out w2 n2
      unfold errv at hnw2
      have Hnw2 := hide hnw2
      have N2 := hide n2
      clear hu2 n2 hnw2
      go_wp2_with fail
      refine Hnw2.out.mono ?_
      rintro e w3 ⟨rfl, hu3⟩
      have n3 := N2.out.trans_new hu3
      clear hu3
      go_wp2_with fail
      go_ret
      exact ⟨rfl, n3⟩
end Go.Proofs.YtkljanjapcpbdaaDoor

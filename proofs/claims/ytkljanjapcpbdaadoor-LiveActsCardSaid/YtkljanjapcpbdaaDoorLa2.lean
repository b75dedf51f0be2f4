/- The law LiveActs at every input: too long, no system's number, else the walk. No condition but those that stand in each theorem. -/
import Derived.Test.YtkljanjapcpbdaaDoorLa1
namespace Go.Proofs.YtkljanjapcpbdaaDoor
open Go.RowKit

set_option maxRecDepth 8000 in
set_option maxHeartbeats 4000000 in
theorem liveActs_any (ya : Int) (A : Option Addr) (n c : Nat) (es : List EvR) (E : Nat → Addr) (w : World) (h : Errs w E) (hx : Evs w A es) (hn : es.length = n) :
    Calls Tryd.prog 6 #[.int .i64 ya, .slice A n c] w fun e w1 => e = .returned (.bool true) ∧ New w w1 := by
  by_cases hl : longEs es = true
  · have Hlv := hide (lived_any E w (.of_errs h))
    have hle := fun w1 (hu : New w w1) => longEvents_any A n c es w1 (hx.new_ hu) hn
    rw [hl] at hle
    have Hle := hide hle
    clear hle hl h hx hn
    go_enter Tryd.func6, Tryd.ntmps6
    go_wp2_with fail
    refine Hlv.out.mono ?_
    rintro e w1 ⟨rfl, hu1⟩
    have Hle1 := hide (Hle.out w1 hu1)
    have U1 := hide hu1
    clear hu1
    go_wp2_with fail
    refine Hle1.out.mono ?_
    rintro e w2 ⟨rfl, hu2⟩
    have n2 : New w w2 := U1.out.trans_new hu2
    go_wp2_with fail
    go_ret
    exact ⟨rfl, n2⟩
  · have hl : longEs es = false := by simpa using hl
    by_cases hy : 1 ≤ ya ∧ ya ≤ 1000
    · exact liveActs_main ya A n c es E w h hx hn hl hy
    · have Hlv := hide (lived_any E w (.of_errs h))
      have hle := fun w1 (hu : New w w1) => longEvents_any A n c es w1 (hx.new_ hu) hn
      rw [hl] at hle
      have Hle := hide hle
      have Hnw := hide (fun w1 (hu : New w w1) => liveNew_no ya E w1 (h.s2.new hu) hy)
      have his := fun w1 => isSystem_any ya w1
      rw [decide_eq_false hy] at his
      have His := hide his
      have H := hide h
      clear hle hl h hx hn hy his
      go_enter Tryd.func6, Tryd.ntmps6
      go_wp2_with fail
      refine Hlv.out.mono ?_
      rintro e w1 ⟨rfl, hu1⟩
      have Hle1 := hide (Hle.out w1 hu1)
      have U1 := hide hu1
      clear hu1
      go_wp2_with fail
      refine Hle1.out.mono ?_
      rintro e w2 ⟨rfl, hu2⟩
      have n2 : New w w2 := U1.out.trans_new hu2
      have hnw2 := Hnw.out w2 n2
      have Hnw2 := hide hnw2
      have N2 := hide n2
      clear hu2 n2 hnw2
      go_wp2_with fail
      refine Hnw2.out.mono ?_
      rintro e w3 ⟨rfl, hu3⟩
      have n3 := N2.out.trans_new hu3
      have hco := coded3_any (errv (E 2)) 2 (-1) 2 w3 E (H.out.new n3) (.sent (by omega) (by omega))
      rw [decide_eq_true ⟨rfl, rfl⟩] at hco
      unfold errv at hco ⊢
      have Hco := hide hco
      have N3 := hide n3
      clear hu3 hco n3
      go_wp2_with (go_at_call 44; refine (His.out _).mono ?_; rintro e w' ⟨rfl, rfl⟩)
      refine Hco.out.mono ?_
      rintro e w4 ⟨rfl, hu4⟩
      have n4 := N3.out.trans_new hu4
      clear hu4
      go_wp2_with fail
      go_ret
      exact ⟨rfl, n4⟩
end Go.Proofs.YtkljanjapcpbdaaDoor

/- Package ip: Number. No condition but those that stand in each theorem. -/
import Derived.Test.YtignngpligicjaaDoorTx0
import Derived.Test.YtignngpligicjaaDoorSl
import Derived.BigRegion
namespace Go.Proofs.YtignngpligicjaaDoor
open Go.RowKit

/-- The number that a text spells as it is written, up to the most. -/
def numV (l : List UInt8) (most : Int) : Option Int := match Lib.atoiAll l with
  | .ok v => if 0 ≤ v ∧ v ≤ most ∧ Lib.itoa v = l then some v else none
  | _ => none
theorem numV_ok {l : List UInt8} {most v : Int} (h : Lib.atoiAll l = .ok v) : numV l most = if 0 ≤ v ∧ v ≤ most ∧ Lib.itoa v = l then some v else none := by unfold numV; rw [h]
theorem numV_bad {l : List UInt8} {most : Int} (h : ∀ v, Lib.atoiAll l ≠ .ok v) : numV l most = none := by
  unfold numV
  split
  · rename_i v hv; exact absurd hv (h v)
  · rfl

set_option maxRecDepth 8000 in
set_option maxHeartbeats 2000000 in
theorem number_any (s : ByteArray) (most : Int) (w : World) (h : TxtOk w) (hs : s.size ≤ 1000000) (hm : most ≤ 999999999) :
    Calls Tryd.prog 72 #[.string s, .int .i64 most] w fun e w1 => ∃ x, e = .returned (.tuple #[.int .i64 x, .bool (numV s.data.toList most).isSome]) ∧ (∀ v, numV s.data.toList most = some v → x = v) ∧ New w w1 := by
  have Ha := hide (atoi_any s w h (by omega))
  have H := hide h
  clear h
  go_enter Tryd.func72, Tryd.ntmps72
  go_wp2_with fail
  refine Ha.out.mono ?_
  rintro e w1 ⟨⟨v, hv, rfl⟩ | ⟨hv, x, t, p, rfl⟩, hu⟩
  · have Hv := hide (numV_ok (most := most) hv)
    have H1 := hide (H.out.new hu)
    have U1 := hide hu
    clear hv hu
    by_cases g1 : 0 ≤ v
    · by_cases g2 : v ≤ most
      · have Hi := hide (itoa_any v w1 H1.out (by omega) (by omega))
        go_wp2_with fail
        refine Hi.out.mono ?_
        rintro e w2 ⟨rfl, hu⟩
        have U2 := hide (U1.out.trans_new hu)
        clear hu
        go_wp2_with fail
        go_ret2
        refine ⟨v, ?_, fun z hz => ?_, U2.out⟩
        · rw [Hv.out, ByteArray.toList_eq]
          by_cases g3 : Lib.itoa v = s.data.toList
          · rw [if_pos ⟨g1, g2, g3⟩, beq_iff_eq.2 g3]; rfl
          · rw [if_neg fun h => g3 h.2.2, beq_eq_false_iff_ne.2 g3]; rfl
        · rw [Hv.out] at hz
          split at hz
          · exact Option.some.inj hz
          · cases hz
      · have Hv2 := hide (Hv.out.trans (if_neg fun h => g2 h.2.1))
        go_wp2_with fail
        go_ret2
        exact ⟨v, by rw [Hv2.out]; rfl, (fun z hz => by rw [Hv2.out] at hz; cases hz), U1.out⟩
    · have Hv2 := hide (Hv.out.trans (if_neg fun h => g1 h.1))
      go_wp2_with fail
      go_ret2
      exact ⟨v, by rw [Hv2.out]; rfl, (fun z hz => by rw [Hv2.out] at hz; cases hz), U1.out⟩
  · have Hv2 := hide (numV_bad (most := most) hv)
    have U1 := hide hu
    clear hv hu
    go_wp2_with fail
    go_ret2
    exact ⟨x, by rw [Hv2.out]; rfl, (fun z hz => by rw [Hv2.out] at hz; cases hz), U1.out⟩
end Go.Proofs.YtignngpligicjaaDoor

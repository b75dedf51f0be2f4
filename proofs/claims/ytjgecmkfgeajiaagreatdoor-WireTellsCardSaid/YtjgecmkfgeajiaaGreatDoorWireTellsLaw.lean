/- The law WireTells holds for every input: what package wire says of any message, and of any text, is what the document says. Its condition is the row's own: the listed variables are as the program's text lays them. -/
import Derived.Test.YtjgecmkfgeajiaaGreatDoorWrX
import Derived.Test.YtjgecmkfgeajiaaGreatDoorLaw
import Derived.Test.YtjgecmkfgeajiaaGreatDoorLawT
import Derived.Test.YtjgecmkfgeajiaaGreatDoorCards
import Derived.Test.YtjgecmkfgeajiaaGreatDoorTie
import Derived.SevenTiedAt
import Derived.Lay
import Derived.ChangeMaps5
namespace Go.Proofs.YtjgecmkfgeajiaaGreatDoor
open Go.ChangeShapes Go.WideShapes Go.ChangeAt Go.RowKit Go.Deep

def lwt_l : List (String × DataW Unit) := Rows.wireTellsRow.laid.filter fun x => x.2.handleName?.isNone
theorem lwt_h : (Rows.wireTellsRow.laid.filter fun x => x.2.handleName?.isSome) = [handleVar] := by rfl
theorem lwt_door (os : Os) (args : Array Value) : laidMetH Tryz.prog Rows.wireTellsRow.laid ((hWorld os lwt_l).forCall (fun _ _ => 0) ⟨#[], args, []⟩).memory :=
  laidMetH_of_parts (laidMet_hWorld args (by kernel_rfl) (by kernel_rfl)) (by rw [lwt_h]; kernel_rfl)
theorem lwt_at {x : String × DataW Unit} (n : Nat) (h : lwt_l[n]? = some x) : x ∈ lwt_l := List.mem_of_getElem? h
/-- What the listed variables give. -/
theorem lwt_sens {W : World} (h : laidMetH Tryz.prog Rows.wireTellsRow.laid W) (hsh : W.ShapedOpen Tryz.prog) : TxtOk W ∧ ∃ E : Nat → Addr, Errs W E := by
  obtain ⟨h1, h2⟩ := laidMetH_iff.1 h
  rw [lwt_h] at h2
  exact ⟨txt_of_laid (l := lwt_l) h1 hsh (lwt_at 14 rfl) (lwt_at 13 rfl) (lwt_at 2 rfl), errs_of_parts (l := lwt_l) h1 h2 fun x hx => by
    simp only [nineVars, List.mem_cons, List.not_mem_nil, or_false] at hx
    rcases hx with rfl | rfl | rfl | rfl | rfl | rfl | rfl | rfl | rfl
    · exact lwt_at 4 rfl
    · exact lwt_at 5 rfl
    · exact lwt_at 6 rfl
    · exact lwt_at 7 rfl
    · exact lwt_at 8 rfl
    · exact lwt_at 9 rfl
    · exact lwt_at 10 rfl
    · exact lwt_at 11 rfl
    · exact lwt_at 12 rfl⟩

set_option maxRecDepth 100000 in
theorem lwt_lifted (os : Os) (started : os.Started) (H : Type) (enc : TypeId × Value → H) :
    ReturnsInHanded {} Tryz.checked os 4 .any (fun w args => (Rows.wireTellsSpec.pre enc Tryz.prog Tryz.f4 [] false w args ∧ laidMetH Tryz.prog Rows.wireTellsRow.laid w) ∧ sizedMet enc Tryz.prog Tryz.f4 (OpenSpec.ofChange Rows.wireTellsSpec) false w args)
      (Rows.wireTellsSpec.post enc Tryz.prog Tryz.f4 false true false false) := by
  refine returns_and_shaped (C := Tryz.checked) (X := fun w _ => laidMetH Tryz.prog Rows.wireTellsRow.laid w) (fun _ _ _ hh h => h.of_heap hh) own started (by kernel_rfl) Tryz.func4
    (ChangeSpec.witness_shaped (enc := enc) (C := Tryz.checked) (os := os) (X := fun w _ => laidMetH Tryz.prog Rows.wireTellsRow.laid w) false (hWorld os lwt_l) #[.agg #[.string ⟨#[]⟩, .int .i64 0, .slice none 0 0, .slice none 0 0], .string ⟨#[]⟩] 8 (hWorld_os _ _) (World.shaped_of_ZipB (by kernel_rfl) (by kernel_rfl)) (by kernel_rfl) (by kernel_rfl) (by kernel_rfl) (lwt_door os _)) ?_
  intro W base args ds gs before hval0 hW _ _ hL hsh _
  have hval : ∀ (j : Nat) t v, Tryz.f4.params[j]? = some t → args[j]? = some v → Value.okWide Tryz.prog W .any base t v := hval0
  have hW' := hW
  obtain ⟨p, q, hA0, hV, rfl, hfz, hnd⟩ := hW
  have hA : DataW.TrodAll enc Tryz.prog W 0 (fun _ => true) true Tryz.f4.params.toList args.toList ds p := hA0
  obtain ⟨rfl, rfl⟩ := trodVars_none hV
  have hlt : ∀ x ∈ p, x.block < W.heap.size := fun x hx => hW'.lt x (by simpa using hx)
  have hA2 := hA
  rw [Tryz.params4] at hA hval
  obtain ⟨v0, vs0, d0, ds0, p0, q0, hargs, rfl, rfl, h0, r0⟩ := trodAll_cons hA
  obtain ⟨v1, vs1, d1, ds1, p1, q1, rfl, rfl, rfl, h1, r1⟩ := trodAll_cons r0
  obtain ⟨rfl, rfl, rfl⟩ := trodAll_nil r1
  obtain rfl : args = #[v0, v1] := by cases args; simp_all
  obtain ⟨cs0, rfl, _⟩ := okWide_struct Tryz.underlying25 (hval 0 25 v0 rfl rfl)
  obtain ⟨fuel0, hf0⟩ := h0
  obtain ⟨s, rfl, rfl, rfl, wr1⟩ := Go.ChangeMaps.open_string Tryz.underlying9 (hval 1 9 v1 rfl rfl) h1
  obtain ⟨htx, E, her⟩ := lwt_sens hL hsh
  obtain ⟨m, e0, o0⟩ := msg_reads W _ _ _ _ _ _ _ (by simpa [Value.cells] using hf0)
  obtain rfl := Array.toList_inj.1 e0
  clear hA0 hval0
  refine (wireTells_any m s E W htx her o0).mono fun e W1 ⟨he, hn⟩ => ?_
  subst he
  exact ⟨_, rfl, _, _, _, [], _, [], hW', trodAll_mk1 (shut_bool Tryz.underlying4 _), trodAll_below laidOut hn.below _ _ _ _ (by kernel_rfl) hA2 hlt, rfl, hn.below.frame _, fun h => by cases h⟩

theorem wireTells_holds : Rows.WireTellsSaid :=
  OpenClaim.holds_of_wide 4 Tryz.f4 rfl rfl rfl rfl rfl rfl rfl ⟨rfl, rfl, rfl, rfl, rfl⟩ rfl rfl rfl rfl rfl (by kernel_rfl) Tryz.func4 (by kernel_rfl)
    (of_decide_eq_true (by kernel_rfl)) (by unfold Func.isWrapper; first | (rw [if_pos (by decide +kernel)]; kernel_rfl) | (rw [if_neg (by decide +kernel)]; exact ⟨rfl, rfl⟩))
    (fun os started H enc _ => lwt_lifted os started H enc)
end Go.Proofs.YtjgecmkfgeajiaaGreatDoor

/- The law AttrTells holds for every input: what package attr says of anything told, and of any text, is what the document says. Its condition is the row's own: the listed variables are as the program's text lays them. -/
import Derived.Test.YtignngpligicjaaGreatDoorAtT
import Derived.Test.YtignngpligicjaaGreatDoorLawH
import Derived.Test.YtignngpligicjaaGreatDoorCards
import Derived.Test.YtignngpligicjaaGreatDoorTie
import Derived.SevenTiedAt
import Derived.Lay
import Derived.ChangeMaps5
namespace Go.Proofs.YtignngpligicjaaGreatDoor
open Go.ChangeShapes Go.WideShapes Go.ChangeAt Go.RowKit Go.Deep

def lat_l : List (String × DataW Unit) := Rows.attrTellsRow.laid.filter fun x => x.2.handleName?.isNone
theorem lat_h : (Rows.attrTellsRow.laid.filter fun x => x.2.handleName?.isSome) = [handleVar] := by rfl
theorem lat_door (os : Os) (args : Array Value) : laidMetH Tryz.prog Rows.attrTellsRow.laid ((hWorld os lat_l).forCall (fun _ _ => 0) ⟨#[], args, []⟩).memory :=
  laidMetH_of_parts (laidMet_hWorld args (by kernel_rfl) (by kernel_rfl)) (by rw [lat_h]; kernel_rfl)
theorem lat_at {x : String × DataW Unit} (n : Nat) (h : lat_l[n]? = some x) : x ∈ lat_l := List.mem_of_getElem? h
/-- What the listed variables give. -/
theorem lat_sens {W : World} (h : laidMetH Tryz.prog Rows.attrTellsRow.laid W) (hsh : W.ShapedOpen Tryz.prog) : TxtOk W ∧ ∃ E : Nat → Addr, Errs W E := by
  obtain ⟨h1, h2⟩ := laidMetH_iff.1 h
  rw [lat_h] at h2
  exact ⟨txt_of_laid (l := lat_l) h1 hsh (lat_at 14 rfl) (lat_at 13 rfl) (lat_at 2 rfl), errs_of_parts (l := lat_l) h1 h2 fun x hx => by
    simp only [nineVars, List.mem_cons, List.not_mem_nil, or_false] at hx
    rcases hx with rfl | rfl | rfl | rfl | rfl | rfl | rfl | rfl | rfl
    · exact lat_at 4 rfl
    · exact lat_at 5 rfl
    · exact lat_at 6 rfl
    · exact lat_at 7 rfl
    · exact lat_at 8 rfl
    · exact lat_at 9 rfl
    · exact lat_at 10 rfl
    · exact lat_at 11 rfl
    · exact lat_at 12 rfl⟩

set_option maxRecDepth 100000 in
theorem lat_lifted (os : Os) (started : os.Started) (H : Type) (enc : TypeId × Value → H) :
    ReturnsInHanded {} Tryz.checked os 5 .any (fun w args => (Rows.attrTellsSpec.pre enc Tryz.prog Tryz.f5 [] false w args ∧ laidMetH Tryz.prog Rows.attrTellsRow.laid w) ∧ sizedMet enc Tryz.prog Tryz.f5 (OpenSpec.ofChange Rows.attrTellsSpec) false w args)
      (Rows.attrTellsSpec.post enc Tryz.prog Tryz.f5 false true false false) := by
  refine returns_and_shaped (C := Tryz.checked) (X := fun w _ => laidMetH Tryz.prog Rows.attrTellsRow.laid w) (fun _ _ _ hh h => h.of_heap hh) own started (by kernel_rfl) Tryz.func5
    (ChangeSpec.witness_shaped (enc := enc) (C := Tryz.checked) (os := os) (X := fun w _ => laidMetH Tryz.prog Rows.attrTellsRow.laid w) false (hWorld os lat_l) #[.agg #[.slice none 0 0, .int .i64 0, .int .i64 0, .int .i64 0, .slice none 0 0], .agg #[.slice none 0 0, .int .i64 0, .int .i64 0, .int .i64 0, .slice none 0 0], .string ⟨#[]⟩, .int .i64 0, .int .i64 0] 8 (hWorld_os _ _) (World.shaped_of_ZipB (by kernel_rfl) (by kernel_rfl)) (by kernel_rfl) (by kernel_rfl) (by kernel_rfl) (lat_door os _)) ?_
  intro W base args ds gs before hval0 hW _ _ hL hsh _
  have hval : ∀ (j : Nat) t v, Tryz.f5.params[j]? = some t → args[j]? = some v → Value.okWide Tryz.prog W .any base t v := hval0
  have hW' := hW
  obtain ⟨p, q, hA0, hV, rfl, hfz, hnd⟩ := hW
  have hA : DataW.TrodAll enc Tryz.prog W 0 (fun _ => true) true Tryz.f5.params.toList args.toList ds p := hA0
  obtain ⟨rfl, rfl⟩ := trodVars_none hV
  have hlt : ∀ x ∈ p, x.block < W.heap.size := fun x hx => hW'.lt x (by simpa using hx)
  have hA2 := hA
  rw [Tryz.params5] at hA hval
  obtain ⟨v0, vs0, d0, ds0, p0, q0, hargs, rfl, rfl, h0, r0⟩ := trodAll_cons hA
  obtain ⟨v1, vs1, d1, ds1, p1, q1, rfl, rfl, rfl, h1, r1⟩ := trodAll_cons r0
  obtain ⟨v2, vs2, d2, ds2, p2, q2, rfl, rfl, rfl, h2, r2⟩ := trodAll_cons r1
  obtain ⟨v3, vs3, d3, ds3, p3, q3, rfl, rfl, rfl, h3, r3⟩ := trodAll_cons r2
  obtain ⟨v4, vs4, d4, ds4, p4, q4, rfl, rfl, rfl, h4, r4⟩ := trodAll_cons r3
  obtain ⟨rfl, rfl, rfl⟩ := trodAll_nil r4
  obtain rfl : args = #[v0, v1, v2, v3, v4] := by cases args; simp_all
  obtain ⟨cs0, rfl, _⟩ := okWide_struct Tryz.underlying62 (hval 0 62 v0 rfl rfl)
  obtain ⟨fuel0, hf0⟩ := h0
  obtain ⟨cs1, rfl, _⟩ := okWide_struct Tryz.underlying62 (hval 1 62 v1 rfl rfl)
  obtain ⟨fuel1, hf1⟩ := h1
  obtain ⟨s, rfl, rfl, rfl, wr2⟩ := Go.ChangeMaps.open_string Tryz.underlying9 (hval 2 9 v2 rfl rfl) h2
  obtain ⟨i, rfl, rfl, rfl, wr3⟩ := open_int Tryz.underlying3 (hval 3 3 v3 rfl rfl) h3
  obtain ⟨n, rfl, rfl, rfl, wr4⟩ := open_int Tryz.underlying3 (hval 4 3 v4 rfl rfl) h4
  obtain ⟨htx, E, her⟩ := lat_sens hL hsh
  obtain ⟨a, e0, o0⟩ := attr_reads W _ _ _ _ _ _ _ (by simpa [Value.cells] using hf0)
  obtain rfl := Array.toList_inj.1 e0
  obtain ⟨b, e1, o1⟩ := attr_reads W _ _ _ _ _ _ _ (by simpa [Value.cells] using hf1)
  obtain rfl := Array.toList_inj.1 e1
  clear hA0 hval0
  refine (attrTells_any a b s i n E W htx her o0 o1).mono fun e W1 ⟨he, hn⟩ => ?_
  subst he
  exact ⟨_, rfl, _, _, _, [], _, [], hW', trodAll_mk1 (shut_bool Tryz.underlying4 _), trodAll_below laidOut hn.below _ _ _ _ (by kernel_rfl) hA2 hlt, rfl, hn.below.frame _, fun h => by cases h⟩

theorem attrTells_holds : Rows.AttrTellsSaid :=
  OpenClaim.holds_of_wide 5 Tryz.f5 rfl rfl rfl rfl rfl rfl rfl ⟨rfl, rfl, rfl, rfl, rfl⟩ rfl rfl rfl rfl rfl (by kernel_rfl) Tryz.func5 (by kernel_rfl)
    (of_decide_eq_true (by kernel_rfl)) (by unfold Func.isWrapper; first | (rw [if_pos (by decide +kernel)]; kernel_rfl) | (rw [if_neg (by decide +kernel)]; exact ⟨rfl, rfl⟩))
    (fun os started H enc _ => lat_lifted os started H enc)
end Go.Proofs.YtignngpligicjaaGreatDoor

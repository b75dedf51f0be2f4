/- The law IpTells holds for every input: what package ip says of any prefixes, any text, any address is what the document says. Its condition is the row's own: the listed variables are as the program's text lays them. -/
import Derived.Test.YtignngpligicjaaGreatDoorIpT
import Derived.Test.YtignngpligicjaaGreatDoorLawH
import Derived.Test.YtignngpligicjaaGreatDoorCards
import Derived.Test.YtignngpligicjaaGreatDoorTie
import Derived.SevenTiedAt
import Derived.Lay
import Derived.ChangeMaps5
namespace Go.Proofs.YtignngpligicjaaGreatDoor
open Go.ChangeShapes Go.WideShapes Go.ChangeAt Go.RowKit Go.Deep

def lit_l : List (String × DataW Unit) := Rows.ipTellsRow.laid.filter fun x => x.2.handleName?.isNone
theorem lit_h : (Rows.ipTellsRow.laid.filter fun x => x.2.handleName?.isSome) = [handleVar] := by rfl
theorem lit_door (os : Os) (args : Array Value) : laidMetH Tryz.prog Rows.ipTellsRow.laid ((hWorld os lit_l).forCall (fun _ _ => 0) ⟨#[], args, []⟩).memory :=
  laidMetH_of_parts (laidMet_hWorld args (by kernel_rfl) (by kernel_rfl)) (by rw [lit_h]; kernel_rfl)
theorem lit_at {x : String × DataW Unit} (n : Nat) (h : lit_l[n]? = some x) : x ∈ lit_l := List.mem_of_getElem? h
/-- What the listed variables give. -/
theorem lit_sens {W : World} (h : laidMetH Tryz.prog Rows.ipTellsRow.laid W) (hsh : W.ShapedOpen Tryz.prog) : TxtOk W ∧ ∃ E : Nat → Addr, Errs W E := by
  obtain ⟨h1, h2⟩ := laidMetH_iff.1 h
  rw [lit_h] at h2
  exact ⟨txt_of_laid (l := lit_l) h1 hsh (lit_at 14 rfl) (lit_at 13 rfl) (lit_at 2 rfl), errs_of_parts (l := lit_l) h1 h2 fun x hx => by
    simp only [nineVars, List.mem_cons, List.not_mem_nil, or_false] at hx
    rcases hx with rfl | rfl | rfl | rfl | rfl | rfl | rfl | rfl | rfl
    · exact lit_at 4 rfl
    · exact lit_at 5 rfl
    · exact lit_at 6 rfl
    · exact lit_at 7 rfl
    · exact lit_at 8 rfl
    · exact lit_at 9 rfl
    · exact lit_at 10 rfl
    · exact lit_at 11 rfl
    · exact lit_at 12 rfl⟩

set_option maxRecDepth 100000 in
theorem lit_lifted (os : Os) (started : os.Started) (H : Type) (enc : TypeId × Value → H) :
    ReturnsInHanded {} Tryz.checked os 3 .any (fun w args => (Rows.ipTellsSpec.pre enc Tryz.prog Tryz.f3 [] false w args ∧ laidMetH Tryz.prog Rows.ipTellsRow.laid w) ∧ sizedMet enc Tryz.prog Tryz.f3 (OpenSpec.ofChange Rows.ipTellsSpec) false w args)
      (Rows.ipTellsSpec.post enc Tryz.prog Tryz.f3 false true false false) := by
  refine returns_and_shaped (C := Tryz.checked) (X := fun w _ => laidMetH Tryz.prog Rows.ipTellsRow.laid w) (fun _ _ _ hh h => h.of_heap hh) own started (by kernel_rfl) Tryz.func3
    (ChangeSpec.witness_shaped (enc := enc) (C := Tryz.checked) (os := os) (X := fun w _ => laidMetH Tryz.prog Rows.ipTellsRow.laid w) false (hWorld os lit_l) #[.agg #[.int .i64 0, .int .i64 0], .agg #[.int .i64 0, .int .i64 0], .string ⟨#[]⟩, .int .i64 0, .int .i64 0] 8 (hWorld_os _ _) (World.shaped_of_ZipB (by kernel_rfl) (by kernel_rfl)) (by kernel_rfl) (by kernel_rfl) (by kernel_rfl) (lit_door os _)) ?_
  intro W base args ds gs before hval0 hW _ _ hL hsh _
  have hval : ∀ (j : Nat) t v, Tryz.f3.params[j]? = some t → args[j]? = some v → Value.okWide Tryz.prog W .any base t v := hval0
  have hW' := hW
  obtain ⟨p, q, hA0, hV, rfl, hfz, hnd⟩ := hW
  have hA : DataW.TrodAll enc Tryz.prog W 0 (fun _ => true) true Tryz.f3.params.toList args.toList ds p := hA0
  obtain ⟨rfl, rfl⟩ := trodVars_none hV
  have hlt : ∀ x ∈ p, x.block < W.heap.size := fun x hx => hW'.lt x (by simpa using hx)
  have hA2 := hA
  rw [Tryz.params3] at hA hval
  obtain ⟨v0, vs0, d0, ds0, p0, q0, hargs, rfl, rfl, h0, r0⟩ := trodAll_cons hA
  obtain ⟨v1, vs1, d1, ds1, p1, q1, rfl, rfl, rfl, h1, r1⟩ := trodAll_cons r0
  obtain ⟨v2, vs2, d2, ds2, p2, q2, rfl, rfl, rfl, h2, r2⟩ := trodAll_cons r1
  obtain ⟨v3, vs3, d3, ds3, p3, q3, rfl, rfl, rfl, h3, r3⟩ := trodAll_cons r2
  obtain ⟨v4, vs4, d4, ds4, p4, q4, rfl, rfl, rfl, h4, r4⟩ := trodAll_cons r3
  obtain ⟨rfl, rfl, rfl⟩ := trodAll_nil r4
  obtain rfl : args = #[v0, v1, v2, v3, v4] := by cases args; simp_all
  obtain ⟨cs0, rfl, _⟩ := okWide_struct Tryz.underlying23 (hval 0 23 v0 rfl rfl)
  obtain ⟨fuel0, hf0⟩ := h0
  obtain ⟨cs1, rfl, _⟩ := okWide_struct Tryz.underlying23 (hval 1 23 v1 rfl rfl)
  obtain ⟨fuel1, hf1⟩ := h1
  obtain ⟨s, rfl, rfl, rfl, wr2⟩ := Go.ChangeMaps.open_string Tryz.underlying9 (hval 2 9 v2 rfl rfl) h2
  obtain ⟨x, rfl, rfl, rfl, wr3⟩ := open_int Tryz.underlying3 (hval 3 3 v3 rfl rfl) h3
  obtain ⟨k, rfl, rfl, rfl, wr4⟩ := open_int Tryz.underlying3 (hval 4 3 v4 rfl rfl) h4
  obtain ⟨htx, E, her⟩ := lit_sens hL hsh
  obtain ⟨a, n, rfl⟩ := pf_of_trod (by simpa [Value.cells] using hf0)
  obtain ⟨b, m, rfl⟩ := pf_of_trod (by simpa [Value.cells] using hf1)
  clear hA0 hval0
  refine (ipTells_any a n b m s x k E W htx her).mono fun e W1 ⟨he, hn⟩ => ?_
  subst he
  exact ⟨_, rfl, _, _, _, [], _, [], hW', trodAll_mk1 (shut_bool Tryz.underlying4 _), trodAll_below laidOut hn.below _ _ _ _ (by kernel_rfl) hA2 hlt, rfl, hn.below.frame _, fun h => by cases h⟩

theorem ipTells_holds : Rows.IpTellsSaid :=
  OpenClaim.holds_of_wide 3 Tryz.f3 rfl rfl rfl rfl rfl rfl rfl ⟨rfl, rfl, rfl, rfl, rfl⟩ rfl rfl rfl rfl rfl (by kernel_rfl) Tryz.func3 (by kernel_rfl)
    (of_decide_eq_true (by kernel_rfl)) (by unfold Func.isWrapper; first | (rw [if_pos (by decide +kernel)]; kernel_rfl) | (rw [if_neg (by decide +kernel)]; exact ⟨rfl, rfl⟩))
    (fun os started H enc _ => lit_lifted os started H enc)
end Go.Proofs.YtignngpligicjaaGreatDoor

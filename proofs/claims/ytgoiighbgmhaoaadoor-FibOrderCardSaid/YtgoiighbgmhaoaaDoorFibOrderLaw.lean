/- The law FibOrder holds for every input: in whatever order they are put, the same is found; what is dropped is as if it had never been. Its condition is the row's own: the listed errors of package api are as the program's text lays them. -/
import Derived.Test.YtgoiighbgmhaoaaDoorFo2
import Derived.Test.YtgoiighbgmhaoaaDoorLaw
import Derived.Test.YtgoiighbgmhaoaaDoorCards
import Derived.Test.YtgoiighbgmhaoaaDoorTie
import Derived.SevenTiedAt
namespace Go.Proofs.YtgoiighbgmhaoaaDoor
open Go.ChangeShapes Go.WideShapes Go.ChangeAt Go.RowKit Go.Deep

theorem fo_laid_plain : (Rows.fibOrderRow.laid.all fun x => x.2.handleName?.isNone) = true := by kernel_rfl
theorem gB : Tryd.prog.globalNamed "herepath/api.ErrBound" = some gBound := by kernel_rfl
theorem gS : Tryd.prog.globalNamed "herepath/api.ErrShape" = some gShape := by kernel_rfl
theorem tB : (Tryd.prog.globals[gBound]?).map (·.type) = some 29 := by kernel_rfl
theorem tS : (Tryd.prog.globals[gShape]?).map (·.type) = some 29 := by kernel_rfl
theorem door_met (os : Os) (args : Array Value) : laidMetH Tryd.prog Rows.fibOrderRow.laid ((World.doorLaid Tryd.prog 4000 os).forCall (fun _ _ => 0) ⟨#[], args, []⟩).memory :=
  (MakeChecks.laidMetH_plain _ _ _ fo_laid_plain).symm ▸ laidMet_of_run' 8 (by kernel_rfl) (by kernel_rfl)

/-- What the listed errors give. -/
theorem fo_sens {W : World} (h : laidMetH Tryd.prog Rows.fibOrderRow.laid W) : ∃ E : Nat → Addr, Sen W gBound (E 2) ∧ Sen W gShape (E 3) := by
  rw [MakeChecks.laidMetH_plain _ _ _ fo_laid_plain] at h
  obtain ⟨a, _, ha, _⟩ := sen_of_laid h (n := "herepath/api.ErrBound") (List.mem_cons_self ..) gB tB
  obtain ⟨b, _, hb, _⟩ := sen_of_laid h (n := "herepath/api.ErrShape") (List.mem_cons_of_mem _ (List.mem_cons_self ..)) gS tS
  exact ⟨fun c => if c = 2 then a else b, ha, hb⟩

theorem cellsE : Tryd.prog.cellsOf 27 = 3 := by kernel_rfl
theorem allE : allInt Tryd.prog 4 27 = true := by kernel_rfl

/-- The number in a cell. -/
def iv (w : World) (p : Addr) : Int := match w.cell? p with
  | some (.int _ n) => n
  | _ => 0

/-- A list of entries that came in. -/
theorem ents_of_trod {H : Type} {enc : TypeId × Value → H} {W : World} {sp : Nat → Bool} {held : Bool} {fuel : Nat} {A : Option Addr} {len cap : Nat} {x : DataW H × List MemPlace}
    (h : DataW.trod enc Tryd.prog W 0 sp held fuel 22 [.slice A len cap] = some x) (hlen : 0 < len) :
    ∃ b o xs, A = some ⟨b, o, none⟩ ∧ Ents W b o xs ∧ xs.length = len := by
  rcases open_slice Tryd.underlying22 h with ⟨h0, _⟩ | ⟨a, l, c, m, n, D, Pl, hcs, _, hl, _, hm, _, hi⟩
  · injection h0 with h0; injection h0 with _ h1 _; omega
  · injection hcs with hcs; injection hcs with e1 e2 e3
    subst e1; subst e2; subst e3
    have hmlen : len ≤ m := by rw [hm]; split <;> omega
    have cell : ∀ i j, i < len → j < 3 → ∃ z, W.cell? (a.add (i * 3 + j)) = some (.int .i64 z) := by
      intro i j hi1 hj
      obtain ⟨cs', hc, ht⟩ := hi i (by omega)
      rw [cellsE] at hc
      obtain ⟨_, hcl, hat⟩ := World.cells?_some hc
      have hv : cs'[j]? = some (cs'[j]'(by omega)) := List.getElem?_eq_getElem (by omega)
      obtain ⟨z, hz, _⟩ := allInt_cells 4 _ _ _ _ allE ht j _ hv
      have h1 := hat j hj
      rw [hv, hz, Go.Deep.add_add] at h1
      exact ⟨z, h1⟩
    obtain ⟨z0, hz0⟩ := cell 0 0 hlen (by omega)
    have hsp : a.spot = none := by
      have : W.cell? a = some (.int .i64 z0) := by simpa [Addr.add] using hz0
      exact World.cell?_spot this
    obtain ⟨b, o, s⟩ := a
    subst hsp
    have hadd : ∀ k, (⟨b, o, none⟩ : Addr).add k = ⟨b, o + k, none⟩ := by
      intro k; unfold Addr.add; split
      · rename_i h; subst h; rfl
      · rfl
    refine ⟨b, o, (List.range len).map fun i => ⟨iv W ⟨b, o + i * 3, none⟩, iv W ⟨b, o + i * 3 + 1, none⟩, iv W ⟨b, o + i * 3 + 2, none⟩⟩, rfl, ?_, by simp⟩
    intro i x hx
    have hil : i < len := by
      have := (List.getElem?_eq_some_iff.1 hx).1
      simpa using this
    rw [List.getElem?_map, List.getElem?_range hil] at hx
    simp only [Option.map_some, Option.some.injEq] at hx
    subst hx
    obtain ⟨z0, h0⟩ := cell i 0 hil (by omega)
    obtain ⟨z1, h1⟩ := cell i 1 hil (by omega)
    obtain ⟨z2, h2⟩ := cell i 2 hil (by omega)
    rw [hadd] at h0 h1 h2
    have h0' : W.cell? ⟨b, o + i * 3, none⟩ = some (.int .i64 z0) := h0
    have h1' : W.cell? ⟨b, o + i * 3 + 1, none⟩ = some (.int .i64 z1) := h1
    have h2' : W.cell? ⟨b, o + i * 3 + 2, none⟩ = some (.int .i64 z2) := h2
    simp [iv, h0', h1', h2']

theorem order_any {W : World} {A : Option Addr} {len cap : Nat} (at1 a : Int) (E : Nat → Addr) (h2 : Sen W gBound (E 2)) (h3 : Sen W gShape (E 3))
    (hx : 0 < len → ∃ b o xs, A = some ⟨b, o, none⟩ ∧ Ents W b o xs ∧ xs.length = len) :
    Calls Tryd.prog 3 #[.slice A len cap, .int .i64 at1, .int .i64 a] W fun e w1 => e = .returned (.bool true) ∧ New W w1 := by
  by_cases h : (50 : Int) < len ∨ at1 < 0 ∨ len ≤ at1
  · exact order_early A len cap at1 a E W h2 h3 h
  · obtain ⟨b, o, xs, rfl, hxs, rfl⟩ := hx (by omega)
    exact order_main b o cap xs at1 a E W h2 h3 hxs (by omega) (by omega) (by omega)

set_option maxRecDepth 100000 in
theorem fo_lifted (os : Os) (started : os.Started) (H : Type) (enc : TypeId × Value → H) :
    ReturnsInHanded {} Tryd.checked os 3 .any (fun w args => (Rows.fibOrderSpec.pre enc Tryd.prog Tryd.f3 [] false w args ∧ laidMetH Tryd.prog Rows.fibOrderRow.laid w) ∧ sizedMet enc Tryd.prog Tryd.f3 (OpenSpec.ofChange Rows.fibOrderSpec) false w args)
      (Rows.fibOrderSpec.post enc Tryd.prog Tryd.f3 false true false false) := by
  refine returnsInHanded_of_change_and (C := Tryd.checked) (X := fun w _ => laidMetH Tryd.prog Rows.fibOrderRow.laid w) (fun _ _ _ hh h => h.of_heap hh) own started (by kernel_rfl) Tryd.func3
    (ChangeSpec.witness_shaped (enc := enc) (C := Tryd.checked) (os := os) (X := fun w _ => laidMetH Tryd.prog Rows.fibOrderRow.laid w) false (World.doorLaid Tryd.prog 4000 os) #[.slice none 0 0, .int .i64 0, .int .i64 0] 8 rfl (World.shaped_of_RefB (by kernel_rfl) (by kernel_rfl)) (by kernel_rfl) (by kernel_rfl) (by kernel_rfl) (door_met os _)) ?_
  intro W base args ds gs before hval0 hW _ _ hL _
  have hval : ∀ (j : Nat) t v, Tryd.f3.params[j]? = some t → args[j]? = some v → Value.okWide Tryd.prog W .any base t v := hval0
  have hW' := hW
  obtain ⟨p, q, hA0, hV, rfl, hfz, hnd⟩ := hW
  have hA : DataW.TrodAll enc Tryd.prog W 0 (fun _ => true) true Tryd.f3.params.toList args.toList ds p := hA0
  obtain ⟨rfl, rfl⟩ := trodVars_none hV
  have hlt : ∀ x ∈ p, x.block < W.heap.size := fun x hx => hW'.lt x (by simpa using hx)
  have hA2 := hA
  rw [Tryd.params3] at hA hval
  obtain ⟨v0, vs0, d0, ds0, p0, q0, hargs, rfl, rfl, h0, r0⟩ := trodAll_cons hA
  obtain ⟨v1, vs1, d1, ds1, p1, q1, rfl, rfl, rfl, h1, r1⟩ := trodAll_cons r0
  obtain ⟨v2, vs2, d2, ds2, p2, q2, rfl, rfl, rfl, h2, r2⟩ := trodAll_cons r1
  obtain ⟨rfl, rfl, rfl⟩ := trodAll_nil r2
  obtain rfl : args = #[v0, v1, v2] := by cases args; simp_all
  obtain ⟨A, len, cap, rfl⟩ := okWide_slice Tryd.underlying22 (hval 0 22 v0 rfl rfl)
  obtain ⟨n1, rfl, rfl, rfl, w1⟩ := open_int Tryd.underlying3 (hval 1 3 v1 rfl rfl) h1
  obtain ⟨n2, rfl, rfl, rfl, w2⟩ := open_int Tryd.underlying3 (hval 2 3 v2 rfl rfl) h2
  obtain ⟨fuel, hf⟩ := h0
  obtain ⟨E, s2, s3⟩ := fo_sens hL
  clear hA0 hval0
  refine (order_any (W := W) (A := A) (len := len) (cap := cap) n1 n2 E s2 s3 (fun hl => ents_of_trod (by simpa [Value.cells] using hf) hl)).mono fun e W1 ⟨he, hn⟩ => ?_
  subst he
  exact ⟨_, rfl, _, _, _, [], _, [], hW', trodAll_mk1 (shut_bool Tryd.underlying4 _), trodAll_below laidOut hn.below _ _ _ _ (by kernel_rfl) hA2 hlt, rfl, hn.below.frame _, fun h => by cases h⟩

theorem fibOrder_holds : Rows.FibOrderSaid :=
  OpenClaim.holds_of_wide 3 Tryd.f3 rfl rfl rfl rfl rfl rfl rfl ⟨rfl, rfl, rfl, rfl, rfl⟩ rfl rfl rfl rfl rfl (by kernel_rfl) Tryd.func3 (by kernel_rfl)
    (of_decide_eq_true (by kernel_rfl)) (by unfold Func.isWrapper; first | (rw [if_pos (by decide +kernel)]; kernel_rfl) | (rw [if_neg (by decide +kernel)]; exact ⟨rfl, rfl⟩))
    (fun os started H enc _ => fo_lifted os started H enc)
end Go.Proofs.YtgoiighbgmhaoaaDoor

/- The law SetNormal: helpers. No condition but those that stand in each theorem. -/
import Derived.Test.YtignngpligicjaaDoorStS
import Derived.Test.YtignngpligicjaaDoorStC
import Derived.Test.YtignngpligicjaaDoorStBo
import Derived.Test.YtignngpligicjaaDoorIh3
import Derived.Test.YtignngpligicjaaDoorOw2
namespace Go.Proofs.YtignngpligicjaaDoor
open Go.RowKit

theorem rl_at {w : World} {A : Option Addr} {ps : List Pf} {b o : Nat} (h : Rws w A 2 (ps.map Pf.cells)) (hA : A = some ⟨b, o, none⟩) {k : Nat} {p : Pf} (hp : ps[k]? = some p) : w.cell? ⟨b, o + k * 2, none⟩ = some (.int .i64 p.a) ∧ w.cell? ⟨b, o + k * 2 + 1, none⟩ = some (.int .i64 p.n) ∧ b < w.heap.size := by
  have hk := (List.getElem?_eq_some_iff.1 hp).1
  obtain ⟨b1, o1, p1, hA1, hb, hp1, h0, h1⟩ := rws_two h hk
  rw [hA] at hA1
  injection hA1 with hA1
  injection hA1 with e1 e2
  subst e1
  subst e2
  rw [hp] at hp1
  injection hp1 with hp1
  subst hp1
  exact ⟨h0, h1, hb⟩
theorem flat_pf_append (ps qs : List Pf) : flat ((ps ++ qs).map Pf.cells) = flat (ps.map Pf.cells) ++ flat (qs.map Pf.cells) := by rw [List.map_append, flat_append]
theorem OwnP.join {w : World} {base : Nat} {v : Value} {ps qs : List Pf} (h : w.ownsRow base TPf 2 v (ps.length + qs.length) (flat (ps.map Pf.cells) ++ flat (qs.map Pf.cells))) : OwnP w base v (ps ++ qs) := by
  unfold OwnP
  rw [flat_pf_append, List.length_append]
  exact h
set_option maxHeartbeats 1000000 in
theorem ownPrefixes_own (A : Option Addr) (n c : Nat) (ps : List Pf) (w : World) (hx : Rws w A 2 (ps.map Pf.cells)) (hn : ps.length = n) (hl : n ≤ 1000000) :
    Calls Tryd.prog 12 #[.slice A n c] w fun e w1 => ∃ v, e = .returned v ∧ OwnP w1 w.heap.size v ps ∧ New w w1 := by
  have Hf := hide (Rws.flat (by omega) hx (pf_size ps))
  have Hn := hide hn
  obtain ⟨i0, hi0, hz0, hz1, hz2⟩ := info_parts info_TPf
  clear hx hn
  go_enter Tryd.func12, Tryd.ntmps12
  go_wp2_with (at_builtin; refine append_src rfl (.tmp 4) (.tmp 5) 22 rfl w.heap.size 34 i0 _ 2 16 Tryd.underlying22 hi0 hz0 hz1 hz2 rfl (by omega) (.slice none 0 0) 0 [] rfl (World.ownsRow_nil _ _ _ _) A n c (flat (ps.map Pf.cells)) rfl (by rw [flat_length _ (pf_size ps), List.length_map, Hn.out]) (fun h => Hf.out (by rw [List.length_map, Hn.out]; exact h)) (pf_one ps) (by unfold maxLen; omega) (by omega) (Nat.le_refl _) ?_)
  intro v1 w1 ho1 hg1
  have u1 : New w w1 := grown_new hg1
  have ho2 : OwnP w1 w.heap.size v1 ps := by unfold OwnP; rw [Hn.out]; simpa using ho1
  clear ho1 hg1
  go_wp2_with fail
  go_ret
  exact ⟨_, rfl, ho2, u1⟩
theorem has_and {a b l : List Pf} (ha : ∀ p ∈ a, p.ok) (hb : ∀ p ∈ b, p.ok) (h : NPl (fun z => inP a z && inP b z) l) (x : Int) : hasL l x = (hasL a x && hasL b x) := by
  rw [h.hasL, hasL_eq ha, hasL_eq hb]
  cases decide (0 ≤ x ∧ x < 4294967296) <;> rfl
theorem has_not {a b l : List Pf} (ha : ∀ p ∈ a, p.ok) (hb : ∀ p ∈ b, p.ok) (h : NPl (fun z => inP a z && !inP b z) l) (x : Int) : hasL l x = (hasL a x && !hasL b x) := by
  rw [h.hasL, hasL_eq ha, hasL_eq hb]
  cases decide (0 ≤ x ∧ x < 4294967296) <;> cases inP a x.toNat <;> cases inP b x.toNat <;> rfl
theorem sizes_take {ps : List Pf} {j : Nat} {p : Pf} (h : ps[j]? = some p) : sizes (ps.take (j + 1)) = sizes (ps.take j) + 2 ^ (32 - p.n.toNat) := by
  rw [List.take_add_one, h]
  unfold sizes
  simp
theorem p32_le (k : Nat) : 2 ^ (32 - k) ≤ 4294967296 := Nat.le_trans (Nat.pow_le_pow_right (show 0 < 2 by omega) (show 32 - k ≤ 32 by omega)) (by omega)
theorem sizes_le : ∀ (ps : List Pf), sizes ps ≤ ps.length * 4294967296
  | [] => by simp [sizes]
  | p :: l => by
    have h1 := sizes_le l
    have h2 := p32_le p.n.toNat
    have e : sizes (p :: l) = 2 ^ (32 - p.n.toNat) + sizes l := by simp [sizes]
    rw [e, List.length_cons]
    omega
theorem add_facts {S D : Nat} (hS : S ≤ 1000000000000000) (hD : D ≤ 4294967296) : IntKind.i64.wrap ((S : Int) + (D : Int)) = ((S + D : Nat) : Int) ∧ wrap64 ((S : Int) + (D : Int)) = ((S + D : Nat) : Int) := by
  constructor
  · rw [IntWalk.i64_in _ (by omega)]; omega
  · rw [IntWalk.wrap64_in _ ⟨by omega, by omega⟩]; omega
end Go.Proofs.YtignngpligicjaaDoor

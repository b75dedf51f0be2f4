/- Which of two routes is better, plain: routes as rows of numbers, in the order of words in a book. No condition but those that stand in each theorem. -/
import Derived.Test.YtlealjcllbpgkaaSy1
import Derived.Test.YtlealjcllbpgkaaIp2
import Derived.Test.YtlealjcllbpgkaaRs1
namespace Go.Proofs.Ytlealjcllbpgkaa
open Go.RowKit
/-- Two rows of numbers, as words in a book. -/
def lexC : List Int → List Int → Int
  | [], [] => 0
  | [], _ :: _ => -1
  | _ :: _, [] => 1
  | x :: xs, y :: ys => if sgn x y = 0 then lexC xs ys else sgn x y
theorem sgn_neg (a b : Int) : sgn b a = - sgn a b := by unfold sgn; repeat' split <;> omega
theorem sgn_zero {a b : Int} (h : sgn a b = 0) : a = b := by
  unfold sgn at h
  split at h
  · omega
  · split at h <;> omega
theorem sgn_self (a : Int) : sgn a a = 0 := by unfold sgn; rw [if_neg (by omega), if_neg (by omega)]
theorem sgn_lt {a b : Int} : sgn a b < 0 ↔ a < b := by
  unfold sgn
  split
  · omega
  · split <;> omega
theorem lexC_self : ∀ l, lexC l l = 0
  | [] => rfl
  | x :: xs => by rw [lexC, if_pos (sgn_self x)]; exact lexC_self xs
theorem lexC_zero : ∀ {a b : List Int}, lexC a b = 0 → a = b
  | [], [], _ => rfl
  | [], _ :: _, h => by simp [lexC] at h
  | _ :: _, [], h => by simp [lexC] at h
  | x :: xs, y :: ys, h => by
    rw [lexC] at h
    by_cases e : sgn x y = 0
    · rw [if_pos e] at h
      rw [sgn_zero e, lexC_zero h]
    · rw [if_neg e] at h
      exact absurd h e
theorem lexC_neg : ∀ (a b : List Int), lexC b a = - lexC a b
  | [], [] => rfl
  | [], _ :: _ => rfl
  | _ :: _, [] => rfl
  | x :: xs, y :: ys => by
    rw [lexC, lexC, sgn_neg x y]
    by_cases e : sgn x y = 0
    · rw [if_pos (by omega), if_pos e]; exact lexC_neg xs ys
    · rw [if_neg (by omega), if_neg e]
theorem lexC_trans : ∀ {a b c : List Int}, lexC a b < 0 → lexC b c < 0 → lexC a c < 0
  | [], [], _, h, _ => by simp [lexC] at h
  | [], _ :: _, [], _, h => by simp [lexC] at h
  | [], _ :: _, _ :: _, _, _ => by simp [lexC]
  | _ :: _, [], _, h, _ => by simp [lexC] at h
  | _ :: _, _ :: _, [], _, h => by simp [lexC] at h
  | x :: xs, y :: ys, z :: zs, h1, h2 => by
    rw [lexC] at h1 h2 ⊢
    by_cases e1 : sgn x y = 0
    · obtain rfl := sgn_zero e1
      rw [if_pos e1] at h1
      by_cases e2 : sgn x z = 0
      · rw [if_pos e2] at h2 ⊢
        exact lexC_trans h1 h2
      · rw [if_neg e2] at h2 ⊢
        exact h2
    · rw [if_neg e1] at h1
      by_cases e2 : sgn y z = 0
      · obtain rfl := sgn_zero e2
        rw [if_neg e1]
        exact h1
      · rw [if_neg e2] at h2
        have h3 := sgn_lt.1 h1
        have h4 := sgn_lt.1 h2
        have h5 : sgn x z < 0 := sgn_lt.2 (by omega)
        rw [if_neg (by omega)]
        exact h5
theorem lexC_append : ∀ {p1 p2 : List Int} (s1 s2 : List Int), p1.length = p2.length → lexC (p1 ++ s1) (p2 ++ s2) = if lexC p1 p2 = 0 then lexC s1 s2 else lexC p1 p2
  | [], [], s1, s2, _ => by simp [lexC]
  | [], _ :: _, _, _, h => by simp at h
  | _ :: _, [], _, _, h => by simp at h
  | x :: xs, y :: ys, s1, s2, h => by
    rw [List.cons_append, List.cons_append, lexC, lexC]
    by_cases e : sgn x y = 0
    · rw [if_pos e, if_pos e]
      exact lexC_append s1 s2 (by simpa using h)
    · rw [if_neg e, if_neg e, if_neg e]
/-- A route as a row of numbers. -/
def keyC (r : RtC) : List Int := (0 - r.at_.pref) :: (r.at_.path.length : Int) :: r.at_.origin :: r.at_.med :: r.frm :: (r.at_.path ++ (r.a :: r.n :: r.at_.tags))
theorem keyC_inj {r s : RtC} (h : keyC r = keyC s) : r = s := by
  obtain ⟨a, n, ⟨p, pr, md, og, tg⟩, f⟩ := r
  obtain ⟨b, m, ⟨q, qr, nd, ph, th⟩, g⟩ := s
  unfold keyC at h
  simp only [List.cons.injEq] at h
  obtain ⟨h1, h2, h3, h4, h5, h6⟩ := h
  obtain ⟨h7, h8⟩ := List.append_inj h6 (by omega)
  simp only [List.cons.injEq] at h8
  obtain ⟨h9, h10, h11⟩ := h8
  obtain rfl : pr = qr := by omega
  subst h3 h4 h5 h7 h9 h10 h11
  rfl
/-- The program's order. -/
def ordC (x y : RtC) : Int := firstNZ [sgn y.at_.pref x.at_.pref, sgn (x.at_.path.length : Int) (y.at_.path.length : Int), sgn x.at_.origin y.at_.origin, sgn x.at_.med y.at_.med, sgn x.frm y.frm, lexC x.at_.path y.at_.path, cmpP x.a x.n y.a y.n, lexC x.at_.tags y.at_.tags]
theorem ordC_key (x y : RtC) : ordC x y = lexC (keyC x) (keyC y) := by
  have e0 : sgn (0 - x.at_.pref) (0 - y.at_.pref) = sgn y.at_.pref x.at_.pref := by unfold sgn; repeat' split <;> omega
  have e9 : ∀ a b l k, lexC (a :: l) (b :: k) = if sgn a b = 0 then lexC l k else sgn a b := fun _ _ _ _ => rfl
  unfold ordC keyC
  simp only [e9, e0]
  by_cases h1 : sgn y.at_.pref x.at_.pref = 0
  · by_cases h2 : sgn (x.at_.path.length : Int) (y.at_.path.length : Int) = 0
    · have hl : x.at_.path.length = y.at_.path.length := by have := sgn_zero h2; omega
      rw [lexC_append _ _ hl]
      simp only [e9]
      simp only [firstNZ, cmpP, h1, h2]
      repeat' split
      all_goals simp_all
    · simp [firstNZ, h1, h2]
  · simp [firstNZ, h1]
/-- Ahead. -/
def ltC (x y : RtC) : Bool := decide (ordC x y < 0)
theorem ltC_swo : SwoL ltC := by
  refine ⟨fun x y h => ?_, fun x y z h => ?_⟩
  · unfold ltC at *
    rw [ordC_key] at *
    have h1 := of_decide_eq_true h
    have h2 := lexC_neg (keyC x) (keyC y)
    exact decide_eq_false (by omega)
  · unfold ltC at *
    rw [ordC_key] at *
    rw [ordC_key]
    have h1 := of_decide_eq_true h
    by_cases e : lexC (keyC x) (keyC y) < 0
    · exact Or.inl (decide_eq_true e)
    · refine Or.inr (decide_eq_true ?_)
      by_cases e1 : lexC (keyC x) (keyC y) = 0
      · rw [← lexC_zero e1]; exact h1
      · have h2 := lexC_neg (keyC x) (keyC y)
        exact lexC_trans (by omega) h1
theorem ordC_zero {x y : RtC} (h : ordC x y = 0) : x = y := keyC_inj (lexC_zero (by rw [← ordC_key]; exact h))
theorem ordC_self (x : RtC) : ordC x x = 0 := by rw [ordC_key]; exact lexC_self _
theorem ordC_neg (x y : RtC) : ordC y x = - ordC x y := by rw [ordC_key, ordC_key]; exact lexC_neg _ _
/-- Two rows of the same in order are one. -/
theorem sorted_one {l k : List RtC} (hp : l.Perm k) (h1 : l.Pairwise fun x y => leL ltC x y) (h2 : k.Pairwise fun x y => leL ltC x y) : l = k := by
  refine List.Perm.eq_of_pairwise (le := fun x y => leL ltC x y) (fun a b _ _ hab hba => ?_) h1 h2 hp
  unfold leL ltC at hab hba
  have e1 := of_decide_eq_false hab
  have e2 := of_decide_eq_false hba
  have e3 := ordC_neg a b
  exact ordC_zero (by omega)
end Go.Proofs.Ytlealjcllbpgkaa

/- What is told of a route as a text, plainly: what is written is read again. No condition but those that stand in each theorem. -/
import Derived.Test.YtjgecmkfgeajiaaGreatDoorCt1
import Derived.Test.YtjgecmkfgeajiaaGreatDoorRs1
import Derived.Test.YtjgecmkfgeajiaaGreatDoorJo0
import Derived.Test.YtjgecmkfgeajiaaGreatDoorDd2
import Derived.Test.YtjgecmkfgeajiaaGreatDoorAt2
import Derived.Deep.RegionHeld3
namespace Go.Proofs.YtjgecmkfgeajiaaGreatDoor
open Go.RowKit

theorem cutR_joinC (c : UInt8) : ∀ (l : List (List UInt8)), l ≠ [] → (∀ p ∈ l, c ∉ p) → cutR c (joinC c l) = l
  | [], h, _ => absurd rfl h
  | [p], _, h => cutR_self c p (h p (List.mem_cons_self ..))
  | p :: q :: l, _, h => by
    show cutR c (p ++ c :: joinC c (q :: l)) = _
    rw [cutR_app c _ p (h p (List.mem_cons_self ..)), cutR_joinC c (q :: l) (by simp) (fun x hx => h x (List.mem_cons_of_mem _ hx))]
theorem joinC_head (c : UInt8) (p : List UInt8) (hp : p ≠ []) : ∀ r : List (List UInt8), (joinC c (p :: r)).head? = p.head?
  | [] => rfl
  | q :: r => by
    show (p ++ c :: joinC c (q :: r)).head? = _
    cases p with
    | nil => exact absurd rfl hp
    | cons x y => rfl
theorem itoa_dec {x : Int} (h : 0 ≤ x) : Lib.itoa x = Lib.decDigits x.toNat := by
  unfold Lib.itoa
  rw [if_neg (by omega)]
theorem itoa_digit {x : Int} (h : 0 ≤ x) : ∀ c ∈ Lib.itoa x, 48 ≤ c.toNat ∧ c.toNat ≤ 57 := by
  rw [itoa_dec h]; exact dec_all _
theorem itoa_ne {x : Int} (h : 0 ≤ x) : Lib.itoa x ≠ [] := by
  rw [itoa_dec h]
  intro e
  have h1 := Lib.decDigits_length x.toNat
  have h2 := Lib.nDigits_pos x.toNat
  rw [e] at h1
  simp at h1
  omega
theorem numR_itoa {x : Int} (h : 0 ≤ x) (h1 : x ≤ 999999999) : numR (Lib.itoa x) = x := by
  rw [itoa_dec h, numR_dec _ (by omega)]; omega
theorem numV_itoa {x : Int} (h : 0 ≤ x) (h1 : x ≤ 999999999) : numV (Lib.itoa x) 999999999 = some x := by
  rw [numV_numR _ _ (by omega), numR_itoa h h1, if_pos ⟨h, h1⟩]

/-- Numbers in words, a byte between; none: a stroke. -/
def joinT (c : UInt8) (l : List Int) : List UInt8 := if l = [] then [45] else joinC c (l.map Lib.itoa)
/-- The numbers of words; none: one is none. -/
def numsL : List (List UInt8) → Option (List Int)
  | [] => some []
  | p :: ps => match numV p 999999999 with
    | some v => (numsL ps).map (v :: ·)
    | none => none
def numsV (c : UInt8) (s : List UInt8) : Option (List Int) := if s = [45] then some [] else numsL (cutR c s)
theorem numsL_some {p : List UInt8} {ps : List (List UInt8)} {v : Int} (h : numV p 999999999 = some v) : numsL (p :: ps) = (numsL ps).map (v :: ·) := by
  show (match numV p 999999999 with | some v => (numsL ps).map (v :: ·) | none => none) = _
  rw [h]
theorem numsL_none {p : List UInt8} {ps : List (List UInt8)} (h : numV p 999999999 = none) : numsL (p :: ps) = none := by
  show (match numV p 999999999 with | some v => (numsL ps).map (v :: ·) | none => none) = _
  rw [h]
theorem numsL_len : ∀ (ps : List (List UInt8)) (l : List Int), numsL ps = some l → l.length = ps.length
  | [], l, h => by injection h with h; subst h; rfl
  | p :: ps, l, h => by
    cases hv : numV p 999999999 with
    | none => rw [numsL_none hv] at h; cases h
    | some v =>
      rw [numsL_some hv] at h
      cases hr : numsL ps with
      | none => rw [hr] at h; cases h
      | some r =>
        rw [hr] at h
        injection h with h
        subst h
        have := numsL_len ps r hr
        simp [this]
theorem numsL_itoa : ∀ (l : List Int), (∀ x ∈ l, 0 ≤ x ∧ x ≤ 999999999) → numsL (l.map Lib.itoa) = some l
  | [], _ => rfl
  | x :: l, h => by
    have hx := h x (List.mem_cons_self ..)
    rw [List.map_cons, numsL_some (numV_itoa hx.1 hx.2), numsL_itoa l (fun y hy => h y (List.mem_cons_of_mem _ hy))]
    rfl
theorem joinT_ne {c : UInt8} {l : List Int} (h : ∀ x ∈ l, 0 ≤ x) (hl : l ≠ []) : joinT c l ≠ [45] := by
  unfold joinT
  rw [if_neg hl]
  cases l with
  | nil => exact absurd rfl hl
  | cons x l =>
    have hx := h x (List.mem_cons_self ..)
    intro e
    have h1 := joinC_head c (Lib.itoa x) (itoa_ne hx) (l.map Lib.itoa)
    rw [List.map_cons] at e
    rw [e] at h1
    have h2 := itoa_digit hx 45 (by
      cases hi : Lib.itoa x with
      | nil => exact absurd hi (itoa_ne hx)
      | cons a b =>
        rw [hi] at h1
        injection h1 with h1
        rw [← h1]; exact List.mem_cons_self ..)
    simp at h2
theorem numsV_joinT {c : UInt8} (hc : ¬ (48 ≤ c.toNat ∧ c.toNat ≤ 57)) {l : List Int} (h : ∀ x ∈ l, 0 ≤ x ∧ x ≤ 999999999) : numsV c (joinT c l) = some l := by
  unfold numsV
  by_cases hl : l = []
  · subst hl; rfl
  · rw [if_neg (joinT_ne (fun x hx => (h x hx).1) hl)]
    unfold joinT
    rw [if_neg hl, cutR_joinC c _ (by simpa using hl), numsL_itoa l h]
    intro p hp hcp
    obtain ⟨x, hx, rfl⟩ := List.mem_map.1 hp
    exact hc (itoa_digit (h x hx).1 c hcp)
theorem joinC_mem (c : UInt8) : ∀ (l : List (List UInt8)), ∀ d ∈ joinC c l, d = c ∨ ∃ p ∈ l, d ∈ p
  | [], d, h => absurd h (by simp [joinC])
  | [p], d, h => .inr ⟨p, List.mem_cons_self .., h⟩
  | p :: q :: l, d, h => by
    have h' : d ∈ p ++ c :: joinC c (q :: l) := h
    rw [List.mem_append, List.mem_cons] at h'
    rcases h' with h1 | h1 | h1
    · exact .inr ⟨p, List.mem_cons_self .., h1⟩
    · exact .inl h1
    · rcases joinC_mem c (q :: l) d h1 with h2 | ⟨r, hr, h2⟩
      · exact .inl h2
      · exact .inr ⟨r, List.mem_cons_of_mem _ hr, h2⟩
/-- There is no blank in a joined row, if it is not joined by one. -/
theorem joinT_no {c : UInt8} (hc : c ≠ 32) {l : List Int} (h : ∀ x ∈ l, 0 ≤ x) : (32 : UInt8) ∉ joinT c l := by
  unfold joinT
  split
  · simp
  · intro hm
    rcases joinC_mem c _ _ hm with h1 | ⟨p, hp, h1⟩
    · exact hc h1.symm
    · obtain ⟨x, hx, rfl⟩ := List.mem_map.1 hp
      have := itoa_digit (h x hx) 32 h1
      simp at this

/-- What is told, in words. -/
def attrW (path : List Int) (pref med origin : Int) (tags : List Int) : List UInt8 := joinT 45 path ++ 32 :: (joinT 32 [pref, med, origin] ++ 32 :: joinT 44 tags)
theorem attrW_cut (path : List Int) (pref med origin : Int) (tags : List Int) (h1 : ∀ x ∈ path, 0 ≤ x) (h2 : 0 ≤ pref) (h3 : 0 ≤ med) (h4 : 0 ≤ origin) (h5 : ∀ x ∈ tags, 0 ≤ x) :
    cutR 32 (attrW path pref med origin tags) = [joinT 45 path, Lib.itoa pref, Lib.itoa med, Lib.itoa origin, joinT 44 tags] := by
  have e : attrW path pref med origin tags = joinC 32 [joinT 45 path, Lib.itoa pref, Lib.itoa med, Lib.itoa origin, joinT 44 tags] := by
    unfold attrW
    have : joinT 32 [pref, med, origin] = joinC 32 [Lib.itoa pref, Lib.itoa med, Lib.itoa origin] := by
      unfold joinT
      rw [if_neg (by simp)]
      rfl
    rw [this]
    simp [joinC]
  rw [e]
  refine cutR_joinC 32 _ (by simp) fun p hp => ?_
  have dg : ∀ x : Int, 0 ≤ x → (32 : UInt8) ∉ Lib.itoa x := fun x hx hm => by
    have := itoa_digit hx 32 hm
    simp at this
  simp only [List.mem_cons, List.not_mem_nil, or_false] at hp
  rcases hp with rfl | rfl | rfl | rfl | rfl
  · exact joinT_no (by decide) h1
  · exact dg _ h2
  · exact dg _ h3
  · exact dg _ h4
  · exact joinT_no (by decide) h5
end Go.Proofs.YtjgecmkfgeajiaaGreatDoor

namespace Go.Proofs.YtjgecmkfgeajiaaGreatDoor
open Go.RowKit

theorem ownT_new {w w1 : World} {base : Nat} {v : Value} {P : List (List UInt8)} (h : OwnT w base v P) (hu : New w w1) : OwnT w1 base v P := by
  obtain ⟨h1, h2⟩ := h
  refine ⟨h1, ?_⟩
  rcases h2 with h2 | ⟨g, cap, cur, rfl, hg, hh, r⟩
  · exact .inl h2
  · exact .inr ⟨g, cap, cur, rfl, hg, Blk.new_ (t := TStr) hh hu, r⟩
theorem itoa_short {x : Int} (h0 : 0 ≤ x) (h : x ≤ 999999999) : (Lib.itoa x).length ≤ 9 := by
  rw [itoa_dec h0, Lib.decDigits_length]
  exact (nDigits_9 x.toNat).2 (by omega)
theorem joinC_len (c : UInt8) (m : Nat) : ∀ l : List (List UInt8), (∀ p ∈ l, p.length ≤ m) → (joinC c l).length ≤ (m + 1) * l.length
  | [], _ => Nat.zero_le _
  | [p], h => by
    have := h p (List.mem_cons_self ..)
    show p.length ≤ _
    simp; omega
  | p :: q :: l, h => by
    have h1 := h p (List.mem_cons_self ..)
    have h2 := joinC_len c m (q :: l) (fun x hx => h x (List.mem_cons_of_mem _ hx))
    show (p ++ c :: joinC c (q :: l)).length ≤ _
    rw [List.length_append, List.length_cons, List.length_cons, Nat.mul_add]
    omega
theorem joinT_len {c : UInt8} {l : List Int} (h : ∀ x ∈ l, 0 ≤ x ∧ x ≤ 999999999) : (joinT c l).length ≤ 10 * l.length + 1 := by
  unfold joinT
  split
  · simp
  · have := joinC_len c 9 (l.map Lib.itoa) (by
      intro p hp
      obtain ⟨x, hx, rfl⟩ := List.mem_map.1 hp
      exact itoa_short (h x hx).1 (h x hx).2)
    rw [List.length_map] at this
    omega

set_option maxRecDepth 8000 in
set_option maxHeartbeats 1000000 in
theorem joined_any (A : Option Addr) (n c : Nat) (d : UInt8) (xs : List Int) (w : World) (h : TxtOk w) (hx : Ints w A xs) (hn : xs.length = n) (hl : n ≤ 1000) (hr : ∀ x ∈ xs, 0 ≤ x ∧ x ≤ 999999999) :
    Calls Tryz.prog 36 #[.slice A n c, .string ⟨#[d]⟩] w fun e w1 => e = .returned (.string ⟨(joinT d xs).toArray⟩) ∧ New w w1 := by
  obtain ⟨i0, hi0, hz0, hz1, hz2⟩ := info_parts info_TStr
  have Hi0 := hide hi0
  have Hz := hide (And.intro hz0 (And.intro hz1 hz2))
  have HT := hide h
  have HX := hide hx
  have HR := hide hr
  have HN := hide hn
  clear hi0 hz0 hz1 hz2 h hx hr hn
  go_enter Tryz.func36, Tryz.ntmps36
  go_wp2_with fail
  go_loopw [5, 10] (fun ov iv wz => ∃ k : Nat, k ≤ n ∧ iv = .int .i64 k ∧ New w wz ∧ OwnT wz w.heap.size ov ((xs.take k).map Lib.itoa)) (fun _ iv _ => n - (intOf iv).toNat)
  case atStart => exact ⟨0, by omega, rfl, Upd.refl _ _, World.ownsRow_nil _ _ _ _⟩
  case round =>
    obtain ⟨k, hk, rfl, hu, ho⟩ := hrel
    have HU := hide hu
    have HO := hide ho
    clear hu ho
    obtain ⟨wo, rfl⟩ : ∃ wo : World, wo = wr := ⟨_, rfl⟩
    obtain ⟨lo, hlo⟩ : ∃ lo : Value, lo = u5 := ⟨_, rfl⟩
    rw [← hlo] at HO ⊢
    clear hlo
    by_cases hlt : k < n
    · have i6 : (k : Int) < (n : Int) := by omega
      obtain ⟨b, o, x, hA, hb, hxk, hcc⟩ := (HX.out.new_ HU.out).at_ (k := k) (by rw [HN.out]; exact hlt)
      subst hA
      obtain ⟨x0, x1⟩ := HR.out x (List.mem_of_getElem? hxk)
      have Hit := hide (itoa_any x wo (HT.out.new HU.out) (by omega) (by omega))
      have Htk := hide (show (xs.take (k + 1)).map Lib.itoa = (xs.take k).map Lib.itoa ++ [Lib.itoa x] by
        rw [List.take_add_one, hxk, List.map_append]; rfl)
      have Hln := hide (show ((xs.take k).map Lib.itoa).length = k by
        rw [List.length_map, List.length_take, HN.out]; omega)
      generalize (xs.take k).map Lib.itoa = P at *
      generalize Lib.itoa x = q at *
      clear hxk x0 x1
      go_wp2_with fail
      refine Hit.out.mono ?_
      rintro e w2 ⟨rfl, hu⟩
      have HO := hide (ownT_new HO.out hu)
      have HU := hide (HU.out.trans_new hu)
      clear hu hcc hb
      have hws := HU.out.size
      have hpl := Hln.out
      go_wp2_with (at_builtin; refine append_src rfl (.tmp 14) (.tmp 17) 65 rfl w.heap.size TStr i0 _ 1 16 Tryz.underlying65 Hi0.out Hz.out.1 Hz.out.2.1 Hz.out.2.2 rfl (by omega) lo P.length (P.map sV) rfl (HO.out.alloc _) (some ⟨w2.heap.size, 0, none⟩) 1 1 [.string ⟨q.toArray⟩] rfl rfl (fun _ => ⟨_, _, rfl, rowcT rfl⟩) (by simp [Value.oneCell']) (by unfold maxLen; omega) (by omega) (by simp; omega) ?_)
      intro v' w' ho hg
      have hu9 : Upd (fun z => lo.ownBlock = some z) w2 w' := ((Upd.refl _ w2).alloc _).trans' (Upd.of_grown hg fun _ _ h => h)
      have HU := hide (HU.out.trans hu9 fun z hz hx => by have := rowt_ge HO.out hx; omega)
      have HO := hide (show OwnT w' w.heap.size v' (P ++ [q]) by
        unfold OwnT
        rw [List.length_append, List.map_append, Hln.out]
        exact ho)
      clear ho hg hu9
      go_wp2_with fail
      exact ⟨⟨k + 1, by omega, by go_num, HU.out, by rw [Htk.out]; exact HO.out⟩, by simp [intOf]; omega⟩
    · obtain rfl : k = n := by omega
      have i6 : ¬ (k : Int) < (k : Int) := by omega
      have ho := HO.out
      rw [List.take_of_length_le (by rw [HN.out]; exact Nat.le_refl _)] at ho
      obtain ⟨Ao, co, rfl, hlo, hco, hso⟩ := ss_of_own ho
      have hjl := joinT_len (c := d) HR.out
      have Hso := hide hso
      have Hlo := hide hlo
      rw [List.length_map] at Hlo hco ⊢
      rw [HN.out] at hjl hco ⊢
      clear ho HO hso hlo
      by_cases h0 : k = 0
      · have He := hide (show joinT d xs = [45] from by
          unfold joinT
          rw [if_pos (by have := HN.out; rw [h0] at this; exact List.length_eq_zero_iff.1 this)])
        subst h0
        go_wp2_with fail
        go_ret
        exact ⟨by rw [He.out]; rfl, HU.out⟩
      · have hxe : ¬ xs = [] := by
          intro e
          have := HN.out
          rw [e] at this
          exact h0 this.symm
        have he : joinT d xs = joinC d (xs.map Lib.itoa) := if_neg hxe
        rw [he] at hjl
        have Hj := hide (join_any Ao k co d (xs.map Lib.itoa) wo Hso.out (by rw [List.length_map, HN.out]) hco (by omega) (by omega))
        have He := hide he
        have i0 : ((k : Int) == 0) = false := by
          rw [beq_eq_false_iff_ne]; omega
        clear he hxe hjl h0
        go_wp2_with fail
        refine Hj.out.mono ?_
        rintro e w2 ⟨rfl, hu⟩
        have HU := hide (HU.out.trans_new hu)
        clear hu
        go_wp2_with fail
        go_ret
        exact ⟨by rw [He.out]; rfl, HU.out⟩
end Go.Proofs.YtjgecmkfgeajiaaGreatDoor

namespace Go.Proofs.YtjgecmkfgeajiaaGreatDoor
open Go.RowKit

theorem tagC_ok : ∀ (l : List Int) (pv i : Int), 0 ≤ i → (tagC pv l i).1 = 0 → (∀ x ∈ l, 1 ≤ x ∧ x ≤ 9999) ∧ l.Pairwise (· < ·) ∧ (0 < i → ∀ x ∈ l, pv < x)
  | [], pv, i, _, _ => ⟨fun _ h => absurd h (by simp), List.Pairwise.nil, fun _ _ h => absurd h (by simp)⟩
  | t :: l, pv, i, hi, h => by
    unfold tagC at h
    split at h
    · cases h
    · rename_i h1
      split at h
      · cases h
      · rename_i h2
        have h1' : 1 ≤ t ∧ t ≤ 9999 := by
          have : inR t 1 9999 = true := by simpa using h1
          exact of_decide_eq_true this
        obtain ⟨r1, r2, r3⟩ := tagC_ok l t (i + 1) (by omega) h
        refine ⟨fun x hx => ?_, List.Pairwise.cons (r3 (by omega)) r2, fun hi x hx => ?_⟩
        · rcases List.mem_cons.1 hx with rfl | hx
          · exact h1'
          · exact r1 x hx
        · have : pv < t := by
            rcases Int.lt_or_le pv t with h3 | h3
            · exact h3
            · exact absurd ⟨hi, h3⟩ h2
          rcases List.mem_cons.1 hx with rfl | hx
          · exact this
          · have := r3 (by omega) x hx
            omega
theorem idxB_none {p : Int → Bool} : ∀ (l : List Int), ¬ 0 ≤ idxB p l → ∀ x ∈ l, p x = false := by
  intro l h x hx
  obtain ⟨k, hk, rfl⟩ := List.getElem_of_mem hx
  cases hp : p l[k] with
  | false => rfl
  | true =>
    exact absurd ((idxB_ge p l).2 ⟨k, l[k], List.getElem?_eq_getElem hk, hp⟩) h
/-- What is right. -/
structure GoodA (p : List Int) (f g o : Int) (t : List Int) : Prop where
  pl : p.length ≤ 12
  tl : t.length ≤ 8
  path : ∀ x ∈ p, 1 ≤ x ∧ x ≤ 1000
  pref : 0 ≤ f ∧ f ≤ 1000
  med : 0 ≤ g ∧ g ≤ 1000
  origin : 0 ≤ o ∧ o ≤ 2
  tags : ∀ x ∈ t, 1 ≤ x ∧ x ≤ 9999
  rise : t.Pairwise (· < ·)
theorem attrC_good {a : AttrR} (h : (attrC a).1 = 0) : GoodA a.path a.pref a.med a.origin a.tags := by
  unfold attrC at h
  split at h
  · cases h
  · rename_i h1
    split at h
    · cases h
    · rename_i h2
      split at h
      · cases h
      · rename_i h3
        obtain ⟨t1, t2, _⟩ := tagC_ok a.tags 0 0 (by omega) h
        have g : ∀ n lo hi, ¬ inR n lo hi = false → lo ≤ n ∧ n ≤ hi := fun n lo hi h => by
          have : inR n lo hi = true := by simpa using h
          exact of_decide_eq_true this
        refine ⟨by omega, by omega, fun x hx => ?_, g _ _ _ fun e => h3 (.inl e), g _ _ _ fun e => h3 (.inr (.inl e)), g _ _ _ fun e => h3 (.inr (.inr e)), t1, t2⟩
        have := idxB_none a.path h2 x hx
        unfold badAS at this
        exact g _ _ _ (by simpa using this)

/-- What is told, in words; what is wrong is empty. -/
def attrT (a : AttrR) : List UInt8 := if (attrC a).1 = 0 then attrW a.path a.pref a.med a.origin a.tags else []
theorem attrW_app (x y z : List UInt8) : (((((⟨x.toArray⟩ : ByteArray) ++ ⟨#[32]⟩) ++ ⟨y.toArray⟩) ++ ⟨#[32]⟩) ++ ⟨z.toArray⟩) = ⟨(x ++ 32 :: (y ++ 32 :: z)).toArray⟩ := by
  apply ByteArray.ext
  simp
theorem ints3_new (W : World) (t : TypeId) (x y z : Int) : Ints (W.alloc (.cells #[.int .i64 x, .int .i64 y, .int .i64 z] t)) (some ⟨W.heap.size, 0, none⟩) [x, y, z] := Ints.of_blk (Blk.new W t #[.int .i64 x, .int .i64 y, .int .i64 z]) rfl

set_option maxRecDepth 8000 in
set_option maxHeartbeats 2000000 in
theorem attrText_any (a : AttrR) (E : Nat → Addr) (w : World) (h : TxtOk w) (h2 : Sen w gBound (E 2)) (h7 : Sen w gFull_ (E 7)) (h8 : Sen w gOrder (E 8)) (ha : AttrOk w a) (hl : a.path.length ≤ 1000) (hl2 : a.tags.length ≤ 1000) :
    Calls Tryz.prog 13 #[.agg a.cells] w fun e w1 => e = .returned (.string ⟨(attrT a).toArray⟩) ∧ New w w1 := by
  have u := (Upd.refl (fun _ => False) w).alloc (.cells a.cells TA)
  have Hck := hide (attrCheck_any a E _ (h2.new u) (h7.new u) (h8.new u) (ha.new_ u) hl hl2)
  have HT := hide (h.new u)
  have HA := hide (ha.new_ u)
  have HX := hide (Blk.new w TA a.cells)
  have N := hide u
  have Hg := hide (fun (h : (attrC a).1 = 0) => attrC_good h)
  have He := hide (show attrT a = if (attrC a).1 = 0 then attrW a.path a.pref a.med a.origin a.tags else [] from rfl)
  generalize attrC a = C at *
  obtain ⟨P, pc, p, f, g, o, T, tc, t⟩ := a
  unfold AttrR.cells at *
  dsimp only at *
  obtain ⟨ap, at_, al, al2⟩ := HA.out
  dsimp only at ap at_ al al2
  have HP := hide ap
  have HQ := hide at_
  clear h h2 h7 h8 ha u HA ap at_ al al2
  go_enter Tryz.func13, Tryz.ntmps13
  go_upto_region 1 with (fail)
  generalize w.alloc (.cells #[.slice P p.length pc, .int .i64 f, .int .i64 g, .int .i64 o, .slice T t.length tc] TA) = W at *
  generalize w.heap.size = X at *
  have bq := HX.out
  have x0 := bq.cell 0
  have x1 := bq.cell 1
  have x2 := bq.cell 2
  have x3 := bq.cell 3
  have x4 := bq.cell 4
  have xz := bq.lt
  simp only [List.getElem?_toArray, List.getElem?_cons_zero, List.getElem?_cons_succ] at x0 x1 x2 x3 x4
  clear bq
  go_wp2_with fail
  refine Hck.out.mono ?_
  rintro e w1 ⟨v, rfl, hv, hu⟩
  have HT := hide (HT.out.new hu)
  have HX := hide (HX.out.new_ hu)
  have HP := hide (HP.out.new_ hu)
  have HQ := hide (HQ.out.new_ hu)
  have N := hide (N.out.trans_new hu)
  clear hu Hck x0 x1 x2 x3 x4 xz
  rcases hv.form with ⟨hk, _, rfl⟩ | ⟨hk, tv, pv, rfl⟩
  rotate_left
  · have he := He.out
    rw [if_neg hk] at he
    have He := hide he
    clear he hk hv
    go_wp2_with fail
    go_ret
    exact ⟨by rw [He.out]; rfl, N.out⟩
  · have he := He.out
    rw [if_pos hk] at he
    have G := hide (Hg.out hk)
    have He := hide he
    clear he hk hv
    have g9 := G.out
    have L1 := hide (show ∀ x ∈ p, 0 ≤ x ∧ x ≤ 999999999 from fun x hx => by have := g9.path x hx; omega)
    have L2 := hide (show ∀ x ∈ [f, g, o], 0 ≤ x ∧ x ≤ 999999999 from fun x hx => by
      have a1 := g9.pref; have a2 := g9.med; have a3 := g9.origin
      simp only [List.mem_cons, List.not_mem_nil, or_false] at hx
      rcases hx with rfl | rfl | rfl <;> omega)
    have L3 := hide (show ∀ x ∈ t, 0 ≤ x ∧ x ≤ 999999999 from fun x hx => by have := g9.tags x hx; omega)
    have q1 := joinT_len (c := 45) L1.out
    have q2 := joinT_len (c := 32) L2.out
    have q3 := joinT_len (c := 44) L3.out
    have j1 := g9.pl
    have j2 := g9.tl
    have J1 := hide (fun w' (nw : New w1 w') => joined_any P p.length pc 45 p w' (HT.out.new nw) (HP.out.new_ nw) rfl (by omega) L1.out)
    have J2 := hide (fun w' (b : Nat) (nw : New w1 w') (hx : Ints w' (some ⟨b, 0, none⟩) [f, g, o]) => joined_any (some ⟨b, 0, none⟩) 3 3 32 [f, g, o] w' (HT.out.new nw) hx rfl (by omega) L2.out)
    have J3 := hide (fun w' (nw : New w1 w') => joined_any T t.length tc 44 t w' (HT.out.new nw) (HQ.out.new_ nw) rfl (by omega) L3.out)
    unfold attrW at He
    rw [List.length_cons, List.length_cons, List.length_cons, List.length_nil] at q2
    have q1 : (joinT 45 p).length ≤ 1000 := by omega
    have q2 : (joinT 32 [f, g, o]).length ≤ 1000 := by omega
    have q3 : (joinT 44 t).length ≤ 1000 := by omega
    generalize joinT 45 p = A1 at *
    generalize joinT 32 [f, g, o] = A2 at *
    generalize joinT 44 t = A3 at *
    clear g9 j1 j2
    go_upto_region 3 with (fail)
    have bq := HX.out
    have x0 := bq.cell 0
    have x1 := bq.cell 1
    have x2 := bq.cell 2
    have x3 := bq.cell 3
    have x4 := bq.cell 4
    have xz := bq.lt
    simp only [List.getElem?_toArray, List.getElem?_cons_zero, List.getElem?_cons_succ] at x0 x1 x2 x3 x4
    clear bq
    have keep5 : ∀ {w1 w' : World}, New w1 w' → X < w1.heap.size → (w1.cell? ⟨X, 0, none⟩ = some (.slice P p.length pc) ∧ w1.cell? ⟨X, 1, none⟩ = some (.int .i64 f) ∧ w1.cell? ⟨X, 2, none⟩ = some (.int .i64 g) ∧ w1.cell? ⟨X, 3, none⟩ = some (.int .i64 o) ∧ w1.cell? ⟨X, 4, none⟩ = some (.slice T t.length tc)) → (w'.cell? ⟨X, 0, none⟩ = some (.slice P p.length pc) ∧ w'.cell? ⟨X, 1, none⟩ = some (.int .i64 f) ∧ w'.cell? ⟨X, 2, none⟩ = some (.int .i64 g) ∧ w'.cell? ⟨X, 3, none⟩ = some (.int .i64 o) ∧ w'.cell? ⟨X, 4, none⟩ = some (.slice T t.length tc)) :=
      fun hu hz h => ⟨(hu.cell hz (fun x => x)).trans h.1, (hu.cell hz (fun x => x)).trans h.2.1, (hu.cell hz (fun x => x)).trans h.2.2.1, (hu.cell hz (fun x => x)).trans h.2.2.2.1, (hu.cell hz (fun x => x)).trans h.2.2.2.2⟩
    have Kp := hide (fun (w' : World) (hu : New w1 w') => keep5 hu xz ⟨x0, x1, x2, x3, x4⟩)
    clear keep5
    have hb1 : ¬ 9223372036854775807 < A1.length + 1 := by omega
    have hb2 : ¬ 9223372036854775807 < A1.length + 1 + A2.length := by omega
    have hb3 : ¬ 9223372036854775807 < A1.length + 1 + A2.length + 1 := by omega
    have hb4 : ¬ 9223372036854775807 < A1.length + 1 + A2.length + 1 + A3.length := by omega
    clear q1 q2 q3
    go_region_held3 (fun w' => w'.cell? ⟨X, 0, none⟩ = some (.slice P p.length pc) ∧ w'.cell? ⟨X, 1, none⟩ = some (.int .i64 f) ∧ w'.cell? ⟨X, 2, none⟩ = some (.int .i64 g) ∧ w'.cell? ⟨X, 3, none⟩ = some (.int .i64 o) ∧ w'.cell? ⟨X, 4, none⟩ = some (.slice T t.length tc))
      (first | go_keep | exact Kp.out _ U8.out | exact Kp.out _ (U6.out.alloc _) | exact Kp.out _ U6.out | exact Kp.out _ (U4.out.alloc _) | exact Kp.out _ U4.out | exact Kp.out _ V4.out | exact Kp.out _ ((Upd.refl _ _).alloc _).drew | exact Kp.out _ ((Upd.refl _ _).alloc _))
      (first
        | (go_at_call 36; refine (J3.out _ U6.out).mono ?_; rintro e w8 ⟨rfl, hu8⟩; have U8 := hide (U6.out.trans_new hu8); clear hu8)
        | (go_at_call 36; refine (J2.out _ _ (U4.out.alloc _) (ints3_new _ _ _ _ _)).mono ?_; rintro e w6 ⟨rfl, hu6⟩; have U6 := hide ((U4.out.alloc _).trans_new hu6); clear hu6)
        | (go_at_call 36; refine (J2.out _ _ V4.out I4.out).mono ?_; rintro e w6 ⟨rfl, hu6⟩; have U6 := hide (V4.out.trans_new hu6); clear hu6)
        | (go_at_call 36; refine (J1.out _ ((Upd.refl (fun _ => False) w1).alloc _).drew).mono ?_; rintro e w4 ⟨rfl, hu4⟩; have V4 := hide (((Upd.refl (fun _ => False) w1).alloc (.cells #[.int .i64 f, .int .i64 g, .int .i64 o] 3)).drew.trans_new hu4); have I4 := hide ((show Ints ((w1.alloc (.cells #[.int .i64 f, .int .i64 g, .int .i64 o] 3)).drew) (some ⟨w1.heap.size, 0, none⟩) [f, g, o] from ints3_new w1 _ f g o).new_ hu4); clear hu4)
        | (go_at_call 36; refine (J1.out _ (Upd.refl (fun _ => False) w1).drew).mono ?_; rintro e w4 ⟨rfl, hu4⟩; have U4 := hide ((Upd.refl (fun _ => False) w1).drew.trans_new hu4); clear hu4))
    all_goals
      go_wp2_with fail
      go_ret
      refine ⟨?_, N.out.trans_new U8.out⟩
      rw [He.out, ← attrW_app]
      rfl
end Go.Proofs.YtjgecmkfgeajiaaGreatDoor

namespace Go.Proofs.YtjgecmkfgeajiaaGreatDoor
open Go.RowKit

theorem ss_of_blk {w : World} {g : Nat} {t : TypeId} {ps : List (List UInt8)} (h : Blk w g t (ps.map sV).toArray) : Ss w (some ⟨g, 0, none⟩) ps := fun _ => by
  refine ⟨g, 0, rfl, h.lt, fun i x hx => ?_⟩
  rw [Nat.zero_add, h.cell i]
  simp [hx, sV]
theorem Ss.part {w : World} {b o : Nat} {ps : List (List UInt8)} (h : Ss w (some ⟨b, o, none⟩) ps) (i m : Nat) : Ss w (some ⟨b, o + i, none⟩) ((ps.drop i).take m) := fun h0 => by
  have hlt : 0 < ps.length := by
    rw [List.length_take, List.length_drop] at h0
    omega
  obtain ⟨b', o', e, hb, hc⟩ := h hlt
  injection e with e
  injection e with e1 e2 _
  subst e1; subst e2
  refine ⟨b, o + i, rfl, hb, fun j p hp => ?_⟩
  have hj : ps[i + j]? = some p := by
    rw [List.getElem?_take] at hp
    split at hp
    · rw [List.getElem?_drop] at hp; exact hp
    · cases hp
  rw [Nat.add_assoc]
  exact hc (i + j) p hj
/-- A text cut by a byte, of the call's own. -/
theorem split_ss (s : ByteArray) (d : UInt8) (w : World) (h : TxtOk w) (hs : s.size ≤ 1000000) :
    Calls Tryz.prog 24 #[.string s, .string ⟨#[d]⟩] w fun e w1 => ∃ g, e = .returned (.slice (some ⟨g, 0, none⟩) (cutR d s.data.toList).length (cutR d s.data.toList).length) ∧ Ss w1 (some ⟨g, 0, none⟩) (cutR d s.data.toList) ∧ w.heap.size ≤ g ∧ New w w1 := by
  refine (split_any s ⟨#[d]⟩ w h (by omega) (Nat.le_refl 1)).mono ?_
  rintro e w1 ⟨g, rfl, hg, hb, hu⟩
  have hc := splitB_cutR d s
  have hl := Lib.splitB_all ⟨#[d]⟩ (Nat.le_refl 1) 0 (Lib.countB s ⟨#[d]⟩) s rfl
  rw [hc, List.length_map] at hl
  rw [hc, List.map_map] at hb
  exact ⟨g, by rw [hl], ss_of_blk hb, hg, hu⟩
/-- What numbers gives. -/
def NumsPost (o : Option (List Int)) (w : World) (e : Ending) (w1 : World) : Prop :=
  New w w1 ∧ ((∃ l A cap, o = some l ∧ e = .returned (.tuple #[.slice A l.length cap, .bool true]) ∧ Ints w1 A l ∧ l.length ≤ cap ∧ ∀ b q, A = some ⟨b, q, none⟩ → w.heap.size ≤ b) ∨ (o = none ∧ e = .returned (.tuple #[.slice none 0 0, .bool false])))
def NumsRel (ps : List (List UInt8)) (k : Nat) (xs : List Int) : Prop := numsL ps = (numsL (ps.drop k)).map (xs ++ ·)
theorem numsRel_start (ps : List (List UInt8)) : NumsRel ps 0 [] := by
  unfold NumsRel
  rw [List.drop_zero]
  cases numsL ps <;> rfl
theorem drop_at2 {ps : List (List UInt8)} {k : Nat} {p : List UInt8} (hp : ps[k]? = some p) : ps.drop k = p :: ps.drop (k + 1) := by
  have hk := (List.getElem?_eq_some_iff.1 hp).1
  rw [List.drop_eq_getElem_cons hk, (List.getElem?_eq_some_iff.1 hp).2]
theorem numsRel_some {ps : List (List UInt8)} {k : Nat} {xs : List Int} {p : List UInt8} {v : Int} (h : NumsRel ps k xs) (hp : ps[k]? = some p) (hv : numV p 999999999 = some v) : NumsRel ps (k + 1) (xs ++ [v]) := by
  unfold NumsRel at h ⊢
  rw [drop_at2 hp, numsL_some hv] at h
  rw [h]
  cases numsL (ps.drop (k + 1)) <;> simp
theorem numsRel_none {ps : List (List UInt8)} {k : Nat} {xs : List Int} {p : List UInt8} (h : NumsRel ps k xs) (hp : ps[k]? = some p) (hv : numV p 999999999 = none) : numsL ps = none := by
  unfold NumsRel at h
  rw [drop_at2 hp, numsL_none hv] at h
  exact h
theorem numsRel_end {ps : List (List UInt8)} {xs : List Int} (h : NumsRel ps ps.length xs) : numsL ps = some xs := by
  unfold NumsRel at h
  rw [List.drop_of_length_le (Nat.le_refl _)] at h
  rw [h]
  show some (xs ++ []) = _
  rw [List.append_nil]
theorem rowi_new {w w1 : World} {base : Nat} {v : Value} {n : Nat} {xs : List Value} (h : w.ownsRow base 3 1 v n xs) (hu : New w w1) : w1.ownsRow base 3 1 v n xs := by
  obtain ⟨h1, h2⟩ := h
  refine ⟨h1, ?_⟩
  rcases h2 with h2 | ⟨g, cap, cur, rfl, hg, hh, r⟩
  · exact .inl h2
  · exact .inr ⟨g, cap, cur, rfl, hg, Blk.new_ (t := 3) hh hu, r⟩
theorem rowi_ge {w : World} {base : Nat} {v : Value} {n : Nat} {xs : List Value} (h : w.ownsRow base 3 1 v n xs) {g : Nat} (hg : v.ownBlock = some g) : base ≤ g := by
  rcases h.2 with ⟨rfl, _⟩ | ⟨g1, cap, cur, rfl, hb, _⟩
  · simp [Value.ownBlock] at hg
  · have : g1 = g := by simpa [Value.ownBlock] using hg
    omega
theorem info_TInt5 : (Tryz.prog.info? 3).map (fun i => (i.zero, i.size, i.bytes)) = some (some (.int .i64 0), 1, 8) := by kernel_rfl
theorem eq45 (s : ByteArray) : (s.toList == [45]) = decide (s.data.toList = [45]) := by
  rw [Lib.toList_data]
  cases h : decide (s.data.toList = [45]) with
  | true => exact beq_iff_eq.2 (of_decide_eq_true h)
  | false => exact beq_eq_false_iff_ne.2 (of_decide_eq_false h)

set_option maxRecDepth 8000 in
set_option maxHeartbeats 2000000 in
theorem numbers_any (s : ByteArray) (d : UInt8) (w : World) (h : TxtOk w) (hs : s.size ≤ 100000) :
    Calls Tryz.prog 31 #[.string s, .string ⟨#[d]⟩] w (NumsPost (numsV d s.data.toList) w) := by
  obtain ⟨i0, hi0, hz0, hz1, hz2⟩ := info_parts info_TInt5
  have Hi0 := hide hi0
  have Hz := hide (And.intro hz0 (And.intro hz1 hz2))
  have HT := hide h
  clear hi0 hz0 hz1 hz2 h
  have heq := eq45 s
  have hll : s.data.toList.length = s.size := by simp
  by_cases h45 : s.data.toList = [45]
  · rw [decide_eq_true h45] at heq
    have He := hide (show numsV d s.data.toList = some [] from if_pos h45)
    clear h45 hll
    go_enter Tryz.func31, Tryz.ntmps31
    go_wp2_with fail
    go_ret2
    exact ⟨Upd.refl _ _, .inl ⟨[], none, 0, He.out, rfl, Ints.nil, Nat.le_refl _, fun _ _ h => by cases h⟩⟩
  rw [decide_eq_false h45] at heq
  have he : numsV d s.data.toList = numsL (cutR d s.data.toList) := if_neg h45
  have hsp := split_ss s d w HT.out (by omega)
  have hpl := cutR_len d s.data.toList
  have hpi := cutR_piece d s.data.toList
  rw [he]
  generalize cutR d s.data.toList = ps at *
  have Hsp := hide hsp
  have Hpi := hide hpi
  clear hsp hpi he h45
  go_enter Tryz.func31, Tryz.ntmps31
  go_wp2_with fail
  refine Hsp.out.mono ?_
  rintro e w1 ⟨g, rfl, hss, hg, hu⟩
  have HS := hide hss
  have U := hide hu
  clear hss hg hu Hsp
  go_wp2_with fail
  go_loopw [6, 17] (fun ov iv wz => ∃ (k : Nat) (xs : List Int), k ≤ ps.length ∧ iv = .int .i64 k ∧ New w1 wz ∧ xs.length = k ∧ wz.ownsRow w1.heap.size 3 1 ov k (xs.map (Value.int .i64)) ∧ NumsRel ps k xs) (fun _ iv _ => ps.length - (intOf iv).toNat)
  case atStart => exact ⟨0, [], by omega, rfl, Upd.refl _ _, rfl, World.ownsRow_nil _ _ _ _, numsRel_start ps⟩
  case round =>
    obtain ⟨k, xs, hk, rfl, hu, hxl, ho, hr⟩ := hrel
    have HU := hide hu
    have HO := hide ho
    have HR := hide hr
    have HL := hide hxl
    clear hu ho hr hxl
    obtain ⟨wo, rfl⟩ : ∃ wo : World, wo = wr := ⟨_, rfl⟩
    obtain ⟨lo, hlo⟩ : ∃ lo : Value, lo = u6 := ⟨_, rfl⟩
    rw [← hlo] at HO ⊢
    clear hlo
    by_cases hlt : k < ps.length
    · have i6 : (k : Int) < (ps.length : Int) := by omega
      obtain ⟨p, hp⟩ : ∃ p, ps[k]? = some p := ⟨_, List.getElem?_eq_getElem hlt⟩
      obtain ⟨b, o, hA, hb, hcc⟩ := (HS.out.new_ HU.out) (by omega)
      injection hA with hA
      injection hA with hA1 hA2 _
      subst hA1; subst hA2
      have q0 := hcc k p hp
      rw [Nat.zero_add] at q0
      have Hnu := hide (number_any ⟨p.toArray⟩ 999999999 wo ((HT.out.new U.out).new HU.out) (by have := Hpi.out p (List.mem_of_getElem? hp); show p.toArray.size ≤ _; simp; omega) (by omega))
      have hnv : (⟨p.toArray⟩ : ByteArray).data.toList = p := rfl
      rw [hnv] at Hnu
      clear hnv hcc
      cases hv : numV p 999999999 with
      | none =>
        rw [hv] at Hnu
        have Hz2 := hide (numsRel_none HR.out hp hv)
        clear hv hp
        go_wp2_with fail
        refine Hnu.out.mono ?_
        rintro e w2 ⟨x, rfl, _, hu⟩
        have U9 := hide ((U.out.trans_new HU.out).trans_new hu)
        clear hu
        go_wp2_with fail
        go_ret2
        exact ⟨U9.out, .inr ⟨Hz2.out, rfl⟩⟩
      | some v =>
        rw [hv] at Hnu
        have HR := hide (numsRel_some HR.out hp hv)
        clear hv hp
        go_wp2_with fail
        refine Hnu.out.mono ?_
        rintro e w2 ⟨x, rfl, hx, hu⟩
        obtain rfl := hx _ rfl
        have HO := hide (rowi_new HO.out hu)
        have HU := hide (HU.out.trans_new hu)
        clear hu q0 hb hx
        have hws := HU.out.size
        have hws1 := U.out.size
        go_wp2_with (at_builtin; refine append_src rfl (.tmp 28) (.tmp 30) 36 rfl w1.heap.size 3 i0 _ 1 8 Tryz.underlying36 Hi0.out Hz.out.1 Hz.out.2.1 Hz.out.2.2 rfl (by omega) lo k (xs.map (Value.int .i64)) rfl (HO.out.alloc _) (some ⟨w2.heap.size, 0, none⟩) 1 1 [.int .i64 x] rfl rfl (fun _ => ⟨_, _, rfl, rowcT rfl⟩) (by simp [Value.oneCell']) (by unfold maxLen; omega) (by omega) (by simp; omega) ?_)
        intro v' w' ho hg
        have hu9 : Upd (fun z => lo.ownBlock = some z) w2 w' := ((Upd.refl _ w2).alloc _).trans' (Upd.of_grown hg fun _ _ h => h)
        have HU := hide (HU.out.trans hu9 fun z hz hx => by have := rowi_ge HO.out hx; omega)
        have HO := hide (show w'.ownsRow w1.heap.size 3 1 v' (k + 1) ((xs ++ [x]).map (Value.int .i64)) by
          rw [List.map_append]
          exact ho)
        have HL := hide (show (xs ++ [x]).length = k + 1 by rw [List.length_append, HL.out]; rfl)
        clear ho hg hu9 hws hws1
        go_wp2_with fail
        exact ⟨⟨k + 1, xs ++ [x], by omega, by go_num, HU.out, HL.out, HO.out, HR.out⟩, by simp [intOf]; omega⟩
    · obtain rfl : k = ps.length := by omega
      have i6 : ¬ (ps.length : Int) < (ps.length : Int) := by omega
      have He := hide (numsRel_end HR.out)
      obtain ⟨A, cap, rfl, _, hcap, hi, hfr, _⟩ := ints_of_own HO.out
      have HI := hide hi
      have HF := hide hfr
      clear hi hfr HO
      go_wp2_with fail
      go_ret2
      refine ⟨U.out.trans_new HU.out, .inl ⟨xs, A, cap, He.out, ?_, HI.out, by rw [HL.out]; exact hcap, fun b q h => Nat.le_trans U.out.size (HF.out b q h)⟩⟩
      rw [HL.out]
      rfl
end Go.Proofs.YtjgecmkfgeajiaaGreatDoor

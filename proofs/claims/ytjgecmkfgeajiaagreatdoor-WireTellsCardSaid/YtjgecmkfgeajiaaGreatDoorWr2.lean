/- Messages as texts, plainly: what is right is read as it was written. No condition but those that stand in each theorem. -/
import Derived.Test.YtjgecmkfgeajiaaGreatDoorWr1
import Derived.Test.YtjgecmkfgeajiaaGreatDoorSmC
namespace Go.Proofs.YtjgecmkfgeajiaaGreatDoor
open Go.RowKit

theorem firstC_z (f : Nat → Nat) : ∀ m k : Nat, (firstC f m k).1 = 0 → ∀ i, k ≤ i → i < k + m → f i = 0 := by
  intro m
  induction m with
  | zero => intro k _ i h1 h2; omega
  | succ m ih =>
    intro k h i h1 h2
    unfold firstC at h
    split at h
    · rename_i hf; exact absurd h hf
    · rename_i hf
      by_cases hik : i = k
      · subst hik; simpa using hf
      · exact ih (k + 1) h i (by omega) (by omega)
/-- What is right. -/
structure GoodM (m : MsgR) : Prop where
  kind : 1 ≤ kindN m.kind ∧ kindN m.kind ≤ 4
  n : 0 ≤ m.n ∧ m.n ≤ 1000
  n0 : kindN m.kind = 2 ∨ kindN m.kind = 3 → m.n = 0
  none : kindN m.kind ≠ 3 → m.drops = [] ∧ m.adds = []
  dl : m.drops.length ≤ 60
  al : m.adds.length ≤ 60
  drops : ∀ p ∈ m.drops, chk p.a p.n = 0
  adds : ∀ r ∈ m.adds, chk r.a r.n = 0 ∧ (attrC r.at_).1 = 0 ∧ r.frm = 0
theorem check_good {m : MsgR} (h : (checkC m).1 = 0) : GoodM m := by
  unfold checkC at h
  split at h
  · cases h
  · rename_i h0
    split at h
    · cases h
    · rename_i h1
      split at h
      · cases h
      · rename_i h2
        have hk := kindN_le m.kind
        have hn0 : kindN m.kind = 2 ∨ kindN m.kind = 3 → m.n = 0 := fun hk => Classical.byContradiction fun hn => h2 ⟨hk, hn⟩
        have hn : 0 ≤ m.n ∧ m.n ≤ 1000 := by
          rcases (by omega : kindN m.kind = 1 ∨ kindN m.kind = 4 ∨ (kindN m.kind = 2 ∨ kindN m.kind = 3)) with hk | hk | hk
          · have : ¬ (m.n < 1 ∨ 1000 < m.n) := fun h => h1 (.inl ⟨hk, h⟩)
            omega
          · have : ¬ (m.n < 0 ∨ 1000 < m.n) := fun h => h1 (.inr ⟨hk, h⟩)
            omega
          · rw [hn0 hk]; omega
        split at h
        · cases h
        · rename_i h3
          split at h
          · rename_i h4
            unfold newsC at h
            split at h
            · cases h
            · rename_i h5
              split at h
              · rename_i h6; exact absurd h h6
              · rename_i h6
                split at h
                · rename_i h7; exact absurd h h7
                · rename_i h7
                  have hd : (dropsC m).1 = 0 := by simpa using h6
                  have ha : (addsC m).1 = 0 := by simpa using h7
                  refine ⟨by omega, hn, hn0, fun hk => absurd h4 hk, by omega, by omega, fun p hp => ?_, fun r hr => ?_⟩
                  · obtain ⟨i, hi, rfl⟩ := List.getElem_of_mem hp
                    have hz := firstC_z _ _ _ hd i (by omega) (by omega)
                    have e : dropF m i = m.drops[i] := pfAt_some (List.getElem?_eq_getElem hi)
                    unfold riseC at hz
                    rw [e] at hz
                    split at hz
                    · rename_i hh; exact absurd hz hh
                    · rename_i hh; simpa using hh
                  · obtain ⟨i, hi, rfl⟩ := List.getElem_of_mem hr
                    have hz := firstC_z _ _ _ ha i (by omega) (by omega)
                    have e : rtAt m.adds i = m.adds[i] := rtAt_some (List.getElem?_eq_getElem hi)
                    have e1 : addF m i = rtPf m.adds[i] := by unfold addF; rw [e]
                    have e2 : addM m i = addC m.adds[i] := by unfold addM; rw [e]
                    unfold riseC at hz
                    rw [e1, e2] at hz
                    split at hz
                    · rename_i hh; exact absurd hz hh
                    · rename_i hh
                      split at hz
                      · cases hz
                      · unfold addC at hz
                        split at hz
                        · rename_i hq; exact absurd hz hq
                        · rename_i hq
                          split at hz
                          · cases hz
                          · rename_i hf
                            exact ⟨by simpa [rtPf] using hh, by simpa using hq, by simpa using hf⟩
          · rename_i h4
            have hl : m.drops.length + m.adds.length = 0 := Classical.byContradiction fun hh => h3 ⟨h4, by omega⟩
            have e1 : m.drops = [] := List.length_eq_zero_iff.1 (by omega)
            have e2 : m.adds = [] := List.length_eq_zero_iff.1 (by omega)
            exact ⟨by omega, hn, hn0, fun _ => ⟨e1, e2⟩, by rw [e1]; simp, by rw [e2]; simp, by rw [e1]; simp, by rw [e2]; simp⟩

/-- The four words. -/
theorem kind_word {s : ByteArray} : (kindN s = 1 → s.data.toList = kOpen) ∧ (kindN s = 2 → s.data.toList = kKeep) ∧ (kindN s = 3 → s.data.toList = kNews) ∧ (kindN s = 4 → s.data.toList = kNote) := by
  obtain ⟨h1, h2, h3, h4⟩ := kind_text (s := s)
  rw [Lib.toList_data] at h1 h2 h3 h4
  exact ⟨h1, h2, h3, h4⟩
theorem head_word {s : ByteArray} (n : Int) : (kindN s = 1 ∨ kindN s = 4 → headT s.data.toList n = s.data.toList ++ 32 :: (Lib.itoa n ++ [10])) ∧ (kindN s = 2 ∨ kindN s = 3 → headT s.data.toList n = s.data.toList ++ [10]) := by
  obtain ⟨h1, h2, h3, h4⟩ := kind_word (s := s)
  unfold headT
  refine ⟨fun h => ?_, fun h => ?_⟩
  · rcases h with h | h
    · rw [if_pos (.inl (h1 h))]
    · rw [if_pos (.inr (h4 h))]
  · rcases h with h | h
    · rw [h2 h, if_neg (by decide)]
    · rw [h3 h, if_neg (by decide)]

theorem lines_cut (c : UInt8) : ∀ ls : List (List UInt8), (∀ p ∈ ls, c ∉ p) → cutR c ((ls.map fun p => p ++ [c]).flatten) = ls ++ [[]]
  | [], _ => rfl
  | p :: ls, h => by
    rw [List.map_cons, List.flatten_cons, List.append_assoc, List.singleton_append, cutR_app c _ p (h p (List.mem_cons_self ..)), lines_cut c ls fun q hq => h q (List.mem_cons_of_mem _ hq)]
    rfl
def dropL (p : Pf) : List UInt8 := 45 :: 32 :: prefT p.a p.n
def addL (r : RtC) : List UInt8 := 43 :: 32 :: (prefT r.a r.n ++ 32 :: attrX r.at_)
def headL (k : List UInt8) (n : Int) : List UInt8 := if k = kOpen ∨ k = kNote then k ++ 32 :: Lib.itoa n else k
theorem dropT_L (p : Pf) : dropT p = dropL p ++ [10] := by simp [dropT, dropL]
theorem addT_L (r : RtC) : addT r = addL r ++ [10] := by simp [addT, addL]
theorem headT_L (k : List UInt8) (n : Int) : headT k n = headL k n ++ [10] := by
  unfold headT headL
  split <;> simp
theorem msgT_lines (m : MsgC) : msgT m = (((headL m.kind m.n :: (m.drops.map dropL ++ m.adds.map addL)).map fun p => p ++ [10])).flatten := by
  unfold msgT dropsT addsT
  have e1 : m.drops.map dropT = m.drops.map (fun p => dropL p ++ [10]) := List.map_congr_left fun p _ => dropT_L p
  have e2 : m.adds.map addT = m.adds.map (fun p => addL p ++ [10]) := List.map_congr_left fun p _ => addT_L p
  rw [headT_L, e1, e2, List.map_cons, List.flatten_cons, List.map_append, List.flatten_append, List.map_map, List.map_map]
  rfl
theorem itoa_no {x : Int} (h : 0 ≤ x) {c : UInt8} (hc : ¬ (48 ≤ c.toNat ∧ c.toNat ≤ 57)) : c ∉ Lib.itoa x := fun hm => hc (itoa_digit h c hm)
theorem addrT_no10 (a : Int) : (10 : UInt8) ∉ addrT a := by
  unfold addrT
  split
  · rw [addr_joined]
    refine joinC_no 46 10 (by decide) _ fun p hp => ?_
    unfold quad at hp
    simp only [List.mem_cons, List.not_mem_nil, or_false] at hp
    rcases hp with rfl | rfl | rfl | rfl <;> exact itoa_no (Int.natCast_nonneg _) (by decide)
  · simp
theorem prefT_no (a n : Int) (c : UInt8) (hc : c = 10 ∨ c = 32) (h : chk a n = 0) : c ∉ prefT a n := by
  obtain ⟨_, hn, _⟩ := chk_zero h
  unfold prefT
  rw [if_pos h, List.mem_append, List.mem_cons]
  rintro (h1 | h1 | h1)
  · rcases hc with rfl | rfl
    · exact addrT_no10 a h1
    · exact addrT_no a 32 (.inr rfl) h1
  · rcases hc with rfl | rfl <;> exact absurd h1 (by decide)
  · refine itoa_no hn.1 ?_ h1
    rcases hc with rfl | rfl <;> decide
theorem joinT_no10 {c : UInt8} (hc : c ≠ 10) {l : List Int} (h : ∀ x ∈ l, 0 ≤ x) : (10 : UInt8) ∉ joinT c l := by
  unfold joinT
  split
  · simp
  · intro hm
    rcases joinC_mem c _ _ hm with h1 | ⟨p, hp, h1⟩
    · exact hc h1.symm
    · obtain ⟨x, hx, rfl⟩ := List.mem_map.1 hp
      exact itoa_no (h x hx) (by decide) h1
theorem attrX_no10 (x : AtC) : (10 : UInt8) ∉ attrX x := by
  unfold attrX attrT
  split
  · rename_i h
    have g := attrC_good h
    dsimp only at g ⊢
    unfold attrW
    rw [List.mem_append, List.mem_cons, List.mem_append, List.mem_cons]
    rintro (h1 | h1 | h1 | h1 | h1)
    · exact joinT_no10 (by decide) (fun x hx => by have := g.path x hx; omega) h1
    · exact absurd h1 (by decide)
    · refine joinT_no10 (by decide) (fun x hx => ?_) h1
      have a1 := g.pref; have a2 := g.med; have a3 := g.origin
      simp only [List.mem_cons, List.not_mem_nil, or_false] at hx
      rcases hx with rfl | rfl | rfl <;> omega
    · exact absurd h1 (by decide)
    · exact joinT_no10 (by decide) (fun x hx => by have := g.tags x hx; omega) h1
  · simp

theorem line_drop (st : RdS) (p : Pf) (h : chk p.a p.n = 0) (h1 : st.adds = []) (h2 : st.more = []) : lineP st (dropL p) = some { st with drops := st.drops ++ [p] } := by
  have hc : cutR 32 (dropL p) = [[45], prefT p.a p.n] := by
    show cutR 32 ([45] ++ 32 :: prefT p.a p.n) = _
    rw [cutR_app 32 _ _ (by decide), cutR_self 32 _ (prefT_no p.a p.n 32 (.inr rfl) h)]
  unfold lineP
  rw [hc]
  show (if (readP ⟨(prefT p.a p.n).toArray⟩).1 = 0 then lineQ st [45] ⟨(readP ⟨(prefT p.a p.n).toArray⟩).2.1, (readP ⟨(prefT p.a p.n).toArray⟩).2.2⟩ [] else none) = _
  rw [readP_text p.a p.n h, if_pos rfl]
  unfold lineQ
  rw [if_pos ⟨rfl, rfl, h1, h2⟩]
theorem attrX_read (x : AtC) (h : (conC x).1 = 0) : readT (attrX x) = (0, x) := read_text (a := ⟨none, 0, x.path, x.pref, x.med, x.origin, none, 0, x.tags⟩) h
theorem line_add (st : RdS) (r : RtC) (h : chk r.a r.n = 0) (h1 : (conC r.at_).1 = 0) (h2 : r.frm = 0) : lineP st (addL r) = some { st with adds := st.adds ++ [r] } := by
  have hc : cutR 32 (addL r) = [43] :: prefT r.a r.n :: cutR 32 (attrX r.at_) := by
    show cutR 32 ([43] ++ 32 :: (prefT r.a r.n ++ 32 :: attrX r.at_)) = _
    rw [cutR_app 32 _ _ (by decide), cutR_app 32 _ _ (prefT_no r.a r.n 32 (.inr rfl) h)]
  unfold lineP
  rw [hc]
  show (if (readP ⟨(prefT r.a r.n).toArray⟩).1 = 0 then lineQ st [43] ⟨(readP ⟨(prefT r.a r.n).toArray⟩).2.1, (readP ⟨(prefT r.a r.n).toArray⟩).2.2⟩ (cutR 32 (attrX r.at_)) else none) = _
  rw [readP_text r.a r.n h, if_pos rfl]
  unfold lineQ
  rw [if_neg (by rintro ⟨h3, _⟩; exact absurd h3 (by decide)), if_pos ⟨rfl, cutR_ne _ _⟩, cutR_join, attrX_read _ h1, if_pos rfl]
  obtain ⟨a, n, x, f⟩ := r
  dsimp only at h2 ⊢
  rw [h2]
theorem restP_cons {x : List UInt8} {r : List (List UInt8)} {i : Nat} {st s : RdS} (hr : r ≠ []) (h : lineP st x = some s) : restP true (x :: r) i st = restP true r (i + 1) s := by
  cases r with
  | nil => exact absurd rfl hr
  | cons y r =>
    show (if true then (match lineP st x with | some s => restP true (y :: r) (i + 1) s | none => .inr i) else .inr i) = _
    rw [if_pos rfl, h]
theorem rest_drops : ∀ (ds : List Pf) (r : List (List UInt8)) (i : Nat) (st : RdS), r ≠ [] → (∀ p ∈ ds, chk p.a p.n = 0) → st.adds = [] → st.more = [] → restP true (ds.map dropL ++ r) i st = restP true r (i + ds.length) { st with drops := st.drops ++ ds }
  | [], r, i, st, _, _, _, _ => by simp
  | p :: ds, r, i, st, hr, h, h1, h2 => by
    rw [List.map_cons, List.cons_append, restP_cons (by simp [hr]) (line_drop st p (h p (List.mem_cons_self ..)) h1 h2), rest_drops ds r (i + 1) { st with drops := st.drops ++ [p] } hr (fun q hq => h q (List.mem_cons_of_mem _ hq)) h1 h2]
    rw [List.length_cons]
    congr 1
    · omega
    · simp
theorem rest_adds : ∀ (l : List RtC) (r : List (List UInt8)) (i : Nat) (st : RdS), r ≠ [] → (∀ x ∈ l, chk x.a x.n = 0 ∧ (conC x.at_).1 = 0 ∧ x.frm = 0) → restP true (l.map addL ++ r) i st = restP true r (i + l.length) { st with adds := st.adds ++ l }
  | [], r, i, st, _, _ => by simp
  | x :: l, r, i, st, hr, h => by
    have hx := h x (List.mem_cons_self ..)
    rw [List.map_cons, List.cons_append, restP_cons (by simp [hr]) (line_add st x hx.1 hx.2.1 hx.2.2), rest_adds l r (i + 1) { st with adds := st.adds ++ [x] } hr (fun q hq => h q (List.mem_cons_of_mem _ hq))]
    rw [List.length_cons]
    congr 1
    · omega
    · simp
theorem rtR_con (r : RtC) : (rtR r).con = r := rfl
theorem checkX_con (m : MsgR) : checkX m.con = checkC m := by
  unfold checkX
  refine check_same ⟨?_, rfl, rfl, ?_⟩
  · show (⟨m.kind.data.toList.toArray⟩ : ByteArray) = m.kind
    exact ba_eta _
  · show ((m.adds.map RouteR.con).map rtR).map RouteR.con = _
    rw [List.map_map]
    exact (List.map_congr_left fun r _ => rtR_con r).trans (List.map_id _)
theorem headP_L {s : ByteArray} {n : Int} (hk : 1 ≤ kindN s ∧ kindN s ≤ 4) (hn : 0 ≤ n ∧ n ≤ 1000) (h0 : kindN s = 2 ∨ kindN s = 3 → n = 0) : headP (headL s.data.toList n) = some (s.data.toList, n) ∧ (10 : UInt8) ∉ headL s.data.toList n ∧ (s.data.toList = kNews ↔ kindN s = 3) := by
  obtain ⟨h1, h2, h3, h4⟩ := kind_word (s := s)
  have hi := itoa_no hn.1 (c := 32) (by decide)
  have hi10 := itoa_no hn.1 (c := 10) (by decide)
  have hr : numR (Lib.itoa n) = n := numR_itoa hn.1 (by omega)
  have key : ∀ k : List UInt8, (k = kOpen ∨ k = kNote) → headP (headL k n) = some (k, n) ∧ (10 : UInt8) ∉ headL k n := fun k hk => by
    have e : headL k n = k ++ 32 :: Lib.itoa n := if_pos hk
    have k32 : (32 : UInt8) ∉ k := by rcases hk with rfl | rfl <;> decide
    have k10 : (10 : UInt8) ∉ k := by rcases hk with rfl | rfl <;> decide
    have hc : cutR 32 (headL k n) = [k, Lib.itoa n] := by rw [e, cutR_app 32 _ _ k32, cutR_self 32 _ hi]
    have hne : ¬ (headL k n = kKeep ∨ headL k n = kNews) := by
      rintro (h | h)
      · rw [h] at hc; exact absurd (congrArg List.length hc) (by show ¬ (cutR 32 kKeep).length = 2; decide)
      · rw [h] at hc; exact absurd (congrArg List.length hc) (by show ¬ (cutR 32 kNews).length = 2; decide)
    refine ⟨?_, ?_⟩
    · unfold headP
      rw [if_neg hne, hc]
      show (if (k = kOpen ∨ k = kNote) ∧ 0 ≤ numR (Lib.itoa n) then some (k, numR (Lib.itoa n)) else none) = _
      rw [hr, if_pos ⟨hk, hn.1⟩]
    · rw [e, List.mem_append, List.mem_cons]
      rintro (h | h | h)
      · exact k10 h
      · exact absurd h (by decide)
      · exact hi10 h
  have key2 : ∀ k : List UInt8, (k = kKeep ∨ k = kNews) → n = 0 → headP (headL k n) = some (k, n) ∧ (10 : UInt8) ∉ headL k n := fun k hk hn0 => by
    have e : headL k n = k := if_neg (by rcases hk with rfl | rfl <;> decide)
    rw [e, hn0]
    refine ⟨?_, by rcases hk with rfl | rfl <;> decide⟩
    unfold headP
    rw [if_pos hk]
  rcases (by omega : kindN s = 1 ∨ kindN s = 2 ∨ kindN s = 3 ∨ kindN s = 4) with hk | hk | hk | hk
  · refine ⟨(key _ (.inl (h1 hk))).1, (key _ (.inl (h1 hk))).2, ?_⟩
    rw [h1 hk, hk]; decide
  · refine ⟨(key2 _ (.inl (h2 hk)) (h0 (.inl hk))).1, (key2 _ (.inl (h2 hk)) (h0 (.inl hk))).2, ?_⟩
    rw [h2 hk, hk]; decide
  · refine ⟨(key2 _ (.inr (h3 hk)) (h0 (.inr hk))).1, (key2 _ (.inr (h3 hk)) (h0 (.inr hk))).2, ?_⟩
    rw [h3 hk, hk]; decide
  · refine ⟨(key _ (.inr (h4 hk))).1, (key _ (.inr (h4 hk))).2, ?_⟩
    rw [h4 hk, hk]; decide
/-- A right message is read as it was written. -/
theorem readM_msgT {m : MsgR} (h : (checkC m).1 = 0) (hl : (msgT m.con).length ≤ 8000) : readM (msgT m.con) = ((0, -1), m.con) := by
  have g := check_good h
  have hadds : ∀ x ∈ m.con.adds, chk x.a x.n = 0 ∧ (conC x.at_).1 = 0 ∧ x.frm = 0 := fun x hx => by
    obtain ⟨r, hr, rfl⟩ := List.mem_map.1 hx
    exact g.adds r hr
  obtain ⟨p1, p2, p3⟩ := headP_L g.kind g.n g.n0
  have hcut : cutR 10 (msgT m.con) = headL m.kind.data.toList m.n :: (m.drops.map dropL ++ (m.con.adds.map addL ++ [[]])) := by
    rw [msgT_lines, lines_cut 10]
    · show headL m.kind.data.toList m.n :: (m.drops.map dropL ++ m.con.adds.map addL) ++ [[]] = _
      simp
    · intro p hp
      rcases List.mem_cons.1 hp with rfl | hp
      · exact p2
      · rcases List.mem_append.1 hp with hp | hp
        · obtain ⟨q, hq, rfl⟩ := List.mem_map.1 hp
          have := prefT_no q.a q.n 10 (.inl rfl) (g.drops q hq)
          unfold dropL
          simp [this]
        · obtain ⟨r, hr, rfl⟩ := List.mem_map.1 hp
          have h1 := prefT_no r.a r.n 10 (.inl rfl) (hadds r hr).1
          have h2 := attrX_no10 r.at_
          unfold addL
          simp [h1, h2]
  obtain ⟨y, ys, hy⟩ : ∃ y ys, m.drops.map dropL ++ (m.con.adds.map addL ++ [[]]) = y :: ys := by
    cases hh : m.drops.map dropL ++ (m.con.adds.map addL ++ [[]]) with
    | nil => simp at hh
    | cons y ys => exact ⟨y, ys, rfl⟩
  have hrest : restP (decide (m.kind.data.toList = kNews)) (y :: ys) 1 ⟨[], [], []⟩ = .inl ⟨m.drops, m.con.adds, []⟩ := by
    by_cases hk : kindN m.kind = 3
    · rw [decide_eq_true (p3.2 hk), ← hy, rest_drops m.drops _ 1 _ (by simp) g.drops rfl rfl, rest_adds m.con.adds _ _ _ (by simp) hadds]
      simp [restP]
    · obtain ⟨e1, e2⟩ := g.none hk
      have e3 : m.con.adds = [] := by show m.adds.map RouteR.con = []; rw [e2]; rfl
      rw [e1, e3] at hy ⊢
      simp only [List.map_nil, List.nil_append, List.cons.injEq] at hy
      obtain ⟨rfl, rfl⟩ := hy
      simp [restP]
  unfold readM
  rw [if_neg (by omega), hcut, hy]
  show (match headP (headL m.kind.data.toList m.n) with | some (k, n) => (match restP (decide (k = kNews)) (y :: ys) 1 ⟨[], [], []⟩ with | .inl st => endP k n st | .inr i => ((1, (i : Int)), zeroM)) | none => ((1, 0), zeroM)) = _
  rw [p1]
  show (match restP (decide (m.kind.data.toList = kNews)) (y :: ys) 1 ⟨[], [], []⟩ with | .inl st => endP m.kind.data.toList m.n st | .inr i => ((1, (i : Int)), zeroM)) = _
  rw [hrest]
  show endP m.kind.data.toList m.n ⟨m.drops, m.con.adds, []⟩ = _
  have hx : checkX ⟨m.kind.data.toList, m.n, dropAll m.drops [], m.con.adds⟩ = checkC m := checkX_con m
  unfold endP
  rw [hx, if_pos h]
  rfl
end Go.Proofs.YtjgecmkfgeajiaaGreatDoor

namespace Go.Proofs.YtjgecmkfgeajiaaGreatDoor
open Go.RowKit

/-- One prefix ahead of another. -/
def ltP (p q : Pf) : Prop := p.a < q.a ∨ (p.a = q.a ∧ p.n < q.n)
theorem ltP_trans {p q r : Pf} (h : ltP p q) (k : ltP q r) : ltP p r := by unfold ltP at *; omega
theorem ltP_ne {p q : Pf} (h : ltP p q) : p ≠ q := by rintro rfl; unfold ltP at h; omega
theorem cmp_lt (a n b m : Int) : cmpP a n b m < 0 ↔ ltP ⟨a, n⟩ ⟨b, m⟩ := by
  unfold cmpP ltP
  simp only [sgn, firstNZ]
  split <;> (try split) <;> (try split) <;> simp_all <;> omega
theorem less_lt {p q : Pf} (h1 : chk p.a p.n = 0) (h2 : chk q.a q.n = 0) : lessB p.a p.n q.a q.n = true ↔ ltP p q := by
  unfold lessB
  rw [decide_eq_true_eq]
  exact ⟨fun h => (cmp_lt _ _ _ _).1 h.2.2, fun h => ⟨h1, h2, (cmp_lt _ _ _ _).2 h⟩⟩
theorem pair_of_next {α : Type} {R : α → α → Prop} (ht : ∀ a b c : α, R a b → R b c → R a c) : ∀ l : List α, (∀ (i : Nat) x y, l[i]? = some x → l[i + 1]? = some y → R x y) → l.Pairwise R
  | [], _ => List.Pairwise.nil
  | [x], _ => List.pairwise_singleton _ _
  | x :: y :: l, h => by
    have hp := pair_of_next ht (y :: l) fun i a b ha hb => h (i + 1) a b (by simpa using ha) (by simpa using hb)
    have hxy := h 0 x y rfl rfl
    refine List.pairwise_cons.2 ⟨fun z hz => ?_, hp⟩
    rcases List.mem_cons.1 hz with rfl | hz
    · exact hxy
    · exact ht _ _ _ hxy ((List.pairwise_cons.1 hp).1 z hz)
theorem pair_next {α : Type} {R : α → α → Prop} {l : List α} (h : l.Pairwise R) {i : Nat} {x y : α} (hx : l[i]? = some x) (hy : l[i + 1]? = some y) : R x y := by
  have h1 := List.getElem?_eq_some_iff.1 hx
  have h2 := List.getElem?_eq_some_iff.1 hy
  have := List.pairwise_iff_getElem.1 h i (i + 1) h1.1 h2.1 (by omega)
  rw [h1.2, h2.2] at this
  exact this
/-- What rises: its law in words of all pairs. -/
theorem rise_iff (f : Nat → Pf) (more : Nat → Nat) (l : List Pf) (hf : ∀ (i : Nat) p, l[i]? = some p → f i = p) :
    (firstC (riseC f more) l.length 0).1 = 0 ↔ (∀ p ∈ l, chk p.a p.n = 0) ∧ l.Pairwise ltP ∧ ∀ i, i < l.length → more i = 0 := by
  constructor
  · intro h
    have hz : ∀ i, i < l.length → riseC f more i = 0 := fun i hi => firstC_z _ _ _ h i (Nat.zero_le _) (by omega)
    have hc : ∀ (i : Nat) p, l[i]? = some p → chk p.a p.n = 0 := fun i p hp => by
      have := hz i (List.getElem?_eq_some_iff.1 hp).1
      unfold riseC at this
      rw [hf i p hp] at this
      split at this
      · rename_i hh; exact absurd this hh
      · rename_i hh; simpa using hh
    refine ⟨fun p hp => ?_, ?_, fun i hi => ?_⟩
    · obtain ⟨i, hi, rfl⟩ := List.getElem_of_mem hp
      exact hc i _ (List.getElem?_eq_getElem hi)
    · refine pair_of_next (R := ltP) (fun _ _ _ h k => ltP_trans h k) l fun i x y hx hy => ?_
      have := hz (i + 1) (List.getElem?_eq_some_iff.1 hy).1
      unfold riseC at this
      rw [hf (i + 1) y hy, Nat.add_sub_cancel, hf i x hx] at this
      split at this
      · rename_i hh; exact absurd this hh
      · split at this
        · cases this
        · rename_i hh
          refine (less_lt (hc i x hx) (hc (i + 1) y hy)).1 ?_
          cases hb : lessB x.a x.n y.a y.n with
          | true => rfl
          | false => exact absurd ⟨Nat.succ_pos _, hb⟩ hh
    · have := hz i hi
      unfold riseC at this
      split at this
      · rename_i hh; exact absurd this hh
      · split at this
        · cases this
        · exact this
  · rintro ⟨h1, h2, h3⟩
    have hz : ∀ i, 0 ≤ i → i < 0 + l.length → riseC f more i = 0 := fun i _ hi => by
      have hi : i < l.length := by omega
      obtain ⟨p, hp⟩ : ∃ p, l[i]? = some p := ⟨_, List.getElem?_eq_getElem hi⟩
      have hcp := h1 p (List.mem_of_getElem? hp)
      rw [riseC_more (by rw [hf i p hp]; exact hcp)]
      · exact h3 i hi
      · intro h0
        obtain ⟨q, hq⟩ : ∃ q, l[i - 1]? = some q := ⟨_, List.getElem?_eq_getElem (by omega)⟩
        rw [hf i p hp, hf (i - 1) q hq]
        refine (less_lt (h1 q (List.mem_of_getElem? hq)) hcp).2 (pair_next h2 hq ?_)
        rw [Nat.sub_add_cancel h0]
        exact hp
    rw [firstC_no _ _ _ hz]
/-- News are right. -/
structure NewsOk (drops : List Pf) (adds : List RouteR) : Prop where
  dl : drops.length ≤ 60
  al : adds.length ≤ 60
  dc : ∀ p ∈ drops, chk p.a p.n = 0
  dp : drops.Pairwise ltP
  ac : ∀ r ∈ adds, chk r.a r.n = 0 ∧ addC r = 0
  ap : (adds.map rtPf).Pairwise ltP
  no : ∀ r ∈ adds, rtPf r ∉ drops
theorem same_pf (p q : Pf) : samePf p q = decide (p = q) := by
  obtain ⟨a, n⟩ := p
  obtain ⟨b, m⟩ := q
  unfold samePf
  rw [Bool.eq_iff_iff]
  simp [and_comm]
theorem dropped_iff (m : MsgR) (r : RouteR) : dropped m r = true ↔ rtPf r ∈ m.drops := by
  unfold dropped
  rw [List.any_eq_true]
  constructor
  · rintro ⟨x, hx, hs⟩
    rw [same_pf, decide_eq_true_eq] at hs
    exact hs ▸ hx
  · intro h
    exact ⟨_, h, by rw [same_pf, decide_eq_true_eq]⟩
theorem newsC_iff (m : MsgR) : (newsC m).1 = 0 ↔ NewsOk m.drops m.adds := by
  have hd := rise_iff (dropF m) (dropM m) m.drops fun i p hp => pfAt_some hp
  have ha := rise_iff (addF m) (addM m) (m.adds.map rtPf) fun i p hp => by
    rw [List.getElem?_map] at hp
    obtain ⟨r, hr, rfl⟩ := Option.map_eq_some_iff.1 hp
    unfold addF
    rw [rtAt_some hr]
  rw [List.length_map] at ha
  have hx : (∀ r ∈ m.adds, rtPf r ∉ m.drops) ↔ ¬ 0 ≤ idxB (dropped m) m.adds := by
    rw [idxB_ge]
    constructor
    · rintro h ⟨j, r, hr, hd⟩
      exact h r (List.mem_of_getElem? hr) ((dropped_iff m r).1 hd)
    · intro h r hr hm
      obtain ⟨j, hj, rfl⟩ := List.getElem_of_mem hr
      exact h ⟨j, _, List.getElem?_eq_getElem hj, (dropped_iff m _).2 hm⟩
  constructor
  · intro h
    unfold newsC at h
    split at h
    · cases h
    · rename_i h5
      split at h
      · rename_i h6; exact absurd h h6
      · rename_i h6
        split at h
        · rename_i h7; exact absurd h h7
        · rename_i h7
          split at h
          · cases h
          · rename_i h8
            obtain ⟨d1, d2, _⟩ := hd.1 (show (dropsC m).1 = 0 by simpa using h6)
            obtain ⟨a1, a2, a3⟩ := ha.1 (show (addsC m).1 = 0 by simpa using h7)
            refine ⟨by omega, by omega, d1, d2, fun r hr => ?_, a2, hx.2 h8⟩
            obtain ⟨j, hj, rfl⟩ := List.getElem_of_mem hr
            refine ⟨a1 (rtPf _) (List.mem_map_of_mem hr), ?_⟩
            have := a3 j hj
            unfold addM at this
            rw [rtAt_some (List.getElem?_eq_getElem hj)] at this
            exact this
  · rintro ⟨h1, h2, h3, h4, h5, h6, h7⟩
    have e1 : (dropsC m).1 = 0 := hd.2 ⟨h3, h4, fun i _ => rfl⟩
    have e2 : (addsC m).1 = 0 := ha.2 ⟨fun p hp => by obtain ⟨r, hr, rfl⟩ := List.mem_map.1 hp; exact (h5 r hr).1, h6, fun i hi => by
      unfold addM
      rw [rtAt_some (List.getElem?_eq_getElem hi)]
      exact (h5 _ (List.getElem_mem hi)).2⟩
    unfold newsC
    rw [if_neg (by omega), if_neg (by simp [e1]), if_neg (by simp [e2]), if_neg (hx.1 h7)]
end Go.Proofs.YtjgecmkfgeajiaaGreatDoor

namespace Go.Proofs.YtjgecmkfgeajiaaGreatDoor
open Go.RowKit

def badL (r : RtC) (z : List UInt8) : List UInt8 := 43 :: 32 :: (prefT r.a r.n ++ 32 :: z)
theorem line_bad (st : RdS) (r : RtC) (z : List UInt8) (h : chk r.a r.n = 0) (h1 : (readT z).1 ≠ 0) : lineP st (badL r z) = some { st with more := st.more ++ [⟨r.a, r.n⟩] } := by
  have hc : cutR 32 (badL r z) = [43] :: prefT r.a r.n :: cutR 32 z := by
    show cutR 32 ([43] ++ 32 :: (prefT r.a r.n ++ 32 :: z)) = _
    rw [cutR_app 32 _ _ (by decide), cutR_app 32 _ _ (prefT_no r.a r.n 32 (.inr rfl) h)]
  unfold lineP
  rw [hc]
  show (if (readP ⟨(prefT r.a r.n).toArray⟩).1 = 0 then lineQ st [43] ⟨(readP ⟨(prefT r.a r.n).toArray⟩).2.1, (readP ⟨(prefT r.a r.n).toArray⟩).2.2⟩ (cutR 32 z) else none) = _
  rw [readP_text r.a r.n h, if_pos rfl]
  unfold lineQ
  rw [if_neg (by rintro ⟨h3, _⟩; exact absurd h3 (by decide)), if_pos ⟨rfl, cutR_ne _ _⟩, cutR_join, if_neg h1]
theorem tri {p q : Pf} (h1 : ¬ ltP q p) (h2 : q ≠ p) : ltP p q := by
  obtain ⟨a, n⟩ := p
  obtain ⟨b, m⟩ := q
  unfold ltP at *
  dsimp only at *
  by_cases hab : a = b
  · subst hab
    by_cases hnm : n = m
    · subst hnm; exact absurd rfl h2
    · omega
  · omega
theorem geP_iff (p q : Pf) : geP p q = true ↔ ¬ ltP q p := by
  unfold geP
  rw [decide_eq_true_eq, ← cmp_lt q.a q.n p.a p.n]
  omega
theorem idxB_spec {α : Type} (f : α → Bool) : ∀ l : List α, (idxB f l < 0 ∧ ∀ x ∈ l, f x = false) ∨ ∃ l1 x l2, l = l1 ++ x :: l2 ∧ (idxB f l = (l1.length : Int)) ∧ f x = true ∧ ∀ y ∈ l1, f y = false
  | [] => .inl ⟨by simp [idxB], fun x h => by simp at h⟩
  | x :: l => by
    by_cases hx : f x = true
    · exact .inr ⟨[], x, l, rfl, by simp [idxB, hx], hx, fun y h => by simp at h⟩
    · have hx' : f x = false := by simpa using hx
      rcases idxB_spec f l with ⟨h1, h2⟩ | ⟨l1, y, l2, e, h1, h2, h3⟩
      · refine .inl ⟨by simp [idxB, hx', h1], fun y hy => ?_⟩
        rcases List.mem_cons.1 hy with rfl | hy
        · exact hx'
        · exact h2 y hy
      · refine .inr ⟨x :: l1, y, l2, by rw [e]; rfl, ?_, h2, fun z hz => ?_⟩
        · unfold idxB
          rw [if_neg hx, h1, if_neg (by omega), List.length_cons]
          omega
        · rcases List.mem_cons.1 hz with rfl | hz
          · exact hx'
          · exact h3 z hz
/-- A prefix that is not there comes where it belongs. -/
theorem dropIn_new {l : List Pf} {p : Pf} (hl : l.Pairwise ltP) (hp : p ∉ l) : ∃ l1 l2, l = l1 ++ l2 ∧ dropIn l p = l1 ++ p :: l2 ∧ (l1 ++ p :: l2).Pairwise ltP := by
  unfold dropIn
  rcases idxB_spec (geP p) l with ⟨h1, h2⟩ | ⟨l1, x, l2, rfl, h1, h2, h3⟩
  · rw [if_pos h1]
    refine ⟨l, [], by simp, rfl, List.pairwise_append.2 ⟨hl, List.pairwise_singleton .., fun q hq y hy => ?_⟩⟩
    rw [List.mem_singleton.1 hy]
    have := h2 q hq
    exact Classical.byContradiction fun hn => by rw [(geP_iff p q).2 hn] at this; cases this
  · have hx : x ≠ p := fun e => hp (by rw [← e]; simp)
    have hlt : ltP p x := tri ((geP_iff p x).1 h2) hx
    have e0 : ((l1.length : Int)).toNat = l1.length := Int.toNat_natCast _
    rw [h1, if_neg (by omega), e0, List.getElem?_append_right (Nat.le_refl _), Nat.sub_self, List.getElem?_cons_zero, if_neg (fun e => hx (Option.some.inj e)), List.take_left, List.drop_left]
    obtain ⟨p1, p2, p3⟩ := List.pairwise_append.1 hl
    obtain ⟨p4, p5⟩ := List.pairwise_cons.1 p2
    refine ⟨l1, x :: l2, rfl, rfl, List.pairwise_append.2 ⟨p1, List.pairwise_cons.2 ⟨fun y hy => ?_, p2⟩, fun a ha y hy => ?_⟩⟩
    · rcases List.mem_cons.1 hy with rfl | hy
      · exact hlt
      · exact ltP_trans hlt (p4 y hy)
    · rcases List.mem_cons.1 hy with rfl | hy
      · have := h3 a ha
        exact Classical.byContradiction fun hn => by rw [(geP_iff y a).2 hn] at this; cases this
      · exact p3 a ha y hy
def rcPf (r : RtC) : Pf := ⟨r.a, r.n⟩
theorem newsOk_con {ds : List Pf} {l : List RouteR} (h : NewsOk ds l) {l1 l2 : List RtC} {r : RtC} (e : l.map RouteR.con = l1 ++ r :: l2) (h60 : ds.length < 60) : NewsOk (dropIn ds (rcPf r)) ((l1 ++ l2).map rtR) := by
  have hr : ∀ x ∈ l1 ++ r :: l2, ∃ y ∈ l, y.con = x := fun x hx => List.mem_map.1 (e ▸ hx)
  have hno : rcPf r ∉ ds := by
    obtain ⟨y, hy, hc⟩ := hr r (by simp)
    rw [← hc]
    exact h.no y hy
  have hcr : chk r.a r.n = 0 := by
    obtain ⟨y, hy, hc⟩ := hr r (by simp)
    rw [← hc]
    exact (h.ac y hy).1
  obtain ⟨d1, d2, hd, hi, hp⟩ := dropIn_new h.dp hno
  have hm : ∀ q, q ∈ dropIn ds (rcPf r) → q = rcPf r ∨ q ∈ ds := fun q hq => by
    rw [hi] at hq
    rw [hd]
    rcases List.mem_append.1 hq with hq | hq
    · exact .inr (by simp [hq])
    · rcases List.mem_cons.1 hq with hq | hq
      · exact .inl hq
      · exact .inr (by simp [hq])
  have hpw : ((l1 ++ r :: l2).map rcPf).Pairwise ltP := by
    have e2 : (l1 ++ r :: l2).map rcPf = l.map rtPf := by
      rw [← e, List.map_map]
      rfl
    rw [e2]
    exact h.ap
  rw [List.map_append, List.map_cons] at hpw
  obtain ⟨p1, p2, p3⟩ := List.pairwise_append.1 hpw
  obtain ⟨p4, p5⟩ := List.pairwise_cons.1 p2
  have hlen := congrArg List.length e
  rw [List.length_map, List.length_append, List.length_cons] at hlen
  have hal := h.al
  have hmem : ∀ y ∈ (l1 ++ l2).map rtR, ∃ x, x ∈ l1 ++ l2 ∧ rtR x = y := fun y hy => List.mem_map.1 hy
  have hin : ∀ x, x ∈ l1 ++ l2 → x ∈ l1 ++ r :: l2 := fun x hx => by
    rcases List.mem_append.1 hx with hx | hx <;> simp [hx]
  refine ⟨?_, by rw [List.length_map, List.length_append]; omega, fun q hq => ?_, hi ▸ hp, fun y hy => ?_, ?_, fun y hy hn => ?_⟩
  · rw [hi, List.length_append, List.length_cons]
    rw [hd, List.length_append] at h60
    omega
  · rcases hm q hq with rfl | hq
    · exact hcr
    · exact h.dc q hq
  · obtain ⟨x, hx, rfl⟩ := hmem y hy
    obtain ⟨z, hz, rfl⟩ := hr x (hin x hx)
    exact h.ac z hz
  · have e3 : ((l1 ++ l2).map rtR).map rtPf = l1.map rcPf ++ l2.map rcPf := by
      rw [List.map_map, List.map_append]
      rfl
    rw [e3]
    exact List.pairwise_append.2 ⟨p1, p5, fun a ha b hb => p3 a ha b (List.mem_cons_of_mem _ hb)⟩
  · obtain ⟨x, hx, rfl⟩ := hmem y hy
    have hn : rcPf x ∈ dropIn ds (rcPf r) := hn
    rcases hm _ hn with hn | hn
    · rcases List.mem_append.1 hx with hx | hx
      · exact ltP_ne (p3 (rcPf x) (List.mem_map_of_mem hx) (rcPf r) (List.mem_cons_self ..)) hn
      · exact ltP_ne (p4 (rcPf x) (List.mem_map_of_mem hx)) hn.symm
    · obtain ⟨z, hz, rfl⟩ := hr x (hin x hx)
      exact h.no z hz hn
/-- The adds' lines, one of them told wrongly. -/
def altA (k : Nat) (z : List UInt8) (l : List RtC) : List UInt8 := (l.mapIdx fun i r => (if i = k then badL r z else addL r) ++ [10]).flatten
theorem altA_snoc (k : Nat) (z : List UInt8) (l : List RtC) (r : RtC) : altA k z (l ++ [r]) = altA k z l ++ ((if l.length = k then badL r z else addL r) ++ [10]) := by
  unfold altA
  rw [List.mapIdx_concat, List.flatten_append]
  simp
theorem altA_nil (k : Nat) (z : List UInt8) : altA k z [] = [] := rfl
theorem altA_low (k : Nat) (z : List UInt8) : ∀ n : Nat, ∀ l : List RtC, l.length = n → l.length ≤ k → altA k z l = ((l.map addL).map fun p => p ++ [10]).flatten
  | 0, l, h, _ => by rw [List.length_eq_zero_iff.1 h]; rfl
  | n + 1, l, h, hk => by
    obtain ⟨l', x, rfl⟩ : ∃ l' x, l = l' ++ [x] := ⟨l.dropLast, l.getLast (by intro e; rw [e] at h; cases h), (List.dropLast_concat_getLast _).symm⟩
    rw [List.length_append, List.length_singleton] at h hk
    rw [altA_snoc, altA_low k z n l' (by omega) (by omega), if_neg (by omega)]
    simp
theorem altA_one (z : List UInt8) (l1 : List RtC) (r : RtC) : ∀ n : Nat, ∀ l2 : List RtC, l2.length = n → altA l1.length z (l1 ++ r :: l2) = ((l1.map addL ++ badL r z :: l2.map addL).map fun p => p ++ [10]).flatten
  | 0, l2, h => by
    rw [List.length_eq_zero_iff.1 h, altA_snoc, if_pos rfl, altA_low _ z _ l1 rfl (Nat.le_refl _)]
    simp
  | n + 1, l2, h => by
    obtain ⟨l', x, rfl⟩ : ∃ l' x, l2 = l' ++ [x] := ⟨l2.dropLast, l2.getLast (by intro e; rw [e] at h; cases h), (List.dropLast_concat_getLast _).symm⟩
    rw [List.length_append, List.length_singleton] at h
    have e : l1 ++ r :: (l' ++ [x]) = (l1 ++ r :: l') ++ [x] := by simp
    rw [e, altA_snoc, altA_one z l1 r n l' (by omega), if_neg (by simp)]
    simp
/-- The same text, but for one route. -/
def altT (ds : List Pf) (k : Nat) (z : List UInt8) (l : List RtC) : List UInt8 := kNews ++ [10] ++ dropsT ds ++ altA k z l
theorem kN3 : kindN (⟨kNews.toArray⟩ : ByteArray) = 3 := by kernel_rfl
theorem headP_news : headP kNews = some (kNews, 0) := by
  unfold headP
  rw [if_pos (.inr rfl)]
theorem attrX_z (z : List UInt8) (h : (10 : UInt8) ∉ z) (r : RtC) (hc : chk r.a r.n = 0) : (10 : UInt8) ∉ badL r z := by
  have := prefT_no r.a r.n 10 (.inl rfl) hc
  unfold badL
  simp [this, h]
/-- A right message of news, one of its routes told wrongly: it is lost, nothing else is changed. -/
theorem readM_alt {m : MsgR} (h : (checkC m).1 = 0) (h60 : m.drops.length < 60) {l1 l2 : List RtC} {r : RtC} (e : m.con.adds = l1 ++ r :: l2) {z : List UInt8} (hz : (readT z).1 ≠ 0) (h10 : (10 : UInt8) ∉ z) (hl : (altT m.drops l1.length z m.con.adds).length ≤ 8000) :
    readM (altT m.drops l1.length z m.con.adds) = ((0, -1), ⟨kNews, 0, dropIn m.drops (rcPf r), l1 ++ l2⟩) ∧ (dropIn m.drops (rcPf r)).length = m.drops.length + 1 ∧ rcPf r ∈ dropIn m.drops (rcPf r) := by
  have g := check_good h
  have h3 : kindN m.kind = 3 := by
    have hlen := congrArg List.length e
    have h1 : m.con.adds.length = m.adds.length := List.length_map ..
    rw [h1, List.length_append, List.length_cons] at hlen
    unfold checkC at h
    split at h
    · cases h
    · split at h
      · cases h
      · split at h
        · cases h
        · split at h
          · cases h
          · rename_i h5
            exact Classical.byContradiction fun hn => h5 ⟨hn, by omega⟩
  have hn : (newsC m).1 = 0 := by
    unfold checkC at h
    split at h
    · cases h
    · split at h
      · cases h
      · split at h
        · cases h
        · split at h
          · cases h
          · rename_i h6
            first
            | exact h
            | exact absurd h3 h6
            | (rw [if_pos h3] at h; exact h)
  have hN := (newsC_iff m).1 hn
  have hok := newsOk_con hN e h60
  have hadds : ∀ x ∈ m.con.adds, chk x.a x.n = 0 ∧ (conC x.at_).1 = 0 ∧ x.frm = 0 := fun x hx => by
    obtain ⟨r, hr, rfl⟩ := List.mem_map.1 hx
    exact g.adds r hr
  have hin : ∀ x, (x ∈ l1 ∨ x = r ∨ x ∈ l2) → x ∈ m.con.adds := fun x hx => by
    rw [e]
    rcases hx with hx | rfl | hx
    · simp [hx]
    · simp
    · simp [hx]
  have hcut : cutR 10 (altT m.drops l1.length z m.con.adds) = kNews :: (m.drops.map dropL ++ (l1.map addL ++ badL r z :: (l2.map addL ++ [[]]))) := by
    have e1 : altT m.drops l1.length z m.con.adds = ((kNews :: (m.drops.map dropL ++ (l1.map addL ++ badL r z :: l2.map addL))).map fun p => p ++ [10]).flatten := by
      unfold altT dropsT
      have e1 : m.drops.map dropT = (m.drops.map dropL).map (fun p => p ++ [10]) := by
        rw [List.map_map]
        exact List.map_congr_left fun p _ => dropT_L p
      rw [e, altA_one z l1 r _ l2 rfl, e1, List.map_cons, List.flatten_cons, List.map_append, List.flatten_append]
      simp
    rw [e1, lines_cut 10]
    · simp
    · intro p hp
      have ha : ∀ x ∈ m.con.adds, (10 : UInt8) ∉ addL x := fun x hx => by
        have := prefT_no x.a x.n 10 (.inl rfl) (hadds x hx).1
        have h2 := attrX_no10 x.at_
        unfold addL
        simp [this, h2]
      rcases List.mem_cons.1 hp with rfl | hp
      · decide
      · rcases List.mem_append.1 hp with hp | hp
        · obtain ⟨q, hq, rfl⟩ := List.mem_map.1 hp
          have := prefT_no q.a q.n 10 (.inl rfl) (g.drops q hq)
          unfold dropL
          simp [this]
        · rcases List.mem_append.1 hp with hp | hp
          · obtain ⟨q, hq, rfl⟩ := List.mem_map.1 hp
            exact ha q (hin q (.inl hq))
          · rcases List.mem_cons.1 hp with rfl | hp
            · exact attrX_z z h10 r (hadds r (hin r (.inr (.inl rfl)))).1
            · obtain ⟨q, hq, rfl⟩ := List.mem_map.1 hp
              exact ha q (hin q (.inr (.inr hq)))
  obtain ⟨d1, d2, hd, hi, _⟩ := dropIn_new hN.dp (p := rcPf r) (by
    obtain ⟨y, hy, hc⟩ := List.mem_map.1 (hin r (.inr (.inl rfl)))
    rw [← hc]
    exact hN.no y hy)
  refine ⟨?_, by rw [hi]; have := congrArg List.length hd; simp at this ⊢; omega, by rw [hi]; simp⟩
  have hne : ∀ (x : List (List UInt8)), x ++ [[]] ≠ [] := fun x => by simp
  have hrest : restP true (m.drops.map dropL ++ (l1.map addL ++ badL r z :: (l2.map addL ++ [[]]))) 1 ⟨[], [], []⟩ = .inl ⟨m.drops, l1 ++ l2, [rcPf r]⟩ := by
    rw [rest_drops _ _ _ _ (by simp) g.drops rfl rfl, rest_adds _ _ _ _ (by simp) (fun x hx => hadds x (hin x (.inl hx))), restP_cons (by simp) (line_bad _ r z (hadds r (hin r (.inr (.inl rfl)))).1 hz), rest_adds _ _ _ _ (by simp) (fun x hx => hadds x (hin x (.inr (.inr hx))))]
    show (if ([] : List UInt8) = [] then (Sum.inl _ : RdS ⊕ Nat) else _) = _
    rw [if_pos rfl]
    simp [rcPf]
  have hend : endP kNews 0 ⟨m.drops, l1 ++ l2, [rcPf r]⟩ = ((0, -1), ⟨kNews, 0, dropIn m.drops (rcPf r), l1 ++ l2⟩) := by
    have hck : (checkX ⟨kNews, 0, dropIn m.drops (rcPf r), l1 ++ l2⟩).1 = 0 := by
      unfold checkX checkC
      dsimp only
      rw [kN3, if_neg (by decide), if_neg (by decide), if_neg (by decide), if_neg (fun hh => hh.1 rfl), if_pos rfl]
      exact (newsC_iff _).2 hok
    unfold endP
    show (if (checkX ⟨kNews, 0, dropIn m.drops (rcPf r), l1 ++ l2⟩).1 = 0 then (((0 : Nat), (-1 : Int)), (⟨kNews, 0, dropIn m.drops (rcPf r), l1 ++ l2⟩ : MsgC)) else _) = _
    rw [if_pos hck]
  unfold readM
  rw [if_neg (by omega), hcut]
  obtain ⟨y, r', hy⟩ : ∃ y r', m.drops.map dropL ++ (l1.map addL ++ badL r z :: (l2.map addL ++ [[]])) = y :: r' := by
    cases hq : m.drops.map dropL ++ (l1.map addL ++ badL r z :: (l2.map addL ++ [[]])) with
    | nil => simp at hq
    | cons a b => exact ⟨a, b, rfl⟩
  rw [hy] at hrest ⊢
  dsimp only
  rw [headP_news]
  dsimp only
  rw [decide_eq_true rfl, hrest]
  exact hend
/-- How long the other text is. -/
theorem altT_len {m : MsgR} (h : m.kind.data.toList = kNews) {k : Nat} {z : List UInt8} (hz : z.length ≤ 40) : (altT m.drops k z m.con.adds).length ≤ (msgT m.con).length + 40 := by
  have key : ∀ n : Nat, ∀ l : List RtC, l.length = n → (altA k z l).length ≤ (addsT l).length + (if k < l.length then 40 else 0) := by
    intro n
    induction n with
    | zero => intro l hl; rw [List.length_eq_zero_iff.1 hl]; simp [altA, addsT]
    | succ n ih =>
      intro l hl
      obtain ⟨l', x, rfl⟩ : ∃ l' x, l = l' ++ [x] := ⟨l.dropLast, l.getLast (by intro e; rw [e] at hl; cases hl), (List.dropLast_concat_getLast _).symm⟩
      rw [List.length_append, List.length_singleton] at hl
      have := ih l' (by omega)
      have e : addsT (l' ++ [x]) = addsT l' ++ addT x := by simp [addsT]
      have e2 : (addT x).length = (prefT x.a x.n).length + (attrX x.at_).length + 4 := by
        unfold addT
        simp
        omega
      have e3 : (badL x z).length = (prefT x.a x.n).length + z.length + 3 := by
        unfold badL
        simp
        omega
      rw [altA_snoc, e, List.length_append, List.length_append, List.length_append, List.length_singleton, List.length_append, List.length_singleton]
      split
      · rename_i hk
        rw [if_neg (by omega)] at this
        rw [if_pos (by omega), e3, e2]
        omega
      · have e4 : (addL x).length + 1 = (addT x).length := by rw [addT_L]; simp
        split at this
        · rw [if_pos (by omega)]; omega
        · split <;> omega
  have := key _ m.con.adds rfl
  have h1 : (msgT m.con).length = kNews.length + 1 + (dropsT m.drops).length + (addsT m.con.adds).length := by
    unfold msgT headT
    have hk : m.con.kind = kNews := h
    rw [hk, if_neg (by decide)]
    have hd : m.con.drops = m.drops := rfl
    rw [hd]
    simp only [List.length_append, List.length_cons, List.length_nil]
    omega
  unfold altT
  rw [h1]
  simp only [List.length_append, List.length_singleton]
  split at this <;> omega
end Go.Proofs.YtjgecmkfgeajiaaGreatDoor

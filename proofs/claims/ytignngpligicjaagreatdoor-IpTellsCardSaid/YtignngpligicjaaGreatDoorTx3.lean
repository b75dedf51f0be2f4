/- Package ip: ReadAddr. No condition but those that stand in each theorem. -/
import Derived.Test.YtignngpligicjaaGreatDoorTx2
import Derived.Lib.SplitLaws
namespace Go.Proofs.YtignngpligicjaaGreatDoor
open Go.RowKit

/-- The number that parts spell, behind what was read before. -/
def partsV : List ByteArray → Nat → Option Nat
  | [], acc => some acc
  | p :: ps, acc => match numV p.data.toList 255 with
    | some v => partsV ps (acc * 256 + v.toNat)
    | none => none
theorem partsV_some {p : ByteArray} {ps : List ByteArray} {acc : Nat} {v : Int} (h : numV p.data.toList 255 = some v) : partsV (p :: ps) acc = partsV ps (acc * 256 + v.toNat) := by
  show (match numV p.data.toList 255 with | some v => partsV ps (acc * 256 + v.toNat) | none => none) = _
  rw [h]
theorem partsV_none {p : ByteArray} {ps : List ByteArray} {acc : Nat} (h : numV p.data.toList 255 = none) : partsV (p :: ps) acc = none := by
  show (match numV p.data.toList 255 with | some v => partsV ps (acc * 256 + v.toNat) | none => none) = _
  rw [h]
def dot : ByteArray := ⟨#[46]⟩
def readParts (s : ByteArray) : List ByteArray := Lib.splitB dot 0 (Lib.countB s dot) s
def readA (s : ByteArray) : Option Nat := if (readParts s).length = 4 then partsV (readParts s) 0 else none
theorem readParts_len (s : ByteArray) : (readParts s).length = Lib.countB s dot + 1 := Lib.splitB_all dot (by decide) 0 _ s rfl
theorem piece_le (sep : ByteArray) : ∀ (k : Nat) (s p : ByteArray), p ∈ Lib.splitB sep 0 k s → p.size ≤ s.size
  | 0, s, p, h => by
    rw [Lib.splitB_zero] at h
    rw [List.mem_singleton.1 h]
    exact Nat.le_refl _
  | k + 1, s, p, h => by
    unfold Lib.splitB at h
    split at h
    · rw [List.mem_singleton.1 h]; exact Nat.le_refl _
    · rcases List.mem_cons.1 h with rfl | h
      · simp; omega
      · have := piece_le sep k _ p h
        simp at this
        omega
theorem numV_range {l : List UInt8} {most v : Int} (h : numV l most = some v) : 0 ≤ v ∧ v ≤ most := by
  unfold numV at h
  split at h
  · split at h
    · rename_i hh; injection h with h; subst h; exact ⟨hh.1, hh.2.1⟩
    · cases h
  · cases h
theorem or_256 (acc v : Nat) (hv : v < 256) : acc * 256 ||| v = acc * 256 + v := by
  have := Nat.two_pow_add_eq_or_of_lt (i := 8) (b := v) (by simpa using hv) acc
  rw [Nat.mul_comm acc 256]
  exact this.symm
theorem or_part (acc v : Nat) (ha : acc < 16777216) (hv : v < 256) : bits .or .i64 ((acc : Int) * 256) (v : Int) = ((acc * 256 + v : Nat) : Int) := by
  have h := i64_or_nat (acc * 256) v (by omega) (by omega)
  rw [or_256 acc v hv] at h
  rw [show ((acc * 256 : Nat) : Int) = (acc : Int) * 256 by omega] at h
  exact h
abbrev gText1 : Nat := 0

set_option maxRecDepth 8000 in
set_option maxHeartbeats 4000000 in
theorem readAddr_any (s : ByteArray) (E : Nat → Addr) (w : World) (h : TxtOk w) (h1 : Sen w gText1 (E 1)) (hs : s.size ≤ 1000000) :
    Calls Tryz.prog 7 #[.string s] w fun e w1 => ((∃ v : Nat, readA s = some v ∧ v < 4294967296 ∧ e = .returned (.tuple #[.int .i64 (v : Int), .nilIface])) ∨ (readA s = none ∧ e = .returned (.tuple #[.int .i64 0, errv (E 1)]))) ∧ New w w1 := by
  have Hsp := hide (split_any s dot w h (by omega) (by decide))
  unfold dot at Hsp
  have hlen := readParts_len s
  have hle := fun p hp => piece_le dot (Lib.countB s dot) s p hp
  have hr : readA s = if (readParts s).length = 4 then partsV (readParts s) 0 else none := rfl
  unfold readParts dot at hlen hr
  unfold dot at hle
  generalize Lib.countB s ⟨#[46]⟩ = n at *
  generalize Lib.splitB ⟨#[46]⟩ 0 n s = ps at *
  have Hle := hide hle
  have Hr := hide hr
  have Hlen := hide hlen
  have H := hide h
  have H1 := hide h1
  clear h h1 hle hr hlen
  go_enter Tryz.func7, Tryz.ntmps7
  go_wp2_with fail
  refine Hsp.out.mono ?_
  rintro e w1 ⟨g, rfl, hg, hb, hu⟩
  have U1 := hide hu
  have HB := hide hb
  have c1 : w1.cell? ⟨0, 0, none⟩ = some (errv (E 1)) := H1.out.new hu
  have z1 : 0 < w1.heap.size := (H1.out.new hu).lt
  unfold errv at c1
  clear hu hb hg Hsp
  by_cases hn : n = 3
  · subst hn
    obtain ⟨p0, p1, p2, p3, hps⟩ : ∃ p0 p1 p2 p3, ps = [p0, p1, p2, p3] := by
      have h := Hlen.out
      match ps, h with
      | [a, b, c, d], _ => exact ⟨a, b, c, d, rfl⟩
    subst hps
    have Hr2 := hide (Hr.out.trans (if_pos rfl))
    clear c1 z1
    go_wp2_with fail
    go_loopw [5, 18] (fun a i wr => ∃ k acc : Nat, k ≤ 4 ∧ i = .int .i64 k ∧ a = .int .i64 acc ∧ acc < 256 ^ k ∧ partsV ([p0, p1, p2, p3].drop k) acc = readA s ∧ New w1 wr) (fun _ i _ => 4 - (intOf i).toNat)
    case atStart => exact ⟨0, 0, by omega, rfl, rfl, by omega, Hr2.out.symm, Upd.refl _ _⟩
    case round =>
      obtain ⟨k, acc, hk, rfl, rfl, hacc, hpv, hnr⟩ := hrel
      have Nr := hide hnr
      have Hpv := hide hpv
      clear hnr hpv
      have bq := HB.out.new_ Nr.out
      have c0 := bq.cell 0
      have c1 := bq.cell 1
      have c2 := bq.cell 2
      have c3 := bq.cell 3
      have zb := bq.lt
      simp only [List.map_cons, List.map_nil, List.getElem?_toArray, List.getElem?_cons_zero, List.getElem?_cons_succ] at c0 c1 c2 c3
      clear bq
      have e1 : wr.cell? ⟨0, 0, none⟩ = some (errv (E 1)) := (H1.out.new U1.out).new Nr.out
      have z1 : 0 < wr.heap.size := ((H1.out.new U1.out).new Nr.out).lt
      unfold errv at e1
      obtain rfl | rfl | rfl | rfl | rfl : k = 0 ∨ k = 1 ∨ k = 2 ∨ k = 3 ∨ k = 4 := by omega
      · have hacc2 : acc < 1 := by simpa using hacc
        have Hnu := hide (number_any p0 255 wr ((H.out.new U1.out).new Nr.out) (Nat.le_trans (Hle.out p0 (by simp)) hs) (by omega))
        clear hk hacc
        cases hv : numV p0.data.toList 255 with
        | none =>
          have Hz := hide (show readA s = none from Hpv.out.symm.trans (partsV_none hv))
          rw [hv] at Hnu
          clear hv
          go_wp2_with fail
          refine Hnu.out.mono ?_
          rintro e w3 ⟨x, rfl, _, hu⟩
          have N3 := hide (Nr.out.trans_new hu)
          have e1 : w3.cell? ⟨0, 0, none⟩ = some (errv (E 1)) := (H1.out.new U1.out).new N3.out
          have z1 : 0 < w3.heap.size := ((H1.out.new U1.out).new N3.out).lt
          unfold errv at e1
          clear hu
          go_wp2_with fail
          go_region
          all_goals
            go_wp2_with fail
            go_ret2
            exact ⟨.inr ⟨Hz.out, rfl⟩, (U1.out.trans_new N3.out).drew⟩
        | some v =>
          obtain ⟨v1, v2⟩ := numV_range hv
          obtain ⟨m, rfl⟩ := Int.eq_ofNat_of_zero_le v1
          have Hz := hide (show partsV ([p0, p1, p2, p3].drop (0 + 1)) (acc * 256 + m) = readA s from (partsV_some hv).symm.trans Hpv.out)
          have hx := hv
          rw [hv] at Hnu
          clear hv hx v1
          have hm : m < 256 := by omega
          have hor := or_part acc m (by omega) hm
          have iw : IntKind.i64.wrap ((acc : Int) * 256) = (acc : Int) * 256 := IntWalk.i64_in _ (by omega)
          have iw2 : wrap64 ((acc : Int) * 256) = (acc : Int) * 256 := IntWalk.wrap64_in _ (by omega)
          go_wp2_with fail
          refine Hnu.out.mono ?_
          rintro e w3 ⟨x, rfl, hx, hu⟩
          obtain rfl := hx _ rfl
          have N3 := hide (Nr.out.trans_new hu)
          clear hu hx
          go_wp2_with fail
          exact ⟨⟨0 + 1, acc * 256 + m, by omega, rfl, rfl, by simp; omega, Hz.out, N3.out⟩, by simp [intOf]⟩
      · have hacc2 : acc < 256 := by simpa using hacc
        have Hnu := hide (number_any p1 255 wr ((H.out.new U1.out).new Nr.out) (Nat.le_trans (Hle.out p1 (by simp)) hs) (by omega))
        clear hk hacc
        cases hv : numV p1.data.toList 255 with
        | none =>
          have Hz := hide (show readA s = none from Hpv.out.symm.trans (partsV_none hv))
          rw [hv] at Hnu
          clear hv
          go_wp2_with fail
          refine Hnu.out.mono ?_
          rintro e w3 ⟨x, rfl, _, hu⟩
          have N3 := hide (Nr.out.trans_new hu)
          have e1 : w3.cell? ⟨0, 0, none⟩ = some (errv (E 1)) := (H1.out.new U1.out).new N3.out
          have z1 : 0 < w3.heap.size := ((H1.out.new U1.out).new N3.out).lt
          unfold errv at e1
          clear hu
          go_wp2_with fail
          go_region
          all_goals
            go_wp2_with fail
            go_ret2
            exact ⟨.inr ⟨Hz.out, rfl⟩, (U1.out.trans_new N3.out).drew⟩
        | some v =>
          obtain ⟨v1, v2⟩ := numV_range hv
          obtain ⟨m, rfl⟩ := Int.eq_ofNat_of_zero_le v1
          have Hz := hide (show partsV ([p0, p1, p2, p3].drop (1 + 1)) (acc * 256 + m) = readA s from (partsV_some hv).symm.trans Hpv.out)
          have hx := hv
          rw [hv] at Hnu
          clear hv hx v1
          have hm : m < 256 := by omega
          have hor := or_part acc m (by omega) hm
          have iw : IntKind.i64.wrap ((acc : Int) * 256) = (acc : Int) * 256 := IntWalk.i64_in _ (by omega)
          have iw2 : wrap64 ((acc : Int) * 256) = (acc : Int) * 256 := IntWalk.wrap64_in _ (by omega)
          go_wp2_with fail
          refine Hnu.out.mono ?_
          rintro e w3 ⟨x, rfl, hx, hu⟩
          obtain rfl := hx _ rfl
          have N3 := hide (Nr.out.trans_new hu)
          clear hu hx
          go_wp2_with fail
          exact ⟨⟨1 + 1, acc * 256 + m, by omega, rfl, rfl, by simp; omega, Hz.out, N3.out⟩, by simp [intOf]⟩
      · have hacc2 : acc < 65536 := by simpa using hacc
        have Hnu := hide (number_any p2 255 wr ((H.out.new U1.out).new Nr.out) (Nat.le_trans (Hle.out p2 (by simp)) hs) (by omega))
        clear hk hacc
        cases hv : numV p2.data.toList 255 with
        | none =>
          have Hz := hide (show readA s = none from Hpv.out.symm.trans (partsV_none hv))
          rw [hv] at Hnu
          clear hv
          go_wp2_with fail
          refine Hnu.out.mono ?_
          rintro e w3 ⟨x, rfl, _, hu⟩
          have N3 := hide (Nr.out.trans_new hu)
          have e1 : w3.cell? ⟨0, 0, none⟩ = some (errv (E 1)) := (H1.out.new U1.out).new N3.out
          have z1 : 0 < w3.heap.size := ((H1.out.new U1.out).new N3.out).lt
          unfold errv at e1
          clear hu
          go_wp2_with fail
          go_region
          all_goals
            go_wp2_with fail
            go_ret2
            exact ⟨.inr ⟨Hz.out, rfl⟩, (U1.out.trans_new N3.out).drew⟩
        | some v =>
          obtain ⟨v1, v2⟩ := numV_range hv
          obtain ⟨m, rfl⟩ := Int.eq_ofNat_of_zero_le v1
          have Hz := hide (show partsV ([p0, p1, p2, p3].drop (2 + 1)) (acc * 256 + m) = readA s from (partsV_some hv).symm.trans Hpv.out)
          have hx := hv
          rw [hv] at Hnu
          clear hv hx v1
          have hm : m < 256 := by omega
          have hor := or_part acc m (by omega) hm
          have iw : IntKind.i64.wrap ((acc : Int) * 256) = (acc : Int) * 256 := IntWalk.i64_in _ (by omega)
          have iw2 : wrap64 ((acc : Int) * 256) = (acc : Int) * 256 := IntWalk.wrap64_in _ (by omega)
          go_wp2_with fail
          refine Hnu.out.mono ?_
          rintro e w3 ⟨x, rfl, hx, hu⟩
          obtain rfl := hx _ rfl
          have N3 := hide (Nr.out.trans_new hu)
          clear hu hx
          go_wp2_with fail
          exact ⟨⟨2 + 1, acc * 256 + m, by omega, rfl, rfl, by simp; omega, Hz.out, N3.out⟩, by simp [intOf]⟩
      · have hacc2 : acc < 16777216 := by simpa using hacc
        have Hnu := hide (number_any p3 255 wr ((H.out.new U1.out).new Nr.out) (Nat.le_trans (Hle.out p3 (by simp)) hs) (by omega))
        clear hk hacc
        cases hv : numV p3.data.toList 255 with
        | none =>
          have Hz := hide (show readA s = none from Hpv.out.symm.trans (partsV_none hv))
          rw [hv] at Hnu
          clear hv
          go_wp2_with fail
          refine Hnu.out.mono ?_
          rintro e w3 ⟨x, rfl, _, hu⟩
          have N3 := hide (Nr.out.trans_new hu)
          have e1 : w3.cell? ⟨0, 0, none⟩ = some (errv (E 1)) := (H1.out.new U1.out).new N3.out
          have z1 : 0 < w3.heap.size := ((H1.out.new U1.out).new N3.out).lt
          unfold errv at e1
          clear hu
          go_wp2_with fail
          go_region
          all_goals
            go_wp2_with fail
            go_ret2
            exact ⟨.inr ⟨Hz.out, rfl⟩, (U1.out.trans_new N3.out).drew⟩
        | some v =>
          obtain ⟨v1, v2⟩ := numV_range hv
          obtain ⟨m, rfl⟩ := Int.eq_ofNat_of_zero_le v1
          have Hz := hide (show partsV ([p0, p1, p2, p3].drop (3 + 1)) (acc * 256 + m) = readA s from (partsV_some hv).symm.trans Hpv.out)
          have hx := hv
          rw [hv] at Hnu
          clear hv hx v1
          have hm : m < 256 := by omega
          have hor := or_part acc m (by omega) hm
          have iw : IntKind.i64.wrap ((acc : Int) * 256) = (acc : Int) * 256 := IntWalk.i64_in _ (by omega)
          have iw2 : wrap64 ((acc : Int) * 256) = (acc : Int) * 256 := IntWalk.wrap64_in _ (by omega)
          go_wp2_with fail
          refine Hnu.out.mono ?_
          rintro e w3 ⟨x, rfl, hx, hu⟩
          obtain rfl := hx _ rfl
          have N3 := hide (Nr.out.trans_new hu)
          clear hu hx
          go_wp2_with fail
          exact ⟨⟨3 + 1, acc * 256 + m, by omega, rfl, rfl, by simp; omega, Hz.out, N3.out⟩, by simp [intOf]⟩
      · have hacc2 : acc < 4294967296 := by simpa using hacc
        have Hz := hide (show readA s = some acc from Hpv.out.symm)
        clear hk hacc
        go_wp2_with fail
        go_ret2
        exact ⟨.inl ⟨acc, Hz.out, hacc2, rfl⟩, U1.out.trans_new Nr.out⟩
  · have Hz := hide (show readA s = none from Hr.out.trans (if_neg (by rw [Hlen.out]; omega)))
    have b1 : (((n + 1 : Nat) : Int) != 4) = true := by simp; omega
    have b2 : (((n : Int) + 1) != 4) = true := by simp; omega
    clear hn
    go_wp2_with fail
    go_region
    all_goals
      go_wp2_with fail
      go_ret2
      exact ⟨.inr ⟨Hz.out, rfl⟩, U1.out.drew⟩
end Go.Proofs.YtignngpligicjaaGreatDoor

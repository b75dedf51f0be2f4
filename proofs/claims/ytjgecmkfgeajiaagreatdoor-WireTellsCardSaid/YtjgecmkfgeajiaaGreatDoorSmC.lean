/- What is wrong with a message is so wherever it lies: of its content. No condition but those that stand in each theorem. -/
import Derived.Test.YtjgecmkfgeajiaaGreatDoorOw3
import Derived.Test.YtjgecmkfgeajiaaGreatDoorWi3
namespace Go.Proofs.YtjgecmkfgeajiaaGreatDoor
open Go.RowKit

theorem attrC_same {a a' : AttrR} (h : a'.con = a.con) : attrC a' = attrC a := by
  have h1 : a'.path = a.path := congrArg AtC.path h
  have h2 : a'.pref = a.pref := congrArg AtC.pref h
  have h3 : a'.med = a.med := congrArg AtC.med h
  have h4 : a'.origin = a.origin := congrArg AtC.origin h
  have h5 : a'.tags = a.tags := congrArg AtC.tags h
  unfold attrC
  rw [h1, h2, h3, h4, h5]
theorem addC_con {r r' : RouteR} (h : r'.con = r.con) : addC r' = addC r := by
  have h1 : r'.at_.con = r.at_.con := congrArg RtC.at_ h
  have h2 : r'.frm = r.frm := congrArg RtC.frm h
  unfold addC
  rw [attrC_same h1, h2]
theorem rtPf_con {r r' : RouteR} (h : r'.con = r.con) : rtPf r' = rtPf r := by
  have h1 : r'.a = r.a := congrArg RtC.a h
  have h2 : r'.n = r.n := congrArg RtC.n h
  unfold rtPf
  rw [h1, h2]
theorem conl_len {l l' : List RouteR} (h : l'.map RouteR.con = l.map RouteR.con) : l'.length = l.length := by
  have := congrArg List.length h
  simpa using this
theorem con_get {l l' : List RouteR} (h : l'.map RouteR.con = l.map RouteR.con) {i : Nat} {r' : RouteR} (hr : l'[i]? = some r') : ∃ r, l[i]? = some r ∧ r'.con = r.con := by
  have h1 : (l'.map RouteR.con)[i]? = (l.map RouteR.con)[i]? := by rw [h]
  rw [List.getElem?_map, List.getElem?_map, hr] at h1
  cases h2 : l[i]? with
  | none => rw [h2] at h1; simp at h1
  | some r => rw [h2] at h1; exact ⟨r, rfl, by simpa using h1⟩
theorem rtAt_con {l l' : List RouteR} (h : l'.map RouteR.con = l.map RouteR.con) (i : Nat) : (rtAt l' i).con = (rtAt l i).con := by
  cases h2 : l'[i]? with
  | some r' =>
    obtain ⟨r, hr, hc⟩ := con_get h h2
    rw [rtAt_some h2, rtAt_some hr, hc]
  | none =>
    have hl := conl_len h
    have h3 : l[i]? = none := by
      rw [List.getElem?_eq_none_iff] at h2 ⊢
      omega
    unfold rtAt
    rw [List.getD_eq_getElem?_getD, List.getD_eq_getElem?_getD, h2, h3]
theorem idxB_con (p q : RouteR → Bool) : ∀ (l l' : List RouteR), l'.map RouteR.con = l.map RouteR.con → (∀ r r', r'.con = r.con → q r' = p r) → idxB q l' = idxB p l := by
  intro l
  induction l with
  | nil => intro l' h _; cases l' with | nil => rfl | cons a l' => simp at h
  | cons a l ih =>
    intro l' h hp
    cases l' with
    | nil => simp at h
    | cons a' l' =>
      simp only [List.map_cons, List.cons.injEq] at h
      unfold idxB
      rw [hp a a' h.1, ih l' h.2 hp]

theorem check_same {m m' : MsgR} (h : SameM m m') : checkC m' = checkC m := by
  obtain ⟨h1, h2, h3, h4⟩ := h
  have hl := conl_len h4
  have e1 : addF m' = addF m := funext fun i => rtPf_con (rtAt_con h4 i)
  have e2 : addM m' = addM m := funext fun i => addC_con (rtAt_con h4 i)
  have e3 : dropF m' = dropF m := funext fun i => by unfold dropF; rw [h3]
  have e4 : dropM m' = dropM m := rfl
  have e5 : idxB (dropped m') m'.adds = idxB (dropped m) m.adds := idxB_con _ _ _ _ h4 fun r r' hc => by
    unfold dropped
    rw [h3, rtPf_con hc]
  have e6 : dropsC m' = dropsC m := by unfold dropsC; rw [e3, e4, h3]
  have e7 : addsC m' = addsC m := by unfold addsC; rw [e1, e2, hl]
  have e8 : newsC m' = newsC m := by unfold newsC; rw [h3, hl, e6, e7, e5]
  unfold checkC
  rw [h1, h2, h3, hl, e8]
theorem short_same {m m' : MsgR} (h : SameM m m') (hs : Short m) : Short m' := fun i r' hr => by
  obtain ⟨r, h1, h2⟩ := con_get h.2.2.2 hr
  have h3 : r'.at_.path = r.at_.path := congrArg (fun c => (RtC.at_ c).path) h2
  have h4 : r'.at_.tags = r.at_.tags := congrArg (fun c => (RtC.at_ c).tags) h2
  have := hs i r h1
  rw [h3, h4]
  exact this
end Go.Proofs.YtjgecmkfgeajiaaGreatDoor

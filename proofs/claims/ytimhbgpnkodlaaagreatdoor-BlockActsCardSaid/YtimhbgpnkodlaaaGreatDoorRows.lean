/-
  NARROWER THAN 'FOR EVERY INPUT', by the rows' own cells (each row's printed sentence says how): BlockActs: laid.
  DERIVED. THE GIVEN ROWS OF THIS SEAT. 1 by the template 'for every input the law returns true; each argument reads behind the call as it read before'; 0 by the template 'total and deterministic' (their statements: YtimhbgpnkodlaaaGreatDoorTotals.lean).
  GIVEN WITH THE SEED: the statements are not yours to turn. If you find one false, say at which input.
  Laid BY PROGRAM, IN A SANDBOX (cutbox-rows.mjs): the forced cells as the released guide's own fill.sh prints them over the translation d9db5552fa85cb65… (all of the seat's roots in one cut). By AI agents, Wed Nov 11 2026. No macro, syntax, notation, axiom, sorry.
-/
import Derived.Test.YtimhbgpnkodlaaaGreatDoorChecked
import GoSem.Claim
import GoSem.ClaimJoined
import GoSem.ClaimMapViews
import Derived.JoinedTies
import Derived.KernelRfl
namespace Go.Proofs.YtimhbgpnkodlaaaGreatDoor
/- THE CELL 'sum', in the pinned program and in every row, IS THE sha256 OF THE DUMP (.gsa) THAT YtimhbgpnkodlaaaGreatDoorProg.lean LOADS. Nothing in Lean hashes anything: it is a label: what it is worth is what the hold of that sum in a sandbox is worth. -/
noncomputable def Tryz.pinned : Pinned := { name := "ytimhbgpnkodlaaagreatdoor", sum := "d9db5552fa85cb65a5fadc707c1e4ddcbf968c2d0ef6601131faa22c3c493c49", checked := Tryz.checked }
namespace Rows
def none {H : Type} : Left H := { results := [], args := [] }

/- WHAT THE LISTED PACKAGE-LEVEL VARIABLES READ AS WHEN THE CALL BEGINS. Each datum BY PROGRAM (the guide's laid-datum.mjs) off the statement by which the dump's own 'gosem.cut.vars' lays the variable. In a bare row this is a premise. The card (YtimhbgpnkodlaaaGreatDoorCards.lean) ties it to the program's text. -/
def laid_errors_errorType {H : Type} : DataW H := .iface "internal/reflectlite.rtype" (.agg [.ptr (.lit (.string [101, 114, 114, 111, 114]))])
def laid_herepath_api_ErrText {H : Type} : DataW H := .iface "*errors.errorString" (.ptr (.agg [.lit (.string [104, 101, 114, 101, 112, 97, 116, 104, 58, 32, 116, 101, 120, 116])]))
def laid_herepath_api_ErrBound {H : Type} : DataW H := .iface "*errors.errorString" (.ptr (.agg [.lit (.string [104, 101, 114, 101, 112, 97, 116, 104, 58, 32, 98, 111, 117, 110, 100])]))
def laid_herepath_api_ErrShape {H : Type} : DataW H := .iface "*errors.errorString" (.ptr (.agg [.lit (.string [104, 101, 114, 101, 112, 97, 116, 104, 58, 32, 115, 104, 97, 112, 101])]))
def laid_herepath_api_ErrKind {H : Type} : DataW H := .iface "*errors.errorString" (.ptr (.agg [.lit (.string [104, 101, 114, 101, 112, 97, 116, 104, 58, 32, 107, 105, 110, 100])]))
def laid_herepath_api_ErrNone {H : Type} : DataW H := .iface "*errors.errorString" (.ptr (.agg [.lit (.string [104, 101, 114, 101, 112, 97, 116, 104, 58, 32, 110, 111, 110, 101])]))
def laid_herepath_api_ErrExist {H : Type} : DataW H := .iface "*errors.errorString" (.ptr (.agg [.lit (.string [104, 101, 114, 101, 112, 97, 116, 104, 58, 32, 101, 120, 105, 115, 116])]))
def laid_herepath_api_ErrFull {H : Type} : DataW H := .iface "*errors.errorString" (.ptr (.agg [.lit (.string [104, 101, 114, 101, 112, 97, 116, 104, 58, 32, 102, 117, 108, 108])]))
def laid_herepath_api_ErrOrder {H : Type} : DataW H := .iface "*errors.errorString" (.ptr (.agg [.lit (.string [104, 101, 114, 101, 112, 97, 116, 104, 58, 32, 111, 114, 100, 101, 114])]))
def laid_herepath_api_ErrLoop {H : Type} : DataW H := .iface "*errors.errorString" (.ptr (.agg [.lit (.string [104, 101, 114, 101, 112, 97, 116, 104, 58, 32, 108, 111, 111, 112])]))

/-- 'herepathlaw2.BlockActs': WHATEVER THE INPUT: true; the input reads as it did. -/
def blockActsSpec : ChangeSpec := { name := "blockActs", fn := fun _ => fun
  | [d1, d2, d3, d4, d5] => { results := [.lit (.bool true)], args := [d1, d2, d3, d4, d5] }
  | _ => none }
def blockActsRow : OpenClaim := { program := "ytimhbgpnkodlaaagreatdoor", sum := "d9db5552fa85cb65a5fadc707c1e4ddcbf968c2d0ef6601131faa22c3c493c49", func := "herepath/herepathlaw2.BlockActs", spec := "blockActs", inPlace := ["internal/reflectlite.ValueOf", "(internal/reflectlite.Value).Type", "(internal/reflectlite.Value).IsNil", "internal/reflectlite.TypeOf", "(internal/reflectlite.Value).Elem", "(internal/reflectlite.Value).Set", "maps.clone"], unfollowed := true, recurses := true, named := ["herepath/api.ErrBound", "herepath/api.ErrShape", "herepath/api.ErrFull", "herepath/api.ErrText", "herepath/api.ErrKind", "herepath/api.ErrNone", "herepath/api.ErrExist", "herepath/api.ErrOrder", "herepath/api.ErrLoop", "errors.errorType"], apart := false, laid := [("errors.errorType", laid_errors_errorType), ("herepath/api.ErrText", laid_herepath_api_ErrText), ("herepath/api.ErrBound", laid_herepath_api_ErrBound), ("herepath/api.ErrShape", laid_herepath_api_ErrShape), ("herepath/api.ErrKind", laid_herepath_api_ErrKind), ("herepath/api.ErrNone", laid_herepath_api_ErrNone), ("herepath/api.ErrExist", laid_herepath_api_ErrExist), ("herepath/api.ErrFull", laid_herepath_api_ErrFull), ("herepath/api.ErrOrder", laid_herepath_api_ErrOrder), ("herepath/api.ErrLoop", laid_herepath_api_ErrLoop)] }
def BlockActsSaid : Prop := blockActsRow.holds Tryz.pinned (OpenSpec.ofChange blockActsSpec)

/-- ITS FALSE NEIGHBOUR: 'it returns false'. Refute it at one input. -/
def blockActsWrong : ChangeSpec := { name := "blockActs", fn := fun _ => fun
  | [d1, d2, d3, d4, d5] => { results := [.lit (.bool false)], args := [d1, d2, d3, d4, d5] }
  | _ => none }
def BlockActsWrongFalsely : Prop := blockActsRow.holds Tryz.pinned (OpenSpec.ofChange blockActsWrong)

/- THE SECOND FORM. 'bulk': how many values and letters a reading holds, each counted each time it is reached (what is shared counts as often as it is met; a slice's spare places count too). A statement '..UptoSaid' is the law's where the arguments, and the package variables that the reading takes, are together of bulk at most 1048576: NARROWER than '..Said'. Prove '..Said' where nothing that the law and all that it calls make is longer than what came in: it says more and counts as full. Else prove '..UptoSaid'. A law counts once. -/
mutual
def uptoBulk {H : Type} : DataW H → Nat
  | .lit (.string bytes) => bytes.length + 1
  | .lit _ => 1
  | .nil => 1
  | .ptr d => uptoBulk d + 1
  | .slice elems spare => uptoBulkAll elems + uptoBulkAll spare + 1
  | .agg parts => uptoBulkAll parts + 1
  | .iface _ d => uptoBulk d + 1
  | .map entries => uptoBulkEntries entries + 1
  | .held _ => 1
def uptoBulkAll {H : Type} : List (DataW H) → Nat
  | [] => 0
  | d :: r => uptoBulk d + uptoBulkAll r
def uptoBulkEntries {H : Type} : List (Lit × DataW H) → Nat
  | [] => 0
  | x :: r => uptoBulkEntry x + uptoBulkEntries r
def uptoBulkEntry {H : Type} : Lit × DataW H → Nat
  | (.string bytes, d) => bytes.length + uptoBulk d + 1
  | (_, d) => uptoBulk d + 1
 end
def uptoSmall : (H : Type) → List (DataW H) → Bool := fun _ ds => decide (uptoBulkAll ds ≤ 1048576)
def OpenSpec.upto (s : _root_.Go.ChangeSpec) : _root_.Go.OpenSpec := { _root_.Go.OpenSpec.ofChange s with cond := some uptoSmall }

/-- 'herepathlaw2.BlockActs', WHERE WHAT IT READS IS OF BULK AT MOST 1048576: true; the input reads as it did. -/
def blockActsUptoRow : OpenClaim := { program := "ytimhbgpnkodlaaagreatdoor", sum := "d9db5552fa85cb65a5fadc707c1e4ddcbf968c2d0ef6601131faa22c3c493c49", func := "herepath/herepathlaw2.BlockActs", spec := "blockActs", inPlace := ["internal/reflectlite.ValueOf", "(internal/reflectlite.Value).Type", "(internal/reflectlite.Value).IsNil", "internal/reflectlite.TypeOf", "(internal/reflectlite.Value).Elem", "(internal/reflectlite.Value).Set", "maps.clone"], unfollowed := true, recurses := true, named := ["herepath/api.ErrBound", "herepath/api.ErrShape", "herepath/api.ErrFull", "herepath/api.ErrText", "herepath/api.ErrKind", "herepath/api.ErrNone", "herepath/api.ErrExist", "herepath/api.ErrOrder", "herepath/api.ErrLoop", "errors.errorType"], apart := false, laid := [("errors.errorType", laid_errors_errorType), ("herepath/api.ErrText", laid_herepath_api_ErrText), ("herepath/api.ErrBound", laid_herepath_api_ErrBound), ("herepath/api.ErrShape", laid_herepath_api_ErrShape), ("herepath/api.ErrKind", laid_herepath_api_ErrKind), ("herepath/api.ErrNone", laid_herepath_api_ErrNone), ("herepath/api.ErrExist", laid_herepath_api_ErrExist), ("herepath/api.ErrFull", laid_herepath_api_ErrFull), ("herepath/api.ErrOrder", laid_herepath_api_ErrOrder), ("herepath/api.ErrLoop", laid_herepath_api_ErrLoop)], narrowed := true }
def BlockActsUptoSaid : Prop := blockActsUptoRow.holds Tryz.pinned (OpenSpec.upto blockActsSpec)

end Rows
end Go.Proofs.YtimhbgpnkodlaaaGreatDoor

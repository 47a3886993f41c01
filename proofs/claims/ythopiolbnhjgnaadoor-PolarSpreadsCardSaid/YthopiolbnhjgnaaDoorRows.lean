/-
  NARROWER THAN 'FOR EVERY INPUT', by the rows' own cells (each row's printed sentence says how): TrigTurns: laid · TrigPlaces: laid · TrigAside: laid · PolarOf: laid · PolarSpreads: laid · PolarQuarter: laid · AlarmNear: laid · AlarmAll: laid · AlarmBoth: laid · TrailRuns: laid.
  DERIVED. THE GIVEN ROWS OF THIS SEAT. 10 by the template 'for every input the law returns true; each argument reads behind the call as it read before'; 0 by the template 'total and deterministic' (their statements: YthopiolbnhjgnaaDoorTotals.lean).
  GIVEN WITH THE SEED: the statements are not yours to turn. If you find one false, say at which input.
  Laid BY PROGRAM, IN A SANDBOX (cutbox-rows.mjs): the forced cells as the released guide's own fill.sh prints them over the translation 7fee5e6c3206e233… (all of the seat's roots in one cut). By AI agents, Wed Nov 11 2026. No macro, syntax, notation, axiom, sorry.
-/
import Derived.Test.YthopiolbnhjgnaaDoorChecked
import GoSem.Claim
import GoSem.ClaimJoined
import GoSem.ClaimMapViews
import Derived.JoinedTies
import Derived.KernelRfl
namespace Go.Proofs.YthopiolbnhjgnaaDoor
/- THE CELL 'sum', in the pinned program and in every row, IS THE sha256 OF THE DUMP (.gsa) THAT YthopiolbnhjgnaaDoorProg.lean LOADS. Nothing in Lean hashes anything: it is a label: what it is worth is what the hold of that sum in a sandbox is worth. -/
noncomputable def Tryd.pinned : Pinned := { name := "ythopiolbnhjgnaadoor", sum := "7fee5e6c3206e233f9916c6556e69ea68674ccd9fac5ba0bb885a5be8186600d", checked := Tryd.checked }
namespace Rows
def none {H : Type} : Left H := { results := [], args := [] }

/- WHAT THE LISTED PACKAGE-LEVEL VARIABLES READ AS WHEN THE CALL BEGINS. Each datum BY PROGRAM (the guide's laid-datum.mjs) off the statement by which the dump's own 'gosem.cut.vars' lays the variable. In a bare row this is a premise. The card (YthopiolbnhjgnaaDoorCards.lean) ties it to the program's text. -/
def laid_errors_errorType {H : Type} : DataW H := .iface "internal/reflectlite.rtype" (.agg [.ptr (.lit (.string [101, 114, 114, 111, 114]))])

/-- 'radomelaw05.TrigTurns': WHATEVER THE INPUT: true; the input reads as it did. -/
def trigTurnsSpec : ChangeSpec := { name := "trigTurns", fn := fun _ => fun
  | [d1, d2] => { results := [.lit (.bool true)], args := [d1, d2] }
  | _ => none }
def trigTurnsRow : OpenClaim := { program := "ythopiolbnhjgnaadoor", sum := "7fee5e6c3206e233f9916c6556e69ea68674ccd9fac5ba0bb885a5be8186600d", func := "radome/radomelaw05.TrigTurns", spec := "trigTurns", inPlace := ["math/bits.Add64", "internal/reflectlite.ValueOf", "(internal/reflectlite.Value).Type", "(internal/reflectlite.Value).IsNil", "internal/reflectlite.TypeOf", "(internal/reflectlite.Value).Elem", "(internal/reflectlite.Value).Set"], unfollowed := true, recurses := true, named := ["errors.errorType"], apart := false, laid := [("errors.errorType", laid_errors_errorType)] }
def TrigTurnsSaid : Prop := trigTurnsRow.holds Tryd.pinned (OpenSpec.ofChange trigTurnsSpec)

/-- ITS FALSE NEIGHBOUR: 'it returns false'. Refute it at one input. -/
def trigTurnsWrong : ChangeSpec := { name := "trigTurns", fn := fun _ => fun
  | [d1, d2] => { results := [.lit (.bool false)], args := [d1, d2] }
  | _ => none }
def TrigTurnsWrongFalsely : Prop := trigTurnsRow.holds Tryd.pinned (OpenSpec.ofChange trigTurnsWrong)

/-- 'radomelaw05.TrigPlaces': WHATEVER THE INPUT: true; the input reads as it did. -/
def trigPlacesSpec : ChangeSpec := { name := "trigPlaces", fn := fun _ => fun
  | [d1, d2] => { results := [.lit (.bool true)], args := [d1, d2] }
  | _ => none }
def trigPlacesRow : OpenClaim := { program := "ythopiolbnhjgnaadoor", sum := "7fee5e6c3206e233f9916c6556e69ea68674ccd9fac5ba0bb885a5be8186600d", func := "radome/radomelaw05.TrigPlaces", spec := "trigPlaces", inPlace := ["math/bits.Add64", "internal/reflectlite.ValueOf", "(internal/reflectlite.Value).Type", "(internal/reflectlite.Value).IsNil", "internal/reflectlite.TypeOf", "(internal/reflectlite.Value).Elem", "(internal/reflectlite.Value).Set"], unfollowed := true, recurses := true, named := ["errors.errorType"], apart := false, laid := [("errors.errorType", laid_errors_errorType)] }
def TrigPlacesSaid : Prop := trigPlacesRow.holds Tryd.pinned (OpenSpec.ofChange trigPlacesSpec)

/-- ITS FALSE NEIGHBOUR: 'it returns false'. Refute it at one input. -/
def trigPlacesWrong : ChangeSpec := { name := "trigPlaces", fn := fun _ => fun
  | [d1, d2] => { results := [.lit (.bool false)], args := [d1, d2] }
  | _ => none }
def TrigPlacesWrongFalsely : Prop := trigPlacesRow.holds Tryd.pinned (OpenSpec.ofChange trigPlacesWrong)

/-- 'radomelaw05.TrigAside': WHATEVER THE INPUT: true; the input reads as it did. -/
def trigAsideSpec : ChangeSpec := { name := "trigAside", fn := fun _ => fun
  | [d1, d2] => { results := [.lit (.bool true)], args := [d1, d2] }
  | _ => none }
def trigAsideRow : OpenClaim := { program := "ythopiolbnhjgnaadoor", sum := "7fee5e6c3206e233f9916c6556e69ea68674ccd9fac5ba0bb885a5be8186600d", func := "radome/radomelaw05.TrigAside", spec := "trigAside", inPlace := ["math/bits.Add64", "internal/reflectlite.ValueOf", "(internal/reflectlite.Value).Type", "(internal/reflectlite.Value).IsNil", "internal/reflectlite.TypeOf", "(internal/reflectlite.Value).Elem", "(internal/reflectlite.Value).Set"], unfollowed := true, recurses := true, named := ["errors.errorType"], apart := false, laid := [("errors.errorType", laid_errors_errorType)] }
def TrigAsideSaid : Prop := trigAsideRow.holds Tryd.pinned (OpenSpec.ofChange trigAsideSpec)

/-- ITS FALSE NEIGHBOUR: 'it returns false'. Refute it at one input. -/
def trigAsideWrong : ChangeSpec := { name := "trigAside", fn := fun _ => fun
  | [d1, d2] => { results := [.lit (.bool false)], args := [d1, d2] }
  | _ => none }
def TrigAsideWrongFalsely : Prop := trigAsideRow.holds Tryd.pinned (OpenSpec.ofChange trigAsideWrong)

/-- 'radomelaw10.PolarOf': WHATEVER THE INPUT: true; the input reads as it did. -/
def polarOfSpec : ChangeSpec := { name := "polarOf", fn := fun _ => fun
  | [d1, d2] => { results := [.lit (.bool true)], args := [d1, d2] }
  | _ => none }
def polarOfRow : OpenClaim := { program := "ythopiolbnhjgnaadoor", sum := "7fee5e6c3206e233f9916c6556e69ea68674ccd9fac5ba0bb885a5be8186600d", func := "radome/radomelaw10.PolarOf", spec := "polarOf", inPlace := ["math/bits.Add64", "internal/reflectlite.ValueOf", "(internal/reflectlite.Value).Type", "(internal/reflectlite.Value).IsNil", "internal/reflectlite.TypeOf", "(internal/reflectlite.Value).Elem", "(internal/reflectlite.Value).Set"], unfollowed := true, recurses := true, named := ["errors.errorType"], apart := false, laid := [("errors.errorType", laid_errors_errorType)] }
def PolarOfSaid : Prop := polarOfRow.holds Tryd.pinned (OpenSpec.ofChange polarOfSpec)

/-- ITS FALSE NEIGHBOUR: 'it returns false'. Refute it at one input. -/
def polarOfWrong : ChangeSpec := { name := "polarOf", fn := fun _ => fun
  | [d1, d2] => { results := [.lit (.bool false)], args := [d1, d2] }
  | _ => none }
def PolarOfWrongFalsely : Prop := polarOfRow.holds Tryd.pinned (OpenSpec.ofChange polarOfWrong)

/-- 'radomelaw10.PolarSpreads': WHATEVER THE INPUT: true; the input reads as it did. -/
def polarSpreadsSpec : ChangeSpec := { name := "polarSpreads", fn := fun _ => fun
  | [d1, d2, d3] => { results := [.lit (.bool true)], args := [d1, d2, d3] }
  | _ => none }
def polarSpreadsRow : OpenClaim := { program := "ythopiolbnhjgnaadoor", sum := "7fee5e6c3206e233f9916c6556e69ea68674ccd9fac5ba0bb885a5be8186600d", func := "radome/radomelaw10.PolarSpreads", spec := "polarSpreads", inPlace := ["math/bits.Add64", "internal/reflectlite.ValueOf", "(internal/reflectlite.Value).Type", "(internal/reflectlite.Value).IsNil", "internal/reflectlite.TypeOf", "(internal/reflectlite.Value).Elem", "(internal/reflectlite.Value).Set"], unfollowed := true, recurses := true, named := ["errors.errorType"], apart := false, laid := [("errors.errorType", laid_errors_errorType)] }
def PolarSpreadsSaid : Prop := polarSpreadsRow.holds Tryd.pinned (OpenSpec.ofChange polarSpreadsSpec)

/-- ITS FALSE NEIGHBOUR: 'it returns false'. Refute it at one input. -/
def polarSpreadsWrong : ChangeSpec := { name := "polarSpreads", fn := fun _ => fun
  | [d1, d2, d3] => { results := [.lit (.bool false)], args := [d1, d2, d3] }
  | _ => none }
def PolarSpreadsWrongFalsely : Prop := polarSpreadsRow.holds Tryd.pinned (OpenSpec.ofChange polarSpreadsWrong)

/-- 'radomelaw10.PolarQuarter': WHATEVER THE INPUT: true; the input reads as it did. -/
def polarQuarterSpec : ChangeSpec := { name := "polarQuarter", fn := fun _ => fun
  | [d1, d2] => { results := [.lit (.bool true)], args := [d1, d2] }
  | _ => none }
def polarQuarterRow : OpenClaim := { program := "ythopiolbnhjgnaadoor", sum := "7fee5e6c3206e233f9916c6556e69ea68674ccd9fac5ba0bb885a5be8186600d", func := "radome/radomelaw10.PolarQuarter", spec := "polarQuarter", inPlace := ["math/bits.Add64", "internal/reflectlite.ValueOf", "(internal/reflectlite.Value).Type", "(internal/reflectlite.Value).IsNil", "internal/reflectlite.TypeOf", "(internal/reflectlite.Value).Elem", "(internal/reflectlite.Value).Set"], unfollowed := true, recurses := true, named := ["errors.errorType"], apart := false, laid := [("errors.errorType", laid_errors_errorType)] }
def PolarQuarterSaid : Prop := polarQuarterRow.holds Tryd.pinned (OpenSpec.ofChange polarQuarterSpec)

/-- ITS FALSE NEIGHBOUR: 'it returns false'. Refute it at one input. -/
def polarQuarterWrong : ChangeSpec := { name := "polarQuarter", fn := fun _ => fun
  | [d1, d2] => { results := [.lit (.bool false)], args := [d1, d2] }
  | _ => none }
def PolarQuarterWrongFalsely : Prop := polarQuarterRow.holds Tryd.pinned (OpenSpec.ofChange polarQuarterWrong)

/-- 'radomelaw36.AlarmNear': WHATEVER THE INPUT: true; the input reads as it did. -/
def alarmNearSpec : ChangeSpec := { name := "alarmNear", fn := fun _ => fun
  | [d1, d2, d3] => { results := [.lit (.bool true)], args := [d1, d2, d3] }
  | _ => none }
def alarmNearRow : OpenClaim := { program := "ythopiolbnhjgnaadoor", sum := "7fee5e6c3206e233f9916c6556e69ea68674ccd9fac5ba0bb885a5be8186600d", func := "radome/radomelaw36.AlarmNear", spec := "alarmNear", inPlace := ["math/bits.Add64", "internal/reflectlite.ValueOf", "(internal/reflectlite.Value).Type", "(internal/reflectlite.Value).IsNil", "internal/reflectlite.TypeOf", "(internal/reflectlite.Value).Elem", "(internal/reflectlite.Value).Set"], unfollowed := true, recurses := true, named := ["math/bits.divideError", "math/bits.overflowError", "errors.errorType"], apart := false, laid := [("errors.errorType", laid_errors_errorType)] }
def AlarmNearSaid : Prop := alarmNearRow.holds Tryd.pinned (OpenSpec.ofChange alarmNearSpec)

/-- ITS FALSE NEIGHBOUR: 'it returns false'. Refute it at one input. -/
def alarmNearWrong : ChangeSpec := { name := "alarmNear", fn := fun _ => fun
  | [d1, d2, d3] => { results := [.lit (.bool false)], args := [d1, d2, d3] }
  | _ => none }
def AlarmNearWrongFalsely : Prop := alarmNearRow.holds Tryd.pinned (OpenSpec.ofChange alarmNearWrong)

/-- 'radomelaw36.AlarmAll': WHATEVER THE INPUT: true; the input reads as it did. -/
def alarmAllSpec : ChangeSpec := { name := "alarmAll", fn := fun _ => fun
  | [d1, d2, d3] => { results := [.lit (.bool true)], args := [d1, d2, d3] }
  | _ => none }
def alarmAllRow : OpenClaim := { program := "ythopiolbnhjgnaadoor", sum := "7fee5e6c3206e233f9916c6556e69ea68674ccd9fac5ba0bb885a5be8186600d", func := "radome/radomelaw36.AlarmAll", spec := "alarmAll", inPlace := ["math/bits.Add64", "internal/reflectlite.ValueOf", "(internal/reflectlite.Value).Type", "(internal/reflectlite.Value).IsNil", "internal/reflectlite.TypeOf", "(internal/reflectlite.Value).Elem", "(internal/reflectlite.Value).Set"], unfollowed := true, recurses := true, named := ["math/bits.divideError", "math/bits.overflowError", "errors.errorType"], apart := false, laid := [("errors.errorType", laid_errors_errorType)] }
def AlarmAllSaid : Prop := alarmAllRow.holds Tryd.pinned (OpenSpec.ofChange alarmAllSpec)

/-- ITS FALSE NEIGHBOUR: 'it returns false'. Refute it at one input. -/
def alarmAllWrong : ChangeSpec := { name := "alarmAll", fn := fun _ => fun
  | [d1, d2, d3] => { results := [.lit (.bool false)], args := [d1, d2, d3] }
  | _ => none }
def AlarmAllWrongFalsely : Prop := alarmAllRow.holds Tryd.pinned (OpenSpec.ofChange alarmAllWrong)

/-- 'radomelaw36.AlarmBoth': WHATEVER THE INPUT: true; the input reads as it did. -/
def alarmBothSpec : ChangeSpec := { name := "alarmBoth", fn := fun _ => fun
  | [d1, d2, d3] => { results := [.lit (.bool true)], args := [d1, d2, d3] }
  | _ => none }
def alarmBothRow : OpenClaim := { program := "ythopiolbnhjgnaadoor", sum := "7fee5e6c3206e233f9916c6556e69ea68674ccd9fac5ba0bb885a5be8186600d", func := "radome/radomelaw36.AlarmBoth", spec := "alarmBoth", inPlace := ["math/bits.Add64", "internal/reflectlite.ValueOf", "(internal/reflectlite.Value).Type", "(internal/reflectlite.Value).IsNil", "internal/reflectlite.TypeOf", "(internal/reflectlite.Value).Elem", "(internal/reflectlite.Value).Set"], unfollowed := true, recurses := true, named := ["math/bits.divideError", "math/bits.overflowError", "errors.errorType"], apart := false, laid := [("errors.errorType", laid_errors_errorType)] }
def AlarmBothSaid : Prop := alarmBothRow.holds Tryd.pinned (OpenSpec.ofChange alarmBothSpec)

/-- ITS FALSE NEIGHBOUR: 'it returns false'. Refute it at one input. -/
def alarmBothWrong : ChangeSpec := { name := "alarmBoth", fn := fun _ => fun
  | [d1, d2, d3] => { results := [.lit (.bool false)], args := [d1, d2, d3] }
  | _ => none }
def AlarmBothWrongFalsely : Prop := alarmBothRow.holds Tryd.pinned (OpenSpec.ofChange alarmBothWrong)

/-- 'radomelaw38.TrailRuns': WHATEVER THE INPUT: true; the input reads as it did. -/
def trailRunsSpec : ChangeSpec := { name := "trailRuns", fn := fun _ => fun
  | [d1, d2] => { results := [.lit (.bool true)], args := [d1, d2] }
  | _ => none }
def trailRunsRow : OpenClaim := { program := "ythopiolbnhjgnaadoor", sum := "7fee5e6c3206e233f9916c6556e69ea68674ccd9fac5ba0bb885a5be8186600d", func := "radome/radomelaw38.TrailRuns", spec := "trailRuns", inPlace := ["math/bits.Add64", "internal/reflectlite.ValueOf", "(internal/reflectlite.Value).Type", "(internal/reflectlite.Value).IsNil", "internal/reflectlite.TypeOf", "(internal/reflectlite.Value).Elem", "(internal/reflectlite.Value).Set"], unfollowed := true, recurses := true, named := ["math/bits.divideError", "math/bits.overflowError", "errors.errorType"], apart := false, laid := [("errors.errorType", laid_errors_errorType)] }
def TrailRunsSaid : Prop := trailRunsRow.holds Tryd.pinned (OpenSpec.ofChange trailRunsSpec)

/-- ITS FALSE NEIGHBOUR: 'it returns false'. Refute it at one input. -/
def trailRunsWrong : ChangeSpec := { name := "trailRuns", fn := fun _ => fun
  | [d1, d2] => { results := [.lit (.bool false)], args := [d1, d2] }
  | _ => none }
def TrailRunsWrongFalsely : Prop := trailRunsRow.holds Tryd.pinned (OpenSpec.ofChange trailRunsWrong)

/- THE SECOND FORM. 'bulk': how many values and letters a reading holds, each counted each time it is reached (what is shared counts as often as it is met; a slice's spare places count too). A statement '..UptoSaid' is the law's where the arguments, and the package variables that the reading takes, are together of bulk at most 1048576: NARROWER than '..Said'. Prove '..Said' where nothing that the law and all that it calls make is longer than what came in: it says more and counts as full. Else prove '..UptoSaid'. A law counts once. -/
mutual
def uptoBulk {H : Type} : DataW H → Nat
  | .lit (.string bytes) => bytes.length + 1
  | .lit _ => 1
  | .nil => 1
  | .ptr d => uptoBulk d + 1
  | .slice elems spare => uptoBulkAll elems + uptoBulkAll spare + 1
  | .agg parts => uptoBulkAll parts + 1
  | .iface _ d => uptoBulk d + 1
  | .map entries => uptoBulkEntries entries + 1
  | .held _ => 1
def uptoBulkAll {H : Type} : List (DataW H) → Nat
  | [] => 0
  | d :: r => uptoBulk d + uptoBulkAll r
def uptoBulkEntries {H : Type} : List (Lit × DataW H) → Nat
  | [] => 0
  | x :: r => uptoBulkEntry x + uptoBulkEntries r
def uptoBulkEntry {H : Type} : Lit × DataW H → Nat
  | (.string bytes, d) => bytes.length + uptoBulk d + 1
  | (_, d) => uptoBulk d + 1
 end
def uptoSmall : (H : Type) → List (DataW H) → Bool := fun _ ds => decide (uptoBulkAll ds ≤ 1048576)
def OpenSpec.upto (s : _root_.Go.ChangeSpec) : _root_.Go.OpenSpec := { _root_.Go.OpenSpec.ofChange s with cond := some uptoSmall }

/-- 'radomelaw05.TrigTurns', WHERE WHAT IT READS IS OF BULK AT MOST 1048576: true; the input reads as it did. -/
def trigTurnsUptoRow : OpenClaim := { program := "ythopiolbnhjgnaadoor", sum := "7fee5e6c3206e233f9916c6556e69ea68674ccd9fac5ba0bb885a5be8186600d", func := "radome/radomelaw05.TrigTurns", spec := "trigTurns", inPlace := ["math/bits.Add64", "internal/reflectlite.ValueOf", "(internal/reflectlite.Value).Type", "(internal/reflectlite.Value).IsNil", "internal/reflectlite.TypeOf", "(internal/reflectlite.Value).Elem", "(internal/reflectlite.Value).Set"], unfollowed := true, recurses := true, named := ["errors.errorType"], apart := false, laid := [("errors.errorType", laid_errors_errorType)], narrowed := true }
def TrigTurnsUptoSaid : Prop := trigTurnsUptoRow.holds Tryd.pinned (OpenSpec.upto trigTurnsSpec)

/-- 'radomelaw05.TrigPlaces', WHERE WHAT IT READS IS OF BULK AT MOST 1048576: true; the input reads as it did. -/
def trigPlacesUptoRow : OpenClaim := { program := "ythopiolbnhjgnaadoor", sum := "7fee5e6c3206e233f9916c6556e69ea68674ccd9fac5ba0bb885a5be8186600d", func := "radome/radomelaw05.TrigPlaces", spec := "trigPlaces", inPlace := ["math/bits.Add64", "internal/reflectlite.ValueOf", "(internal/reflectlite.Value).Type", "(internal/reflectlite.Value).IsNil", "internal/reflectlite.TypeOf", "(internal/reflectlite.Value).Elem", "(internal/reflectlite.Value).Set"], unfollowed := true, recurses := true, named := ["errors.errorType"], apart := false, laid := [("errors.errorType", laid_errors_errorType)], narrowed := true }
def TrigPlacesUptoSaid : Prop := trigPlacesUptoRow.holds Tryd.pinned (OpenSpec.upto trigPlacesSpec)

/-- 'radomelaw05.TrigAside', WHERE WHAT IT READS IS OF BULK AT MOST 1048576: true; the input reads as it did. -/
def trigAsideUptoRow : OpenClaim := { program := "ythopiolbnhjgnaadoor", sum := "7fee5e6c3206e233f9916c6556e69ea68674ccd9fac5ba0bb885a5be8186600d", func := "radome/radomelaw05.TrigAside", spec := "trigAside", inPlace := ["math/bits.Add64", "internal/reflectlite.ValueOf", "(internal/reflectlite.Value).Type", "(internal/reflectlite.Value).IsNil", "internal/reflectlite.TypeOf", "(internal/reflectlite.Value).Elem", "(internal/reflectlite.Value).Set"], unfollowed := true, recurses := true, named := ["errors.errorType"], apart := false, laid := [("errors.errorType", laid_errors_errorType)], narrowed := true }
def TrigAsideUptoSaid : Prop := trigAsideUptoRow.holds Tryd.pinned (OpenSpec.upto trigAsideSpec)

/-- 'radomelaw10.PolarOf', WHERE WHAT IT READS IS OF BULK AT MOST 1048576: true; the input reads as it did. -/
def polarOfUptoRow : OpenClaim := { program := "ythopiolbnhjgnaadoor", sum := "7fee5e6c3206e233f9916c6556e69ea68674ccd9fac5ba0bb885a5be8186600d", func := "radome/radomelaw10.PolarOf", spec := "polarOf", inPlace := ["math/bits.Add64", "internal/reflectlite.ValueOf", "(internal/reflectlite.Value).Type", "(internal/reflectlite.Value).IsNil", "internal/reflectlite.TypeOf", "(internal/reflectlite.Value).Elem", "(internal/reflectlite.Value).Set"], unfollowed := true, recurses := true, named := ["errors.errorType"], apart := false, laid := [("errors.errorType", laid_errors_errorType)], narrowed := true }
def PolarOfUptoSaid : Prop := polarOfUptoRow.holds Tryd.pinned (OpenSpec.upto polarOfSpec)

/-- 'radomelaw10.PolarSpreads', WHERE WHAT IT READS IS OF BULK AT MOST 1048576: true; the input reads as it did. -/
def polarSpreadsUptoRow : OpenClaim := { program := "ythopiolbnhjgnaadoor", sum := "7fee5e6c3206e233f9916c6556e69ea68674ccd9fac5ba0bb885a5be8186600d", func := "radome/radomelaw10.PolarSpreads", spec := "polarSpreads", inPlace := ["math/bits.Add64", "internal/reflectlite.ValueOf", "(internal/reflectlite.Value).Type", "(internal/reflectlite.Value).IsNil", "internal/reflectlite.TypeOf", "(internal/reflectlite.Value).Elem", "(internal/reflectlite.Value).Set"], unfollowed := true, recurses := true, named := ["errors.errorType"], apart := false, laid := [("errors.errorType", laid_errors_errorType)], narrowed := true }
def PolarSpreadsUptoSaid : Prop := polarSpreadsUptoRow.holds Tryd.pinned (OpenSpec.upto polarSpreadsSpec)

/-- 'radomelaw10.PolarQuarter', WHERE WHAT IT READS IS OF BULK AT MOST 1048576: true; the input reads as it did. -/
def polarQuarterUptoRow : OpenClaim := { program := "ythopiolbnhjgnaadoor", sum := "7fee5e6c3206e233f9916c6556e69ea68674ccd9fac5ba0bb885a5be8186600d", func := "radome/radomelaw10.PolarQuarter", spec := "polarQuarter", inPlace := ["math/bits.Add64", "internal/reflectlite.ValueOf", "(internal/reflectlite.Value).Type", "(internal/reflectlite.Value).IsNil", "internal/reflectlite.TypeOf", "(internal/reflectlite.Value).Elem", "(internal/reflectlite.Value).Set"], unfollowed := true, recurses := true, named := ["errors.errorType"], apart := false, laid := [("errors.errorType", laid_errors_errorType)], narrowed := true }
def PolarQuarterUptoSaid : Prop := polarQuarterUptoRow.holds Tryd.pinned (OpenSpec.upto polarQuarterSpec)

/-- 'radomelaw36.AlarmNear', WHERE WHAT IT READS IS OF BULK AT MOST 1048576: true; the input reads as it did. -/
def alarmNearUptoRow : OpenClaim := { program := "ythopiolbnhjgnaadoor", sum := "7fee5e6c3206e233f9916c6556e69ea68674ccd9fac5ba0bb885a5be8186600d", func := "radome/radomelaw36.AlarmNear", spec := "alarmNear", inPlace := ["math/bits.Add64", "internal/reflectlite.ValueOf", "(internal/reflectlite.Value).Type", "(internal/reflectlite.Value).IsNil", "internal/reflectlite.TypeOf", "(internal/reflectlite.Value).Elem", "(internal/reflectlite.Value).Set"], unfollowed := true, recurses := true, named := ["math/bits.divideError", "math/bits.overflowError", "errors.errorType"], apart := false, laid := [("errors.errorType", laid_errors_errorType)], narrowed := true }
def AlarmNearUptoSaid : Prop := alarmNearUptoRow.holds Tryd.pinned (OpenSpec.upto alarmNearSpec)

/-- 'radomelaw36.AlarmAll', WHERE WHAT IT READS IS OF BULK AT MOST 1048576: true; the input reads as it did. -/
def alarmAllUptoRow : OpenClaim := { program := "ythopiolbnhjgnaadoor", sum := "7fee5e6c3206e233f9916c6556e69ea68674ccd9fac5ba0bb885a5be8186600d", func := "radome/radomelaw36.AlarmAll", spec := "alarmAll", inPlace := ["math/bits.Add64", "internal/reflectlite.ValueOf", "(internal/reflectlite.Value).Type", "(internal/reflectlite.Value).IsNil", "internal/reflectlite.TypeOf", "(internal/reflectlite.Value).Elem", "(internal/reflectlite.Value).Set"], unfollowed := true, recurses := true, named := ["math/bits.divideError", "math/bits.overflowError", "errors.errorType"], apart := false, laid := [("errors.errorType", laid_errors_errorType)], narrowed := true }
def AlarmAllUptoSaid : Prop := alarmAllUptoRow.holds Tryd.pinned (OpenSpec.upto alarmAllSpec)

/-- 'radomelaw36.AlarmBoth', WHERE WHAT IT READS IS OF BULK AT MOST 1048576: true; the input reads as it did. -/
def alarmBothUptoRow : OpenClaim := { program := "ythopiolbnhjgnaadoor", sum := "7fee5e6c3206e233f9916c6556e69ea68674ccd9fac5ba0bb885a5be8186600d", func := "radome/radomelaw36.AlarmBoth", spec := "alarmBoth", inPlace := ["math/bits.Add64", "internal/reflectlite.ValueOf", "(internal/reflectlite.Value).Type", "(internal/reflectlite.Value).IsNil", "internal/reflectlite.TypeOf", "(internal/reflectlite.Value).Elem", "(internal/reflectlite.Value).Set"], unfollowed := true, recurses := true, named := ["math/bits.divideError", "math/bits.overflowError", "errors.errorType"], apart := false, laid := [("errors.errorType", laid_errors_errorType)], narrowed := true }
def AlarmBothUptoSaid : Prop := alarmBothUptoRow.holds Tryd.pinned (OpenSpec.upto alarmBothSpec)

/-- 'radomelaw38.TrailRuns', WHERE WHAT IT READS IS OF BULK AT MOST 1048576: true; the input reads as it did. -/
def trailRunsUptoRow : OpenClaim := { program := "ythopiolbnhjgnaadoor", sum := "7fee5e6c3206e233f9916c6556e69ea68674ccd9fac5ba0bb885a5be8186600d", func := "radome/radomelaw38.TrailRuns", spec := "trailRuns", inPlace := ["math/bits.Add64", "internal/reflectlite.ValueOf", "(internal/reflectlite.Value).Type", "(internal/reflectlite.Value).IsNil", "internal/reflectlite.TypeOf", "(internal/reflectlite.Value).Elem", "(internal/reflectlite.Value).Set"], unfollowed := true, recurses := true, named := ["math/bits.divideError", "math/bits.overflowError", "errors.errorType"], apart := false, laid := [("errors.errorType", laid_errors_errorType)], narrowed := true }
def TrailRunsUptoSaid : Prop := trailRunsUptoRow.holds Tryd.pinned (OpenSpec.upto trailRunsSpec)

end Rows
end Go.Proofs.YthopiolbnhjgnaaDoor

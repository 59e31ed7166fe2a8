/-
  NARROWER THAN 'FOR EVERY INPUT', by the rows' own cells (each row's printed sentence says how): CalendarDates: laid · CalendarReckons: laid · CalendarPlays: laid · CalendarKnown: laid.
  DERIVED. THE GIVEN ROWS OF THIS SEAT. 4 by the template 'for every input the law returns true; each argument reads behind the call as it read before'; 0 by the template 'total and deterministic' (their statements: YtlnkdgjlbpldpaaDoorTotals.lean).
  GIVEN WITH THE SEED: the statements are not yours to turn. If you find one false, say at which input.
  Laid BY PROGRAM, IN A SANDBOX (cutbox-rows.mjs): the forced cells as the released guide's own fill.sh prints them over the translation 540c083038b8e4e3… (all of the seat's roots in one cut). By AI agents, Wed Nov 11 2026. No macro, syntax, notation, axiom, sorry.
-/
import Derived.Test.YtlnkdgjlbpldpaaDoorChecked
import GoSem.Claim
import GoSem.ClaimJoined
import GoSem.ClaimMapViews
import Derived.JoinedTies
import Derived.KernelRfl
namespace Go.Proofs.YtlnkdgjlbpldpaaDoor
/- THE CELL 'sum', in the pinned program and in every row, IS THE sha256 OF THE DUMP (.gsa) THAT YtlnkdgjlbpldpaaDoorProg.lean LOADS. Nothing in Lean hashes anything: it is a label: what it is worth is what the hold of that sum in a sandbox is worth. -/
noncomputable def Tryd.pinned : Pinned := { name := "ytlnkdgjlbpldpaadoor", sum := "540c083038b8e4e3a856c58f764ff8577e4e729bfa58d722e63ff07bca7fed0d", checked := Tryd.checked }
namespace Rows
def none {H : Type} : Left H := { results := [], args := [] }

/- WHAT THE LISTED PACKAGE-LEVEL VARIABLES READ AS WHEN THE CALL BEGINS. Each datum BY PROGRAM (the guide's laid-datum.mjs) off the statement by which the dump's own 'gosem.cut.vars' lays the variable. In a bare row this is a premise. The card (YtlnkdgjlbpldpaaDoorCards.lean) ties it to the program's text. -/
def laid_errors_errorType {H : Type} : DataW H := .iface "internal/reflectlite.rtype" (.agg [.ptr (.lit (.string [101, 114, 114, 111, 114]))])

/-- 'custodylaw03.CalendarDates': WHATEVER THE INPUT: true; the input reads as it did. -/
def calendarDatesSpec : ChangeSpec := { name := "calendarDates", fn := fun _ => fun
  | [d1, d2] => { results := [.lit (.bool true)], args := [d1, d2] }
  | _ => none }
def calendarDatesRow : OpenClaim := { program := "ytlnkdgjlbpldpaadoor", sum := "540c083038b8e4e3a856c58f764ff8577e4e729bfa58d722e63ff07bca7fed0d", func := "custody/custodylaw03.CalendarDates", spec := "calendarDates", inPlace := ["internal/reflectlite.TypeOf", "internal/reflectlite.ValueOf", "(internal/reflectlite.Value).Type", "(internal/reflectlite.Value).IsNil", "(internal/reflectlite.Value).Elem", "(internal/reflectlite.Value).Set"], unfollowed := true, recurses := true, named := ["errors.errorType"], apart := false, laid := [("errors.errorType", laid_errors_errorType)] }
def CalendarDatesSaid : Prop := calendarDatesRow.holds Tryd.pinned (OpenSpec.ofChange calendarDatesSpec)

/-- ITS FALSE NEIGHBOUR: 'it returns false'. Refute it at one input. -/
def calendarDatesWrong : ChangeSpec := { name := "calendarDates", fn := fun _ => fun
  | [d1, d2] => { results := [.lit (.bool false)], args := [d1, d2] }
  | _ => none }
def CalendarDatesWrongFalsely : Prop := calendarDatesRow.holds Tryd.pinned (OpenSpec.ofChange calendarDatesWrong)

/-- 'custodylaw03.CalendarReckons': WHATEVER THE INPUT: true; the input reads as it did. -/
def calendarReckonsSpec : ChangeSpec := { name := "calendarReckons", fn := fun _ => fun
  | [d] => { results := [.lit (.bool true)], args := [d] }
  | _ => none }
def calendarReckonsRow : OpenClaim := { program := "ytlnkdgjlbpldpaadoor", sum := "540c083038b8e4e3a856c58f764ff8577e4e729bfa58d722e63ff07bca7fed0d", func := "custody/custodylaw03.CalendarReckons", spec := "calendarReckons", inPlace := ["internal/reflectlite.TypeOf", "internal/reflectlite.ValueOf", "(internal/reflectlite.Value).Type", "(internal/reflectlite.Value).IsNil", "(internal/reflectlite.Value).Elem", "(internal/reflectlite.Value).Set"], unfollowed := true, recurses := true, named := ["errors.errorType"], apart := false, laid := [("errors.errorType", laid_errors_errorType)] }
def CalendarReckonsSaid : Prop := calendarReckonsRow.holds Tryd.pinned (OpenSpec.ofChange calendarReckonsSpec)

/-- ITS FALSE NEIGHBOUR: 'it returns false'. Refute it at one input. -/
def calendarReckonsWrong : ChangeSpec := { name := "calendarReckons", fn := fun _ => fun
  | [d] => { results := [.lit (.bool false)], args := [d] }
  | _ => none }
def CalendarReckonsWrongFalsely : Prop := calendarReckonsRow.holds Tryd.pinned (OpenSpec.ofChange calendarReckonsWrong)

/-- 'custodylaw03.CalendarPlays': WHATEVER THE INPUT: true; the input reads as it did. -/
def calendarPlaysSpec : ChangeSpec := { name := "calendarPlays", fn := fun _ => fun
  | [d1, d2, d3] => { results := [.lit (.bool true)], args := [d1, d2, d3] }
  | _ => none }
def calendarPlaysRow : OpenClaim := { program := "ytlnkdgjlbpldpaadoor", sum := "540c083038b8e4e3a856c58f764ff8577e4e729bfa58d722e63ff07bca7fed0d", func := "custody/custodylaw03.CalendarPlays", spec := "calendarPlays", inPlace := ["internal/reflectlite.TypeOf", "internal/reflectlite.ValueOf", "(internal/reflectlite.Value).Type", "(internal/reflectlite.Value).IsNil", "(internal/reflectlite.Value).Elem", "(internal/reflectlite.Value).Set"], unfollowed := true, recurses := true, named := ["errors.errorType"], apart := false, laid := [("errors.errorType", laid_errors_errorType)] }
def CalendarPlaysSaid : Prop := calendarPlaysRow.holds Tryd.pinned (OpenSpec.ofChange calendarPlaysSpec)

/-- ITS FALSE NEIGHBOUR: 'it returns false'. Refute it at one input. -/
def calendarPlaysWrong : ChangeSpec := { name := "calendarPlays", fn := fun _ => fun
  | [d1, d2, d3] => { results := [.lit (.bool false)], args := [d1, d2, d3] }
  | _ => none }
def CalendarPlaysWrongFalsely : Prop := calendarPlaysRow.holds Tryd.pinned (OpenSpec.ofChange calendarPlaysWrong)

/-- 'custodylaw03.CalendarKnown': WHATEVER THE INPUT: true; the input reads as it did. -/
def calendarKnownSpec : ChangeSpec := { name := "calendarKnown", fn := fun _ => fun
  | [] => { results := [.lit (.bool true)], args := [] }
  | _ => none }
def calendarKnownRow : OpenClaim := { program := "ytlnkdgjlbpldpaadoor", sum := "540c083038b8e4e3a856c58f764ff8577e4e729bfa58d722e63ff07bca7fed0d", func := "custody/custodylaw03.CalendarKnown", spec := "calendarKnown", inPlace := ["internal/reflectlite.TypeOf", "internal/reflectlite.ValueOf", "(internal/reflectlite.Value).Type", "(internal/reflectlite.Value).IsNil", "(internal/reflectlite.Value).Elem", "(internal/reflectlite.Value).Set"], unfollowed := true, recurses := true, named := ["errors.errorType"], apart := false, laid := [("errors.errorType", laid_errors_errorType)] }
def CalendarKnownSaid : Prop := calendarKnownRow.holds Tryd.pinned (OpenSpec.ofChange calendarKnownSpec)

/-- ITS FALSE NEIGHBOUR: 'it returns false'. Refute it at one input. -/
def calendarKnownWrong : ChangeSpec := { name := "calendarKnown", fn := fun _ => fun
  | [] => { results := [.lit (.bool false)], args := [] }
  | _ => none }
def CalendarKnownWrongFalsely : Prop := calendarKnownRow.holds Tryd.pinned (OpenSpec.ofChange calendarKnownWrong)

/- THE SECOND FORM. 'bulk': how many values and letters a reading holds, each counted each time it is reached (what is shared counts as often as it is met; a slice's spare places count too). A statement '..UptoSaid' is the law's where the arguments, and the package variables that the reading takes, are together of bulk at most 1048576: NARROWER than '..Said'. Prove '..Said' where nothing that the law and all that it calls make is longer than what came in: it says more and counts as full. Else prove '..UptoSaid'. A law counts once. -/
mutual
def uptoBulk {H : Type} : DataW H → Nat
  | .lit (.string bytes) => bytes.length + 1
  | .lit _ => 1
  | .nil => 1
  | .ptr d => uptoBulk d + 1
  | .slice elems spare => uptoBulkAll elems + uptoBulkAll spare + 1
  | .agg parts => uptoBulkAll parts + 1
  | .iface _ d => uptoBulk d + 1
  | .map entries => uptoBulkEntries entries + 1
  | .held _ => 1
def uptoBulkAll {H : Type} : List (DataW H) → Nat
  | [] => 0
  | d :: r => uptoBulk d + uptoBulkAll r
def uptoBulkEntries {H : Type} : List (Lit × DataW H) → Nat
  | [] => 0
  | x :: r => uptoBulkEntry x + uptoBulkEntries r
def uptoBulkEntry {H : Type} : Lit × DataW H → Nat
  | (.string bytes, d) => bytes.length + uptoBulk d + 1
  | (_, d) => uptoBulk d + 1
 end
def uptoSmall : (H : Type) → List (DataW H) → Bool := fun _ ds => decide (uptoBulkAll ds ≤ 1048576)
def OpenSpec.upto (s : _root_.Go.ChangeSpec) : _root_.Go.OpenSpec := { _root_.Go.OpenSpec.ofChange s with cond := some uptoSmall }

/-- 'custodylaw03.CalendarDates', WHERE WHAT IT READS IS OF BULK AT MOST 1048576: true; the input reads as it did. -/
def calendarDatesUptoRow : OpenClaim := { program := "ytlnkdgjlbpldpaadoor", sum := "540c083038b8e4e3a856c58f764ff8577e4e729bfa58d722e63ff07bca7fed0d", func := "custody/custodylaw03.CalendarDates", spec := "calendarDates", inPlace := ["internal/reflectlite.TypeOf", "internal/reflectlite.ValueOf", "(internal/reflectlite.Value).Type", "(internal/reflectlite.Value).IsNil", "(internal/reflectlite.Value).Elem", "(internal/reflectlite.Value).Set"], unfollowed := true, recurses := true, named := ["errors.errorType"], apart := false, laid := [("errors.errorType", laid_errors_errorType)], narrowed := true }
def CalendarDatesUptoSaid : Prop := calendarDatesUptoRow.holds Tryd.pinned (OpenSpec.upto calendarDatesSpec)

/-- 'custodylaw03.CalendarReckons', WHERE WHAT IT READS IS OF BULK AT MOST 1048576: true; the input reads as it did. -/
def calendarReckonsUptoRow : OpenClaim := { program := "ytlnkdgjlbpldpaadoor", sum := "540c083038b8e4e3a856c58f764ff8577e4e729bfa58d722e63ff07bca7fed0d", func := "custody/custodylaw03.CalendarReckons", spec := "calendarReckons", inPlace := ["internal/reflectlite.TypeOf", "internal/reflectlite.ValueOf", "(internal/reflectlite.Value).Type", "(internal/reflectlite.Value).IsNil", "(internal/reflectlite.Value).Elem", "(internal/reflectlite.Value).Set"], unfollowed := true, recurses := true, named := ["errors.errorType"], apart := false, laid := [("errors.errorType", laid_errors_errorType)], narrowed := true }
def CalendarReckonsUptoSaid : Prop := calendarReckonsUptoRow.holds Tryd.pinned (OpenSpec.upto calendarReckonsSpec)

/-- 'custodylaw03.CalendarPlays', WHERE WHAT IT READS IS OF BULK AT MOST 1048576: true; the input reads as it did. -/
def calendarPlaysUptoRow : OpenClaim := { program := "ytlnkdgjlbpldpaadoor", sum := "540c083038b8e4e3a856c58f764ff8577e4e729bfa58d722e63ff07bca7fed0d", func := "custody/custodylaw03.CalendarPlays", spec := "calendarPlays", inPlace := ["internal/reflectlite.TypeOf", "internal/reflectlite.ValueOf", "(internal/reflectlite.Value).Type", "(internal/reflectlite.Value).IsNil", "(internal/reflectlite.Value).Elem", "(internal/reflectlite.Value).Set"], unfollowed := true, recurses := true, named := ["errors.errorType"], apart := false, laid := [("errors.errorType", laid_errors_errorType)], narrowed := true }
def CalendarPlaysUptoSaid : Prop := calendarPlaysUptoRow.holds Tryd.pinned (OpenSpec.upto calendarPlaysSpec)

/-- 'custodylaw03.CalendarKnown', WHERE WHAT IT READS IS OF BULK AT MOST 1048576: true; the input reads as it did. -/
def calendarKnownUptoRow : OpenClaim := { program := "ytlnkdgjlbpldpaadoor", sum := "540c083038b8e4e3a856c58f764ff8577e4e729bfa58d722e63ff07bca7fed0d", func := "custody/custodylaw03.CalendarKnown", spec := "calendarKnown", inPlace := ["internal/reflectlite.TypeOf", "internal/reflectlite.ValueOf", "(internal/reflectlite.Value).Type", "(internal/reflectlite.Value).IsNil", "(internal/reflectlite.Value).Elem", "(internal/reflectlite.Value).Set"], unfollowed := true, recurses := true, named := ["errors.errorType"], apart := false, laid := [("errors.errorType", laid_errors_errorType)], narrowed := true }
def CalendarKnownUptoSaid : Prop := calendarKnownUptoRow.holds Tryd.pinned (OpenSpec.upto calendarKnownSpec)

end Rows
end Go.Proofs.YtlnkdgjlbpldpaaDoor

/-
  No cell of these rows narrows 'for every input' (looked for: loops, veiled, ifaces, maps, wideKeys, modest, calm, conditions, laid).
  DERIVED. THE GIVEN ROWS OF THIS SEAT. 4 by the template 'for every input the law returns true; each argument reads behind the call as it read before'; 0 by the template 'total and deterministic' (their statements: YtlnkdgjlbpldpaaTotals.lean).
  GIVEN WITH THE SEED: the statements are not yours to turn. If you find one false, say at which input.
  Laid BY PROGRAM, IN A SANDBOX (cutbox-rows.mjs): the forced cells as the released guide's own fill.sh prints them over the translation 58c4cf94ca215ed9… (all of the seat's roots in one cut). By AI agents, Wed Nov 11 2026. No macro, syntax, notation, axiom, sorry.
-/
import Derived.Test.YtlnkdgjlbpldpaaChecked
import GoSem.Claim
import GoSem.ClaimJoined
import GoSem.ClaimMapViews
import Derived.JoinedTies
import Derived.KernelRfl
namespace Go.Proofs.Ytlnkdgjlbpldpaa
/- THE CELL 'sum', in the pinned program and in every row, IS THE sha256 OF THE DUMP (.gsa) THAT YtlnkdgjlbpldpaaProg.lean LOADS. Nothing in Lean hashes anything: it is a label: what it is worth is what the hold of that sum in a sandbox is worth. -/
noncomputable def Try.pinned : Pinned := { name := "ytlnkdgjlbpldpaa", sum := "58c4cf94ca215ed972457b7bc64d811b8985809bc6d905dbfac6512ca7c16b45", checked := Try.checked }
namespace Rows
def none {H : Type} : Left H := { results := [], args := [] }

/-- 'custodylaw03.CalendarBack': WHATEVER THE INPUT: true; the input reads as it did. -/
def calendarBackSpec : ChangeSpec := { name := "calendarBack", fn := fun _ => fun
  | [d1, d2, d3] => { results := [.lit (.bool true)], args := [d1, d2, d3] }
  | _ => none }
def calendarBackRow : OpenClaim := { program := "ytlnkdgjlbpldpaa", sum := "58c4cf94ca215ed972457b7bc64d811b8985809bc6d905dbfac6512ca7c16b45", func := "custody/custodylaw03.CalendarBack", spec := "calendarBack", apart := false }
def CalendarBackSaid : Prop := calendarBackRow.holds Try.pinned (OpenSpec.ofChange calendarBackSpec)

/-- ITS FALSE NEIGHBOUR: 'it returns false'. Refute it at one input. -/
def calendarBackWrong : ChangeSpec := { name := "calendarBack", fn := fun _ => fun
  | [d1, d2, d3] => { results := [.lit (.bool false)], args := [d1, d2, d3] }
  | _ => none }
def CalendarBackWrongFalsely : Prop := calendarBackRow.holds Try.pinned (OpenSpec.ofChange calendarBackWrong)

/-- 'custodylaw03.CalendarWeeks': WHATEVER THE INPUT: true; the input reads as it did. -/
def calendarWeeksSpec : ChangeSpec := { name := "calendarWeeks", fn := fun _ => fun
  | [d] => { results := [.lit (.bool true)], args := [d] }
  | _ => none }
def calendarWeeksRow : OpenClaim := { program := "ytlnkdgjlbpldpaa", sum := "58c4cf94ca215ed972457b7bc64d811b8985809bc6d905dbfac6512ca7c16b45", func := "custody/custodylaw03.CalendarWeeks", spec := "calendarWeeks", apart := false }
def CalendarWeeksSaid : Prop := calendarWeeksRow.holds Try.pinned (OpenSpec.ofChange calendarWeeksSpec)

/-- ITS FALSE NEIGHBOUR: 'it returns false'. Refute it at one input. -/
def calendarWeeksWrong : ChangeSpec := { name := "calendarWeeks", fn := fun _ => fun
  | [d] => { results := [.lit (.bool false)], args := [d] }
  | _ => none }
def CalendarWeeksWrongFalsely : Prop := calendarWeeksRow.holds Try.pinned (OpenSpec.ofChange calendarWeeksWrong)

/-- 'custodylaw03.CalendarSteps': WHATEVER THE INPUT: true; the input reads as it did. -/
def calendarStepsSpec : ChangeSpec := { name := "calendarSteps", fn := fun _ => fun
  | [d1, d2, d3, d4] => { results := [.lit (.bool true)], args := [d1, d2, d3, d4] }
  | _ => none }
def calendarStepsRow : OpenClaim := { program := "ytlnkdgjlbpldpaa", sum := "58c4cf94ca215ed972457b7bc64d811b8985809bc6d905dbfac6512ca7c16b45", func := "custody/custodylaw03.CalendarSteps", spec := "calendarSteps", apart := false }
def CalendarStepsSaid : Prop := calendarStepsRow.holds Try.pinned (OpenSpec.ofChange calendarStepsSpec)

/-- ITS FALSE NEIGHBOUR: 'it returns false'. Refute it at one input. -/
def calendarStepsWrong : ChangeSpec := { name := "calendarSteps", fn := fun _ => fun
  | [d1, d2, d3, d4] => { results := [.lit (.bool false)], args := [d1, d2, d3, d4] }
  | _ => none }
def CalendarStepsWrongFalsely : Prop := calendarStepsRow.holds Try.pinned (OpenSpec.ofChange calendarStepsWrong)

/-- 'custodylaw03.CalendarStands': WHATEVER THE INPUT: true; the input reads as it did. -/
def calendarStandsSpec : ChangeSpec := { name := "calendarStands", fn := fun _ => fun
  | [d1, d2, d3] => { results := [.lit (.bool true)], args := [d1, d2, d3] }
  | _ => none }
def calendarStandsRow : OpenClaim := { program := "ytlnkdgjlbpldpaa", sum := "58c4cf94ca215ed972457b7bc64d811b8985809bc6d905dbfac6512ca7c16b45", func := "custody/custodylaw03.CalendarStands", spec := "calendarStands", apart := false }
def CalendarStandsSaid : Prop := calendarStandsRow.holds Try.pinned (OpenSpec.ofChange calendarStandsSpec)

/-- ITS FALSE NEIGHBOUR: 'it returns false'. Refute it at one input. -/
def calendarStandsWrong : ChangeSpec := { name := "calendarStands", fn := fun _ => fun
  | [d1, d2, d3] => { results := [.lit (.bool false)], args := [d1, d2, d3] }
  | _ => none }
def CalendarStandsWrongFalsely : Prop := calendarStandsRow.holds Try.pinned (OpenSpec.ofChange calendarStandsWrong)

/- THE SECOND FORM. 'bulk': how many values and letters a reading holds, each counted each time it is reached (what is shared counts as often as it is met; a slice's spare places count too). A statement '..UptoSaid' is the law's where the arguments, and the package variables that the reading takes, are together of bulk at most 1048576: NARROWER than '..Said'. Prove '..Said' where nothing that the law and all that it calls make is longer than what came in: it says more and counts as full. Else prove '..UptoSaid'. A law counts once. -/
mutual
def uptoBulk {H : Type} : DataW H → Nat
  | .lit (.string bytes) => bytes.length + 1
  | .lit _ => 1
  | .nil => 1
  | .ptr d => uptoBulk d + 1
  | .slice elems spare => uptoBulkAll elems + uptoBulkAll spare + 1
  | .agg parts => uptoBulkAll parts + 1
  | .iface _ d => uptoBulk d + 1
  | .map entries => uptoBulkEntries entries + 1
  | .held _ => 1
def uptoBulkAll {H : Type} : List (DataW H) → Nat
  | [] => 0
  | d :: r => uptoBulk d + uptoBulkAll r
def uptoBulkEntries {H : Type} : List (Lit × DataW H) → Nat
  | [] => 0
  | x :: r => uptoBulkEntry x + uptoBulkEntries r
def uptoBulkEntry {H : Type} : Lit × DataW H → Nat
  | (.string bytes, d) => bytes.length + uptoBulk d + 1
  | (_, d) => uptoBulk d + 1
 end
def uptoSmall : (H : Type) → List (DataW H) → Bool := fun _ ds => decide (uptoBulkAll ds ≤ 1048576)
def OpenSpec.upto (s : _root_.Go.ChangeSpec) : _root_.Go.OpenSpec := { _root_.Go.OpenSpec.ofChange s with cond := some uptoSmall }

/-- 'custodylaw03.CalendarBack', WHERE WHAT IT READS IS OF BULK AT MOST 1048576: true; the input reads as it did. -/
def calendarBackUptoRow : OpenClaim := { program := "ytlnkdgjlbpldpaa", sum := "58c4cf94ca215ed972457b7bc64d811b8985809bc6d905dbfac6512ca7c16b45", func := "custody/custodylaw03.CalendarBack", spec := "calendarBack", apart := false, narrowed := true }
def CalendarBackUptoSaid : Prop := calendarBackUptoRow.holds Try.pinned (OpenSpec.upto calendarBackSpec)

/-- 'custodylaw03.CalendarWeeks', WHERE WHAT IT READS IS OF BULK AT MOST 1048576: true; the input reads as it did. -/
def calendarWeeksUptoRow : OpenClaim := { program := "ytlnkdgjlbpldpaa", sum := "58c4cf94ca215ed972457b7bc64d811b8985809bc6d905dbfac6512ca7c16b45", func := "custody/custodylaw03.CalendarWeeks", spec := "calendarWeeks", apart := false, narrowed := true }
def CalendarWeeksUptoSaid : Prop := calendarWeeksUptoRow.holds Try.pinned (OpenSpec.upto calendarWeeksSpec)

/-- 'custodylaw03.CalendarSteps', WHERE WHAT IT READS IS OF BULK AT MOST 1048576: true; the input reads as it did. -/
def calendarStepsUptoRow : OpenClaim := { program := "ytlnkdgjlbpldpaa", sum := "58c4cf94ca215ed972457b7bc64d811b8985809bc6d905dbfac6512ca7c16b45", func := "custody/custodylaw03.CalendarSteps", spec := "calendarSteps", apart := false, narrowed := true }
def CalendarStepsUptoSaid : Prop := calendarStepsUptoRow.holds Try.pinned (OpenSpec.upto calendarStepsSpec)

/-- 'custodylaw03.CalendarStands', WHERE WHAT IT READS IS OF BULK AT MOST 1048576: true; the input reads as it did. -/
def calendarStandsUptoRow : OpenClaim := { program := "ytlnkdgjlbpldpaa", sum := "58c4cf94ca215ed972457b7bc64d811b8985809bc6d905dbfac6512ca7c16b45", func := "custody/custodylaw03.CalendarStands", spec := "calendarStands", apart := false, narrowed := true }
def CalendarStandsUptoSaid : Prop := calendarStandsUptoRow.holds Try.pinned (OpenSpec.upto calendarStandsSpec)

end Rows
end Go.Proofs.Ytlnkdgjlbpldpaa

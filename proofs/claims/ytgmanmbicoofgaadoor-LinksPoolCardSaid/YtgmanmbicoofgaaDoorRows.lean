/-
  NARROWER THAN 'FOR EVERY INPUT', by the rows' own cells (each row's printed sentence says how): LinksGroups: laid · LinksOrder: laid · LinksPool: laid · LinksResolve: laid · LinksSorted: laid.
  DERIVED. THE GIVEN ROWS OF THIS SEAT. 5 by the template 'for every input the law returns true; each argument reads behind the call as it read before'; 0 by the template 'total and deterministic' (their statements: YtgmanmbicoofgaaDoorTotals.lean).
  GIVEN WITH THE SEED: the statements are not yours to turn. If you find one false, say at which input.
  Laid BY PROGRAM, IN A SANDBOX (cutbox-rows.mjs): the forced cells as the released guide's own fill.sh prints them over the translation bb00c7b2cb11d92b… (all of the seat's roots in one cut). By AI agents, Wed Nov 11 2026. No macro, syntax, notation, axiom, sorry.
-/
import Derived.Test.YtgmanmbicoofgaaDoorChecked
import GoSem.Claim
import GoSem.ClaimJoined
import GoSem.ClaimMapViews
import Derived.JoinedTies
import Derived.KernelRfl
namespace Go.Proofs.YtgmanmbicoofgaaDoor
/- THE CELL 'sum', in the pinned program and in every row, IS THE sha256 OF THE DUMP (.gsa) THAT YtgmanmbicoofgaaDoorProg.lean LOADS. Nothing in Lean hashes anything: it is a label: what it is worth is what the hold of that sum in a sandbox is worth. -/
noncomputable def Tryd.pinned : Pinned := { name := "ytgmanmbicoofgaadoor", sum := "bb00c7b2cb11d92b7bc42883b16b2f1486569a0345ccc92b8dc011ca75d7d720", checked := Tryd.checked }
namespace Rows
def none {H : Type} : Left H := { results := [], args := [] }

/- WHAT THE LISTED PACKAGE-LEVEL VARIABLES READ AS WHEN THE CALL BEGINS. Each datum BY PROGRAM (the guide's laid-datum.mjs) off the statement by which the dump's own 'gosem.cut.vars' lays the variable. In a bare row this is a premise. The card (YtgmanmbicoofgaaDoorCards.lean) ties it to the program's text. -/
def laid_errors_errorType {H : Type} : DataW H := .iface "internal/reflectlite.rtype" (.agg [.ptr (.lit (.string [101, 114, 114, 111, 114]))])

/-- 'custodylaw23.LinksGroups': WHATEVER THE INPUT: true; the input reads as it did. -/
def linksGroupsSpec : ChangeSpec := { name := "linksGroups", fn := fun _ => fun
  | [d1, d2] => { results := [.lit (.bool true)], args := [d1, d2] }
  | _ => none }
def linksGroupsRow : OpenClaim := { program := "ytgmanmbicoofgaadoor", sum := "bb00c7b2cb11d92b7bc42883b16b2f1486569a0345ccc92b8dc011ca75d7d720", func := "custody/custodylaw23.LinksGroups", spec := "linksGroups", inPlace := ["internal/reflectlite.ValueOf", "(internal/reflectlite.Value).Type", "(internal/reflectlite.Value).IsNil", "internal/reflectlite.TypeOf", "(internal/reflectlite.Value).Elem", "(internal/reflectlite.Value).Set"], unfollowed := true, recurses := true, named := ["errors.errorType"], plainKeys := false, apart := false, laid := [("errors.errorType", laid_errors_errorType)] }
def LinksGroupsSaid : Prop := linksGroupsRow.holds Tryd.pinned (OpenSpec.ofChange linksGroupsSpec)

/-- ITS FALSE NEIGHBOUR: 'it returns false'. Refute it at one input. -/
def linksGroupsWrong : ChangeSpec := { name := "linksGroups", fn := fun _ => fun
  | [d1, d2] => { results := [.lit (.bool false)], args := [d1, d2] }
  | _ => none }
def LinksGroupsWrongFalsely : Prop := linksGroupsRow.holds Tryd.pinned (OpenSpec.ofChange linksGroupsWrong)

/-- 'custodylaw23.LinksOrder': WHATEVER THE INPUT: true; the input reads as it did. -/
def linksOrderSpec : ChangeSpec := { name := "linksOrder", fn := fun _ => fun
  | [d1, d2, d3] => { results := [.lit (.bool true)], args := [d1, d2, d3] }
  | _ => none }
def linksOrderRow : OpenClaim := { program := "ytgmanmbicoofgaadoor", sum := "bb00c7b2cb11d92b7bc42883b16b2f1486569a0345ccc92b8dc011ca75d7d720", func := "custody/custodylaw23.LinksOrder", spec := "linksOrder", inPlace := ["internal/reflectlite.ValueOf", "(internal/reflectlite.Value).Type", "(internal/reflectlite.Value).IsNil", "internal/reflectlite.TypeOf", "(internal/reflectlite.Value).Elem", "(internal/reflectlite.Value).Set"], unfollowed := true, recurses := true, named := ["errors.errorType"], plainKeys := false, apart := false, laid := [("errors.errorType", laid_errors_errorType)] }
def LinksOrderSaid : Prop := linksOrderRow.holds Tryd.pinned (OpenSpec.ofChange linksOrderSpec)

/-- ITS FALSE NEIGHBOUR: 'it returns false'. Refute it at one input. -/
def linksOrderWrong : ChangeSpec := { name := "linksOrder", fn := fun _ => fun
  | [d1, d2, d3] => { results := [.lit (.bool false)], args := [d1, d2, d3] }
  | _ => none }
def LinksOrderWrongFalsely : Prop := linksOrderRow.holds Tryd.pinned (OpenSpec.ofChange linksOrderWrong)

/-- 'custodylaw23.LinksPool': WHATEVER THE INPUT: true; the input reads as it did. -/
def linksPoolSpec : ChangeSpec := { name := "linksPool", fn := fun _ => fun
  | [d] => { results := [.lit (.bool true)], args := [d] }
  | _ => none }
def linksPoolRow : OpenClaim := { program := "ytgmanmbicoofgaadoor", sum := "bb00c7b2cb11d92b7bc42883b16b2f1486569a0345ccc92b8dc011ca75d7d720", func := "custody/custodylaw23.LinksPool", spec := "linksPool", inPlace := ["internal/reflectlite.TypeOf", "internal/reflectlite.ValueOf", "(internal/reflectlite.Value).Type", "(internal/reflectlite.Value).IsNil", "(internal/reflectlite.Value).Elem", "(internal/reflectlite.Value).Set"], unfollowed := true, recurses := true, named := ["errors.errorType"], plainKeys := false, apart := false, laid := [("errors.errorType", laid_errors_errorType)] }
def LinksPoolSaid : Prop := linksPoolRow.holds Tryd.pinned (OpenSpec.ofChange linksPoolSpec)

/-- ITS FALSE NEIGHBOUR: 'it returns false'. Refute it at one input. -/
def linksPoolWrong : ChangeSpec := { name := "linksPool", fn := fun _ => fun
  | [d] => { results := [.lit (.bool false)], args := [d] }
  | _ => none }
def LinksPoolWrongFalsely : Prop := linksPoolRow.holds Tryd.pinned (OpenSpec.ofChange linksPoolWrong)

/-- 'custodylaw23.LinksResolve': WHATEVER THE INPUT: true; the input reads as it did. -/
def linksResolveSpec : ChangeSpec := { name := "linksResolve", fn := fun _ => fun
  | [d] => { results := [.lit (.bool true)], args := [d] }
  | _ => none }
def linksResolveRow : OpenClaim := { program := "ytgmanmbicoofgaadoor", sum := "bb00c7b2cb11d92b7bc42883b16b2f1486569a0345ccc92b8dc011ca75d7d720", func := "custody/custodylaw23.LinksResolve", spec := "linksResolve", inPlace := ["internal/reflectlite.ValueOf", "(internal/reflectlite.Value).Type", "(internal/reflectlite.Value).IsNil", "internal/reflectlite.TypeOf", "(internal/reflectlite.Value).Elem", "(internal/reflectlite.Value).Set"], unfollowed := true, recurses := true, named := ["errors.errorType"], plainKeys := false, apart := false, laid := [("errors.errorType", laid_errors_errorType)] }
def LinksResolveSaid : Prop := linksResolveRow.holds Tryd.pinned (OpenSpec.ofChange linksResolveSpec)

/-- ITS FALSE NEIGHBOUR: 'it returns false'. Refute it at one input. -/
def linksResolveWrong : ChangeSpec := { name := "linksResolve", fn := fun _ => fun
  | [d] => { results := [.lit (.bool false)], args := [d] }
  | _ => none }
def LinksResolveWrongFalsely : Prop := linksResolveRow.holds Tryd.pinned (OpenSpec.ofChange linksResolveWrong)

/-- 'custodylaw23.LinksSorted': WHATEVER THE INPUT: true; the input reads as it did. -/
def linksSortedSpec : ChangeSpec := { name := "linksSorted", fn := fun _ => fun
  | [d1, d2, d3] => { results := [.lit (.bool true)], args := [d1, d2, d3] }
  | _ => none }
def linksSortedRow : OpenClaim := { program := "ytgmanmbicoofgaadoor", sum := "bb00c7b2cb11d92b7bc42883b16b2f1486569a0345ccc92b8dc011ca75d7d720", func := "custody/custodylaw23.LinksSorted", spec := "linksSorted", inPlace := ["internal/reflectlite.TypeOf", "internal/reflectlite.ValueOf", "(internal/reflectlite.Value).Type", "(internal/reflectlite.Value).IsNil", "(internal/reflectlite.Value).Elem", "(internal/reflectlite.Value).Set"], unfollowed := true, recurses := true, named := ["errors.errorType"], plainKeys := false, apart := false, laid := [("errors.errorType", laid_errors_errorType)] }
def LinksSortedSaid : Prop := linksSortedRow.holds Tryd.pinned (OpenSpec.ofChange linksSortedSpec)

/-- ITS FALSE NEIGHBOUR: 'it returns false'. Refute it at one input. -/
def linksSortedWrong : ChangeSpec := { name := "linksSorted", fn := fun _ => fun
  | [d1, d2, d3] => { results := [.lit (.bool false)], args := [d1, d2, d3] }
  | _ => none }
def LinksSortedWrongFalsely : Prop := linksSortedRow.holds Tryd.pinned (OpenSpec.ofChange linksSortedWrong)

/- THE SECOND FORM. 'bulk': how many values and letters a reading holds, each counted each time it is reached (what is shared counts as often as it is met; a slice's spare places count too). A statement '..UptoSaid' is the law's where the arguments, and the package variables that the reading takes, are together of bulk at most 1048576: NARROWER than '..Said'. Prove '..Said' where nothing that the law and all that it calls make is longer than what came in: it says more and counts as full. Else prove '..UptoSaid'. A law counts once. -/
mutual
def uptoBulk {H : Type} : DataW H → Nat
  | .lit (.string bytes) => bytes.length + 1
  | .lit _ => 1
  | .nil => 1
  | .ptr d => uptoBulk d + 1
  | .slice elems spare => uptoBulkAll elems + uptoBulkAll spare + 1
  | .agg parts => uptoBulkAll parts + 1
  | .iface _ d => uptoBulk d + 1
  | .map entries => uptoBulkEntries entries + 1
  | .held _ => 1
def uptoBulkAll {H : Type} : List (DataW H) → Nat
  | [] => 0
  | d :: r => uptoBulk d + uptoBulkAll r
def uptoBulkEntries {H : Type} : List (Lit × DataW H) → Nat
  | [] => 0
  | x :: r => uptoBulkEntry x + uptoBulkEntries r
def uptoBulkEntry {H : Type} : Lit × DataW H → Nat
  | (.string bytes, d) => bytes.length + uptoBulk d + 1
  | (_, d) => uptoBulk d + 1
 end
def uptoSmall : (H : Type) → List (DataW H) → Bool := fun _ ds => decide (uptoBulkAll ds ≤ 1048576)
def OpenSpec.upto (s : _root_.Go.ChangeSpec) : _root_.Go.OpenSpec := { _root_.Go.OpenSpec.ofChange s with cond := some uptoSmall }

/-- 'custodylaw23.LinksGroups', WHERE WHAT IT READS IS OF BULK AT MOST 1048576: true; the input reads as it did. -/
def linksGroupsUptoRow : OpenClaim := { program := "ytgmanmbicoofgaadoor", sum := "bb00c7b2cb11d92b7bc42883b16b2f1486569a0345ccc92b8dc011ca75d7d720", func := "custody/custodylaw23.LinksGroups", spec := "linksGroups", inPlace := ["internal/reflectlite.ValueOf", "(internal/reflectlite.Value).Type", "(internal/reflectlite.Value).IsNil", "internal/reflectlite.TypeOf", "(internal/reflectlite.Value).Elem", "(internal/reflectlite.Value).Set"], unfollowed := true, recurses := true, named := ["errors.errorType"], plainKeys := false, apart := false, laid := [("errors.errorType", laid_errors_errorType)], narrowed := true }
def LinksGroupsUptoSaid : Prop := linksGroupsUptoRow.holds Tryd.pinned (OpenSpec.upto linksGroupsSpec)

/-- 'custodylaw23.LinksOrder', WHERE WHAT IT READS IS OF BULK AT MOST 1048576: true; the input reads as it did. -/
def linksOrderUptoRow : OpenClaim := { program := "ytgmanmbicoofgaadoor", sum := "bb00c7b2cb11d92b7bc42883b16b2f1486569a0345ccc92b8dc011ca75d7d720", func := "custody/custodylaw23.LinksOrder", spec := "linksOrder", inPlace := ["internal/reflectlite.ValueOf", "(internal/reflectlite.Value).Type", "(internal/reflectlite.Value).IsNil", "internal/reflectlite.TypeOf", "(internal/reflectlite.Value).Elem", "(internal/reflectlite.Value).Set"], unfollowed := true, recurses := true, named := ["errors.errorType"], plainKeys := false, apart := false, laid := [("errors.errorType", laid_errors_errorType)], narrowed := true }
def LinksOrderUptoSaid : Prop := linksOrderUptoRow.holds Tryd.pinned (OpenSpec.upto linksOrderSpec)

/-- 'custodylaw23.LinksPool', WHERE WHAT IT READS IS OF BULK AT MOST 1048576: true; the input reads as it did. -/
def linksPoolUptoRow : OpenClaim := { program := "ytgmanmbicoofgaadoor", sum := "bb00c7b2cb11d92b7bc42883b16b2f1486569a0345ccc92b8dc011ca75d7d720", func := "custody/custodylaw23.LinksPool", spec := "linksPool", inPlace := ["internal/reflectlite.TypeOf", "internal/reflectlite.ValueOf", "(internal/reflectlite.Value).Type", "(internal/reflectlite.Value).IsNil", "(internal/reflectlite.Value).Elem", "(internal/reflectlite.Value).Set"], unfollowed := true, recurses := true, named := ["errors.errorType"], plainKeys := false, apart := false, laid := [("errors.errorType", laid_errors_errorType)], narrowed := true }
def LinksPoolUptoSaid : Prop := linksPoolUptoRow.holds Tryd.pinned (OpenSpec.upto linksPoolSpec)

/-- 'custodylaw23.LinksResolve', WHERE WHAT IT READS IS OF BULK AT MOST 1048576: true; the input reads as it did. -/
def linksResolveUptoRow : OpenClaim := { program := "ytgmanmbicoofgaadoor", sum := "bb00c7b2cb11d92b7bc42883b16b2f1486569a0345ccc92b8dc011ca75d7d720", func := "custody/custodylaw23.LinksResolve", spec := "linksResolve", inPlace := ["internal/reflectlite.ValueOf", "(internal/reflectlite.Value).Type", "(internal/reflectlite.Value).IsNil", "internal/reflectlite.TypeOf", "(internal/reflectlite.Value).Elem", "(internal/reflectlite.Value).Set"], unfollowed := true, recurses := true, named := ["errors.errorType"], plainKeys := false, apart := false, laid := [("errors.errorType", laid_errors_errorType)], narrowed := true }
def LinksResolveUptoSaid : Prop := linksResolveUptoRow.holds Tryd.pinned (OpenSpec.upto linksResolveSpec)

/-- 'custodylaw23.LinksSorted', WHERE WHAT IT READS IS OF BULK AT MOST 1048576: true; the input reads as it did. -/
def linksSortedUptoRow : OpenClaim := { program := "ytgmanmbicoofgaadoor", sum := "bb00c7b2cb11d92b7bc42883b16b2f1486569a0345ccc92b8dc011ca75d7d720", func := "custody/custodylaw23.LinksSorted", spec := "linksSorted", inPlace := ["internal/reflectlite.TypeOf", "internal/reflectlite.ValueOf", "(internal/reflectlite.Value).Type", "(internal/reflectlite.Value).IsNil", "(internal/reflectlite.Value).Elem", "(internal/reflectlite.Value).Set"], unfollowed := true, recurses := true, named := ["errors.errorType"], plainKeys := false, apart := false, laid := [("errors.errorType", laid_errors_errorType)], narrowed := true }
def LinksSortedUptoSaid : Prop := linksSortedUptoRow.holds Tryd.pinned (OpenSpec.upto linksSortedSpec)

end Rows
end Go.Proofs.YtgmanmbicoofgaaDoor

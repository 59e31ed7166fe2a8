/-
  No cell of these rows narrows 'for every input' (looked for: loops, veiled, ifaces, maps, wideKeys, modest, calm, conditions, laid).
  DERIVED. THE GIVEN ROWS OF THIS SEAT. 3 by the template 'for every input the law returns true; each argument reads behind the call as it read before'; 0 by the template 'total and deterministic' (their statements: YtpbkmkclagikhaaTotals.lean).
  GIVEN WITH THE SEED: the statements are not yours to turn. If you find one false, say at which input.
  Laid BY PROGRAM, IN A SANDBOX (cutbox-rows.mjs): the forced cells as the released guide's own fill.sh prints them over the translation 04953acdd0cbe8ce… (all of the seat's roots in one cut). By AI agents, Wed Nov 11 2026. No macro, syntax, notation, axiom, sorry.
-/
import Derived.Test.YtpbkmkclagikhaaChecked
import GoSem.Claim
import GoSem.ClaimJoined
import GoSem.ClaimMapViews
import Derived.JoinedTies
import Derived.KernelRfl
namespace Go.Proofs.Ytpbkmkclagikhaa
/- THE CELL 'sum', in the pinned program and in every row, IS THE sha256 OF THE DUMP (.gsa) THAT YtpbkmkclagikhaaProg.lean LOADS. Nothing in Lean hashes anything: it is a label: what it is worth is what the hold of that sum in a sandbox is worth. -/
noncomputable def Try.pinned : Pinned := { name := "ytpbkmkclagikhaa", sum := "04953acdd0cbe8ce550ec1f549caa0772f37108abc830b29be0fee58d6e06201", checked := Try.checked }
namespace Rows
def none {H : Type} : Left H := { results := [], args := [] }

/-- 'custodylaw26.PartialFair': WHATEVER THE INPUT: true; the input reads as it did. -/
def partialFairSpec : ChangeSpec := { name := "partialFair", fn := fun _ => fun
  | [d1, d2] => { results := [.lit (.bool true)], args := [d1, d2] }
  | _ => none }
def partialFairRow : OpenClaim := { program := "ytpbkmkclagikhaa", sum := "04953acdd0cbe8ce550ec1f549caa0772f37108abc830b29be0fee58d6e06201", func := "custody/custodylaw26.PartialFair", spec := "partialFair", named := ["math/bits.divideError", "math/bits.overflowError"], apart := false }
def PartialFairSaid : Prop := partialFairRow.holds Try.pinned (OpenSpec.ofChange partialFairSpec)

/-- ITS FALSE NEIGHBOUR: 'it returns false'. Refute it at one input. -/
def partialFairWrong : ChangeSpec := { name := "partialFair", fn := fun _ => fun
  | [d1, d2] => { results := [.lit (.bool false)], args := [d1, d2] }
  | _ => none }
def PartialFairWrongFalsely : Prop := partialFairRow.holds Try.pinned (OpenSpec.ofChange partialFairWrong)

/-- 'custodylaw26.PartialGreatest': WHATEVER THE INPUT: true; the input reads as it did. -/
def partialGreatestSpec : ChangeSpec := { name := "partialGreatest", fn := fun _ => fun
  | [d1, d2, d3] => { results := [.lit (.bool true)], args := [d1, d2, d3] }
  | _ => none }
def partialGreatestRow : OpenClaim := { program := "ytpbkmkclagikhaa", sum := "04953acdd0cbe8ce550ec1f549caa0772f37108abc830b29be0fee58d6e06201", func := "custody/custodylaw26.PartialGreatest", spec := "partialGreatest", unfollowed := true, recurses := true, named := ["math/bits.divideError", "math/bits.overflowError"], apart := false }
def PartialGreatestSaid : Prop := partialGreatestRow.holds Try.pinned (OpenSpec.ofChange partialGreatestSpec)

/-- ITS FALSE NEIGHBOUR: 'it returns false'. Refute it at one input. -/
def partialGreatestWrong : ChangeSpec := { name := "partialGreatest", fn := fun _ => fun
  | [d1, d2, d3] => { results := [.lit (.bool false)], args := [d1, d2, d3] }
  | _ => none }
def PartialGreatestWrongFalsely : Prop := partialGreatestRow.holds Try.pinned (OpenSpec.ofChange partialGreatestWrong)

/-- 'custodytop.CustodyParts': WHATEVER THE INPUT: true; the input reads as it did. -/
def custodyPartsSpec : ChangeSpec := { name := "custodyParts", fn := fun _ => fun
  | [d1, d2, d3, d4, d5, d6] => { results := [.lit (.bool true)], args := [d1, d2, d3, d4, d5, d6] }
  | _ => none }
def custodyPartsRow : OpenClaim := { program := "ytpbkmkclagikhaa", sum := "04953acdd0cbe8ce550ec1f549caa0772f37108abc830b29be0fee58d6e06201", func := "custody/custodytop.CustodyParts", spec := "custodyParts", unfollowed := true, recurses := true, named := ["math/bits.divideError", "math/bits.overflowError"], apart := false }
def CustodyPartsSaid : Prop := custodyPartsRow.holds Try.pinned (OpenSpec.ofChange custodyPartsSpec)

/-- ITS FALSE NEIGHBOUR: 'it returns false'. Refute it at one input. -/
def custodyPartsWrong : ChangeSpec := { name := "custodyParts", fn := fun _ => fun
  | [d1, d2, d3, d4, d5, d6] => { results := [.lit (.bool false)], args := [d1, d2, d3, d4, d5, d6] }
  | _ => none }
def CustodyPartsWrongFalsely : Prop := custodyPartsRow.holds Try.pinned (OpenSpec.ofChange custodyPartsWrong)

/- THE SECOND FORM. 'bulk': how many values and letters a reading holds, each counted each time it is reached (what is shared counts as often as it is met; a slice's spare places count too). A statement '..UptoSaid' is the law's where the arguments, and the package variables that the reading takes, are together of bulk at most 1048576: NARROWER than '..Said'. Prove '..Said' where nothing that the law and all that it calls make is longer than what came in: it says more and counts as full. Else prove '..UptoSaid'. A law counts once. -/
mutual
def uptoBulk {H : Type} : DataW H → Nat
  | .lit (.string bytes) => bytes.length + 1
  | .lit _ => 1
  | .nil => 1
  | .ptr d => uptoBulk d + 1
  | .slice elems spare => uptoBulkAll elems + uptoBulkAll spare + 1
  | .agg parts => uptoBulkAll parts + 1
  | .iface _ d => uptoBulk d + 1
  | .map entries => uptoBulkEntries entries + 1
  | .held _ => 1
def uptoBulkAll {H : Type} : List (DataW H) → Nat
  | [] => 0
  | d :: r => uptoBulk d + uptoBulkAll r
def uptoBulkEntries {H : Type} : List (Lit × DataW H) → Nat
  | [] => 0
  | x :: r => uptoBulkEntry x + uptoBulkEntries r
def uptoBulkEntry {H : Type} : Lit × DataW H → Nat
  | (.string bytes, d) => bytes.length + uptoBulk d + 1
  | (_, d) => uptoBulk d + 1
 end
def uptoSmall : (H : Type) → List (DataW H) → Bool := fun _ ds => decide (uptoBulkAll ds ≤ 1048576)
def OpenSpec.upto (s : _root_.Go.ChangeSpec) : _root_.Go.OpenSpec := { _root_.Go.OpenSpec.ofChange s with cond := some uptoSmall }

/-- 'custodylaw26.PartialFair', WHERE WHAT IT READS IS OF BULK AT MOST 1048576: true; the input reads as it did. -/
def partialFairUptoRow : OpenClaim := { program := "ytpbkmkclagikhaa", sum := "04953acdd0cbe8ce550ec1f549caa0772f37108abc830b29be0fee58d6e06201", func := "custody/custodylaw26.PartialFair", spec := "partialFair", named := ["math/bits.divideError", "math/bits.overflowError"], apart := false, narrowed := true }
def PartialFairUptoSaid : Prop := partialFairUptoRow.holds Try.pinned (OpenSpec.upto partialFairSpec)

/-- 'custodylaw26.PartialGreatest', WHERE WHAT IT READS IS OF BULK AT MOST 1048576: true; the input reads as it did. -/
def partialGreatestUptoRow : OpenClaim := { program := "ytpbkmkclagikhaa", sum := "04953acdd0cbe8ce550ec1f549caa0772f37108abc830b29be0fee58d6e06201", func := "custody/custodylaw26.PartialGreatest", spec := "partialGreatest", unfollowed := true, recurses := true, named := ["math/bits.divideError", "math/bits.overflowError"], apart := false, narrowed := true }
def PartialGreatestUptoSaid : Prop := partialGreatestUptoRow.holds Try.pinned (OpenSpec.upto partialGreatestSpec)

/-- 'custodytop.CustodyParts', WHERE WHAT IT READS IS OF BULK AT MOST 1048576: true; the input reads as it did. -/
def custodyPartsUptoRow : OpenClaim := { program := "ytpbkmkclagikhaa", sum := "04953acdd0cbe8ce550ec1f549caa0772f37108abc830b29be0fee58d6e06201", func := "custody/custodytop.CustodyParts", spec := "custodyParts", unfollowed := true, recurses := true, named := ["math/bits.divideError", "math/bits.overflowError"], apart := false, narrowed := true }
def CustodyPartsUptoSaid : Prop := custodyPartsUptoRow.holds Try.pinned (OpenSpec.upto custodyPartsSpec)

end Rows
end Go.Proofs.Ytpbkmkclagikhaa

/-
  No cell of these rows narrows 'for every input' (looked for: loops, veiled, ifaces, maps, wideKeys, modest, calm, conditions, laid).
  DERIVED. THE GIVEN ROWS OF THIS SEAT. 4 by the template 'for every input the law returns true; each argument reads behind the call as it read before'; 0 by the template 'total and deterministic' (their statements: YthkhemcbkcoliaaTotals.lean).
  GIVEN WITH THE SEED: the statements are not yours to turn. If you find one false, say at which input.
  Laid BY PROGRAM, IN A SANDBOX (cutbox-rows.mjs): the forced cells as the released guide's own fill.sh prints them over the translation 32c02cebdbb64fc7… (all of the seat's roots in one cut). By AI agents, Wed Nov 11 2026. No macro, syntax, notation, axiom, sorry.
-/
import Derived.Test.YthkhemcbkcoliaaChecked
import GoSem.Claim
import GoSem.ClaimJoined
import GoSem.ClaimMapViews
import Derived.JoinedTies
import Derived.KernelRfl
namespace Go.Proofs.Ythkhemcbkcoliaa
/- THE CELL 'sum', in the pinned program and in every row, IS THE sha256 OF THE DUMP (.gsa) THAT YthkhemcbkcoliaaProg.lean LOADS. Nothing in Lean hashes anything: it is a label: what it is worth is what the hold of that sum in a sandbox is worth. -/
noncomputable def Try.pinned : Pinned := { name := "ythkhemcbkcoliaa", sum := "32c02cebdbb64fc748ed2a8d7bd6068df884dae16d704539b2b0debaab78140f", checked := Try.checked }
namespace Rows
def none {H : Type} : Left H := { results := [], args := [] }

/-- 'custodylaw05.WireOrder': WHATEVER THE INPUT: true; the input reads as it did. -/
def wireOrderSpec : ChangeSpec := { name := "wireOrder", fn := fun _ => fun
  | [d1, d2] => { results := [.lit (.bool true)], args := [d1, d2] }
  | _ => none }
def wireOrderRow : OpenClaim := { program := "ythkhemcbkcoliaa", sum := "32c02cebdbb64fc748ed2a8d7bd6068df884dae16d704539b2b0debaab78140f", func := "custody/custodylaw05.WireOrder", spec := "wireOrder", apart := false }
def WireOrderSaid : Prop := wireOrderRow.holds Try.pinned (OpenSpec.ofChange wireOrderSpec)

/-- ITS FALSE NEIGHBOUR: 'it returns false'. Refute it at one input. -/
def wireOrderWrong : ChangeSpec := { name := "wireOrder", fn := fun _ => fun
  | [d1, d2] => { results := [.lit (.bool false)], args := [d1, d2] }
  | _ => none }
def WireOrderWrongFalsely : Prop := wireOrderRow.holds Try.pinned (OpenSpec.ofChange wireOrderWrong)

/-- 'custodylaw05.WireSum': WHATEVER THE INPUT: true; the input reads as it did. -/
def wireSumSpec : ChangeSpec := { name := "wireSum", fn := fun _ => fun
  | [d1, d2] => { results := [.lit (.bool true)], args := [d1, d2] }
  | _ => none }
def wireSumRow : OpenClaim := { program := "ythkhemcbkcoliaa", sum := "32c02cebdbb64fc748ed2a8d7bd6068df884dae16d704539b2b0debaab78140f", func := "custody/custodylaw05.WireSum", spec := "wireSum", apart := false }
def WireSumSaid : Prop := wireSumRow.holds Try.pinned (OpenSpec.ofChange wireSumSpec)

/-- ITS FALSE NEIGHBOUR: 'it returns false'. Refute it at one input. -/
def wireSumWrong : ChangeSpec := { name := "wireSum", fn := fun _ => fun
  | [d1, d2] => { results := [.lit (.bool false)], args := [d1, d2] }
  | _ => none }
def WireSumWrongFalsely : Prop := wireSumRow.holds Try.pinned (OpenSpec.ofChange wireSumWrong)

/-- 'custodylaw05.WireBack': WHATEVER THE INPUT: true; the input reads as it did. -/
def wireBackSpec : ChangeSpec := { name := "wireBack", fn := fun _ => fun
  | [d] => { results := [.lit (.bool true)], args := [d] }
  | _ => none }
def wireBackRow : OpenClaim := { program := "ythkhemcbkcoliaa", sum := "32c02cebdbb64fc748ed2a8d7bd6068df884dae16d704539b2b0debaab78140f", func := "custody/custodylaw05.WireBack", spec := "wireBack", apart := false }
def WireBackSaid : Prop := wireBackRow.holds Try.pinned (OpenSpec.ofChange wireBackSpec)

/-- ITS FALSE NEIGHBOUR: 'it returns false'. Refute it at one input. -/
def wireBackWrong : ChangeSpec := { name := "wireBack", fn := fun _ => fun
  | [d] => { results := [.lit (.bool false)], args := [d] }
  | _ => none }
def WireBackWrongFalsely : Prop := wireBackRow.holds Try.pinned (OpenSpec.ofChange wireBackWrong)

/-- 'custodylaw05.WireOneWay': WHATEVER THE INPUT: true; the input reads as it did. -/
def wireOneWaySpec : ChangeSpec := { name := "wireOneWay", fn := fun _ => fun
  | [d1, d2] => { results := [.lit (.bool true)], args := [d1, d2] }
  | _ => none }
def wireOneWayRow : OpenClaim := { program := "ythkhemcbkcoliaa", sum := "32c02cebdbb64fc748ed2a8d7bd6068df884dae16d704539b2b0debaab78140f", func := "custody/custodylaw05.WireOneWay", spec := "wireOneWay", apart := false }
def WireOneWaySaid : Prop := wireOneWayRow.holds Try.pinned (OpenSpec.ofChange wireOneWaySpec)

/-- ITS FALSE NEIGHBOUR: 'it returns false'. Refute it at one input. -/
def wireOneWayWrong : ChangeSpec := { name := "wireOneWay", fn := fun _ => fun
  | [d1, d2] => { results := [.lit (.bool false)], args := [d1, d2] }
  | _ => none }
def WireOneWayWrongFalsely : Prop := wireOneWayRow.holds Try.pinned (OpenSpec.ofChange wireOneWayWrong)

/- THE SECOND FORM. 'bulk': how many values and letters a reading holds, each counted each time it is reached (what is shared counts as often as it is met; a slice's spare places count too). A statement '..UptoSaid' is the law's where the arguments, and the package variables that the reading takes, are together of bulk at most 1048576: NARROWER than '..Said'. Prove '..Said' where nothing that the law and all that it calls make is longer than what came in: it says more and counts as full. Else prove '..UptoSaid'. A law counts once. -/
mutual
def uptoBulk {H : Type} : DataW H → Nat
  | .lit (.string bytes) => bytes.length + 1
  | .lit _ => 1
  | .nil => 1
  | .ptr d => uptoBulk d + 1
  | .slice elems spare => uptoBulkAll elems + uptoBulkAll spare + 1
  | .agg parts => uptoBulkAll parts + 1
  | .iface _ d => uptoBulk d + 1
  | .map entries => uptoBulkEntries entries + 1
  | .held _ => 1
def uptoBulkAll {H : Type} : List (DataW H) → Nat
  | [] => 0
  | d :: r => uptoBulk d + uptoBulkAll r
def uptoBulkEntries {H : Type} : List (Lit × DataW H) → Nat
  | [] => 0
  | x :: r => uptoBulkEntry x + uptoBulkEntries r
def uptoBulkEntry {H : Type} : Lit × DataW H → Nat
  | (.string bytes, d) => bytes.length + uptoBulk d + 1
  | (_, d) => uptoBulk d + 1
 end
def uptoSmall : (H : Type) → List (DataW H) → Bool := fun _ ds => decide (uptoBulkAll ds ≤ 1048576)
def OpenSpec.upto (s : _root_.Go.ChangeSpec) : _root_.Go.OpenSpec := { _root_.Go.OpenSpec.ofChange s with cond := some uptoSmall }

/-- 'custodylaw05.WireOrder', WHERE WHAT IT READS IS OF BULK AT MOST 1048576: true; the input reads as it did. -/
def wireOrderUptoRow : OpenClaim := { program := "ythkhemcbkcoliaa", sum := "32c02cebdbb64fc748ed2a8d7bd6068df884dae16d704539b2b0debaab78140f", func := "custody/custodylaw05.WireOrder", spec := "wireOrder", apart := false, narrowed := true }
def WireOrderUptoSaid : Prop := wireOrderUptoRow.holds Try.pinned (OpenSpec.upto wireOrderSpec)

/-- 'custodylaw05.WireSum', WHERE WHAT IT READS IS OF BULK AT MOST 1048576: true; the input reads as it did. -/
def wireSumUptoRow : OpenClaim := { program := "ythkhemcbkcoliaa", sum := "32c02cebdbb64fc748ed2a8d7bd6068df884dae16d704539b2b0debaab78140f", func := "custody/custodylaw05.WireSum", spec := "wireSum", apart := false, narrowed := true }
def WireSumUptoSaid : Prop := wireSumUptoRow.holds Try.pinned (OpenSpec.upto wireSumSpec)

/-- 'custodylaw05.WireBack', WHERE WHAT IT READS IS OF BULK AT MOST 1048576: true; the input reads as it did. -/
def wireBackUptoRow : OpenClaim := { program := "ythkhemcbkcoliaa", sum := "32c02cebdbb64fc748ed2a8d7bd6068df884dae16d704539b2b0debaab78140f", func := "custody/custodylaw05.WireBack", spec := "wireBack", apart := false, narrowed := true }
def WireBackUptoSaid : Prop := wireBackUptoRow.holds Try.pinned (OpenSpec.upto wireBackSpec)

/-- 'custodylaw05.WireOneWay', WHERE WHAT IT READS IS OF BULK AT MOST 1048576: true; the input reads as it did. -/
def wireOneWayUptoRow : OpenClaim := { program := "ythkhemcbkcoliaa", sum := "32c02cebdbb64fc748ed2a8d7bd6068df884dae16d704539b2b0debaab78140f", func := "custody/custodylaw05.WireOneWay", spec := "wireOneWay", apart := false, narrowed := true }
def WireOneWayUptoSaid : Prop := wireOneWayUptoRow.holds Try.pinned (OpenSpec.upto wireOneWaySpec)

end Rows
end Go.Proofs.Ythkhemcbkcoliaa

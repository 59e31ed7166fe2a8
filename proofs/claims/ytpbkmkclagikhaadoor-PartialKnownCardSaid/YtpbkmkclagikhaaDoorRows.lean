/-
  NARROWER THAN 'FOR EVERY INPUT', by the rows' own cells (each row's printed sentence says how): PartialPart: laid · PartialMoney: laid · PartialLegs: laid · PartialOrders: laid · PartialWhole: laid · PartialKnown: laid.
  DERIVED. THE GIVEN ROWS OF THIS SEAT. 6 by the template 'for every input the law returns true; each argument reads behind the call as it read before'; 0 by the template 'total and deterministic' (their statements: YtpbkmkclagikhaaDoorTotals.lean).
  GIVEN WITH THE SEED: the statements are not yours to turn. If you find one false, say at which input.
  Laid BY PROGRAM, IN A SANDBOX (cutbox-rows.mjs): the forced cells as the released guide's own fill.sh prints them over the translation 8399d86b42e3451b… (all of the seat's roots in one cut). By AI agents, Wed Nov 11 2026. No macro, syntax, notation, axiom, sorry.
-/
import Derived.Test.YtpbkmkclagikhaaDoorChecked
import GoSem.Claim
import GoSem.ClaimJoined
import GoSem.ClaimMapViews
import Derived.JoinedTies
import Derived.KernelRfl
namespace Go.Proofs.YtpbkmkclagikhaaDoor
/- THE CELL 'sum', in the pinned program and in every row, IS THE sha256 OF THE DUMP (.gsa) THAT YtpbkmkclagikhaaDoorProg.lean LOADS. Nothing in Lean hashes anything: it is a label: what it is worth is what the hold of that sum in a sandbox is worth. -/
noncomputable def Tryd.pinned : Pinned := { name := "ytpbkmkclagikhaadoor", sum := "8399d86b42e3451b7e09a70795fd78d0a0ffda306afe90ed60e70f9c917ec075", checked := Tryd.checked }
namespace Rows
def none {H : Type} : Left H := { results := [], args := [] }

/- WHAT THE LISTED PACKAGE-LEVEL VARIABLES READ AS WHEN THE CALL BEGINS. Each datum BY PROGRAM (the guide's laid-datum.mjs) off the statement by which the dump's own 'gosem.cut.vars' lays the variable. In a bare row this is a premise. The card (YtpbkmkclagikhaaDoorCards.lean) ties it to the program's text. -/
def laid_errors_errorType {H : Type} : DataW H := .iface "internal/reflectlite.rtype" (.agg [.ptr (.lit (.string [101, 114, 114, 111, 114]))])

/-- 'custodylaw26.PartialPart': WHATEVER THE INPUT: true; the input reads as it did. -/
def partialPartSpec : ChangeSpec := { name := "partialPart", fn := fun _ => fun
  | [d] => { results := [.lit (.bool true)], args := [d] }
  | _ => none }
def partialPartRow : OpenClaim := { program := "ytpbkmkclagikhaadoor", sum := "8399d86b42e3451b7e09a70795fd78d0a0ffda306afe90ed60e70f9c917ec075", func := "custody/custodylaw26.PartialPart", spec := "partialPart", inPlace := ["internal/reflectlite.TypeOf", "internal/reflectlite.ValueOf", "(internal/reflectlite.Value).Type", "(internal/reflectlite.Value).IsNil", "(internal/reflectlite.Value).Elem", "(internal/reflectlite.Value).Set"], unfollowed := true, recurses := true, named := ["errors.errorType", "math/bits.divideError", "math/bits.overflowError"], apart := false, laid := [("errors.errorType", laid_errors_errorType)] }
def PartialPartSaid : Prop := partialPartRow.holds Tryd.pinned (OpenSpec.ofChange partialPartSpec)

/-- ITS FALSE NEIGHBOUR: 'it returns false'. Refute it at one input. -/
def partialPartWrong : ChangeSpec := { name := "partialPart", fn := fun _ => fun
  | [d] => { results := [.lit (.bool false)], args := [d] }
  | _ => none }
def PartialPartWrongFalsely : Prop := partialPartRow.holds Tryd.pinned (OpenSpec.ofChange partialPartWrong)

/-- 'custodylaw26.PartialMoney': WHATEVER THE INPUT: true; the input reads as it did. -/
def partialMoneySpec : ChangeSpec := { name := "partialMoney", fn := fun _ => fun
  | [d] => { results := [.lit (.bool true)], args := [d] }
  | _ => none }
def partialMoneyRow : OpenClaim := { program := "ytpbkmkclagikhaadoor", sum := "8399d86b42e3451b7e09a70795fd78d0a0ffda306afe90ed60e70f9c917ec075", func := "custody/custodylaw26.PartialMoney", spec := "partialMoney", inPlace := ["internal/reflectlite.TypeOf", "internal/reflectlite.ValueOf", "(internal/reflectlite.Value).Type", "(internal/reflectlite.Value).IsNil", "(internal/reflectlite.Value).Elem", "(internal/reflectlite.Value).Set"], unfollowed := true, recurses := true, named := ["math/bits.divideError", "math/bits.overflowError", "errors.errorType"], apart := false, laid := [("errors.errorType", laid_errors_errorType)] }
def PartialMoneySaid : Prop := partialMoneyRow.holds Tryd.pinned (OpenSpec.ofChange partialMoneySpec)

/-- ITS FALSE NEIGHBOUR: 'it returns false'. Refute it at one input. -/
def partialMoneyWrong : ChangeSpec := { name := "partialMoney", fn := fun _ => fun
  | [d] => { results := [.lit (.bool false)], args := [d] }
  | _ => none }
def PartialMoneyWrongFalsely : Prop := partialMoneyRow.holds Tryd.pinned (OpenSpec.ofChange partialMoneyWrong)

/-- 'custodylaw26.PartialLegs': WHATEVER THE INPUT: true; the input reads as it did. -/
def partialLegsSpec : ChangeSpec := { name := "partialLegs", fn := fun _ => fun
  | [d] => { results := [.lit (.bool true)], args := [d] }
  | _ => none }
def partialLegsRow : OpenClaim := { program := "ytpbkmkclagikhaadoor", sum := "8399d86b42e3451b7e09a70795fd78d0a0ffda306afe90ed60e70f9c917ec075", func := "custody/custodylaw26.PartialLegs", spec := "partialLegs", inPlace := ["internal/reflectlite.TypeOf", "internal/reflectlite.ValueOf", "(internal/reflectlite.Value).Type", "(internal/reflectlite.Value).IsNil", "(internal/reflectlite.Value).Elem", "(internal/reflectlite.Value).Set"], unfollowed := true, recurses := true, named := ["errors.errorType", "math/bits.divideError", "math/bits.overflowError"], apart := false, laid := [("errors.errorType", laid_errors_errorType)] }
def PartialLegsSaid : Prop := partialLegsRow.holds Tryd.pinned (OpenSpec.ofChange partialLegsSpec)

/-- ITS FALSE NEIGHBOUR: 'it returns false'. Refute it at one input. -/
def partialLegsWrong : ChangeSpec := { name := "partialLegs", fn := fun _ => fun
  | [d] => { results := [.lit (.bool false)], args := [d] }
  | _ => none }
def PartialLegsWrongFalsely : Prop := partialLegsRow.holds Tryd.pinned (OpenSpec.ofChange partialLegsWrong)

/-- 'custodylaw26.PartialOrders': WHATEVER THE INPUT: true; the input reads as it did. -/
def partialOrdersSpec : ChangeSpec := { name := "partialOrders", fn := fun _ => fun
  | [d1, d2, d3] => { results := [.lit (.bool true)], args := [d1, d2, d3] }
  | _ => none }
def partialOrdersRow : OpenClaim := { program := "ytpbkmkclagikhaadoor", sum := "8399d86b42e3451b7e09a70795fd78d0a0ffda306afe90ed60e70f9c917ec075", func := "custody/custodylaw26.PartialOrders", spec := "partialOrders", inPlace := ["internal/reflectlite.TypeOf", "internal/reflectlite.ValueOf", "(internal/reflectlite.Value).Type", "(internal/reflectlite.Value).IsNil", "(internal/reflectlite.Value).Elem", "(internal/reflectlite.Value).Set"], unfollowed := true, recurses := true, named := ["errors.errorType", "math/bits.divideError", "math/bits.overflowError"], apart := false, laid := [("errors.errorType", laid_errors_errorType)] }
def PartialOrdersSaid : Prop := partialOrdersRow.holds Tryd.pinned (OpenSpec.ofChange partialOrdersSpec)

/-- ITS FALSE NEIGHBOUR: 'it returns false'. Refute it at one input. -/
def partialOrdersWrong : ChangeSpec := { name := "partialOrders", fn := fun _ => fun
  | [d1, d2, d3] => { results := [.lit (.bool false)], args := [d1, d2, d3] }
  | _ => none }
def PartialOrdersWrongFalsely : Prop := partialOrdersRow.holds Tryd.pinned (OpenSpec.ofChange partialOrdersWrong)

/-- 'custodylaw26.PartialWhole': WHATEVER THE INPUT: true; the input reads as it did. -/
def partialWholeSpec : ChangeSpec := { name := "partialWhole", fn := fun _ => fun
  | [d1, d2] => { results := [.lit (.bool true)], args := [d1, d2] }
  | _ => none }
def partialWholeRow : OpenClaim := { program := "ytpbkmkclagikhaadoor", sum := "8399d86b42e3451b7e09a70795fd78d0a0ffda306afe90ed60e70f9c917ec075", func := "custody/custodylaw26.PartialWhole", spec := "partialWhole", inPlace := ["internal/reflectlite.TypeOf", "internal/reflectlite.ValueOf", "(internal/reflectlite.Value).Type", "(internal/reflectlite.Value).IsNil", "(internal/reflectlite.Value).Elem", "(internal/reflectlite.Value).Set"], unfollowed := true, recurses := true, named := ["math/bits.divideError", "math/bits.overflowError", "errors.errorType"], apart := false, laid := [("errors.errorType", laid_errors_errorType)] }
def PartialWholeSaid : Prop := partialWholeRow.holds Tryd.pinned (OpenSpec.ofChange partialWholeSpec)

/-- ITS FALSE NEIGHBOUR: 'it returns false'. Refute it at one input. -/
def partialWholeWrong : ChangeSpec := { name := "partialWhole", fn := fun _ => fun
  | [d1, d2] => { results := [.lit (.bool false)], args := [d1, d2] }
  | _ => none }
def PartialWholeWrongFalsely : Prop := partialWholeRow.holds Tryd.pinned (OpenSpec.ofChange partialWholeWrong)

/-- 'custodylaw26.PartialKnown': WHATEVER THE INPUT: true; the input reads as it did. -/
def partialKnownSpec : ChangeSpec := { name := "partialKnown", fn := fun _ => fun
  | [] => { results := [.lit (.bool true)], args := [] }
  | _ => none }
def partialKnownRow : OpenClaim := { program := "ytpbkmkclagikhaadoor", sum := "8399d86b42e3451b7e09a70795fd78d0a0ffda306afe90ed60e70f9c917ec075", func := "custody/custodylaw26.PartialKnown", spec := "partialKnown", inPlace := ["internal/reflectlite.TypeOf", "internal/reflectlite.ValueOf", "(internal/reflectlite.Value).Type", "(internal/reflectlite.Value).IsNil", "(internal/reflectlite.Value).Elem", "(internal/reflectlite.Value).Set"], unfollowed := true, recurses := true, named := ["math/bits.divideError", "math/bits.overflowError", "errors.errorType"], apart := false, laid := [("errors.errorType", laid_errors_errorType)] }
def PartialKnownSaid : Prop := partialKnownRow.holds Tryd.pinned (OpenSpec.ofChange partialKnownSpec)

/-- ITS FALSE NEIGHBOUR: 'it returns false'. Refute it at one input. -/
def partialKnownWrong : ChangeSpec := { name := "partialKnown", fn := fun _ => fun
  | [] => { results := [.lit (.bool false)], args := [] }
  | _ => none }
def PartialKnownWrongFalsely : Prop := partialKnownRow.holds Tryd.pinned (OpenSpec.ofChange partialKnownWrong)

/- THE SECOND FORM. 'bulk': how many values and letters a reading holds, each counted each time it is reached (what is shared counts as often as it is met; a slice's spare places count too). A statement '..UptoSaid' is the law's where the arguments, and the package variables that the reading takes, are together of bulk at most 1048576: NARROWER than '..Said'. Prove '..Said' where nothing that the law and all that it calls make is longer than what came in: it says more and counts as full. Else prove '..UptoSaid'. A law counts once. -/
mutual
def uptoBulk {H : Type} : DataW H → Nat
  | .lit (.string bytes) => bytes.length + 1
  | .lit _ => 1
  | .nil => 1
  | .ptr d => uptoBulk d + 1
  | .slice elems spare => uptoBulkAll elems + uptoBulkAll spare + 1
  | .agg parts => uptoBulkAll parts + 1
  | .iface _ d => uptoBulk d + 1
  | .map entries => uptoBulkEntries entries + 1
  | .held _ => 1
def uptoBulkAll {H : Type} : List (DataW H) → Nat
  | [] => 0
  | d :: r => uptoBulk d + uptoBulkAll r
def uptoBulkEntries {H : Type} : List (Lit × DataW H) → Nat
  | [] => 0
  | x :: r => uptoBulkEntry x + uptoBulkEntries r
def uptoBulkEntry {H : Type} : Lit × DataW H → Nat
  | (.string bytes, d) => bytes.length + uptoBulk d + 1
  | (_, d) => uptoBulk d + 1
 end
def uptoSmall : (H : Type) → List (DataW H) → Bool := fun _ ds => decide (uptoBulkAll ds ≤ 1048576)
def OpenSpec.upto (s : _root_.Go.ChangeSpec) : _root_.Go.OpenSpec := { _root_.Go.OpenSpec.ofChange s with cond := some uptoSmall }

/-- 'custodylaw26.PartialPart', WHERE WHAT IT READS IS OF BULK AT MOST 1048576: true; the input reads as it did. -/
def partialPartUptoRow : OpenClaim := { program := "ytpbkmkclagikhaadoor", sum := "8399d86b42e3451b7e09a70795fd78d0a0ffda306afe90ed60e70f9c917ec075", func := "custody/custodylaw26.PartialPart", spec := "partialPart", inPlace := ["internal/reflectlite.TypeOf", "internal/reflectlite.ValueOf", "(internal/reflectlite.Value).Type", "(internal/reflectlite.Value).IsNil", "(internal/reflectlite.Value).Elem", "(internal/reflectlite.Value).Set"], unfollowed := true, recurses := true, named := ["errors.errorType", "math/bits.divideError", "math/bits.overflowError"], apart := false, laid := [("errors.errorType", laid_errors_errorType)], narrowed := true }
def PartialPartUptoSaid : Prop := partialPartUptoRow.holds Tryd.pinned (OpenSpec.upto partialPartSpec)

/-- 'custodylaw26.PartialMoney', WHERE WHAT IT READS IS OF BULK AT MOST 1048576: true; the input reads as it did. -/
def partialMoneyUptoRow : OpenClaim := { program := "ytpbkmkclagikhaadoor", sum := "8399d86b42e3451b7e09a70795fd78d0a0ffda306afe90ed60e70f9c917ec075", func := "custody/custodylaw26.PartialMoney", spec := "partialMoney", inPlace := ["internal/reflectlite.TypeOf", "internal/reflectlite.ValueOf", "(internal/reflectlite.Value).Type", "(internal/reflectlite.Value).IsNil", "(internal/reflectlite.Value).Elem", "(internal/reflectlite.Value).Set"], unfollowed := true, recurses := true, named := ["math/bits.divideError", "math/bits.overflowError", "errors.errorType"], apart := false, laid := [("errors.errorType", laid_errors_errorType)], narrowed := true }
def PartialMoneyUptoSaid : Prop := partialMoneyUptoRow.holds Tryd.pinned (OpenSpec.upto partialMoneySpec)

/-- 'custodylaw26.PartialLegs', WHERE WHAT IT READS IS OF BULK AT MOST 1048576: true; the input reads as it did. -/
def partialLegsUptoRow : OpenClaim := { program := "ytpbkmkclagikhaadoor", sum := "8399d86b42e3451b7e09a70795fd78d0a0ffda306afe90ed60e70f9c917ec075", func := "custody/custodylaw26.PartialLegs", spec := "partialLegs", inPlace := ["internal/reflectlite.TypeOf", "internal/reflectlite.ValueOf", "(internal/reflectlite.Value).Type", "(internal/reflectlite.Value).IsNil", "(internal/reflectlite.Value).Elem", "(internal/reflectlite.Value).Set"], unfollowed := true, recurses := true, named := ["errors.errorType", "math/bits.divideError", "math/bits.overflowError"], apart := false, laid := [("errors.errorType", laid_errors_errorType)], narrowed := true }
def PartialLegsUptoSaid : Prop := partialLegsUptoRow.holds Tryd.pinned (OpenSpec.upto partialLegsSpec)

/-- 'custodylaw26.PartialOrders', WHERE WHAT IT READS IS OF BULK AT MOST 1048576: true; the input reads as it did. -/
def partialOrdersUptoRow : OpenClaim := { program := "ytpbkmkclagikhaadoor", sum := "8399d86b42e3451b7e09a70795fd78d0a0ffda306afe90ed60e70f9c917ec075", func := "custody/custodylaw26.PartialOrders", spec := "partialOrders", inPlace := ["internal/reflectlite.TypeOf", "internal/reflectlite.ValueOf", "(internal/reflectlite.Value).Type", "(internal/reflectlite.Value).IsNil", "(internal/reflectlite.Value).Elem", "(internal/reflectlite.Value).Set"], unfollowed := true, recurses := true, named := ["errors.errorType", "math/bits.divideError", "math/bits.overflowError"], apart := false, laid := [("errors.errorType", laid_errors_errorType)], narrowed := true }
def PartialOrdersUptoSaid : Prop := partialOrdersUptoRow.holds Tryd.pinned (OpenSpec.upto partialOrdersSpec)

/-- 'custodylaw26.PartialWhole', WHERE WHAT IT READS IS OF BULK AT MOST 1048576: true; the input reads as it did. -/
def partialWholeUptoRow : OpenClaim := { program := "ytpbkmkclagikhaadoor", sum := "8399d86b42e3451b7e09a70795fd78d0a0ffda306afe90ed60e70f9c917ec075", func := "custody/custodylaw26.PartialWhole", spec := "partialWhole", inPlace := ["internal/reflectlite.TypeOf", "internal/reflectlite.ValueOf", "(internal/reflectlite.Value).Type", "(internal/reflectlite.Value).IsNil", "(internal/reflectlite.Value).Elem", "(internal/reflectlite.Value).Set"], unfollowed := true, recurses := true, named := ["math/bits.divideError", "math/bits.overflowError", "errors.errorType"], apart := false, laid := [("errors.errorType", laid_errors_errorType)], narrowed := true }
def PartialWholeUptoSaid : Prop := partialWholeUptoRow.holds Tryd.pinned (OpenSpec.upto partialWholeSpec)

/-- 'custodylaw26.PartialKnown', WHERE WHAT IT READS IS OF BULK AT MOST 1048576: true; the input reads as it did. -/
def partialKnownUptoRow : OpenClaim := { program := "ytpbkmkclagikhaadoor", sum := "8399d86b42e3451b7e09a70795fd78d0a0ffda306afe90ed60e70f9c917ec075", func := "custody/custodylaw26.PartialKnown", spec := "partialKnown", inPlace := ["internal/reflectlite.TypeOf", "internal/reflectlite.ValueOf", "(internal/reflectlite.Value).Type", "(internal/reflectlite.Value).IsNil", "(internal/reflectlite.Value).Elem", "(internal/reflectlite.Value).Set"], unfollowed := true, recurses := true, named := ["math/bits.divideError", "math/bits.overflowError", "errors.errorType"], apart := false, laid := [("errors.errorType", laid_errors_errorType)], narrowed := true }
def PartialKnownUptoSaid : Prop := partialKnownUptoRow.holds Tryd.pinned (OpenSpec.upto partialKnownSpec)

end Rows
end Go.Proofs.YtpbkmkclagikhaaDoor

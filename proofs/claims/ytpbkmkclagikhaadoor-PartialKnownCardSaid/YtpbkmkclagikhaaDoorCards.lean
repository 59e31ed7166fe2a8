/-
  DERIVED. GIVEN WITH THE SEED: THE CARDS: each row of YtpbkmkclagikhaaDoorRows.lean that lists a variable, with what it lists TIED to the program's text (the seventh form; the later family's looks); each row that meets fmt, with fmt's text TOLD by the authors' own Lean function (tested against real Go, not proved from fmt's source: count such statements apart). THE CARD IS WHAT COUNTS. Prove the row's statement (the work); the ties are given (YtpbkmkclagikhaaDoorTie.lean); close each card by the builder's one call (the guide's Derived/Test/ToyasCard.lean, 'card_holds'). Laid BY PROGRAM, IN A SANDBOX (cutbox-door.mjs). By AI agents, Wed Nov 11 2026. No macro, syntax, notation, axiom, sorry.
-/
import Derived.Test.YtpbkmkclagikhaaDoorRows
import GoSem.ClaimSeven
namespace Go.Proofs.YtpbkmkclagikhaaDoor
namespace Rows

/-- THE TIED CARD OF 'custodylaw26.PartialPart'. -/
def partialPartCard : Claim7 := { stood := { row := partialPartRow, standIns := [], harness := (true, "002054f3f7f5d9079f9015d1a21c33c573b973433f5cdbd21163b9f1bef072c8"), looks := true }, kinds := [], alts := [], laidByText := true, laidKinds := [.handle], laidTests := true, laidLooks := .later }
def PartialPartCardSaid : Prop := Claim7.holds Tryd.pinned (.plain (OpenSpec.ofChange partialPartSpec)) partialPartCard

/-- THE TIED CARD OF 'custodylaw26.PartialMoney'. -/
def partialMoneyCard : Claim7 := { stood := { row := partialMoneyRow, standIns := [], harness := (true, "002054f3f7f5d9079f9015d1a21c33c573b973433f5cdbd21163b9f1bef072c8"), looks := true }, kinds := [], alts := [], laidByText := true, laidKinds := [.handle], laidTests := true, laidLooks := .later }
def PartialMoneyCardSaid : Prop := Claim7.holds Tryd.pinned (.plain (OpenSpec.ofChange partialMoneySpec)) partialMoneyCard

/-- THE TIED CARD OF 'custodylaw26.PartialLegs'. -/
def partialLegsCard : Claim7 := { stood := { row := partialLegsRow, standIns := [], harness := (true, "002054f3f7f5d9079f9015d1a21c33c573b973433f5cdbd21163b9f1bef072c8"), looks := true }, kinds := [], alts := [], laidByText := true, laidKinds := [.handle], laidTests := true, laidLooks := .later }
def PartialLegsCardSaid : Prop := Claim7.holds Tryd.pinned (.plain (OpenSpec.ofChange partialLegsSpec)) partialLegsCard

/-- THE TIED CARD OF 'custodylaw26.PartialOrders'. -/
def partialOrdersCard : Claim7 := { stood := { row := partialOrdersRow, standIns := [], harness := (true, "002054f3f7f5d9079f9015d1a21c33c573b973433f5cdbd21163b9f1bef072c8"), looks := true }, kinds := [], alts := [], laidByText := true, laidKinds := [.handle], laidTests := true, laidLooks := .later }
def PartialOrdersCardSaid : Prop := Claim7.holds Tryd.pinned (.plain (OpenSpec.ofChange partialOrdersSpec)) partialOrdersCard

/-- THE TIED CARD OF 'custodylaw26.PartialWhole'. -/
def partialWholeCard : Claim7 := { stood := { row := partialWholeRow, standIns := [], harness := (true, "002054f3f7f5d9079f9015d1a21c33c573b973433f5cdbd21163b9f1bef072c8"), looks := true }, kinds := [], alts := [], laidByText := true, laidKinds := [.handle], laidTests := true, laidLooks := .later }
def PartialWholeCardSaid : Prop := Claim7.holds Tryd.pinned (.plain (OpenSpec.ofChange partialWholeSpec)) partialWholeCard

/-- THE TIED CARD OF 'custodylaw26.PartialKnown'. -/
def partialKnownCard : Claim7 := { stood := { row := partialKnownRow, standIns := [], harness := (true, "002054f3f7f5d9079f9015d1a21c33c573b973433f5cdbd21163b9f1bef072c8"), looks := true }, kinds := [], alts := [], laidByText := true, laidKinds := [.handle], laidTests := true, laidLooks := .later }
def PartialKnownCardSaid : Prop := Claim7.holds Tryd.pinned (.plain (OpenSpec.ofChange partialKnownSpec)) partialKnownCard

/-- THE SECOND FORM's CARD OF 'custodylaw26.PartialPart'. -/
def partialPartUptoCard : Claim7 := { stood := { row := partialPartUptoRow, standIns := [], harness := (true, "002054f3f7f5d9079f9015d1a21c33c573b973433f5cdbd21163b9f1bef072c8"), looks := true }, kinds := [], alts := [], laidByText := true, laidKinds := [.handle], laidTests := true, laidLooks := .later }
def PartialPartUptoCardSaid : Prop := Claim7.holds Tryd.pinned (.plain (OpenSpec.upto partialPartSpec)) partialPartUptoCard

/-- THE SECOND FORM's CARD OF 'custodylaw26.PartialMoney'. -/
def partialMoneyUptoCard : Claim7 := { stood := { row := partialMoneyUptoRow, standIns := [], harness := (true, "002054f3f7f5d9079f9015d1a21c33c573b973433f5cdbd21163b9f1bef072c8"), looks := true }, kinds := [], alts := [], laidByText := true, laidKinds := [.handle], laidTests := true, laidLooks := .later }
def PartialMoneyUptoCardSaid : Prop := Claim7.holds Tryd.pinned (.plain (OpenSpec.upto partialMoneySpec)) partialMoneyUptoCard

/-- THE SECOND FORM's CARD OF 'custodylaw26.PartialLegs'. -/
def partialLegsUptoCard : Claim7 := { stood := { row := partialLegsUptoRow, standIns := [], harness := (true, "002054f3f7f5d9079f9015d1a21c33c573b973433f5cdbd21163b9f1bef072c8"), looks := true }, kinds := [], alts := [], laidByText := true, laidKinds := [.handle], laidTests := true, laidLooks := .later }
def PartialLegsUptoCardSaid : Prop := Claim7.holds Tryd.pinned (.plain (OpenSpec.upto partialLegsSpec)) partialLegsUptoCard

/-- THE SECOND FORM's CARD OF 'custodylaw26.PartialOrders'. -/
def partialOrdersUptoCard : Claim7 := { stood := { row := partialOrdersUptoRow, standIns := [], harness := (true, "002054f3f7f5d9079f9015d1a21c33c573b973433f5cdbd21163b9f1bef072c8"), looks := true }, kinds := [], alts := [], laidByText := true, laidKinds := [.handle], laidTests := true, laidLooks := .later }
def PartialOrdersUptoCardSaid : Prop := Claim7.holds Tryd.pinned (.plain (OpenSpec.upto partialOrdersSpec)) partialOrdersUptoCard

/-- THE SECOND FORM's CARD OF 'custodylaw26.PartialWhole'. -/
def partialWholeUptoCard : Claim7 := { stood := { row := partialWholeUptoRow, standIns := [], harness := (true, "002054f3f7f5d9079f9015d1a21c33c573b973433f5cdbd21163b9f1bef072c8"), looks := true }, kinds := [], alts := [], laidByText := true, laidKinds := [.handle], laidTests := true, laidLooks := .later }
def PartialWholeUptoCardSaid : Prop := Claim7.holds Tryd.pinned (.plain (OpenSpec.upto partialWholeSpec)) partialWholeUptoCard

/-- THE SECOND FORM's CARD OF 'custodylaw26.PartialKnown'. -/
def partialKnownUptoCard : Claim7 := { stood := { row := partialKnownUptoRow, standIns := [], harness := (true, "002054f3f7f5d9079f9015d1a21c33c573b973433f5cdbd21163b9f1bef072c8"), looks := true }, kinds := [], alts := [], laidByText := true, laidKinds := [.handle], laidTests := true, laidLooks := .later }
def PartialKnownUptoCardSaid : Prop := Claim7.holds Tryd.pinned (.plain (OpenSpec.upto partialKnownSpec)) partialKnownUptoCard
end Rows
end Go.Proofs.YtpbkmkclagikhaaDoor

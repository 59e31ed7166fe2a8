/-
  DERIVED. GIVEN WITH THE SEED: THE CARDS: each row of YthkhemcbkcoliaaDoorRows.lean that lists a variable, with what it lists TIED to the program's text (the seventh form; the later family's looks); each row that meets fmt, with fmt's text TOLD by the authors' own Lean function (tested against real Go, not proved from fmt's source: count such statements apart). THE CARD IS WHAT COUNTS. Prove the row's statement (the work); the ties are given (YthkhemcbkcoliaaDoorTie.lean); close each card by the builder's one call (the guide's Derived/Test/ToyasCard.lean, 'card_holds'). Laid BY PROGRAM, IN A SANDBOX (cutbox-door.mjs). By AI agents, Wed Nov 11 2026. No macro, syntax, notation, axiom, sorry.
-/
import Derived.Test.YthkhemcbkcoliaaDoorRows
import GoSem.ClaimSeven
namespace Go.Proofs.YthkhemcbkcoliaaDoor
namespace Rows

/-- THE TIED CARD OF 'custodylaw05.WireFramed'. -/
def wireFramedCard : Claim7 := { stood := { row := wireFramedRow, standIns := [], harness := (true, "1f8b6525c663cd88dace6bd3fc2a82f57d83c494127706e5b720595abc4770da"), looks := true }, kinds := [], alts := [], laidByText := true, laidKinds := [.handle], laidTests := true, laidLooks := .later }
def WireFramedCardSaid : Prop := Claim7.holds Tryd.pinned (.plain (OpenSpec.ofChange wireFramedSpec)) wireFramedCard

/-- THE TIED CARD OF 'custodylaw05.WireReads'. -/
def wireReadsCard : Claim7 := { stood := { row := wireReadsRow, standIns := [], harness := (true, "1f8b6525c663cd88dace6bd3fc2a82f57d83c494127706e5b720595abc4770da"), looks := true }, kinds := [], alts := [], laidByText := true, laidKinds := [.handle], laidTests := true, laidLooks := .later }
def WireReadsCardSaid : Prop := Claim7.holds Tryd.pinned (.plain (OpenSpec.ofChange wireReadsSpec)) wireReadsCard

/-- THE TIED CARD OF 'custodylaw05.WireFrames'. -/
def wireFramesCard : Claim7 := { stood := { row := wireFramesRow, standIns := [], harness := (true, "1f8b6525c663cd88dace6bd3fc2a82f57d83c494127706e5b720595abc4770da"), looks := true }, kinds := [], alts := [], laidByText := true, laidKinds := [.handle], laidTests := true, laidLooks := .later }
def WireFramesCardSaid : Prop := Claim7.holds Tryd.pinned (.plain (OpenSpec.ofChange wireFramesSpec)) wireFramesCard

/-- THE TIED CARD OF 'custodylaw05.WireUnframes'. -/
def wireUnframesCard : Claim7 := { stood := { row := wireUnframesRow, standIns := [], harness := (true, "1f8b6525c663cd88dace6bd3fc2a82f57d83c494127706e5b720595abc4770da"), looks := true }, kinds := [], alts := [], laidByText := true, laidKinds := [.handle], laidTests := true, laidLooks := .later }
def WireUnframesCardSaid : Prop := Claim7.holds Tryd.pinned (.plain (OpenSpec.ofChange wireUnframesSpec)) wireUnframesCard

/-- THE TIED CARD OF 'custodylaw05.WireBurst'. -/
def wireBurstCard : Claim7 := { stood := { row := wireBurstRow, standIns := [], harness := (true, "1f8b6525c663cd88dace6bd3fc2a82f57d83c494127706e5b720595abc4770da"), looks := true }, kinds := [], alts := [], laidByText := true, laidKinds := [.handle], laidTests := true, laidLooks := .later }
def WireBurstCardSaid : Prop := Claim7.holds Tryd.pinned (.plain (OpenSpec.ofChange wireBurstSpec)) wireBurstCard

/-- THE TIED CARD OF 'custodylaw05.WireKnown'. -/
def wireKnownCard : Claim7 := { stood := { row := wireKnownRow, standIns := [], harness := (true, "1f8b6525c663cd88dace6bd3fc2a82f57d83c494127706e5b720595abc4770da"), looks := true }, kinds := [], alts := [], laidByText := true, laidKinds := [.handle], laidTests := true, laidLooks := .later }
def WireKnownCardSaid : Prop := Claim7.holds Tryd.pinned (.plain (OpenSpec.ofChange wireKnownSpec)) wireKnownCard

/-- THE SECOND FORM's CARD OF 'custodylaw05.WireFramed'. -/
def wireFramedUptoCard : Claim7 := { stood := { row := wireFramedUptoRow, standIns := [], harness := (true, "1f8b6525c663cd88dace6bd3fc2a82f57d83c494127706e5b720595abc4770da"), looks := true }, kinds := [], alts := [], laidByText := true, laidKinds := [.handle], laidTests := true, laidLooks := .later }
def WireFramedUptoCardSaid : Prop := Claim7.holds Tryd.pinned (.plain (OpenSpec.upto wireFramedSpec)) wireFramedUptoCard

/-- THE SECOND FORM's CARD OF 'custodylaw05.WireReads'. -/
def wireReadsUptoCard : Claim7 := { stood := { row := wireReadsUptoRow, standIns := [], harness := (true, "1f8b6525c663cd88dace6bd3fc2a82f57d83c494127706e5b720595abc4770da"), looks := true }, kinds := [], alts := [], laidByText := true, laidKinds := [.handle], laidTests := true, laidLooks := .later }
def WireReadsUptoCardSaid : Prop := Claim7.holds Tryd.pinned (.plain (OpenSpec.upto wireReadsSpec)) wireReadsUptoCard

/-- THE SECOND FORM's CARD OF 'custodylaw05.WireFrames'. -/
def wireFramesUptoCard : Claim7 := { stood := { row := wireFramesUptoRow, standIns := [], harness := (true, "1f8b6525c663cd88dace6bd3fc2a82f57d83c494127706e5b720595abc4770da"), looks := true }, kinds := [], alts := [], laidByText := true, laidKinds := [.handle], laidTests := true, laidLooks := .later }
def WireFramesUptoCardSaid : Prop := Claim7.holds Tryd.pinned (.plain (OpenSpec.upto wireFramesSpec)) wireFramesUptoCard

/-- THE SECOND FORM's CARD OF 'custodylaw05.WireUnframes'. -/
def wireUnframesUptoCard : Claim7 := { stood := { row := wireUnframesUptoRow, standIns := [], harness := (true, "1f8b6525c663cd88dace6bd3fc2a82f57d83c494127706e5b720595abc4770da"), looks := true }, kinds := [], alts := [], laidByText := true, laidKinds := [.handle], laidTests := true, laidLooks := .later }
def WireUnframesUptoCardSaid : Prop := Claim7.holds Tryd.pinned (.plain (OpenSpec.upto wireUnframesSpec)) wireUnframesUptoCard

/-- THE SECOND FORM's CARD OF 'custodylaw05.WireBurst'. -/
def wireBurstUptoCard : Claim7 := { stood := { row := wireBurstUptoRow, standIns := [], harness := (true, "1f8b6525c663cd88dace6bd3fc2a82f57d83c494127706e5b720595abc4770da"), looks := true }, kinds := [], alts := [], laidByText := true, laidKinds := [.handle], laidTests := true, laidLooks := .later }
def WireBurstUptoCardSaid : Prop := Claim7.holds Tryd.pinned (.plain (OpenSpec.upto wireBurstSpec)) wireBurstUptoCard

/-- THE SECOND FORM's CARD OF 'custodylaw05.WireKnown'. -/
def wireKnownUptoCard : Claim7 := { stood := { row := wireKnownUptoRow, standIns := [], harness := (true, "1f8b6525c663cd88dace6bd3fc2a82f57d83c494127706e5b720595abc4770da"), looks := true }, kinds := [], alts := [], laidByText := true, laidKinds := [.handle], laidTests := true, laidLooks := .later }
def WireKnownUptoCardSaid : Prop := Claim7.holds Tryd.pinned (.plain (OpenSpec.upto wireKnownSpec)) wireKnownUptoCard
end Rows
end Go.Proofs.YthkhemcbkcoliaaDoor

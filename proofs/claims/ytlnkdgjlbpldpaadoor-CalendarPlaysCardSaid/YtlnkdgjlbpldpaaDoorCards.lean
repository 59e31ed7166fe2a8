/-
  DERIVED. GIVEN WITH THE SEED: THE CARDS: each row of YtlnkdgjlbpldpaaDoorRows.lean that lists a variable, with what it lists TIED to the program's text (the seventh form; the later family's looks); each row that meets fmt, with fmt's text TOLD by the authors' own Lean function (tested against real Go, not proved from fmt's source: count such statements apart). THE CARD IS WHAT COUNTS. Prove the row's statement (the work); the ties are given (YtlnkdgjlbpldpaaDoorTie.lean); close each card by the builder's one call (the guide's Derived/Test/ToyasCard.lean, 'card_holds'). Laid BY PROGRAM, IN A SANDBOX (cutbox-door.mjs). By AI agents, Wed Nov 11 2026. No macro, syntax, notation, axiom, sorry.
-/
import Derived.Test.YtlnkdgjlbpldpaaDoorRows
import GoSem.ClaimSeven
namespace Go.Proofs.YtlnkdgjlbpldpaaDoor
namespace Rows

/-- THE TIED CARD OF 'custodylaw03.CalendarDates'. -/
def calendarDatesCard : Claim7 := { stood := { row := calendarDatesRow, standIns := [], harness := (true, "72da0d20b5ee7edb03d997da58f7766ee57b657230b4429f70d85e5d7ef4a77c"), looks := true }, kinds := [], alts := [], laidByText := true, laidKinds := [.handle], laidTests := true, laidLooks := .later }
def CalendarDatesCardSaid : Prop := Claim7.holds Tryd.pinned (.plain (OpenSpec.ofChange calendarDatesSpec)) calendarDatesCard

/-- THE TIED CARD OF 'custodylaw03.CalendarReckons'. -/
def calendarReckonsCard : Claim7 := { stood := { row := calendarReckonsRow, standIns := [], harness := (true, "72da0d20b5ee7edb03d997da58f7766ee57b657230b4429f70d85e5d7ef4a77c"), looks := true }, kinds := [], alts := [], laidByText := true, laidKinds := [.handle], laidTests := true, laidLooks := .later }
def CalendarReckonsCardSaid : Prop := Claim7.holds Tryd.pinned (.plain (OpenSpec.ofChange calendarReckonsSpec)) calendarReckonsCard

/-- THE TIED CARD OF 'custodylaw03.CalendarPlays'. -/
def calendarPlaysCard : Claim7 := { stood := { row := calendarPlaysRow, standIns := [], harness := (true, "72da0d20b5ee7edb03d997da58f7766ee57b657230b4429f70d85e5d7ef4a77c"), looks := true }, kinds := [], alts := [], laidByText := true, laidKinds := [.handle], laidTests := true, laidLooks := .later }
def CalendarPlaysCardSaid : Prop := Claim7.holds Tryd.pinned (.plain (OpenSpec.ofChange calendarPlaysSpec)) calendarPlaysCard

/-- THE TIED CARD OF 'custodylaw03.CalendarKnown'. -/
def calendarKnownCard : Claim7 := { stood := { row := calendarKnownRow, standIns := [], harness := (true, "72da0d20b5ee7edb03d997da58f7766ee57b657230b4429f70d85e5d7ef4a77c"), looks := true }, kinds := [], alts := [], laidByText := true, laidKinds := [.handle], laidTests := true, laidLooks := .later }
def CalendarKnownCardSaid : Prop := Claim7.holds Tryd.pinned (.plain (OpenSpec.ofChange calendarKnownSpec)) calendarKnownCard

/-- THE SECOND FORM's CARD OF 'custodylaw03.CalendarDates'. -/
def calendarDatesUptoCard : Claim7 := { stood := { row := calendarDatesUptoRow, standIns := [], harness := (true, "72da0d20b5ee7edb03d997da58f7766ee57b657230b4429f70d85e5d7ef4a77c"), looks := true }, kinds := [], alts := [], laidByText := true, laidKinds := [.handle], laidTests := true, laidLooks := .later }
def CalendarDatesUptoCardSaid : Prop := Claim7.holds Tryd.pinned (.plain (OpenSpec.upto calendarDatesSpec)) calendarDatesUptoCard

/-- THE SECOND FORM's CARD OF 'custodylaw03.CalendarReckons'. -/
def calendarReckonsUptoCard : Claim7 := { stood := { row := calendarReckonsUptoRow, standIns := [], harness := (true, "72da0d20b5ee7edb03d997da58f7766ee57b657230b4429f70d85e5d7ef4a77c"), looks := true }, kinds := [], alts := [], laidByText := true, laidKinds := [.handle], laidTests := true, laidLooks := .later }
def CalendarReckonsUptoCardSaid : Prop := Claim7.holds Tryd.pinned (.plain (OpenSpec.upto calendarReckonsSpec)) calendarReckonsUptoCard

/-- THE SECOND FORM's CARD OF 'custodylaw03.CalendarPlays'. -/
def calendarPlaysUptoCard : Claim7 := { stood := { row := calendarPlaysUptoRow, standIns := [], harness := (true, "72da0d20b5ee7edb03d997da58f7766ee57b657230b4429f70d85e5d7ef4a77c"), looks := true }, kinds := [], alts := [], laidByText := true, laidKinds := [.handle], laidTests := true, laidLooks := .later }
def CalendarPlaysUptoCardSaid : Prop := Claim7.holds Tryd.pinned (.plain (OpenSpec.upto calendarPlaysSpec)) calendarPlaysUptoCard

/-- THE SECOND FORM's CARD OF 'custodylaw03.CalendarKnown'. -/
def calendarKnownUptoCard : Claim7 := { stood := { row := calendarKnownUptoRow, standIns := [], harness := (true, "72da0d20b5ee7edb03d997da58f7766ee57b657230b4429f70d85e5d7ef4a77c"), looks := true }, kinds := [], alts := [], laidByText := true, laidKinds := [.handle], laidTests := true, laidLooks := .later }
def CalendarKnownUptoCardSaid : Prop := Claim7.holds Tryd.pinned (.plain (OpenSpec.upto calendarKnownSpec)) calendarKnownUptoCard
end Rows
end Go.Proofs.YtlnkdgjlbpldpaaDoor

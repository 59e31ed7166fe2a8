/-
  DERIVED. GIVEN WITH THE SEED: THE CARDS: each row of YtihgmlcmdpmhhaaDoorRows.lean that lists a variable, with what it lists TIED to the program's text (the seventh form; the later family's looks); each row that meets fmt, with fmt's text TOLD by the authors' own Lean function (tested against real Go, not proved from fmt's source: count such statements apart). THE CARD IS WHAT COUNTS. Prove the row's statement (the work); the ties are given (YtihgmlcmdpmhhaaDoorTie.lean); close each card by the builder's one call (the guide's Derived/Test/ToyasCard.lean, 'card_holds'). Laid BY PROGRAM, IN A SANDBOX (cutbox-door.mjs). By AI agents, Wed Nov 11 2026. No macro, syntax, notation, axiom, sorry.
-/
import Derived.Test.YtihgmlcmdpmhhaaDoorRows
import GoSem.ClaimSeven
namespace Go.Proofs.YtihgmlcmdpmhhaaDoor
namespace Rows

/-- THE TIED CARD OF 'custodylaw27.JournalScan'. -/
def journalScanCard : Claim7 := { stood := { row := journalScanRow, standIns := [], harness := (true, "c540707a11973ec838c105bfdbc27938f78ebb152d39dbf248459be89ea356fc"), looks := true }, kinds := [], alts := [], laidByText := true, laidKinds := [.handle], laidTests := true, laidLooks := .later }
def JournalScanCardSaid : Prop := Claim7.holds Tryd.pinned (.plain (OpenSpec.ofChange journalScanSpec)) journalScanCard

/-- THE TIED CARD OF 'custodylaw27.JournalDisks'. -/
def journalDisksCard : Claim7 := { stood := { row := journalDisksRow, standIns := [], harness := (true, "c540707a11973ec838c105bfdbc27938f78ebb152d39dbf248459be89ea356fc"), looks := true }, kinds := [], alts := [], laidByText := true, laidKinds := [.handle], laidTests := true, laidLooks := .later }
def JournalDisksCardSaid : Prop := Claim7.holds Tryd.pinned (.plain (OpenSpec.ofChange journalDisksSpec)) journalDisksCard

/-- THE SECOND FORM's CARD OF 'custodylaw27.JournalScan'. -/
def journalScanUptoCard : Claim7 := { stood := { row := journalScanUptoRow, standIns := [], harness := (true, "c540707a11973ec838c105bfdbc27938f78ebb152d39dbf248459be89ea356fc"), looks := true }, kinds := [], alts := [], laidByText := true, laidKinds := [.handle], laidTests := true, laidLooks := .later }
def JournalScanUptoCardSaid : Prop := Claim7.holds Tryd.pinned (.plain (OpenSpec.upto journalScanSpec)) journalScanUptoCard

/-- THE SECOND FORM's CARD OF 'custodylaw27.JournalDisks'. -/
def journalDisksUptoCard : Claim7 := { stood := { row := journalDisksUptoRow, standIns := [], harness := (true, "c540707a11973ec838c105bfdbc27938f78ebb152d39dbf248459be89ea356fc"), looks := true }, kinds := [], alts := [], laidByText := true, laidKinds := [.handle], laidTests := true, laidLooks := .later }
def JournalDisksUptoCardSaid : Prop := Claim7.holds Tryd.pinned (.plain (OpenSpec.upto journalDisksSpec)) journalDisksUptoCard
end Rows
end Go.Proofs.YtihgmlcmdpmhhaaDoor

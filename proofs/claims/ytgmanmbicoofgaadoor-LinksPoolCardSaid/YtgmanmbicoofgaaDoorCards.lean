/-
  DERIVED. GIVEN WITH THE SEED: THE CARDS: each row of YtgmanmbicoofgaaDoorRows.lean that lists a variable, with what it lists TIED to the program's text (the seventh form; the later family's looks); each row that meets fmt, with fmt's text TOLD by the authors' own Lean function (tested against real Go, not proved from fmt's source: count such statements apart). THE CARD IS WHAT COUNTS. Prove the row's statement (the work); the ties are given (YtgmanmbicoofgaaDoorTie.lean); close each card by the builder's one call (the guide's Derived/Test/ToyasCard.lean, 'card_holds'). Laid BY PROGRAM, IN A SANDBOX (cutbox-door.mjs). By AI agents, Wed Nov 11 2026. No macro, syntax, notation, axiom, sorry.
-/
import Derived.Test.YtgmanmbicoofgaaDoorRows
import GoSem.ClaimSeven
namespace Go.Proofs.YtgmanmbicoofgaaDoor
namespace Rows

/-- THE TIED CARD OF 'custodylaw23.LinksGroups'. -/
def linksGroupsCard : Claim7 := { stood := { row := linksGroupsRow, standIns := [], harness := (true, "bca298298b53e2c38a38c8f27bf36efb4eedf9b04f735f3e52898eea418083f8"), looks := true }, kinds := [], alts := [], laidByText := true, laidKinds := [.handle], laidTests := true, laidLooks := .later }
def LinksGroupsCardSaid : Prop := Claim7.holds Tryd.pinned (.plain (OpenSpec.ofChange linksGroupsSpec)) linksGroupsCard

/-- THE TIED CARD OF 'custodylaw23.LinksOrder'. -/
def linksOrderCard : Claim7 := { stood := { row := linksOrderRow, standIns := [], harness := (true, "bca298298b53e2c38a38c8f27bf36efb4eedf9b04f735f3e52898eea418083f8"), looks := true }, kinds := [], alts := [], laidByText := true, laidKinds := [.handle], laidTests := true, laidLooks := .later }
def LinksOrderCardSaid : Prop := Claim7.holds Tryd.pinned (.plain (OpenSpec.ofChange linksOrderSpec)) linksOrderCard

/-- THE TIED CARD OF 'custodylaw23.LinksPool'. -/
def linksPoolCard : Claim7 := { stood := { row := linksPoolRow, standIns := [], harness := (true, "bca298298b53e2c38a38c8f27bf36efb4eedf9b04f735f3e52898eea418083f8"), looks := true }, kinds := [], alts := [], laidByText := true, laidKinds := [.handle], laidTests := true, laidLooks := .later }
def LinksPoolCardSaid : Prop := Claim7.holds Tryd.pinned (.plain (OpenSpec.ofChange linksPoolSpec)) linksPoolCard

/-- THE TIED CARD OF 'custodylaw23.LinksResolve'. -/
def linksResolveCard : Claim7 := { stood := { row := linksResolveRow, standIns := [], harness := (true, "bca298298b53e2c38a38c8f27bf36efb4eedf9b04f735f3e52898eea418083f8"), looks := true }, kinds := [], alts := [], laidByText := true, laidKinds := [.handle], laidTests := true, laidLooks := .later }
def LinksResolveCardSaid : Prop := Claim7.holds Tryd.pinned (.plain (OpenSpec.ofChange linksResolveSpec)) linksResolveCard

/-- THE TIED CARD OF 'custodylaw23.LinksSorted'. -/
def linksSortedCard : Claim7 := { stood := { row := linksSortedRow, standIns := [], harness := (true, "bca298298b53e2c38a38c8f27bf36efb4eedf9b04f735f3e52898eea418083f8"), looks := true }, kinds := [], alts := [], laidByText := true, laidKinds := [.handle], laidTests := true, laidLooks := .later }
def LinksSortedCardSaid : Prop := Claim7.holds Tryd.pinned (.plain (OpenSpec.ofChange linksSortedSpec)) linksSortedCard

/-- THE SECOND FORM's CARD OF 'custodylaw23.LinksGroups'. -/
def linksGroupsUptoCard : Claim7 := { stood := { row := linksGroupsUptoRow, standIns := [], harness := (true, "bca298298b53e2c38a38c8f27bf36efb4eedf9b04f735f3e52898eea418083f8"), looks := true }, kinds := [], alts := [], laidByText := true, laidKinds := [.handle], laidTests := true, laidLooks := .later }
def LinksGroupsUptoCardSaid : Prop := Claim7.holds Tryd.pinned (.plain (OpenSpec.upto linksGroupsSpec)) linksGroupsUptoCard

/-- THE SECOND FORM's CARD OF 'custodylaw23.LinksOrder'. -/
def linksOrderUptoCard : Claim7 := { stood := { row := linksOrderUptoRow, standIns := [], harness := (true, "bca298298b53e2c38a38c8f27bf36efb4eedf9b04f735f3e52898eea418083f8"), looks := true }, kinds := [], alts := [], laidByText := true, laidKinds := [.handle], laidTests := true, laidLooks := .later }
def LinksOrderUptoCardSaid : Prop := Claim7.holds Tryd.pinned (.plain (OpenSpec.upto linksOrderSpec)) linksOrderUptoCard

/-- THE SECOND FORM's CARD OF 'custodylaw23.LinksPool'. -/
def linksPoolUptoCard : Claim7 := { stood := { row := linksPoolUptoRow, standIns := [], harness := (true, "bca298298b53e2c38a38c8f27bf36efb4eedf9b04f735f3e52898eea418083f8"), looks := true }, kinds := [], alts := [], laidByText := true, laidKinds := [.handle], laidTests := true, laidLooks := .later }
def LinksPoolUptoCardSaid : Prop := Claim7.holds Tryd.pinned (.plain (OpenSpec.upto linksPoolSpec)) linksPoolUptoCard

/-- THE SECOND FORM's CARD OF 'custodylaw23.LinksResolve'. -/
def linksResolveUptoCard : Claim7 := { stood := { row := linksResolveUptoRow, standIns := [], harness := (true, "bca298298b53e2c38a38c8f27bf36efb4eedf9b04f735f3e52898eea418083f8"), looks := true }, kinds := [], alts := [], laidByText := true, laidKinds := [.handle], laidTests := true, laidLooks := .later }
def LinksResolveUptoCardSaid : Prop := Claim7.holds Tryd.pinned (.plain (OpenSpec.upto linksResolveSpec)) linksResolveUptoCard

/-- THE SECOND FORM's CARD OF 'custodylaw23.LinksSorted'. -/
def linksSortedUptoCard : Claim7 := { stood := { row := linksSortedUptoRow, standIns := [], harness := (true, "bca298298b53e2c38a38c8f27bf36efb4eedf9b04f735f3e52898eea418083f8"), looks := true }, kinds := [], alts := [], laidByText := true, laidKinds := [.handle], laidTests := true, laidLooks := .later }
def LinksSortedUptoCardSaid : Prop := Claim7.holds Tryd.pinned (.plain (OpenSpec.upto linksSortedSpec)) linksSortedUptoCard
end Rows
end Go.Proofs.YtgmanmbicoofgaaDoor

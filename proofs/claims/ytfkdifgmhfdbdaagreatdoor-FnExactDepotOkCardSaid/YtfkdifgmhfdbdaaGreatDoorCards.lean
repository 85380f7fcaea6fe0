/-
  DERIVED. GIVEN WITH THE SEED: THE CARDS: each row of YtfkdifgmhfdbdaaGreatDoorRows.lean that lists a variable, with what it lists TIED to the program's text (the seventh form; the later family's looks); each row that meets fmt, with fmt's text TOLD by the authors' own Lean function (tested against real Go, not proved from fmt's source: count such statements apart). THE CARD IS WHAT COUNTS. Prove the row's statement (the work); the ties are given (YtfkdifgmhfdbdaaGreatDoorTie.lean); close each card by the builder's one call (the guide's Derived/Test/ToyasCard.lean, 'card_holds'). Laid BY PROGRAM, IN A SANDBOX (cutbox-door.mjs). By AI agents, Wed Nov 11 2026. No macro, syntax, notation, axiom, sorry.
-/
import Derived.Test.YtfkdifgmhfdbdaaGreatDoorRows
import GoSem.ClaimSeven
namespace Go.Proofs.YtfkdifgmhfdbdaaGreatDoor
namespace Rows

/-- THE TIED CARD OF 'laws.FnExactDepotOk'. -/
def fnExactDepotOkCard : Claim7 := { stood := { row := fnExactDepotOkRow, standIns := [], harness := (true, "3fba610dd31135606ffe39e145843ba4b363b4f2f587c0d7c13086c497f9f63c"), looks := true }, kinds := [], alts := [], laidByText := true, laidKinds := [.data, .data, .data], laidTests := true, laidLooks := .later }
def FnExactDepotOkCardSaid : Prop := Claim7.holds Tryz.pinned (.plain (OpenSpec.ofChange fnExactDepotOkSpec)) fnExactDepotOkCard

/-- THE TIED CARD OF 'laws.FnExactNewest'. -/
def fnExactNewestCard : Claim7 := { stood := { row := fnExactNewestRow, standIns := [], harness := (true, "3fba610dd31135606ffe39e145843ba4b363b4f2f587c0d7c13086c497f9f63c"), looks := true }, kinds := [], alts := [], laidByText := true, laidKinds := [.data, .data, .data, .sentinel, .sentinel], laidTests := true, laidLooks := .later }
def FnExactNewestCardSaid : Prop := Claim7.holds Tryz.pinned (.plain (OpenSpec.ofChange fnExactNewestSpec)) fnExactNewestCard

/-- THE TIED CARD OF 'laws.FnExactFind'. -/
def fnExactFindCard : Claim7 := { stood := { row := fnExactFindRow, standIns := [], harness := (true, "3fba610dd31135606ffe39e145843ba4b363b4f2f587c0d7c13086c497f9f63c"), looks := true }, kinds := [], alts := [], laidByText := true, laidKinds := [.data, .data, .data, .sentinel, .sentinel], laidTests := true, laidLooks := .later }
def FnExactFindCardSaid : Prop := Claim7.holds Tryz.pinned (.plain (OpenSpec.ofChange fnExactFindSpec)) fnExactFindCard

/-- THE SECOND FORM's CARD OF 'laws.FnExactDepotOk'. -/
def fnExactDepotOkUptoCard : Claim7 := { stood := { row := fnExactDepotOkUptoRow, standIns := [], harness := (true, "3fba610dd31135606ffe39e145843ba4b363b4f2f587c0d7c13086c497f9f63c"), looks := true }, kinds := [], alts := [], laidByText := true, laidKinds := [.data, .data, .data], laidTests := true, laidLooks := .later }
def FnExactDepotOkUptoCardSaid : Prop := Claim7.holds Tryz.pinned (.plain (OpenSpec.upto fnExactDepotOkSpec)) fnExactDepotOkUptoCard

/-- THE SECOND FORM's CARD OF 'laws.FnExactNewest'. -/
def fnExactNewestUptoCard : Claim7 := { stood := { row := fnExactNewestUptoRow, standIns := [], harness := (true, "3fba610dd31135606ffe39e145843ba4b363b4f2f587c0d7c13086c497f9f63c"), looks := true }, kinds := [], alts := [], laidByText := true, laidKinds := [.data, .data, .data, .sentinel, .sentinel], laidTests := true, laidLooks := .later }
def FnExactNewestUptoCardSaid : Prop := Claim7.holds Tryz.pinned (.plain (OpenSpec.upto fnExactNewestSpec)) fnExactNewestUptoCard

/-- THE SECOND FORM's CARD OF 'laws.FnExactFind'. -/
def fnExactFindUptoCard : Claim7 := { stood := { row := fnExactFindUptoRow, standIns := [], harness := (true, "3fba610dd31135606ffe39e145843ba4b363b4f2f587c0d7c13086c497f9f63c"), looks := true }, kinds := [], alts := [], laidByText := true, laidKinds := [.data, .data, .data, .sentinel, .sentinel], laidTests := true, laidLooks := .later }
def FnExactFindUptoCardSaid : Prop := Claim7.holds Tryz.pinned (.plain (OpenSpec.upto fnExactFindSpec)) fnExactFindUptoCard
end Rows
end Go.Proofs.YtfkdifgmhfdbdaaGreatDoor

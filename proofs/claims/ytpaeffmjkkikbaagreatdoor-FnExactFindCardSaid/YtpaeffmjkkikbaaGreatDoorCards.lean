/-
  DERIVED. GIVEN WITH THE SEED: THE CARDS: each row of YtpaeffmjkkikbaaGreatDoorRows.lean that lists a variable, with what it lists TIED to the program's text (the seventh form; the later family's looks); each row that meets fmt, with fmt's text TOLD by the authors' own Lean function (tested against real Go, not proved from fmt's source: count such statements apart). THE CARD IS WHAT COUNTS. Prove the row's statement (the work); the ties are given (YtpaeffmjkkikbaaGreatDoorTie.lean); close each card by the builder's one call (the guide's Derived/Test/ToyasCard.lean, 'card_holds'). Laid BY PROGRAM, IN A SANDBOX (cutbox-door.mjs). By AI agents, Wed Nov 11 2026. No macro, syntax, notation, axiom, sorry.
-/
import Derived.Test.YtpaeffmjkkikbaaGreatDoorRows
import GoSem.ClaimSeven
namespace Go.Proofs.YtpaeffmjkkikbaaGreatDoor
namespace Rows

/-- THE TIED CARD OF 'laws.FnExactNewest'. -/
def fnExactNewestCard : Claim7 := { stood := { row := fnExactNewestRow, standIns := [], harness := (true, "ac6478920c8514525fd194d9247785b8d9f3ee9fa7e62dc45ee6e4c4eb65a5fa"), looks := true }, kinds := [], alts := [], laidByText := true, laidKinds := [.data, .data, .data, .sentinel, .sentinel], laidTests := true, laidLooks := .later }
def FnExactNewestCardSaid : Prop := Claim7.holds Tryz.pinned (.plain (OpenSpec.ofChange fnExactNewestSpec)) fnExactNewestCard

/-- THE TIED CARD OF 'laws.FnExactFind'. -/
def fnExactFindCard : Claim7 := { stood := { row := fnExactFindRow, standIns := [], harness := (true, "ac6478920c8514525fd194d9247785b8d9f3ee9fa7e62dc45ee6e4c4eb65a5fa"), looks := true }, kinds := [], alts := [], laidByText := true, laidKinds := [.data, .data, .data, .sentinel, .sentinel], laidTests := true, laidLooks := .later }
def FnExactFindCardSaid : Prop := Claim7.holds Tryz.pinned (.plain (OpenSpec.ofChange fnExactFindSpec)) fnExactFindCard

/-- THE SECOND FORM's CARD OF 'laws.FnExactNewest'. -/
def fnExactNewestUptoCard : Claim7 := { stood := { row := fnExactNewestUptoRow, standIns := [], harness := (true, "ac6478920c8514525fd194d9247785b8d9f3ee9fa7e62dc45ee6e4c4eb65a5fa"), looks := true }, kinds := [], alts := [], laidByText := true, laidKinds := [.data, .data, .data, .sentinel, .sentinel], laidTests := true, laidLooks := .later }
def FnExactNewestUptoCardSaid : Prop := Claim7.holds Tryz.pinned (.plain (OpenSpec.upto fnExactNewestSpec)) fnExactNewestUptoCard

/-- THE SECOND FORM's CARD OF 'laws.FnExactFind'. -/
def fnExactFindUptoCard : Claim7 := { stood := { row := fnExactFindUptoRow, standIns := [], harness := (true, "ac6478920c8514525fd194d9247785b8d9f3ee9fa7e62dc45ee6e4c4eb65a5fa"), looks := true }, kinds := [], alts := [], laidByText := true, laidKinds := [.data, .data, .data, .sentinel, .sentinel], laidTests := true, laidLooks := .later }
def FnExactFindUptoCardSaid : Prop := Claim7.holds Tryz.pinned (.plain (OpenSpec.upto fnExactFindSpec)) fnExactFindUptoCard
end Rows
end Go.Proofs.YtpaeffmjkkikbaaGreatDoor

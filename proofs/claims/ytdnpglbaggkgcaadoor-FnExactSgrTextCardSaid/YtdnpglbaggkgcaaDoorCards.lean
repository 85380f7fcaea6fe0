/-
  DERIVED. GIVEN WITH THE SEED: THE CARDS: each row of YtdnpglbaggkgcaaDoorRows.lean that lists a variable, with what it lists TIED to the program's text (the seventh form; the later family's looks); each row that meets fmt, with fmt's text TOLD by the authors' own Lean function (tested against real Go, not proved from fmt's source: count such statements apart). THE CARD IS WHAT COUNTS. Prove the row's statement (the work); the ties are given (YtdnpglbaggkgcaaDoorTie.lean); close each card by the builder's one call (the guide's Derived/Test/ToyasCard.lean, 'card_holds'). Laid BY PROGRAM, IN A SANDBOX (cutbox-door.mjs). By AI agents, Wed Nov 11 2026. No macro, syntax, notation, axiom, sorry.
-/
import Derived.Test.YtdnpglbaggkgcaaDoorRows
import GoSem.ClaimSeven
namespace Go.Proofs.YtdnpglbaggkgcaaDoor
namespace Rows

/-- THE TIED CARD OF 'laws.FnExactNumText'. -/
def fnExactNumTextCard : Claim7 := { stood := { row := fnExactNumTextRow, standIns := [], harness := (true, "55f55b28f405f27dd0052515ce769595e124fd510e39b6d7b9fc44a1eaa72276"), looks := true }, kinds := [], alts := [], laidByText := true, laidKinds := [.data, .data, .data], laidTests := true, laidLooks := .later }
def FnExactNumTextCardSaid : Prop := Claim7.holds Tryd.pinned (.plain (OpenSpec.ofChange fnExactNumTextSpec)) fnExactNumTextCard

/-- THE TIED CARD OF 'laws.FnExactLogName'. -/
def fnExactLogNameCard : Claim7 := { stood := { row := fnExactLogNameRow, standIns := [], harness := (true, "55f55b28f405f27dd0052515ce769595e124fd510e39b6d7b9fc44a1eaa72276"), looks := true }, kinds := [], alts := [], laidByText := true, laidKinds := [.data, .data, .data], laidTests := true, laidLooks := .later }
def FnExactLogNameCardSaid : Prop := Claim7.holds Tryd.pinned (.plain (OpenSpec.ofChange fnExactLogNameSpec)) fnExactLogNameCard

/-- THE TIED CARD OF 'laws.FnExactSnapName'. -/
def fnExactSnapNameCard : Claim7 := { stood := { row := fnExactSnapNameRow, standIns := [], harness := (true, "55f55b28f405f27dd0052515ce769595e124fd510e39b6d7b9fc44a1eaa72276"), looks := true }, kinds := [], alts := [], laidByText := true, laidKinds := [.data, .data, .data], laidTests := true, laidLooks := .later }
def FnExactSnapNameCardSaid : Prop := Claim7.holds Tryd.pinned (.plain (OpenSpec.ofChange fnExactSnapNameSpec)) fnExactSnapNameCard

/-- THE TIED CARD OF 'laws.FnExactTextNum'. -/
def fnExactTextNumCard : Claim7 := { stood := { row := fnExactTextNumRow, standIns := [], harness := (true, "55f55b28f405f27dd0052515ce769595e124fd510e39b6d7b9fc44a1eaa72276"), looks := true }, kinds := [], alts := [], laidByText := true, laidKinds := [.data, .data, .data, .sentinel, .sentinel], laidTests := true, laidLooks := .later }
def FnExactTextNumCardSaid : Prop := Claim7.holds Tryd.pinned (.plain (OpenSpec.ofChange fnExactTextNumSpec)) fnExactTextNumCard

/-- THE TIED CARD OF 'laws.FnExactGenOf'. -/
def fnExactGenOfCard : Claim7 := { stood := { row := fnExactGenOfRow, standIns := [], harness := (true, "55f55b28f405f27dd0052515ce769595e124fd510e39b6d7b9fc44a1eaa72276"), looks := true }, kinds := [], alts := [], laidByText := true, laidKinds := [.data, .data, .data, .sentinel, .sentinel], laidTests := true, laidLooks := .later }
def FnExactGenOfCardSaid : Prop := Claim7.holds Tryd.pinned (.plain (OpenSpec.ofChange fnExactGenOfSpec)) fnExactGenOfCard

/-- THE TIED CARD OF 'laws.FnExactParts'. -/
def fnExactPartsCard : Claim7 := { stood := { row := fnExactPartsRow, standIns := [], harness := (true, "55f55b28f405f27dd0052515ce769595e124fd510e39b6d7b9fc44a1eaa72276"), looks := true }, kinds := [], alts := [], laidByText := true, laidKinds := [.data, .pinned], laidTests := true, laidLooks := .later }
def FnExactPartsCardSaid : Prop := Claim7.holds Tryd.pinned (.plain (OpenSpec.ofChange fnExactPartsSpec)) fnExactPartsCard

/-- THE TIED CARD OF 'laws.FnExactSgrText'. -/
def fnExactSgrTextCard : Claim7 := { stood := { row := fnExactSgrTextRow, standIns := [], harness := (true, "55f55b28f405f27dd0052515ce769595e124fd510e39b6d7b9fc44a1eaa72276"), looks := true }, kinds := [], alts := [], laidByText := true, laidKinds := [.data, .data, .data], laidTests := true, laidLooks := .later }
def FnExactSgrTextCardSaid : Prop := Claim7.holds Tryd.pinned (.plain (OpenSpec.ofChange fnExactSgrTextSpec)) fnExactSgrTextCard

/-- THE SECOND FORM's CARD OF 'laws.FnExactNumText'. -/
def fnExactNumTextUptoCard : Claim7 := { stood := { row := fnExactNumTextUptoRow, standIns := [], harness := (true, "55f55b28f405f27dd0052515ce769595e124fd510e39b6d7b9fc44a1eaa72276"), looks := true }, kinds := [], alts := [], laidByText := true, laidKinds := [.data, .data, .data], laidTests := true, laidLooks := .later }
def FnExactNumTextUptoCardSaid : Prop := Claim7.holds Tryd.pinned (.plain (OpenSpec.upto fnExactNumTextSpec)) fnExactNumTextUptoCard

/-- THE SECOND FORM's CARD OF 'laws.FnExactLogName'. -/
def fnExactLogNameUptoCard : Claim7 := { stood := { row := fnExactLogNameUptoRow, standIns := [], harness := (true, "55f55b28f405f27dd0052515ce769595e124fd510e39b6d7b9fc44a1eaa72276"), looks := true }, kinds := [], alts := [], laidByText := true, laidKinds := [.data, .data, .data], laidTests := true, laidLooks := .later }
def FnExactLogNameUptoCardSaid : Prop := Claim7.holds Tryd.pinned (.plain (OpenSpec.upto fnExactLogNameSpec)) fnExactLogNameUptoCard

/-- THE SECOND FORM's CARD OF 'laws.FnExactSnapName'. -/
def fnExactSnapNameUptoCard : Claim7 := { stood := { row := fnExactSnapNameUptoRow, standIns := [], harness := (true, "55f55b28f405f27dd0052515ce769595e124fd510e39b6d7b9fc44a1eaa72276"), looks := true }, kinds := [], alts := [], laidByText := true, laidKinds := [.data, .data, .data], laidTests := true, laidLooks := .later }
def FnExactSnapNameUptoCardSaid : Prop := Claim7.holds Tryd.pinned (.plain (OpenSpec.upto fnExactSnapNameSpec)) fnExactSnapNameUptoCard

/-- THE SECOND FORM's CARD OF 'laws.FnExactTextNum'. -/
def fnExactTextNumUptoCard : Claim7 := { stood := { row := fnExactTextNumUptoRow, standIns := [], harness := (true, "55f55b28f405f27dd0052515ce769595e124fd510e39b6d7b9fc44a1eaa72276"), looks := true }, kinds := [], alts := [], laidByText := true, laidKinds := [.data, .data, .data, .sentinel, .sentinel], laidTests := true, laidLooks := .later }
def FnExactTextNumUptoCardSaid : Prop := Claim7.holds Tryd.pinned (.plain (OpenSpec.upto fnExactTextNumSpec)) fnExactTextNumUptoCard

/-- THE SECOND FORM's CARD OF 'laws.FnExactGenOf'. -/
def fnExactGenOfUptoCard : Claim7 := { stood := { row := fnExactGenOfUptoRow, standIns := [], harness := (true, "55f55b28f405f27dd0052515ce769595e124fd510e39b6d7b9fc44a1eaa72276"), looks := true }, kinds := [], alts := [], laidByText := true, laidKinds := [.data, .data, .data, .sentinel, .sentinel], laidTests := true, laidLooks := .later }
def FnExactGenOfUptoCardSaid : Prop := Claim7.holds Tryd.pinned (.plain (OpenSpec.upto fnExactGenOfSpec)) fnExactGenOfUptoCard

/-- THE SECOND FORM's CARD OF 'laws.FnExactParts'. -/
def fnExactPartsUptoCard : Claim7 := { stood := { row := fnExactPartsUptoRow, standIns := [], harness := (true, "55f55b28f405f27dd0052515ce769595e124fd510e39b6d7b9fc44a1eaa72276"), looks := true }, kinds := [], alts := [], laidByText := true, laidKinds := [.data, .pinned], laidTests := true, laidLooks := .later }
def FnExactPartsUptoCardSaid : Prop := Claim7.holds Tryd.pinned (.plain (OpenSpec.upto fnExactPartsSpec)) fnExactPartsUptoCard

/-- THE SECOND FORM's CARD OF 'laws.FnExactSgrText'. -/
def fnExactSgrTextUptoCard : Claim7 := { stood := { row := fnExactSgrTextUptoRow, standIns := [], harness := (true, "55f55b28f405f27dd0052515ce769595e124fd510e39b6d7b9fc44a1eaa72276"), looks := true }, kinds := [], alts := [], laidByText := true, laidKinds := [.data, .data, .data], laidTests := true, laidLooks := .later }
def FnExactSgrTextUptoCardSaid : Prop := Claim7.holds Tryd.pinned (.plain (OpenSpec.upto fnExactSgrTextSpec)) fnExactSgrTextUptoCard
end Rows
end Go.Proofs.YtdnpglbaggkgcaaDoor

/-
  DERIVED. GIVEN WITH THE SEED: THE CARDS: each row of YtffncdkbcphbgaaGreatDoorRows.lean that lists a variable, with what it lists TIED to the program's text (the seventh form; the later family's looks); each row that meets fmt, with fmt's text TOLD by the authors' own Lean function (tested against real Go, not proved from fmt's source: count such statements apart). THE CARD IS WHAT COUNTS. Prove the row's statement (the work); the ties are given (YtffncdkbcphbgaaGreatDoorTie.lean); close each card by the builder's one call (the guide's Derived/Test/ToyasCard.lean, 'card_holds'). Laid BY PROGRAM, IN A SANDBOX (cutbox-door.mjs). By AI agents, Wed Nov 11 2026. No macro, syntax, notation, axiom, sorry.
-/
import Derived.Test.YtffncdkbcphbgaaGreatDoorRows
import GoSem.ClaimSeven
namespace Go.Proofs.YtffncdkbcphbgaaGreatDoor
namespace Rows

/-- THE TIED CARD OF 'treillagelaw11.FactPicks'. -/
def factPicksCard : Claim7 := { stood := { row := factPicksRow, standIns := [], harness := (true, "4b7c7b70b990d88ed46ea3c4721d9347d24c8ff11717fa7691fbcf9a51510245"), looks := false }, kinds := [], alts := [], laidByText := true, laidKinds := [.data], laidTests := true, laidLooks := .later }
def FactPicksCardSaid : Prop := Claim7.holds Tryz.pinned (.plain (OpenSpec.ofChange factPicksSpec)) factPicksCard

/-- THE TIED CARD OF 'treillagelaw11.FactTells'. -/
def factTellsCard : Claim7 := { stood := { row := factTellsRow, standIns := [], harness := (true, "4b7c7b70b990d88ed46ea3c4721d9347d24c8ff11717fa7691fbcf9a51510245"), looks := false }, kinds := [], alts := [], laidByText := true, laidKinds := [.data], laidTests := true, laidLooks := .later }
def FactTellsCardSaid : Prop := Claim7.holds Tryz.pinned (.plain (OpenSpec.ofChange factTellsSpec)) factTellsCard

/-- THE TIED CARD OF 'treillagelaw11.FactRefines'. -/
def factRefinesCard : Claim7 := { stood := { row := factRefinesRow, standIns := [], harness := (true, "4b7c7b70b990d88ed46ea3c4721d9347d24c8ff11717fa7691fbcf9a51510245"), looks := false }, kinds := [], alts := [], laidByText := true, laidKinds := [.data], laidTests := true, laidLooks := .later }
def FactRefinesCardSaid : Prop := Claim7.holds Tryz.pinned (.plain (OpenSpec.ofChange factRefinesSpec)) factRefinesCard

/-- THE TIED CARD OF 'treillagelaw09.LatMakes'. -/
def latMakesCard : Claim7 := { stood := { row := latMakesRow, standIns := [], harness := (true, "4b7c7b70b990d88ed46ea3c4721d9347d24c8ff11717fa7691fbcf9a51510245"), looks := false }, kinds := [], alts := [], laidByText := true, laidKinds := [.data], laidTests := true, laidLooks := .later }
def LatMakesCardSaid : Prop := Claim7.holds Tryz.pinned (.plain (OpenSpec.ofChange latMakesSpec)) latMakesCard

/-- THE TIED CARD OF 'treillagelaw09.LatMeets'. -/
def latMeetsCard : Claim7 := { stood := { row := latMeetsRow, standIns := [], harness := (true, "4b7c7b70b990d88ed46ea3c4721d9347d24c8ff11717fa7691fbcf9a51510245"), looks := false }, kinds := [], alts := [], laidByText := true, laidKinds := [.data], laidTests := true, laidLooks := .later }
def LatMeetsCardSaid : Prop := Claim7.holds Tryz.pinned (.plain (OpenSpec.ofChange latMeetsSpec)) latMeetsCard

/-- THE TIED CARD OF 'treillagelaw09.LatWide'. -/
def latWideCard : Claim7 := { stood := { row := latWideRow, standIns := [], harness := (true, "4b7c7b70b990d88ed46ea3c4721d9347d24c8ff11717fa7691fbcf9a51510245"), looks := false }, kinds := [], alts := [], laidByText := true, laidKinds := [.data], laidTests := true, laidLooks := .later }
def LatWideCardSaid : Prop := Claim7.holds Tryz.pinned (.plain (OpenSpec.ofChange latWideSpec)) latWideCard

/-- THE TIED CARD OF 'treillagelaw09.LatRing'. -/
def latRingCard : Claim7 := { stood := { row := latRingRow, standIns := [], harness := (true, "4b7c7b70b990d88ed46ea3c4721d9347d24c8ff11717fa7691fbcf9a51510245"), looks := false }, kinds := [], alts := [], laidByText := true, laidKinds := [.data], laidTests := true, laidLooks := .later }
def LatRingCardSaid : Prop := Claim7.holds Tryz.pinned (.plain (OpenSpec.ofChange latRingSpec)) latRingCard

/-- THE TIED CARD OF 'treillagelaw09.LatOrder'. -/
def latOrderCard : Claim7 := { stood := { row := latOrderRow, standIns := [], harness := (true, "4b7c7b70b990d88ed46ea3c4721d9347d24c8ff11717fa7691fbcf9a51510245"), looks := false }, kinds := [], alts := [], laidByText := true, laidKinds := [.data], laidTests := true, laidLooks := .later }
def LatOrderCardSaid : Prop := Claim7.holds Tryz.pinned (.plain (OpenSpec.ofChange latOrderSpec)) latOrderCard

/-- THE TIED CARD OF 'treillagelaw09.LatRights'. -/
def latRightsCard : Claim7 := { stood := { row := latRightsRow, standIns := [], harness := (true, "4b7c7b70b990d88ed46ea3c4721d9347d24c8ff11717fa7691fbcf9a51510245"), looks := false }, kinds := [], alts := [], laidByText := true, laidKinds := [.data], laidTests := true, laidLooks := .later }
def LatRightsCardSaid : Prop := Claim7.holds Tryz.pinned (.plain (OpenSpec.ofChange latRightsSpec)) latRightsCard

/-- THE SECOND FORM's CARD OF 'treillagelaw11.FactPicks'. -/
def factPicksUptoCard : Claim7 := { stood := { row := factPicksUptoRow, standIns := [], harness := (true, "4b7c7b70b990d88ed46ea3c4721d9347d24c8ff11717fa7691fbcf9a51510245"), looks := false }, kinds := [], alts := [], laidByText := true, laidKinds := [.data], laidTests := true, laidLooks := .later }
def FactPicksUptoCardSaid : Prop := Claim7.holds Tryz.pinned (.plain (OpenSpec.upto factPicksSpec)) factPicksUptoCard

/-- THE SECOND FORM's CARD OF 'treillagelaw11.FactTells'. -/
def factTellsUptoCard : Claim7 := { stood := { row := factTellsUptoRow, standIns := [], harness := (true, "4b7c7b70b990d88ed46ea3c4721d9347d24c8ff11717fa7691fbcf9a51510245"), looks := false }, kinds := [], alts := [], laidByText := true, laidKinds := [.data], laidTests := true, laidLooks := .later }
def FactTellsUptoCardSaid : Prop := Claim7.holds Tryz.pinned (.plain (OpenSpec.upto factTellsSpec)) factTellsUptoCard

/-- THE SECOND FORM's CARD OF 'treillagelaw11.FactRefines'. -/
def factRefinesUptoCard : Claim7 := { stood := { row := factRefinesUptoRow, standIns := [], harness := (true, "4b7c7b70b990d88ed46ea3c4721d9347d24c8ff11717fa7691fbcf9a51510245"), looks := false }, kinds := [], alts := [], laidByText := true, laidKinds := [.data], laidTests := true, laidLooks := .later }
def FactRefinesUptoCardSaid : Prop := Claim7.holds Tryz.pinned (.plain (OpenSpec.upto factRefinesSpec)) factRefinesUptoCard

/-- THE SECOND FORM's CARD OF 'treillagelaw09.LatMakes'. -/
def latMakesUptoCard : Claim7 := { stood := { row := latMakesUptoRow, standIns := [], harness := (true, "4b7c7b70b990d88ed46ea3c4721d9347d24c8ff11717fa7691fbcf9a51510245"), looks := false }, kinds := [], alts := [], laidByText := true, laidKinds := [.data], laidTests := true, laidLooks := .later }
def LatMakesUptoCardSaid : Prop := Claim7.holds Tryz.pinned (.plain (OpenSpec.upto latMakesSpec)) latMakesUptoCard

/-- THE SECOND FORM's CARD OF 'treillagelaw09.LatMeets'. -/
def latMeetsUptoCard : Claim7 := { stood := { row := latMeetsUptoRow, standIns := [], harness := (true, "4b7c7b70b990d88ed46ea3c4721d9347d24c8ff11717fa7691fbcf9a51510245"), looks := false }, kinds := [], alts := [], laidByText := true, laidKinds := [.data], laidTests := true, laidLooks := .later }
def LatMeetsUptoCardSaid : Prop := Claim7.holds Tryz.pinned (.plain (OpenSpec.upto latMeetsSpec)) latMeetsUptoCard

/-- THE SECOND FORM's CARD OF 'treillagelaw09.LatWide'. -/
def latWideUptoCard : Claim7 := { stood := { row := latWideUptoRow, standIns := [], harness := (true, "4b7c7b70b990d88ed46ea3c4721d9347d24c8ff11717fa7691fbcf9a51510245"), looks := false }, kinds := [], alts := [], laidByText := true, laidKinds := [.data], laidTests := true, laidLooks := .later }
def LatWideUptoCardSaid : Prop := Claim7.holds Tryz.pinned (.plain (OpenSpec.upto latWideSpec)) latWideUptoCard

/-- THE SECOND FORM's CARD OF 'treillagelaw09.LatRing'. -/
def latRingUptoCard : Claim7 := { stood := { row := latRingUptoRow, standIns := [], harness := (true, "4b7c7b70b990d88ed46ea3c4721d9347d24c8ff11717fa7691fbcf9a51510245"), looks := false }, kinds := [], alts := [], laidByText := true, laidKinds := [.data], laidTests := true, laidLooks := .later }
def LatRingUptoCardSaid : Prop := Claim7.holds Tryz.pinned (.plain (OpenSpec.upto latRingSpec)) latRingUptoCard

/-- THE SECOND FORM's CARD OF 'treillagelaw09.LatOrder'. -/
def latOrderUptoCard : Claim7 := { stood := { row := latOrderUptoRow, standIns := [], harness := (true, "4b7c7b70b990d88ed46ea3c4721d9347d24c8ff11717fa7691fbcf9a51510245"), looks := false }, kinds := [], alts := [], laidByText := true, laidKinds := [.data], laidTests := true, laidLooks := .later }
def LatOrderUptoCardSaid : Prop := Claim7.holds Tryz.pinned (.plain (OpenSpec.upto latOrderSpec)) latOrderUptoCard

/-- THE SECOND FORM's CARD OF 'treillagelaw09.LatRights'. -/
def latRightsUptoCard : Claim7 := { stood := { row := latRightsUptoRow, standIns := [], harness := (true, "4b7c7b70b990d88ed46ea3c4721d9347d24c8ff11717fa7691fbcf9a51510245"), looks := false }, kinds := [], alts := [], laidByText := true, laidKinds := [.data], laidTests := true, laidLooks := .later }
def LatRightsUptoCardSaid : Prop := Claim7.holds Tryz.pinned (.plain (OpenSpec.upto latRightsSpec)) latRightsUptoCard
end Rows
end Go.Proofs.YtffncdkbcphbgaaGreatDoor

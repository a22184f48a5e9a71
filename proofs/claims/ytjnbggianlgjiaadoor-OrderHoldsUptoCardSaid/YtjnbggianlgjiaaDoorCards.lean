/-
  DERIVED. GIVEN WITH THE SEED: THE CARDS: each row of YtjnbggianlgjiaaDoorRows.lean that lists a variable, with what it lists TIED to the program's text (the seventh form; the later family's looks); each row that meets fmt, with fmt's text TOLD by the authors' own Lean function (tested against real Go, not proved from fmt's source: count such statements apart). THE CARD IS WHAT COUNTS. Prove the row's statement (the work); the ties are given (YtjnbggianlgjiaaDoorTie.lean); close each card by the builder's one call (the guide's Derived/Test/ToyasCard.lean, 'card_holds'). Laid BY PROGRAM, IN A SANDBOX (cutbox-door.mjs). By AI agents, Wed Nov 11 2026. No macro, syntax, notation, axiom, sorry.
-/
import Derived.Test.YtjnbggianlgjiaaDoorRows
import GoSem.ClaimSeven
namespace Go.Proofs.YtjnbggianlgjiaaDoor
namespace Rows

/-- THE TIED CARD OF 'treillagelaw33.OrderPuts'. -/
def orderPutsCard : Claim7 := { stood := { row := orderPutsRow, standIns := [], harness := (true, "89b0453bbfd921aca7f26663c808be79b0b189f889efb332d3dbd652d8bc51c1"), looks := false }, kinds := [], alts := [], laidByText := true, laidKinds := [.data], laidTests := true, laidLooks := .later }
def OrderPutsCardSaid : Prop := Claim7.holds Tryd.pinned (.plain (OpenSpec.ofChange orderPutsSpec)) orderPutsCard

/-- THE TIED CARD OF 'treillagelaw33.OrderHolds'. -/
def orderHoldsCard : Claim7 := { stood := { row := orderHoldsRow, standIns := [], harness := (true, "89b0453bbfd921aca7f26663c808be79b0b189f889efb332d3dbd652d8bc51c1"), looks := false }, kinds := [], alts := [], laidByText := true, laidKinds := [.data], laidTests := true, laidLooks := .later }
def OrderHoldsCardSaid : Prop := Claim7.holds Tryd.pinned (.plain (OpenSpec.ofChange orderHoldsSpec)) orderHoldsCard

/-- THE SECOND FORM's CARD OF 'treillagelaw33.OrderPuts'. -/
def orderPutsUptoCard : Claim7 := { stood := { row := orderPutsUptoRow, standIns := [], harness := (true, "89b0453bbfd921aca7f26663c808be79b0b189f889efb332d3dbd652d8bc51c1"), looks := false }, kinds := [], alts := [], laidByText := true, laidKinds := [.data], laidTests := true, laidLooks := .later }
def OrderPutsUptoCardSaid : Prop := Claim7.holds Tryd.pinned (.plain (OpenSpec.upto orderPutsSpec)) orderPutsUptoCard

/-- THE SECOND FORM's CARD OF 'treillagelaw33.OrderHolds'. -/
def orderHoldsUptoCard : Claim7 := { stood := { row := orderHoldsUptoRow, standIns := [], harness := (true, "89b0453bbfd921aca7f26663c808be79b0b189f889efb332d3dbd652d8bc51c1"), looks := false }, kinds := [], alts := [], laidByText := true, laidKinds := [.data], laidTests := true, laidLooks := .later }
def OrderHoldsUptoCardSaid : Prop := Claim7.holds Tryd.pinned (.plain (OpenSpec.upto orderHoldsSpec)) orderHoldsUptoCard
end Rows
end Go.Proofs.YtjnbggianlgjiaaDoor

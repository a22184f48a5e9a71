/-
  DERIVED. GIVEN WITH THE SEED: THE CARDS: each row of YtoekafpmpopigaaGreatDoorRows.lean that lists a variable, with what it lists TIED to the program's text (the seventh form; the later family's looks); each row that meets fmt, with fmt's text TOLD by the authors' own Lean function (tested against real Go, not proved from fmt's source: count such statements apart). THE CARD IS WHAT COUNTS. Prove the row's statement (the work); the ties are given (YtoekafpmpopigaaGreatDoorTie.lean); close each card by the builder's one call (the guide's Derived/Test/ToyasCard.lean, 'card_holds'). Laid BY PROGRAM, IN A SANDBOX (cutbox-door.mjs). By AI agents, Wed Nov 11 2026. No macro, syntax, notation, axiom, sorry.
-/
import Derived.Test.YtoekafpmpopigaaGreatDoorRows
import GoSem.ClaimSeven
namespace Go.Proofs.YtoekafpmpopigaaGreatDoor
namespace Rows

/-- THE TIED CARD OF 'treillagelaw11.FactPicks'. -/
def factPicksCard : Claim7 := { stood := { row := factPicksRow, standIns := [], harness := (true, "9656a29efa724b3e2cf4b2aaa92a08816aef6138d0c4d35b8d67770efe753945"), looks := false }, kinds := [], alts := [], laidByText := true, laidKinds := [.data], laidTests := true, laidLooks := .later }
def FactPicksCardSaid : Prop := Claim7.holds Tryz.pinned (.plain (OpenSpec.ofChange factPicksSpec)) factPicksCard

/-- THE SECOND FORM's CARD OF 'treillagelaw11.FactPicks'. -/
def factPicksUptoCard : Claim7 := { stood := { row := factPicksUptoRow, standIns := [], harness := (true, "9656a29efa724b3e2cf4b2aaa92a08816aef6138d0c4d35b8d67770efe753945"), looks := false }, kinds := [], alts := [], laidByText := true, laidKinds := [.data], laidTests := true, laidLooks := .later }
def FactPicksUptoCardSaid : Prop := Claim7.holds Tryz.pinned (.plain (OpenSpec.upto factPicksSpec)) factPicksUptoCard
end Rows
end Go.Proofs.YtoekafpmpopigaaGreatDoor

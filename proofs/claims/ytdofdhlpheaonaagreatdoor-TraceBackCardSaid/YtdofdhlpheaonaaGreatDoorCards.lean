/-
  DERIVED. GIVEN WITH THE SEED: THE CARDS: each row of YtdofdhlpheaonaaGreatDoorRows.lean that lists a variable, with what it lists TIED to the program's text (the seventh form; the later family's looks); each row that meets fmt, with fmt's text TOLD by the authors' own Lean function (tested against real Go, not proved from fmt's source: count such statements apart). THE CARD IS WHAT COUNTS. Prove the row's statement (the work); the ties are given (YtdofdhlpheaonaaGreatDoorTie.lean); close each card by the builder's one call (the guide's Derived/Test/ToyasCard.lean, 'card_holds'). Laid BY PROGRAM, IN A SANDBOX (cutbox-door.mjs). By AI agents, Wed Nov 11 2026. No macro, syntax, notation, axiom, sorry.
-/
import Derived.Test.YtdofdhlpheaonaaGreatDoorRows
import GoSem.ClaimSeven
namespace Go.Proofs.YtdofdhlpheaonaaGreatDoor
namespace Rows

/-- THE TIED CARD OF 'treillagelaw21.TraceRights'. -/
def traceRightsCard : Claim7 := { stood := { row := traceRightsRow, standIns := [], harness := (true, "917a65446abf34e57a29a9cd04b5fc5a859d891c84b5d38b8be22ed5c1dd7220"), looks := false }, kinds := [], alts := [], laidByText := true, laidKinds := [.data], laidTests := true, laidLooks := .later }
def TraceRightsCardSaid : Prop := Claim7.holds Tryz.pinned (.plain (OpenSpec.ofChange traceRightsSpec)) traceRightsCard

/-- THE TIED CARD OF 'treillagelaw21.TraceReads'. -/
def traceReadsCard : Claim7 := { stood := { row := traceReadsRow, standIns := [], harness := (true, "917a65446abf34e57a29a9cd04b5fc5a859d891c84b5d38b8be22ed5c1dd7220"), looks := false }, kinds := [], alts := [], laidByText := true, laidKinds := [.data], laidTests := true, laidLooks := .later }
def TraceReadsCardSaid : Prop := Claim7.holds Tryz.pinned (.plain (OpenSpec.ofChange traceReadsSpec)) traceReadsCard

/-- THE TIED CARD OF 'treillagelaw21.TraceBack'. -/
def traceBackCard : Claim7 := { stood := { row := traceBackRow, standIns := [], harness := (true, "917a65446abf34e57a29a9cd04b5fc5a859d891c84b5d38b8be22ed5c1dd7220"), looks := false }, kinds := [], alts := [], laidByText := true, laidKinds := [.data], laidTests := true, laidLooks := .later }
def TraceBackCardSaid : Prop := Claim7.holds Tryz.pinned (.plain (OpenSpec.ofChange traceBackSpec)) traceBackCard

/-- THE SECOND FORM's CARD OF 'treillagelaw21.TraceRights'. -/
def traceRightsUptoCard : Claim7 := { stood := { row := traceRightsUptoRow, standIns := [], harness := (true, "917a65446abf34e57a29a9cd04b5fc5a859d891c84b5d38b8be22ed5c1dd7220"), looks := false }, kinds := [], alts := [], laidByText := true, laidKinds := [.data], laidTests := true, laidLooks := .later }
def TraceRightsUptoCardSaid : Prop := Claim7.holds Tryz.pinned (.plain (OpenSpec.upto traceRightsSpec)) traceRightsUptoCard

/-- THE SECOND FORM's CARD OF 'treillagelaw21.TraceReads'. -/
def traceReadsUptoCard : Claim7 := { stood := { row := traceReadsUptoRow, standIns := [], harness := (true, "917a65446abf34e57a29a9cd04b5fc5a859d891c84b5d38b8be22ed5c1dd7220"), looks := false }, kinds := [], alts := [], laidByText := true, laidKinds := [.data], laidTests := true, laidLooks := .later }
def TraceReadsUptoCardSaid : Prop := Claim7.holds Tryz.pinned (.plain (OpenSpec.upto traceReadsSpec)) traceReadsUptoCard

/-- THE SECOND FORM's CARD OF 'treillagelaw21.TraceBack'. -/
def traceBackUptoCard : Claim7 := { stood := { row := traceBackUptoRow, standIns := [], harness := (true, "917a65446abf34e57a29a9cd04b5fc5a859d891c84b5d38b8be22ed5c1dd7220"), looks := false }, kinds := [], alts := [], laidByText := true, laidKinds := [.data], laidTests := true, laidLooks := .later }
def TraceBackUptoCardSaid : Prop := Claim7.holds Tryz.pinned (.plain (OpenSpec.upto traceBackSpec)) traceBackUptoCard
end Rows
end Go.Proofs.YtdofdhlpheaonaaGreatDoor

/-
  NARROWER THAN 'FOR EVERY INPUT', by the rows' own cells (each row's printed sentence says how): FactPicks: loops, laid · FactTells: loops, laid · FactRefines: loops, laid · LatMakes: loops, laid · LatMeets: loops, laid · LatWide: laid · LatRing: loops, laid · LatOrder: loops, laid · LatRights: loops, laid.
  DERIVED. THE GIVEN ROWS OF THIS SEAT. 9 by the template 'for every input the law returns true; each argument reads behind the call as it read before'; 0 by the template 'total and deterministic' (their statements: YtffncdkbcphbgaaGreatDoorTotals.lean).
  GIVEN WITH THE SEED: the statements are not yours to turn. If you find one false, say at which input.
  Laid BY PROGRAM, IN A SANDBOX (cutbox-rows.mjs): the forced cells as the released guide's own fill.sh prints them over the translation a21feb19736ab19a… (all of the seat's roots in one cut). By AI agents, Wed Nov 11 2026. No macro, syntax, notation, axiom, sorry.
-/
import Derived.Test.YtffncdkbcphbgaaGreatDoorChecked
import GoSem.Claim
import GoSem.ClaimJoined
import GoSem.ClaimMapViews
import Derived.JoinedTies
import Derived.KernelRfl
namespace Go.Proofs.YtffncdkbcphbgaaGreatDoor
/- THE CELL 'sum', in the pinned program and in every row, IS THE sha256 OF THE DUMP (.gsa) THAT YtffncdkbcphbgaaGreatDoorProg.lean LOADS. Nothing in Lean hashes anything: it is a label: what it is worth is what the hold of that sum in a sandbox is worth. -/
noncomputable def Tryz.pinned : Pinned := { name := "ytffncdkbcphbgaagreatdoor", sum := "a21feb19736ab19a6c72d54d01cf67cce1d49984950097b39c8ad93b5419c75a", checked := Tryz.checked }
namespace Rows
def none {H : Type} : Left H := { results := [], args := [] }

/- WHAT THE LISTED PACKAGE-LEVEL VARIABLES READ AS WHEN THE CALL BEGINS. Each datum BY PROGRAM (the guide's laid-datum.mjs) off the statement by which the dump's own 'gosem.cut.vars' lays the variable. In a bare row this is a premise. The card (YtffncdkbcphbgaaGreatDoorCards.lean) ties it to the program's text. -/
def laid_treillage_name_words {H : Type} : DataW H := .agg [.lit (.string [97, 110, 121]), .lit (.string [98, 111, 111, 108]), .lit (.string [99, 111, 109, 112, 117, 116, 101, 100]), .lit (.string [102, 97, 108, 115, 101]), .lit (.string [105, 110, 116]), .lit (.string [110, 111, 110, 101]), .lit (.string [114, 101, 115, 111, 117, 114, 99, 101]), .lit (.string [115, 116, 114, 105, 110, 103]), .lit (.string [116, 114, 117, 101])]

/-- 'treillagelaw11.FactPicks': WHATEVER THE INPUT: true; the input reads as it did. -/
def factPicksSpec : ChangeSpec := { name := "factPicks", fn := fun _ => fun
  | [d1, d2] => { results := [.lit (.bool true)], args := [d1, d2] }
  | _ => none }
def factPicksRow : OpenClaim := { program := "ytffncdkbcphbgaagreatdoor", sum := "a21feb19736ab19a6c72d54d01cf67cce1d49984950097b39c8ad93b5419c75a", func := "treillage/treillagelaw11.FactPicks", spec := "factPicks", inPlace := ["internal/bytealg.abigen_runtime_cmpstring"], unfollowed := true, recurses := true, named := ["treillage/name.words"], loops := true, apart := false, laid := [("treillage/name.words", laid_treillage_name_words)] }
def FactPicksSaid : Prop := factPicksRow.holds Tryz.pinned (OpenSpec.ofChange factPicksSpec)

/-- ITS FALSE NEIGHBOUR: 'it returns false'. Refute it at one input. -/
def factPicksWrong : ChangeSpec := { name := "factPicks", fn := fun _ => fun
  | [d1, d2] => { results := [.lit (.bool false)], args := [d1, d2] }
  | _ => none }
def FactPicksWrongFalsely : Prop := factPicksRow.holds Tryz.pinned (OpenSpec.ofChange factPicksWrong)

/-- 'treillagelaw11.FactTells': WHATEVER THE INPUT: true; the input reads as it did. -/
def factTellsSpec : ChangeSpec := { name := "factTells", fn := fun _ => fun
  | [d] => { results := [.lit (.bool true)], args := [d] }
  | _ => none }
def factTellsRow : OpenClaim := { program := "ytffncdkbcphbgaagreatdoor", sum := "a21feb19736ab19a6c72d54d01cf67cce1d49984950097b39c8ad93b5419c75a", func := "treillage/treillagelaw11.FactTells", spec := "factTells", inPlace := ["internal/bytealg.abigen_runtime_cmpstring"], unfollowed := true, recurses := true, named := ["treillage/name.words"], loops := true, apart := false, laid := [("treillage/name.words", laid_treillage_name_words)] }
def FactTellsSaid : Prop := factTellsRow.holds Tryz.pinned (OpenSpec.ofChange factTellsSpec)

/-- ITS FALSE NEIGHBOUR: 'it returns false'. Refute it at one input. -/
def factTellsWrong : ChangeSpec := { name := "factTells", fn := fun _ => fun
  | [d] => { results := [.lit (.bool false)], args := [d] }
  | _ => none }
def FactTellsWrongFalsely : Prop := factTellsRow.holds Tryz.pinned (OpenSpec.ofChange factTellsWrong)

/-- 'treillagelaw11.FactRefines': WHATEVER THE INPUT: true; the input reads as it did. -/
def factRefinesSpec : ChangeSpec := { name := "factRefines", fn := fun _ => fun
  | [d1, d2, d3] => { results := [.lit (.bool true)], args := [d1, d2, d3] }
  | _ => none }
def factRefinesRow : OpenClaim := { program := "ytffncdkbcphbgaagreatdoor", sum := "a21feb19736ab19a6c72d54d01cf67cce1d49984950097b39c8ad93b5419c75a", func := "treillage/treillagelaw11.FactRefines", spec := "factRefines", inPlace := ["internal/bytealg.abigen_runtime_cmpstring"], unfollowed := true, recurses := true, named := ["treillage/name.words"], loops := true, apart := false, laid := [("treillage/name.words", laid_treillage_name_words)] }
def FactRefinesSaid : Prop := factRefinesRow.holds Tryz.pinned (OpenSpec.ofChange factRefinesSpec)

/-- ITS FALSE NEIGHBOUR: 'it returns false'. Refute it at one input. -/
def factRefinesWrong : ChangeSpec := { name := "factRefines", fn := fun _ => fun
  | [d1, d2, d3] => { results := [.lit (.bool false)], args := [d1, d2, d3] }
  | _ => none }
def FactRefinesWrongFalsely : Prop := factRefinesRow.holds Tryz.pinned (OpenSpec.ofChange factRefinesWrong)

/-- 'treillagelaw09.LatMakes': WHATEVER THE INPUT: true; the input reads as it did. -/
def latMakesSpec : ChangeSpec := { name := "latMakes", fn := fun _ => fun
  | [d1, d2, d3] => { results := [.lit (.bool true)], args := [d1, d2, d3] }
  | _ => none }
def latMakesRow : OpenClaim := { program := "ytffncdkbcphbgaagreatdoor", sum := "a21feb19736ab19a6c72d54d01cf67cce1d49984950097b39c8ad93b5419c75a", func := "treillage/treillagelaw09.LatMakes", spec := "latMakes", inPlace := ["internal/bytealg.abigen_runtime_cmpstring"], unfollowed := true, recurses := true, named := ["treillage/name.words"], loops := true, apart := false, laid := [("treillage/name.words", laid_treillage_name_words)] }
def LatMakesSaid : Prop := latMakesRow.holds Tryz.pinned (OpenSpec.ofChange latMakesSpec)

/-- ITS FALSE NEIGHBOUR: 'it returns false'. Refute it at one input. -/
def latMakesWrong : ChangeSpec := { name := "latMakes", fn := fun _ => fun
  | [d1, d2, d3] => { results := [.lit (.bool false)], args := [d1, d2, d3] }
  | _ => none }
def LatMakesWrongFalsely : Prop := latMakesRow.holds Tryz.pinned (OpenSpec.ofChange latMakesWrong)

/-- 'treillagelaw09.LatMeets': WHATEVER THE INPUT: true; the input reads as it did. -/
def latMeetsSpec : ChangeSpec := { name := "latMeets", fn := fun _ => fun
  | [d1, d2] => { results := [.lit (.bool true)], args := [d1, d2] }
  | _ => none }
def latMeetsRow : OpenClaim := { program := "ytffncdkbcphbgaagreatdoor", sum := "a21feb19736ab19a6c72d54d01cf67cce1d49984950097b39c8ad93b5419c75a", func := "treillage/treillagelaw09.LatMeets", spec := "latMeets", inPlace := ["internal/bytealg.abigen_runtime_cmpstring"], unfollowed := true, recurses := true, named := ["treillage/name.words"], loops := true, apart := false, laid := [("treillage/name.words", laid_treillage_name_words)] }
def LatMeetsSaid : Prop := latMeetsRow.holds Tryz.pinned (OpenSpec.ofChange latMeetsSpec)

/-- ITS FALSE NEIGHBOUR: 'it returns false'. Refute it at one input. -/
def latMeetsWrong : ChangeSpec := { name := "latMeets", fn := fun _ => fun
  | [d1, d2] => { results := [.lit (.bool false)], args := [d1, d2] }
  | _ => none }
def LatMeetsWrongFalsely : Prop := latMeetsRow.holds Tryz.pinned (OpenSpec.ofChange latMeetsWrong)

/-- 'treillagelaw09.LatWide': WHATEVER THE INPUT: true; the input reads as it did. -/
def latWideSpec : ChangeSpec := { name := "latWide", fn := fun _ => fun
  | [d1, d2, d3] => { results := [.lit (.bool true)], args := [d1, d2, d3] }
  | _ => none }
def latWideRow : OpenClaim := { program := "ytffncdkbcphbgaagreatdoor", sum := "a21feb19736ab19a6c72d54d01cf67cce1d49984950097b39c8ad93b5419c75a", func := "treillage/treillagelaw09.LatWide", spec := "latWide", inPlace := ["internal/bytealg.abigen_runtime_cmpstring"], unfollowed := true, recurses := true, named := ["treillage/name.words"], apart := false, laid := [("treillage/name.words", laid_treillage_name_words)] }
def LatWideSaid : Prop := latWideRow.holds Tryz.pinned (OpenSpec.ofChange latWideSpec)

/-- ITS FALSE NEIGHBOUR: 'it returns false'. Refute it at one input. -/
def latWideWrong : ChangeSpec := { name := "latWide", fn := fun _ => fun
  | [d1, d2, d3] => { results := [.lit (.bool false)], args := [d1, d2, d3] }
  | _ => none }
def LatWideWrongFalsely : Prop := latWideRow.holds Tryz.pinned (OpenSpec.ofChange latWideWrong)

/-- 'treillagelaw09.LatRing': WHATEVER THE INPUT: true; the input reads as it did. -/
def latRingSpec : ChangeSpec := { name := "latRing", fn := fun _ => fun
  | [d1, d2, d3] => { results := [.lit (.bool true)], args := [d1, d2, d3] }
  | _ => none }
def latRingRow : OpenClaim := { program := "ytffncdkbcphbgaagreatdoor", sum := "a21feb19736ab19a6c72d54d01cf67cce1d49984950097b39c8ad93b5419c75a", func := "treillage/treillagelaw09.LatRing", spec := "latRing", inPlace := ["internal/bytealg.abigen_runtime_cmpstring"], unfollowed := true, recurses := true, named := ["treillage/name.words"], loops := true, apart := false, laid := [("treillage/name.words", laid_treillage_name_words)] }
def LatRingSaid : Prop := latRingRow.holds Tryz.pinned (OpenSpec.ofChange latRingSpec)

/-- ITS FALSE NEIGHBOUR: 'it returns false'. Refute it at one input. -/
def latRingWrong : ChangeSpec := { name := "latRing", fn := fun _ => fun
  | [d1, d2, d3] => { results := [.lit (.bool false)], args := [d1, d2, d3] }
  | _ => none }
def LatRingWrongFalsely : Prop := latRingRow.holds Tryz.pinned (OpenSpec.ofChange latRingWrong)

/-- 'treillagelaw09.LatOrder': WHATEVER THE INPUT: true; the input reads as it did. -/
def latOrderSpec : ChangeSpec := { name := "latOrder", fn := fun _ => fun
  | [d1, d2, d3] => { results := [.lit (.bool true)], args := [d1, d2, d3] }
  | _ => none }
def latOrderRow : OpenClaim := { program := "ytffncdkbcphbgaagreatdoor", sum := "a21feb19736ab19a6c72d54d01cf67cce1d49984950097b39c8ad93b5419c75a", func := "treillage/treillagelaw09.LatOrder", spec := "latOrder", inPlace := ["internal/bytealg.abigen_runtime_cmpstring"], unfollowed := true, recurses := true, named := ["treillage/name.words"], loops := true, apart := false, laid := [("treillage/name.words", laid_treillage_name_words)] }
def LatOrderSaid : Prop := latOrderRow.holds Tryz.pinned (OpenSpec.ofChange latOrderSpec)

/-- ITS FALSE NEIGHBOUR: 'it returns false'. Refute it at one input. -/
def latOrderWrong : ChangeSpec := { name := "latOrder", fn := fun _ => fun
  | [d1, d2, d3] => { results := [.lit (.bool false)], args := [d1, d2, d3] }
  | _ => none }
def LatOrderWrongFalsely : Prop := latOrderRow.holds Tryz.pinned (OpenSpec.ofChange latOrderWrong)

/-- 'treillagelaw09.LatRights': WHATEVER THE INPUT: true; the input reads as it did. -/
def latRightsSpec : ChangeSpec := { name := "latRights", fn := fun _ => fun
  | [d1, d2] => { results := [.lit (.bool true)], args := [d1, d2] }
  | _ => none }
def latRightsRow : OpenClaim := { program := "ytffncdkbcphbgaagreatdoor", sum := "a21feb19736ab19a6c72d54d01cf67cce1d49984950097b39c8ad93b5419c75a", func := "treillage/treillagelaw09.LatRights", spec := "latRights", inPlace := ["internal/bytealg.abigen_runtime_cmpstring"], unfollowed := true, recurses := true, named := ["treillage/name.words"], loops := true, apart := false, laid := [("treillage/name.words", laid_treillage_name_words)] }
def LatRightsSaid : Prop := latRightsRow.holds Tryz.pinned (OpenSpec.ofChange latRightsSpec)

/-- ITS FALSE NEIGHBOUR: 'it returns false'. Refute it at one input. -/
def latRightsWrong : ChangeSpec := { name := "latRights", fn := fun _ => fun
  | [d1, d2] => { results := [.lit (.bool false)], args := [d1, d2] }
  | _ => none }
def LatRightsWrongFalsely : Prop := latRightsRow.holds Tryz.pinned (OpenSpec.ofChange latRightsWrong)

/- THE SECOND FORM. 'bulk': how many values and letters a reading holds, each counted each time it is reached (what is shared counts as often as it is met; a slice's spare places count too). A statement '..UptoSaid' is the law's where the arguments, and the package variables that the reading takes, are together of bulk at most 1048576: NARROWER than '..Said'. Prove '..Said' where nothing that the law and all that it calls make is longer than what came in: it says more and counts as full. Else prove '..UptoSaid'. A law counts once. -/
mutual
def uptoBulk {H : Type} : DataW H → Nat
  | .lit (.string bytes) => bytes.length + 1
  | .lit _ => 1
  | .nil => 1
  | .ptr d => uptoBulk d + 1
  | .slice elems spare => uptoBulkAll elems + uptoBulkAll spare + 1
  | .agg parts => uptoBulkAll parts + 1
  | .iface _ d => uptoBulk d + 1
  | .map entries => uptoBulkEntries entries + 1
  | .held _ => 1
def uptoBulkAll {H : Type} : List (DataW H) → Nat
  | [] => 0
  | d :: r => uptoBulk d + uptoBulkAll r
def uptoBulkEntries {H : Type} : List (Lit × DataW H) → Nat
  | [] => 0
  | x :: r => uptoBulkEntry x + uptoBulkEntries r
def uptoBulkEntry {H : Type} : Lit × DataW H → Nat
  | (.string bytes, d) => bytes.length + uptoBulk d + 1
  | (_, d) => uptoBulk d + 1
 end
def uptoSmall : (H : Type) → List (DataW H) → Bool := fun _ ds => decide (uptoBulkAll ds ≤ 1048576)
def OpenSpec.upto (s : _root_.Go.ChangeSpec) : _root_.Go.OpenSpec := { _root_.Go.OpenSpec.ofChange s with cond := some uptoSmall }

/-- 'treillagelaw11.FactPicks', WHERE WHAT IT READS IS OF BULK AT MOST 1048576: true; the input reads as it did. -/
def factPicksUptoRow : OpenClaim := { program := "ytffncdkbcphbgaagreatdoor", sum := "a21feb19736ab19a6c72d54d01cf67cce1d49984950097b39c8ad93b5419c75a", func := "treillage/treillagelaw11.FactPicks", spec := "factPicks", inPlace := ["internal/bytealg.abigen_runtime_cmpstring"], unfollowed := true, recurses := true, named := ["treillage/name.words"], loops := true, apart := false, laid := [("treillage/name.words", laid_treillage_name_words)], narrowed := true }
def FactPicksUptoSaid : Prop := factPicksUptoRow.holds Tryz.pinned (OpenSpec.upto factPicksSpec)

/-- 'treillagelaw11.FactTells', WHERE WHAT IT READS IS OF BULK AT MOST 1048576: true; the input reads as it did. -/
def factTellsUptoRow : OpenClaim := { program := "ytffncdkbcphbgaagreatdoor", sum := "a21feb19736ab19a6c72d54d01cf67cce1d49984950097b39c8ad93b5419c75a", func := "treillage/treillagelaw11.FactTells", spec := "factTells", inPlace := ["internal/bytealg.abigen_runtime_cmpstring"], unfollowed := true, recurses := true, named := ["treillage/name.words"], loops := true, apart := false, laid := [("treillage/name.words", laid_treillage_name_words)], narrowed := true }
def FactTellsUptoSaid : Prop := factTellsUptoRow.holds Tryz.pinned (OpenSpec.upto factTellsSpec)

/-- 'treillagelaw11.FactRefines', WHERE WHAT IT READS IS OF BULK AT MOST 1048576: true; the input reads as it did. -/
def factRefinesUptoRow : OpenClaim := { program := "ytffncdkbcphbgaagreatdoor", sum := "a21feb19736ab19a6c72d54d01cf67cce1d49984950097b39c8ad93b5419c75a", func := "treillage/treillagelaw11.FactRefines", spec := "factRefines", inPlace := ["internal/bytealg.abigen_runtime_cmpstring"], unfollowed := true, recurses := true, named := ["treillage/name.words"], loops := true, apart := false, laid := [("treillage/name.words", laid_treillage_name_words)], narrowed := true }
def FactRefinesUptoSaid : Prop := factRefinesUptoRow.holds Tryz.pinned (OpenSpec.upto factRefinesSpec)

/-- 'treillagelaw09.LatMakes', WHERE WHAT IT READS IS OF BULK AT MOST 1048576: true; the input reads as it did. -/
def latMakesUptoRow : OpenClaim := { program := "ytffncdkbcphbgaagreatdoor", sum := "a21feb19736ab19a6c72d54d01cf67cce1d49984950097b39c8ad93b5419c75a", func := "treillage/treillagelaw09.LatMakes", spec := "latMakes", inPlace := ["internal/bytealg.abigen_runtime_cmpstring"], unfollowed := true, recurses := true, named := ["treillage/name.words"], loops := true, apart := false, laid := [("treillage/name.words", laid_treillage_name_words)], narrowed := true }
def LatMakesUptoSaid : Prop := latMakesUptoRow.holds Tryz.pinned (OpenSpec.upto latMakesSpec)

/-- 'treillagelaw09.LatMeets', WHERE WHAT IT READS IS OF BULK AT MOST 1048576: true; the input reads as it did. -/
def latMeetsUptoRow : OpenClaim := { program := "ytffncdkbcphbgaagreatdoor", sum := "a21feb19736ab19a6c72d54d01cf67cce1d49984950097b39c8ad93b5419c75a", func := "treillage/treillagelaw09.LatMeets", spec := "latMeets", inPlace := ["internal/bytealg.abigen_runtime_cmpstring"], unfollowed := true, recurses := true, named := ["treillage/name.words"], loops := true, apart := false, laid := [("treillage/name.words", laid_treillage_name_words)], narrowed := true }
def LatMeetsUptoSaid : Prop := latMeetsUptoRow.holds Tryz.pinned (OpenSpec.upto latMeetsSpec)

/-- 'treillagelaw09.LatWide', WHERE WHAT IT READS IS OF BULK AT MOST 1048576: true; the input reads as it did. -/
def latWideUptoRow : OpenClaim := { program := "ytffncdkbcphbgaagreatdoor", sum := "a21feb19736ab19a6c72d54d01cf67cce1d49984950097b39c8ad93b5419c75a", func := "treillage/treillagelaw09.LatWide", spec := "latWide", inPlace := ["internal/bytealg.abigen_runtime_cmpstring"], unfollowed := true, recurses := true, named := ["treillage/name.words"], apart := false, laid := [("treillage/name.words", laid_treillage_name_words)], narrowed := true }
def LatWideUptoSaid : Prop := latWideUptoRow.holds Tryz.pinned (OpenSpec.upto latWideSpec)

/-- 'treillagelaw09.LatRing', WHERE WHAT IT READS IS OF BULK AT MOST 1048576: true; the input reads as it did. -/
def latRingUptoRow : OpenClaim := { program := "ytffncdkbcphbgaagreatdoor", sum := "a21feb19736ab19a6c72d54d01cf67cce1d49984950097b39c8ad93b5419c75a", func := "treillage/treillagelaw09.LatRing", spec := "latRing", inPlace := ["internal/bytealg.abigen_runtime_cmpstring"], unfollowed := true, recurses := true, named := ["treillage/name.words"], loops := true, apart := false, laid := [("treillage/name.words", laid_treillage_name_words)], narrowed := true }
def LatRingUptoSaid : Prop := latRingUptoRow.holds Tryz.pinned (OpenSpec.upto latRingSpec)

/-- 'treillagelaw09.LatOrder', WHERE WHAT IT READS IS OF BULK AT MOST 1048576: true; the input reads as it did. -/
def latOrderUptoRow : OpenClaim := { program := "ytffncdkbcphbgaagreatdoor", sum := "a21feb19736ab19a6c72d54d01cf67cce1d49984950097b39c8ad93b5419c75a", func := "treillage/treillagelaw09.LatOrder", spec := "latOrder", inPlace := ["internal/bytealg.abigen_runtime_cmpstring"], unfollowed := true, recurses := true, named := ["treillage/name.words"], loops := true, apart := false, laid := [("treillage/name.words", laid_treillage_name_words)], narrowed := true }
def LatOrderUptoSaid : Prop := latOrderUptoRow.holds Tryz.pinned (OpenSpec.upto latOrderSpec)

/-- 'treillagelaw09.LatRights', WHERE WHAT IT READS IS OF BULK AT MOST 1048576: true; the input reads as it did. -/
def latRightsUptoRow : OpenClaim := { program := "ytffncdkbcphbgaagreatdoor", sum := "a21feb19736ab19a6c72d54d01cf67cce1d49984950097b39c8ad93b5419c75a", func := "treillage/treillagelaw09.LatRights", spec := "latRights", inPlace := ["internal/bytealg.abigen_runtime_cmpstring"], unfollowed := true, recurses := true, named := ["treillage/name.words"], loops := true, apart := false, laid := [("treillage/name.words", laid_treillage_name_words)], narrowed := true }
def LatRightsUptoSaid : Prop := latRightsUptoRow.holds Tryz.pinned (OpenSpec.upto latRightsSpec)

end Rows
end Go.Proofs.YtffncdkbcphbgaaGreatDoor

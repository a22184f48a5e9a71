/-
  NARROWER THAN 'FOR EVERY INPUT', by the rows' own cells (each row's printed sentence says how): OrderPuts: loops, laid · OrderHolds: loops, laid.
  DERIVED. THE GIVEN ROWS OF THIS SEAT. 2 by the template 'for every input the law returns true; each argument reads behind the call as it read before'; 0 by the template 'total and deterministic' (their statements: YtjnbggianlgjiaaDoorTotals.lean).
  GIVEN WITH THE SEED: the statements are not yours to turn. If you find one false, say at which input.
  Laid BY PROGRAM, IN A SANDBOX (cutbox-rows.mjs): the forced cells as the released guide's own fill.sh prints them over the translation 80386fa499c3be37… (all of the seat's roots in one cut). By AI agents, Wed Nov 11 2026. No macro, syntax, notation, axiom, sorry.
-/
import Derived.Test.YtjnbggianlgjiaaDoorChecked
import GoSem.Claim
import GoSem.ClaimJoined
import GoSem.ClaimMapViews
import Derived.JoinedTies
import Derived.KernelRfl
namespace Go.Proofs.YtjnbggianlgjiaaDoor
/- THE CELL 'sum', in the pinned program and in every row, IS THE sha256 OF THE DUMP (.gsa) THAT YtjnbggianlgjiaaDoorProg.lean LOADS. Nothing in Lean hashes anything: it is a label: what it is worth is what the hold of that sum in a sandbox is worth. -/
noncomputable def Tryd.pinned : Pinned := { name := "ytjnbggianlgjiaadoor", sum := "80386fa499c3be3738da8d2df26723355752f238213eb71fa5ce007826a068ae", checked := Tryd.checked }
namespace Rows
def none {H : Type} : Left H := { results := [], args := [] }

/- WHAT THE LISTED PACKAGE-LEVEL VARIABLES READ AS WHEN THE CALL BEGINS. Each datum BY PROGRAM (the guide's laid-datum.mjs) off the statement by which the dump's own 'gosem.cut.vars' lays the variable. In a bare row this is a premise. The card (YtjnbggianlgjiaaDoorCards.lean) ties it to the program's text. -/
def laid_treillage_name_words {H : Type} : DataW H := .agg [.lit (.string [97, 110, 121]), .lit (.string [98, 111, 111, 108]), .lit (.string [99, 111, 109, 112, 117, 116, 101, 100]), .lit (.string [102, 97, 108, 115, 101]), .lit (.string [105, 110, 116]), .lit (.string [110, 111, 110, 101]), .lit (.string [114, 101, 115, 111, 117, 114, 99, 101]), .lit (.string [115, 116, 114, 105, 110, 103]), .lit (.string [116, 114, 117, 101])]

/-- 'treillagelaw33.OrderPuts': WHATEVER THE INPUT: true; the input reads as it did. -/
def orderPutsSpec : ChangeSpec := { name := "orderPuts", fn := fun _ => fun
  | [d] => { results := [.lit (.bool true)], args := [d] }
  | _ => none }
def orderPutsRow : OpenClaim := { program := "ytjnbggianlgjiaadoor", sum := "80386fa499c3be3738da8d2df26723355752f238213eb71fa5ce007826a068ae", func := "treillage/treillagelaw33.OrderPuts", spec := "orderPuts", inPlace := ["slices.overlaps[string]"], unfollowed := true, recurses := true, named := ["treillage/name.words"], loops := true, apart := false, laid := [("treillage/name.words", laid_treillage_name_words)] }
def OrderPutsSaid : Prop := orderPutsRow.holds Tryd.pinned (OpenSpec.ofChange orderPutsSpec)

/-- ITS FALSE NEIGHBOUR: 'it returns false'. Refute it at one input. -/
def orderPutsWrong : ChangeSpec := { name := "orderPuts", fn := fun _ => fun
  | [d] => { results := [.lit (.bool false)], args := [d] }
  | _ => none }
def OrderPutsWrongFalsely : Prop := orderPutsRow.holds Tryd.pinned (OpenSpec.ofChange orderPutsWrong)

/-- 'treillagelaw33.OrderHolds': WHATEVER THE INPUT: true; the input reads as it did. -/
def orderHoldsSpec : ChangeSpec := { name := "orderHolds", fn := fun _ => fun
  | [d1, d2] => { results := [.lit (.bool true)], args := [d1, d2] }
  | _ => none }
def orderHoldsRow : OpenClaim := { program := "ytjnbggianlgjiaadoor", sum := "80386fa499c3be3738da8d2df26723355752f238213eb71fa5ce007826a068ae", func := "treillage/treillagelaw33.OrderHolds", spec := "orderHolds", inPlace := ["slices.overlaps[string]"], unfollowed := true, recurses := true, named := ["treillage/name.words"], loops := true, apart := false, laid := [("treillage/name.words", laid_treillage_name_words)] }
def OrderHoldsSaid : Prop := orderHoldsRow.holds Tryd.pinned (OpenSpec.ofChange orderHoldsSpec)

/-- ITS FALSE NEIGHBOUR: 'it returns false'. Refute it at one input. -/
def orderHoldsWrong : ChangeSpec := { name := "orderHolds", fn := fun _ => fun
  | [d1, d2] => { results := [.lit (.bool false)], args := [d1, d2] }
  | _ => none }
def OrderHoldsWrongFalsely : Prop := orderHoldsRow.holds Tryd.pinned (OpenSpec.ofChange orderHoldsWrong)

/- THE SECOND FORM. 'bulk': how many values and letters a reading holds, each counted each time it is reached (what is shared counts as often as it is met; a slice's spare places count too). A statement '..UptoSaid' is the law's where the arguments, and the package variables that the reading takes, are together of bulk at most 1048576: NARROWER than '..Said'. Prove '..Said' where nothing that the law and all that it calls make is longer than what came in: it says more and counts as full. Else prove '..UptoSaid'. A law counts once. -/
mutual
def uptoBulk {H : Type} : DataW H → Nat
  | .lit (.string bytes) => bytes.length + 1
  | .lit _ => 1
  | .nil => 1
  | .ptr d => uptoBulk d + 1
  | .slice elems spare => uptoBulkAll elems + uptoBulkAll spare + 1
  | .agg parts => uptoBulkAll parts + 1
  | .iface _ d => uptoBulk d + 1
  | .map entries => uptoBulkEntries entries + 1
  | .held _ => 1
def uptoBulkAll {H : Type} : List (DataW H) → Nat
  | [] => 0
  | d :: r => uptoBulk d + uptoBulkAll r
def uptoBulkEntries {H : Type} : List (Lit × DataW H) → Nat
  | [] => 0
  | x :: r => uptoBulkEntry x + uptoBulkEntries r
def uptoBulkEntry {H : Type} : Lit × DataW H → Nat
  | (.string bytes, d) => bytes.length + uptoBulk d + 1
  | (_, d) => uptoBulk d + 1
 end
def uptoSmall : (H : Type) → List (DataW H) → Bool := fun _ ds => decide (uptoBulkAll ds ≤ 1048576)
def OpenSpec.upto (s : _root_.Go.ChangeSpec) : _root_.Go.OpenSpec := { _root_.Go.OpenSpec.ofChange s with cond := some uptoSmall }

/-- 'treillagelaw33.OrderPuts', WHERE WHAT IT READS IS OF BULK AT MOST 1048576: true; the input reads as it did. -/
def orderPutsUptoRow : OpenClaim := { program := "ytjnbggianlgjiaadoor", sum := "80386fa499c3be3738da8d2df26723355752f238213eb71fa5ce007826a068ae", func := "treillage/treillagelaw33.OrderPuts", spec := "orderPuts", inPlace := ["slices.overlaps[string]"], unfollowed := true, recurses := true, named := ["treillage/name.words"], loops := true, apart := false, laid := [("treillage/name.words", laid_treillage_name_words)], narrowed := true }
def OrderPutsUptoSaid : Prop := orderPutsUptoRow.holds Tryd.pinned (OpenSpec.upto orderPutsSpec)

/-- 'treillagelaw33.OrderHolds', WHERE WHAT IT READS IS OF BULK AT MOST 1048576: true; the input reads as it did. -/
def orderHoldsUptoRow : OpenClaim := { program := "ytjnbggianlgjiaadoor", sum := "80386fa499c3be3738da8d2df26723355752f238213eb71fa5ce007826a068ae", func := "treillage/treillagelaw33.OrderHolds", spec := "orderHolds", inPlace := ["slices.overlaps[string]"], unfollowed := true, recurses := true, named := ["treillage/name.words"], loops := true, apart := false, laid := [("treillage/name.words", laid_treillage_name_words)], narrowed := true }
def OrderHoldsUptoSaid : Prop := orderHoldsUptoRow.holds Tryd.pinned (OpenSpec.upto orderHoldsSpec)

end Rows
end Go.Proofs.YtjnbggianlgjiaaDoor

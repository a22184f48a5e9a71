/-
  NARROWER THAN 'FOR EVERY INPUT', by the rows' own cells (each row's printed sentence says how): TraceRights: loops, laid · TraceReads: laid · TraceBack: loops, laid.
  DERIVED. THE GIVEN ROWS OF THIS SEAT. 3 by the template 'for every input the law returns true; each argument reads behind the call as it read before'; 0 by the template 'total and deterministic' (their statements: YtdofdhlpheaonaaGreatDoorTotals.lean).
  GIVEN WITH THE SEED: the statements are not yours to turn. If you find one false, say at which input.
  Laid BY PROGRAM, IN A SANDBOX (cutbox-rows.mjs): the forced cells as the released guide's own fill.sh prints them over the translation 64139d62e8a98bd6… (all of the seat's roots in one cut). By AI agents, Wed Nov 11 2026. No macro, syntax, notation, axiom, sorry.
-/
import Derived.Test.YtdofdhlpheaonaaGreatDoorChecked
import GoSem.Claim
import GoSem.ClaimJoined
import GoSem.ClaimMapViews
import Derived.JoinedTies
import Derived.KernelRfl
namespace Go.Proofs.YtdofdhlpheaonaaGreatDoor
/- THE CELL 'sum', in the pinned program and in every row, IS THE sha256 OF THE DUMP (.gsa) THAT YtdofdhlpheaonaaGreatDoorProg.lean LOADS. Nothing in Lean hashes anything: it is a label: what it is worth is what the hold of that sum in a sandbox is worth. -/
noncomputable def Tryz.pinned : Pinned := { name := "ytdofdhlpheaonaagreatdoor", sum := "64139d62e8a98bd6cf4250ba38db92afc0a53eb87bb1a73cb4e75a986271e41c", checked := Tryz.checked }
namespace Rows
def none {H : Type} : Left H := { results := [], args := [] }

/- WHAT THE LISTED PACKAGE-LEVEL VARIABLES READ AS WHEN THE CALL BEGINS. Each datum BY PROGRAM (the guide's laid-datum.mjs) off the statement by which the dump's own 'gosem.cut.vars' lays the variable. In a bare row this is a premise. The card (YtdofdhlpheaonaaGreatDoorCards.lean) ties it to the program's text. -/
def laid_treillage_name_words {H : Type} : DataW H := .agg [.lit (.string [97, 110, 121]), .lit (.string [98, 111, 111, 108]), .lit (.string [99, 111, 109, 112, 117, 116, 101, 100]), .lit (.string [102, 97, 108, 115, 101]), .lit (.string [105, 110, 116]), .lit (.string [110, 111, 110, 101]), .lit (.string [114, 101, 115, 111, 117, 114, 99, 101]), .lit (.string [115, 116, 114, 105, 110, 103]), .lit (.string [116, 114, 117, 101])]

/-- 'treillagelaw21.TraceRights': WHATEVER THE INPUT: true; the input reads as it did. -/
def traceRightsSpec : ChangeSpec := { name := "traceRights", fn := fun _ => fun
  | [d1, d2] => { results := [.lit (.bool true)], args := [d1, d2] }
  | _ => none }
def traceRightsRow : OpenClaim := { program := "ytdofdhlpheaonaagreatdoor", sum := "64139d62e8a98bd6cf4250ba38db92afc0a53eb87bb1a73cb4e75a986271e41c", func := "treillage/treillagelaw21.TraceRights", spec := "traceRights", inPlace := ["internal/bytealg.abigen_runtime_cmpstring"], unfollowed := true, recurses := true, named := ["treillage/name.words"], loops := true, apart := false, laid := [("treillage/name.words", laid_treillage_name_words)] }
def TraceRightsSaid : Prop := traceRightsRow.holds Tryz.pinned (OpenSpec.ofChange traceRightsSpec)

/-- ITS FALSE NEIGHBOUR: 'it returns false'. Refute it at one input. -/
def traceRightsWrong : ChangeSpec := { name := "traceRights", fn := fun _ => fun
  | [d1, d2] => { results := [.lit (.bool false)], args := [d1, d2] }
  | _ => none }
def TraceRightsWrongFalsely : Prop := traceRightsRow.holds Tryz.pinned (OpenSpec.ofChange traceRightsWrong)

/-- 'treillagelaw21.TraceReads': WHATEVER THE INPUT: true; the input reads as it did. -/
def traceReadsSpec : ChangeSpec := { name := "traceReads", fn := fun _ => fun
  | [d] => { results := [.lit (.bool true)], args := [d] }
  | _ => none }
def traceReadsRow : OpenClaim := { program := "ytdofdhlpheaonaagreatdoor", sum := "64139d62e8a98bd6cf4250ba38db92afc0a53eb87bb1a73cb4e75a986271e41c", func := "treillage/treillagelaw21.TraceReads", spec := "traceReads", inPlace := ["internal/bytealg.abigen_runtime_cmpstring"], unfollowed := true, recurses := true, named := ["treillage/name.words"], apart := false, laid := [("treillage/name.words", laid_treillage_name_words)] }
def TraceReadsSaid : Prop := traceReadsRow.holds Tryz.pinned (OpenSpec.ofChange traceReadsSpec)

/-- ITS FALSE NEIGHBOUR: 'it returns false'. Refute it at one input. -/
def traceReadsWrong : ChangeSpec := { name := "traceReads", fn := fun _ => fun
  | [d] => { results := [.lit (.bool false)], args := [d] }
  | _ => none }
def TraceReadsWrongFalsely : Prop := traceReadsRow.holds Tryz.pinned (OpenSpec.ofChange traceReadsWrong)

/-- 'treillagelaw21.TraceBack': WHATEVER THE INPUT: true; the input reads as it did. -/
def traceBackSpec : ChangeSpec := { name := "traceBack", fn := fun _ => fun
  | [d1, d2, d3] => { results := [.lit (.bool true)], args := [d1, d2, d3] }
  | _ => none }
def traceBackRow : OpenClaim := { program := "ytdofdhlpheaonaagreatdoor", sum := "64139d62e8a98bd6cf4250ba38db92afc0a53eb87bb1a73cb4e75a986271e41c", func := "treillage/treillagelaw21.TraceBack", spec := "traceBack", inPlace := ["internal/bytealg.abigen_runtime_cmpstring"], unfollowed := true, recurses := true, named := ["treillage/name.words"], loops := true, apart := false, laid := [("treillage/name.words", laid_treillage_name_words)] }
def TraceBackSaid : Prop := traceBackRow.holds Tryz.pinned (OpenSpec.ofChange traceBackSpec)

/-- ITS FALSE NEIGHBOUR: 'it returns false'. Refute it at one input. -/
def traceBackWrong : ChangeSpec := { name := "traceBack", fn := fun _ => fun
  | [d1, d2, d3] => { results := [.lit (.bool false)], args := [d1, d2, d3] }
  | _ => none }
def TraceBackWrongFalsely : Prop := traceBackRow.holds Tryz.pinned (OpenSpec.ofChange traceBackWrong)

/- THE SECOND FORM. 'bulk': how many values and letters a reading holds, each counted each time it is reached (what is shared counts as often as it is met; a slice's spare places count too). A statement '..UptoSaid' is the law's where the arguments, and the package variables that the reading takes, are together of bulk at most 1048576: NARROWER than '..Said'. Prove '..Said' where nothing that the law and all that it calls make is longer than what came in: it says more and counts as full. Else prove '..UptoSaid'. A law counts once. -/
mutual
def uptoBulk {H : Type} : DataW H → Nat
  | .lit (.string bytes) => bytes.length + 1
  | .lit _ => 1
  | .nil => 1
  | .ptr d => uptoBulk d + 1
  | .slice elems spare => uptoBulkAll elems + uptoBulkAll spare + 1
  | .agg parts => uptoBulkAll parts + 1
  | .iface _ d => uptoBulk d + 1
  | .map entries => uptoBulkEntries entries + 1
  | .held _ => 1
def uptoBulkAll {H : Type} : List (DataW H) → Nat
  | [] => 0
  | d :: r => uptoBulk d + uptoBulkAll r
def uptoBulkEntries {H : Type} : List (Lit × DataW H) → Nat
  | [] => 0
  | x :: r => uptoBulkEntry x + uptoBulkEntries r
def uptoBulkEntry {H : Type} : Lit × DataW H → Nat
  | (.string bytes, d) => bytes.length + uptoBulk d + 1
  | (_, d) => uptoBulk d + 1
 end
def uptoSmall : (H : Type) → List (DataW H) → Bool := fun _ ds => decide (uptoBulkAll ds ≤ 1048576)
def OpenSpec.upto (s : _root_.Go.ChangeSpec) : _root_.Go.OpenSpec := { _root_.Go.OpenSpec.ofChange s with cond := some uptoSmall }

/-- 'treillagelaw21.TraceRights', WHERE WHAT IT READS IS OF BULK AT MOST 1048576: true; the input reads as it did. -/
def traceRightsUptoRow : OpenClaim := { program := "ytdofdhlpheaonaagreatdoor", sum := "64139d62e8a98bd6cf4250ba38db92afc0a53eb87bb1a73cb4e75a986271e41c", func := "treillage/treillagelaw21.TraceRights", spec := "traceRights", inPlace := ["internal/bytealg.abigen_runtime_cmpstring"], unfollowed := true, recurses := true, named := ["treillage/name.words"], loops := true, apart := false, laid := [("treillage/name.words", laid_treillage_name_words)], narrowed := true }
def TraceRightsUptoSaid : Prop := traceRightsUptoRow.holds Tryz.pinned (OpenSpec.upto traceRightsSpec)

/-- 'treillagelaw21.TraceReads', WHERE WHAT IT READS IS OF BULK AT MOST 1048576: true; the input reads as it did. -/
def traceReadsUptoRow : OpenClaim := { program := "ytdofdhlpheaonaagreatdoor", sum := "64139d62e8a98bd6cf4250ba38db92afc0a53eb87bb1a73cb4e75a986271e41c", func := "treillage/treillagelaw21.TraceReads", spec := "traceReads", inPlace := ["internal/bytealg.abigen_runtime_cmpstring"], unfollowed := true, recurses := true, named := ["treillage/name.words"], apart := false, laid := [("treillage/name.words", laid_treillage_name_words)], narrowed := true }
def TraceReadsUptoSaid : Prop := traceReadsUptoRow.holds Tryz.pinned (OpenSpec.upto traceReadsSpec)

/-- 'treillagelaw21.TraceBack', WHERE WHAT IT READS IS OF BULK AT MOST 1048576: true; the input reads as it did. -/
def traceBackUptoRow : OpenClaim := { program := "ytdofdhlpheaonaagreatdoor", sum := "64139d62e8a98bd6cf4250ba38db92afc0a53eb87bb1a73cb4e75a986271e41c", func := "treillage/treillagelaw21.TraceBack", spec := "traceBack", inPlace := ["internal/bytealg.abigen_runtime_cmpstring"], unfollowed := true, recurses := true, named := ["treillage/name.words"], loops := true, apart := false, laid := [("treillage/name.words", laid_treillage_name_words)], narrowed := true }
def TraceBackUptoSaid : Prop := traceBackUptoRow.holds Tryz.pinned (OpenSpec.upto traceBackSpec)

end Rows
end Go.Proofs.YtdofdhlpheaonaaGreatDoor

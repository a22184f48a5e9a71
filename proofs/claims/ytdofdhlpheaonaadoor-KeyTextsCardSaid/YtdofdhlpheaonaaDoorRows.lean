/-
  NARROWER THAN 'FOR EVERY INPUT', by the rows' own cells (each row's printed sentence says how): KeyTexts: loops, laid · DiskKeeps: laid · CodeReads: laid · CodeBack: loops, laid · DiskPlays: laid.
  DERIVED. THE GIVEN ROWS OF THIS SEAT. 5 by the template 'for every input the law returns true; each argument reads behind the call as it read before'; 0 by the template 'total and deterministic' (their statements: YtdofdhlpheaonaaDoorTotals.lean).
  GIVEN WITH THE SEED: the statements are not yours to turn. If you find one false, say at which input.
  Laid BY PROGRAM, IN A SANDBOX (cutbox-rows.mjs): the forced cells as the released guide's own fill.sh prints them over the translation 6bc0902fba3e48c0… (all of the seat's roots in one cut). By AI agents, Wed Nov 11 2026. No macro, syntax, notation, axiom, sorry.
-/
import Derived.Test.YtdofdhlpheaonaaDoorChecked
import GoSem.Claim
import GoSem.ClaimJoined
import GoSem.ClaimMapViews
import Derived.JoinedTies
import Derived.KernelRfl
namespace Go.Proofs.YtdofdhlpheaonaaDoor
/- THE CELL 'sum', in the pinned program and in every row, IS THE sha256 OF THE DUMP (.gsa) THAT YtdofdhlpheaonaaDoorProg.lean LOADS. Nothing in Lean hashes anything: it is a label: what it is worth is what the hold of that sum in a sandbox is worth. -/
noncomputable def Tryd.pinned : Pinned := { name := "ytdofdhlpheaonaadoor", sum := "6bc0902fba3e48c083f5b2a4e98e09625073abcba4ead76cebafd995b675da51", checked := Tryd.checked }
namespace Rows
def none {H : Type} : Left H := { results := [], args := [] }

/- WHAT THE LISTED PACKAGE-LEVEL VARIABLES READ AS WHEN THE CALL BEGINS. Each datum BY PROGRAM (the guide's laid-datum.mjs) off the statement by which the dump's own 'gosem.cut.vars' lays the variable. In a bare row this is a premise. The card (YtdofdhlpheaonaaDoorCards.lean) ties it to the program's text. -/
def laid_treillage_name_words {H : Type} : DataW H := .agg [.lit (.string [97, 110, 121]), .lit (.string [98, 111, 111, 108]), .lit (.string [99, 111, 109, 112, 117, 116, 101, 100]), .lit (.string [102, 97, 108, 115, 101]), .lit (.string [105, 110, 116]), .lit (.string [110, 111, 110, 101]), .lit (.string [114, 101, 115, 111, 117, 114, 99, 101]), .lit (.string [115, 116, 114, 105, 110, 103]), .lit (.string [116, 114, 117, 101])]
def laid_treillage_show_binds {H : Type} : DataW H := .agg [.lit (.int .i64 0), .lit (.int .i64 0), .lit (.int .i64 0), .lit (.int .i64 0), .lit (.int .i64 0), .lit (.int .i64 0), .lit (.int .i64 0), .lit (.int .i64 0), .lit (.int .i64 0), .lit (.int .i64 0), .lit (.int .i64 0), .lit (.int .i64 2), .lit (.int .i64 1), .lit (.int .i64 3), .lit (.int .i64 3), .lit (.int .i64 4)]
def laid_treillage_show_signs {H : Type} : DataW H := .agg [.lit (.string []), .lit (.string []), .lit (.string []), .lit (.string []), .lit (.string []), .lit (.string []), .lit (.string []), .lit (.string []), .lit (.string []), .lit (.string []), .lit (.string []), .lit (.string [32, 38, 32]), .lit (.string [32, 124, 32]), .lit (.string [32, 43, 32]), .lit (.string [32, 45, 32]), .lit (.string [32, 42, 32])]
def laid_treillage_show_kinds {H : Type} : DataW H := .agg [.lit (.string []), .lit (.string [98, 111, 111, 108]), .lit (.string [105, 110, 116]), .lit (.string [115, 116, 114, 105, 110, 103]), .lit (.string []), .lit (.string [97, 110, 121])]

/-- 'treillagelaw22.KeyTexts': WHATEVER THE INPUT: true; the input reads as it did. -/
def keyTextsSpec : ChangeSpec := { name := "keyTexts", fn := fun _ => fun
  | [d1, d2] => { results := [.lit (.bool true)], args := [d1, d2] }
  | _ => none }
def keyTextsRow : OpenClaim := { program := "ytdofdhlpheaonaadoor", sum := "6bc0902fba3e48c083f5b2a4e98e09625073abcba4ead76cebafd995b675da51", func := "treillage/treillagelaw22.KeyTexts", spec := "keyTexts", inPlace := ["internal/abi.NoEscape", "internal/bytealg.MakeNoZero"], unfollowed := true, recurses := true, named := ["treillage/name.words", "treillage/show.kinds", "treillage/show.signs", "treillage/show.binds"], loops := true, apart := false, laid := [("treillage/name.words", laid_treillage_name_words), ("treillage/show.binds", laid_treillage_show_binds), ("treillage/show.signs", laid_treillage_show_signs), ("treillage/show.kinds", laid_treillage_show_kinds)] }
def KeyTextsSaid : Prop := keyTextsRow.holds Tryd.pinned (OpenSpec.ofChange keyTextsSpec)

/-- ITS FALSE NEIGHBOUR: 'it returns false'. Refute it at one input. -/
def keyTextsWrong : ChangeSpec := { name := "keyTexts", fn := fun _ => fun
  | [d1, d2] => { results := [.lit (.bool false)], args := [d1, d2] }
  | _ => none }
def KeyTextsWrongFalsely : Prop := keyTextsRow.holds Tryd.pinned (OpenSpec.ofChange keyTextsWrong)

/-- 'treillagelaw23.DiskKeeps': WHATEVER THE INPUT: true; the input reads as it did. -/
def diskKeepsSpec : ChangeSpec := { name := "diskKeeps", fn := fun _ => fun
  | [d] => { results := [.lit (.bool true)], args := [d] }
  | _ => none }
def diskKeepsRow : OpenClaim := { program := "ytdofdhlpheaonaadoor", sum := "6bc0902fba3e48c083f5b2a4e98e09625073abcba4ead76cebafd995b675da51", func := "treillage/treillagelaw23.DiskKeeps", spec := "diskKeeps", unfollowed := true, recurses := true, named := ["treillage/name.words"], apart := false, laid := [("treillage/name.words", laid_treillage_name_words)] }
def DiskKeepsSaid : Prop := diskKeepsRow.holds Tryd.pinned (OpenSpec.ofChange diskKeepsSpec)

/-- ITS FALSE NEIGHBOUR: 'it returns false'. Refute it at one input. -/
def diskKeepsWrong : ChangeSpec := { name := "diskKeeps", fn := fun _ => fun
  | [d] => { results := [.lit (.bool false)], args := [d] }
  | _ => none }
def DiskKeepsWrongFalsely : Prop := diskKeepsRow.holds Tryd.pinned (OpenSpec.ofChange diskKeepsWrong)

/-- 'treillagelaw10.CodeReads': WHATEVER THE INPUT: true; the input reads as it did. -/
def codeReadsSpec : ChangeSpec := { name := "codeReads", fn := fun _ => fun
  | [d] => { results := [.lit (.bool true)], args := [d] }
  | _ => none }
def codeReadsRow : OpenClaim := { program := "ytdofdhlpheaonaadoor", sum := "6bc0902fba3e48c083f5b2a4e98e09625073abcba4ead76cebafd995b675da51", func := "treillage/treillagelaw10.CodeReads", spec := "codeReads", inPlace := ["internal/bytealg.abigen_runtime_cmpstring"], unfollowed := true, recurses := true, named := ["treillage/name.words"], apart := false, laid := [("treillage/name.words", laid_treillage_name_words)] }
def CodeReadsSaid : Prop := codeReadsRow.holds Tryd.pinned (OpenSpec.ofChange codeReadsSpec)

/-- ITS FALSE NEIGHBOUR: 'it returns false'. Refute it at one input. -/
def codeReadsWrong : ChangeSpec := { name := "codeReads", fn := fun _ => fun
  | [d] => { results := [.lit (.bool false)], args := [d] }
  | _ => none }
def CodeReadsWrongFalsely : Prop := codeReadsRow.holds Tryd.pinned (OpenSpec.ofChange codeReadsWrong)

/-- 'treillagelaw10.CodeBack': WHATEVER THE INPUT: true; the input reads as it did. -/
def codeBackSpec : ChangeSpec := { name := "codeBack", fn := fun _ => fun
  | [d1, d2, d3] => { results := [.lit (.bool true)], args := [d1, d2, d3] }
  | _ => none }
def codeBackRow : OpenClaim := { program := "ytdofdhlpheaonaadoor", sum := "6bc0902fba3e48c083f5b2a4e98e09625073abcba4ead76cebafd995b675da51", func := "treillage/treillagelaw10.CodeBack", spec := "codeBack", inPlace := ["internal/bytealg.abigen_runtime_cmpstring"], unfollowed := true, recurses := true, named := ["treillage/name.words"], loops := true, apart := false, laid := [("treillage/name.words", laid_treillage_name_words)] }
def CodeBackSaid : Prop := codeBackRow.holds Tryd.pinned (OpenSpec.ofChange codeBackSpec)

/-- ITS FALSE NEIGHBOUR: 'it returns false'. Refute it at one input. -/
def codeBackWrong : ChangeSpec := { name := "codeBack", fn := fun _ => fun
  | [d1, d2, d3] => { results := [.lit (.bool false)], args := [d1, d2, d3] }
  | _ => none }
def CodeBackWrongFalsely : Prop := codeBackRow.holds Tryd.pinned (OpenSpec.ofChange codeBackWrong)

/-- 'treillagelaw23.DiskPlays': WHATEVER THE INPUT: true; the input reads as it did. -/
def diskPlaysSpec : ChangeSpec := { name := "diskPlays", fn := fun _ => fun
  | [d] => { results := [.lit (.bool true)], args := [d] }
  | _ => none }
def diskPlaysRow : OpenClaim := { program := "ytdofdhlpheaonaadoor", sum := "6bc0902fba3e48c083f5b2a4e98e09625073abcba4ead76cebafd995b675da51", func := "treillage/treillagelaw23.DiskPlays", spec := "diskPlays", unfollowed := true, recurses := true, named := ["treillage/name.words"], apart := false, laid := [("treillage/name.words", laid_treillage_name_words)] }
def DiskPlaysSaid : Prop := diskPlaysRow.holds Tryd.pinned (OpenSpec.ofChange diskPlaysSpec)

/-- ITS FALSE NEIGHBOUR: 'it returns false'. Refute it at one input. -/
def diskPlaysWrong : ChangeSpec := { name := "diskPlays", fn := fun _ => fun
  | [d] => { results := [.lit (.bool false)], args := [d] }
  | _ => none }
def DiskPlaysWrongFalsely : Prop := diskPlaysRow.holds Tryd.pinned (OpenSpec.ofChange diskPlaysWrong)

/- THE SECOND FORM. 'bulk': how many values and letters a reading holds, each counted each time it is reached (what is shared counts as often as it is met; a slice's spare places count too). A statement '..UptoSaid' is the law's where the arguments, and the package variables that the reading takes, are together of bulk at most 1048576: NARROWER than '..Said'. Prove '..Said' where nothing that the law and all that it calls make is longer than what came in: it says more and counts as full. Else prove '..UptoSaid'. A law counts once. -/
mutual
def uptoBulk {H : Type} : DataW H → Nat
  | .lit (.string bytes) => bytes.length + 1
  | .lit _ => 1
  | .nil => 1
  | .ptr d => uptoBulk d + 1
  | .slice elems spare => uptoBulkAll elems + uptoBulkAll spare + 1
  | .agg parts => uptoBulkAll parts + 1
  | .iface _ d => uptoBulk d + 1
  | .map entries => uptoBulkEntries entries + 1
  | .held _ => 1
def uptoBulkAll {H : Type} : List (DataW H) → Nat
  | [] => 0
  | d :: r => uptoBulk d + uptoBulkAll r
def uptoBulkEntries {H : Type} : List (Lit × DataW H) → Nat
  | [] => 0
  | x :: r => uptoBulkEntry x + uptoBulkEntries r
def uptoBulkEntry {H : Type} : Lit × DataW H → Nat
  | (.string bytes, d) => bytes.length + uptoBulk d + 1
  | (_, d) => uptoBulk d + 1
 end
def uptoSmall : (H : Type) → List (DataW H) → Bool := fun _ ds => decide (uptoBulkAll ds ≤ 1048576)
def OpenSpec.upto (s : _root_.Go.ChangeSpec) : _root_.Go.OpenSpec := { _root_.Go.OpenSpec.ofChange s with cond := some uptoSmall }

/-- 'treillagelaw22.KeyTexts', WHERE WHAT IT READS IS OF BULK AT MOST 1048576: true; the input reads as it did. -/
def keyTextsUptoRow : OpenClaim := { program := "ytdofdhlpheaonaadoor", sum := "6bc0902fba3e48c083f5b2a4e98e09625073abcba4ead76cebafd995b675da51", func := "treillage/treillagelaw22.KeyTexts", spec := "keyTexts", inPlace := ["internal/abi.NoEscape", "internal/bytealg.MakeNoZero"], unfollowed := true, recurses := true, named := ["treillage/name.words", "treillage/show.kinds", "treillage/show.signs", "treillage/show.binds"], loops := true, apart := false, laid := [("treillage/name.words", laid_treillage_name_words), ("treillage/show.binds", laid_treillage_show_binds), ("treillage/show.signs", laid_treillage_show_signs), ("treillage/show.kinds", laid_treillage_show_kinds)], narrowed := true }
def KeyTextsUptoSaid : Prop := keyTextsUptoRow.holds Tryd.pinned (OpenSpec.upto keyTextsSpec)

/-- 'treillagelaw23.DiskKeeps', WHERE WHAT IT READS IS OF BULK AT MOST 1048576: true; the input reads as it did. -/
def diskKeepsUptoRow : OpenClaim := { program := "ytdofdhlpheaonaadoor", sum := "6bc0902fba3e48c083f5b2a4e98e09625073abcba4ead76cebafd995b675da51", func := "treillage/treillagelaw23.DiskKeeps", spec := "diskKeeps", unfollowed := true, recurses := true, named := ["treillage/name.words"], apart := false, laid := [("treillage/name.words", laid_treillage_name_words)], narrowed := true }
def DiskKeepsUptoSaid : Prop := diskKeepsUptoRow.holds Tryd.pinned (OpenSpec.upto diskKeepsSpec)

/-- 'treillagelaw10.CodeReads', WHERE WHAT IT READS IS OF BULK AT MOST 1048576: true; the input reads as it did. -/
def codeReadsUptoRow : OpenClaim := { program := "ytdofdhlpheaonaadoor", sum := "6bc0902fba3e48c083f5b2a4e98e09625073abcba4ead76cebafd995b675da51", func := "treillage/treillagelaw10.CodeReads", spec := "codeReads", inPlace := ["internal/bytealg.abigen_runtime_cmpstring"], unfollowed := true, recurses := true, named := ["treillage/name.words"], apart := false, laid := [("treillage/name.words", laid_treillage_name_words)], narrowed := true }
def CodeReadsUptoSaid : Prop := codeReadsUptoRow.holds Tryd.pinned (OpenSpec.upto codeReadsSpec)

/-- 'treillagelaw10.CodeBack', WHERE WHAT IT READS IS OF BULK AT MOST 1048576: true; the input reads as it did. -/
def codeBackUptoRow : OpenClaim := { program := "ytdofdhlpheaonaadoor", sum := "6bc0902fba3e48c083f5b2a4e98e09625073abcba4ead76cebafd995b675da51", func := "treillage/treillagelaw10.CodeBack", spec := "codeBack", inPlace := ["internal/bytealg.abigen_runtime_cmpstring"], unfollowed := true, recurses := true, named := ["treillage/name.words"], loops := true, apart := false, laid := [("treillage/name.words", laid_treillage_name_words)], narrowed := true }
def CodeBackUptoSaid : Prop := codeBackUptoRow.holds Tryd.pinned (OpenSpec.upto codeBackSpec)

/-- 'treillagelaw23.DiskPlays', WHERE WHAT IT READS IS OF BULK AT MOST 1048576: true; the input reads as it did. -/
def diskPlaysUptoRow : OpenClaim := { program := "ytdofdhlpheaonaadoor", sum := "6bc0902fba3e48c083f5b2a4e98e09625073abcba4ead76cebafd995b675da51", func := "treillage/treillagelaw23.DiskPlays", spec := "diskPlays", unfollowed := true, recurses := true, named := ["treillage/name.words"], apart := false, laid := [("treillage/name.words", laid_treillage_name_words)], narrowed := true }
def DiskPlaysUptoSaid : Prop := diskPlaysUptoRow.holds Tryd.pinned (OpenSpec.upto diskPlaysSpec)

end Rows
end Go.Proofs.YtdofdhlpheaonaaDoor

/- treillage, treillagelaw17.GraphInts: for every input the law returns true, and each argument reads as it did: the row, and its card (the words of the language are laid). -/
import Derived.Test.YtbejhhoakeapgaaGIA
import Derived.Test.YtbejhhoakeapgaaVmZq
import Derived.Test.YtbejhhoakeapgaaVmZt
import Derived.Test.YtbejhhoakeapgaaVmZu
import Derived.Test.YtbejhhoakeapgaaVmZy
import Derived.Test.YtbejhhoakeapgaaVmZx
import Derived.Shelf.SortM.Plain
import Derived.Shelf.SortM.SortNone
import Derived.Test.YtbejhhoakeapgaaVmZz
import Derived.Test.YtbejhhoakeapgaaVmC
import Derived.WalkKit
import Derived.ProofKit
import Derived.OpenShut
import Derived.ShutString
import Derived.ChangeOld
import Derived.Below
import Derived.SizedLaws
import Derived.ChangeCalls
import Derived.Deep.DeepHandedRow
import Derived.Lib.LaidTab
import Derived.Test.YtbejhhoakeapgaaRows
namespace Go.Proofs.Ytbejhhoakeapgaa.graphInts
open Go.ChangeShapes Go.WideShapes Go.ChangeAt Go.RowKit
open Go.Proofs.YtbejhhoakeapgaaVM
set_option maxRecDepth 100000
set_option linter.unusedVariables false
theorem own : ownKnob Try.prog.godebug = none := by kernel_rfl
theorem laidOut : laidOutB Try.prog = true := by kernel_rfl
theorem orders : Try.prog.follows .mixedOrders = true := by kernel_rfl
def tys : List TypeId := [35, 38, 5, 22, 9, 3, 4, 42, 23, 41]
theorem tysOk : tys.all (okTy Try.prog tys) = true := by kernel_rfl
theorem entered : YtbejhhoakeapgaaGI.ents.all (fun e => entersB Try.prog e.fid) = true := by kernel_rfl
def cl34Ren : Go.Shelf.Ren := ⟨fun | 41 => 34 | n => n, fun | 22 => 22 | 23 => 9 | n => n, fun n => n⟩
theorem cl34Laid : SlLaysE0.n41 Try.prog cl34Ren := {
  mixed := (by kernel_rfl)
  f41 := ⟨Try.f34.name, by decide, Try.func34.trans (congrArg some (by kernel_rfl))⟩
  t4 := Try.underlying4
  a4 := Try.isAgg4
  z4 := Try.sizeOf4
  v4 := Try.zeroValue4
  t22 := Try.underlying22
  a22 := Try.isAgg22
  z22 := Try.sizeOf22
  v22 := Try.zeroValue22
}
def cl40Ren : Go.Shelf.Ren := ⟨fun | 41 => 40 | n => n, fun | 22 => 42 | 23 => 3 | n => n, fun n => n⟩
theorem cl40Laid : SlLaysE0.n41 Try.prog cl40Ren := {
  mixed := (by kernel_rfl)
  f41 := ⟨Try.f40.name, by decide, Try.func40.trans (congrArg some (by kernel_rfl))⟩
  t4 := Try.underlying4
  a4 := Try.isAgg4
  z4 := Try.sizeOf4
  v4 := Try.zeroValue4
  t22 := Try.underlying42
  a22 := Try.isAgg42
  z22 := Try.sizeOf42
  v22 := Try.zeroValue42
}
def sortedRen : Go.Shelf.Ren := ⟨fun | 6 => 35 | 8 => 52 | 9 => 53 | 11 => 67 | 13 => 69 | 12 => 68 | 23 => 84 | 24 => 85 | 14 => 76 | 15 => 77 | 16 => 78 | 17 => 79 | 18 => 80 | 19 => 81 | 20 => 48 | 21 => 82 | 22 => 83 | 25 => 95 | 26 => 96 | 27 => 97 | 28 => 98 | 29 => 99 | 30 => 65 | 31 => 103 | n => n, fun | 26 => 9 | 28 => 69 | 24 => 22 | 0 => 0 | 3 => 3 | 37 => 93 | 48 => 117 | 50 => 119 | 4 => 4 | 40 => 111 | 39 => 110 | 45 => 63 | 5 => 5 | 9 => 9 | 51 => 125 | 55 => 129 | 57 => 133 | 58 => 134 | 33 => 53 | n => n, fun n => n⟩
def sortRen : Go.Shelf.Ren := ⟨fun | 6 => 53 | 8 => 69 | 9 => 68 | 19 => 84 | 20 => 85 | 21 => 76 | 22 => 77 | 23 => 78 | 24 => 79 | 25 => 80 | 26 => 81 | 27 => 48 | 28 => 82 | 29 => 83 | 36 => 95 | 31 => 96 | 32 => 97 | 37 => 98 | 38 => 99 | 39 => 65 | 41 => 103 | n => n, fun | 27 => 22 | 29 => 9 | 3 => 3 | 32 => 93 | 26 => 22 | 0 => 0 | 44 => 117 | 46 => 119 | 4 => 4 | 36 => 111 | 35 => 110 | 41 => 63 | 5 => 5 | 9 => 9 | 53 => 125 | 57 => 129 | 63 => 133 | 64 => 134 | n => n, fun n => n⟩
theorem sortedLaid : SlLaysZ.n6 Try.prog sortedRen := {
  mixed := (by kernel_rfl)
  f6 := ⟨Try.f35.name, by decide, Try.func35.trans (congrArg some (by kernel_rfl))⟩
  f8 := ⟨Try.f52.name, by decide, Try.func52.trans (congrArg some (by kernel_rfl))⟩
  f11 := ⟨Try.f67.name, by decide, Try.func67.trans (congrArg some (by kernel_rfl))⟩
  t0 := Try.underlying0
  a0 := Try.isAgg0
  z0 := Try.sizeOf0
  v0 := Try.zeroValue0
  t24 := Try.underlying22
  a24 := Try.isAgg22
  z24 := Try.sizeOf22
  v24 := Try.zeroValue22
  t26 := Try.underlying9
  a26 := Try.isAgg9
  z26 := Try.sizeOf9
  v26 := Try.zeroValue9
  t28 := Try.underlying69
  a28 := Try.isAgg69
  z28 := Try.sizeOf69
  v28 := Try.zeroValue69
  i26 := (by kernel_rfl)
}
theorem sortLaid : SlLaysM.n6 Try.prog sortRen := {
  mixed := (by kernel_rfl)
  f6 := ⟨Try.f53.name, by decide, Try.func53.trans (congrArg some (by kernel_rfl))⟩
  f8 := Try.func69.trans (congrArg some (by kernel_rfl))
  f9 := ⟨Try.f68.name, by decide, Try.func68.trans (congrArg some (by kernel_rfl))⟩
  f19 := Try.func84.trans (congrArg some (by kernel_rfl))
  f20 := Try.func85.trans (congrArg some (by kernel_rfl))
  f21 := ⟨Try.f76.name, by decide, Try.func76.trans (congrArg some (by kernel_rfl))⟩
  f22 := ⟨Try.f77.name, by decide, Try.func77.trans (congrArg some (by kernel_rfl))⟩
  f23 := ⟨Try.f78.name, by decide, Try.func78.trans (congrArg some (by kernel_rfl))⟩
  f24 := ⟨Try.f79.name, by decide, Try.func79.trans (congrArg some (by kernel_rfl))⟩
  f25 := ⟨Try.f80.name, by decide, Try.func80.trans (congrArg some (by kernel_rfl))⟩
  f26 := ⟨Try.f81.name, by decide, Try.func81.trans (congrArg some (by kernel_rfl))⟩
  f27 := ⟨Try.f48.name, by decide, Try.func48.trans (congrArg some (by kernel_rfl))⟩
  f28 := ⟨Try.f82.name, by decide, Try.func82.trans (congrArg some (by kernel_rfl))⟩
  f29 := ⟨Try.f83.name, by decide, Try.func83.trans (congrArg some (by kernel_rfl))⟩
  f31 := Try.func96.trans (congrArg some (by kernel_rfl))
  f32 := Try.func97.trans (congrArg some (by kernel_rfl))
  f36 := ⟨Try.f95.name, by decide, Try.func95.trans (congrArg some (by kernel_rfl))⟩
  f37 := ⟨Try.f98.name, by decide, Try.func98.trans (congrArg some (by kernel_rfl))⟩
  f38 := ⟨Try.f99.name, by decide, Try.func99.trans (congrArg some (by kernel_rfl))⟩
  f39 := ⟨Try.f65.name, by decide, Try.func65.trans (congrArg some (by kernel_rfl))⟩
  f41 := ⟨Try.f103.name, by decide, Try.func103.trans (congrArg some (by kernel_rfl))⟩
  t0 := Try.underlying0
  a0 := Try.isAgg0
  z0 := Try.sizeOf0
  v0 := Try.zeroValue0
  t3 := Try.underlying3
  a3 := Try.isAgg3
  z3 := Try.sizeOf3
  v3 := Try.zeroValue3
  t4 := Try.underlying4
  a4 := Try.isAgg4
  z4 := Try.sizeOf4
  v4 := Try.zeroValue4
  t5 := Try.underlying5
  a5 := Try.isAgg5
  z5 := Try.sizeOf5
  v5 := Try.zeroValue5
  t9 := Try.underlying9
  a9 := Try.isAgg9
  z9 := Try.sizeOf9
  v9 := Try.zeroValue9
  t26 := Try.underlying22
  a26 := Try.isAgg22
  z26 := Try.sizeOf22
  v26 := Try.zeroValue22
  t27 := Try.underlying22
  a27 := Try.isAgg22
  z27 := Try.sizeOf22
  v27 := Try.zeroValue22
  t29 := Try.underlying9
  a29 := Try.isAgg9
  z29 := Try.sizeOf9
  v29 := Try.zeroValue9
  t32 := Try.underlying93
  a32 := Try.isAgg93
  z32 := Try.sizeOf93
  v32 := Try.zeroValue93
  t35 := Try.underlying110
  a35 := Try.isAgg110
  z35 := Try.sizeOf110
  v35 := Try.zeroValue110
  t36 := Try.underlying111
  a36 := Try.isAgg111
  z36 := Try.sizeOf111
  v36 := Try.zeroValue111
  t41 := Try.underlying63
  a41 := Try.isAgg63
  z41 := Try.sizeOf63
  v41 := Try.zeroValue63
  t44 := Try.underlying117
  a44 := Try.isAgg117
  z44 := Try.sizeOf117
  v44 := Try.zeroValue117
  t46 := Try.underlying119
  a46 := Try.isAgg119
  z46 := Try.sizeOf119
  v46 := Try.zeroValue119
  t53 := Try.underlying125
  a53 := Try.isAgg125
  z53 := Try.sizeOf125
  v53 := Try.zeroValue125
  t57 := Try.underlying129
  a57 := Try.isAgg129
  z57 := Try.sizeOf129
  v57 := Try.zeroValue129
  t63 := Try.underlying133
  a63 := Try.isAgg133
  z63 := Try.sizeOf133
  v63 := Try.zeroValue133
  t64 := Try.underlying134
  a64 := Try.isAgg134
  z64 := Try.sizeOf134
  v64 := Try.zeroValue134
}
theorem sorts (m : Nat) : AnyZ.SortsIn Try.prog sortedRen Fence.wide m :=
  ⟨fun blk off cap ss W hH hblk hsz => callsIn_wide.2 (AnyM.slices_Sort_string sortLaid blk off cap ss W hH hblk hsz),
   fun p cap W => callsIn_wide.2 (AnyM.slices_Sort_string_none sortLaid p cap W)⟩
theorem sortIn : Go.Proofs.YtbejhhoakeapgaaVM.Enters Try.prog 53 := Go.Proofs.YtbejhhoakeapgaaVM.enters_B (by kernel_rfl)
def keysaRen : Go.Shelf.Ren := ⟨fun | 7 => 36 | 10 => 54 | n => n, fun | 23 => 60 | 26 => 9 | 3 => 3 | 28 => 69 | 0 => 0 | 27 => 68 | 33 => 53 | 4 => 4 | n => n, fun n => n⟩
theorem keysaLaid : SlLaysZ.n10 Try.prog keysaRen := {
  mixed := (by kernel_rfl)
  f10 := ⟨Try.f54.name, by decide, Try.func54.trans (congrArg some (by kernel_rfl))⟩
  t0 := Try.underlying0
  a0 := Try.isAgg0
  z0 := Try.sizeOf0
  v0 := Try.zeroValue0
  t4 := Try.underlying4
  a4 := Try.isAgg4
  z4 := Try.sizeOf4
  v4 := Try.zeroValue4
  t23 := Try.underlying60
  a23 := Try.isAgg60
  z23 := Try.sizeOf60
  v23 := Try.zeroValue60
  t26 := Try.underlying9
  a26 := Try.isAgg9
  z26 := Try.sizeOf9
  v26 := Try.zeroValue9
  t33 := Try.underlying53
  a33 := Try.isAgg53
  z33 := Try.sizeOf53
  v33 := Try.zeroValue53
}
theorem iteraIn : Go.Proofs.YtbejhhoakeapgaaVM.Enters Try.prog 54 := Go.Proofs.YtbejhhoakeapgaaVM.enters_B (by kernel_rfl)
def keysbRen : Go.Shelf.Ren := ⟨fun | 7 => 47 | 10 => 64 | n => n, fun | 23 => 88 | 26 => 9 | 3 => 22 | 28 => 69 | 0 => 0 | 27 => 68 | 33 => 53 | 4 => 4 | n => n, fun n => n⟩
theorem keysbLaid : SlLaysZ.n10 Try.prog keysbRen := {
  mixed := (by kernel_rfl)
  f10 := ⟨Try.f64.name, by decide, Try.func64.trans (congrArg some (by kernel_rfl))⟩
  t0 := Try.underlying0
  a0 := Try.isAgg0
  z0 := Try.sizeOf0
  v0 := Try.zeroValue0
  t4 := Try.underlying4
  a4 := Try.isAgg4
  z4 := Try.sizeOf4
  v4 := Try.zeroValue4
  t23 := Try.underlying88
  a23 := Try.isAgg88
  z23 := Try.sizeOf88
  v23 := Try.zeroValue88
  t26 := Try.underlying9
  a26 := Try.isAgg9
  z26 := Try.sizeOf9
  v26 := Try.zeroValue9
  t33 := Try.underlying53
  a33 := Try.isAgg53
  z33 := Try.sizeOf53
  v33 := Try.zeroValue53
}
theorem iterbIn : Go.Proofs.YtbejhhoakeapgaaVM.Enters Try.prog 64 := Go.Proofs.YtbejhhoakeapgaaVM.enters_B (by kernel_rfl)
def sortedIRen : Go.Shelf.Ren := ⟨fun | 6 => 45 | 8 => 61 | 9 => 62 | 11 => 73 | 13 => 69 | 12 => 74 | 23 => 84 | 24 => 85 | 14 => 87 | 15 => 88 | 16 => 89 | 17 => 90 | 18 => 91 | 19 => 92 | 20 => 56 | 21 => 93 | 22 => 94 | 25 => 100 | 26 => 96 | 27 => 97 | 28 => 101 | 29 => 102 | 30 => 70 | 31 => 104 | n => n, fun | 26 => 3 | 28 => 86 | 24 => 42 | 0 => 0 | 3 => 3 | 37 => 93 | 48 => 117 | 50 => 119 | 4 => 4 | 40 => 111 | 39 => 110 | 45 => 63 | 5 => 5 | 9 => 9 | 51 => 125 | 55 => 129 | 57 => 133 | 58 => 134 | 33 => 97 | n => n, fun n => n⟩
def sortIRen : Go.Shelf.Ren := ⟨fun | 5 => 62 | 8 => 69 | 7 => 74 | 19 => 84 | 20 => 85 | 10 => 87 | 11 => 88 | 12 => 89 | 13 => 90 | 14 => 91 | 15 => 92 | 16 => 56 | 17 => 93 | 18 => 94 | 30 => 100 | 31 => 96 | 32 => 97 | 33 => 101 | 34 => 102 | 35 => 70 | 40 => 104 | n => n, fun | 23 => 42 | 25 => 3 | 3 => 3 | 32 => 93 | 22 => 42 | 0 => 0 | 44 => 117 | 46 => 119 | 4 => 4 | 36 => 111 | 35 => 110 | 41 => 63 | 5 => 5 | 9 => 9 | 53 => 125 | 57 => 129 | 63 => 133 | 64 => 134 | n => n, fun n => n⟩
theorem sortedILaid : SlLaysZI.n6 Try.prog sortedIRen := {
  mixed := (by kernel_rfl)
  f6 := ⟨Try.f45.name, by decide, Try.func45.trans (congrArg some (by kernel_rfl))⟩
  f8 := ⟨Try.f61.name, by decide, Try.func61.trans (congrArg some (by kernel_rfl))⟩
  f11 := ⟨Try.f73.name, by decide, Try.func73.trans (congrArg some (by kernel_rfl))⟩
  t0 := Try.underlying0
  a0 := Try.isAgg0
  z0 := Try.sizeOf0
  v0 := Try.zeroValue0
  t24 := Try.underlying42
  a24 := Try.isAgg42
  z24 := Try.sizeOf42
  v24 := Try.zeroValue42
  t26 := Try.underlying3
  a26 := Try.isAgg3
  z26 := Try.sizeOf3
  v26 := Try.zeroValue3
  t28 := Try.underlying86
  a28 := Try.isAgg86
  z28 := Try.sizeOf86
  v28 := Try.zeroValue86
  i26 := (by kernel_rfl)
}
theorem sortILaid : SlLaysM.n5 Try.prog sortIRen := {
  mixed := (by kernel_rfl)
  f5 := ⟨Try.f62.name, by decide, Try.func62.trans (congrArg some (by kernel_rfl))⟩
  f7 := ⟨Try.f74.name, by decide, Try.func74.trans (congrArg some (by kernel_rfl))⟩
  f8 := Try.func69.trans (congrArg some (by kernel_rfl))
  f10 := ⟨Try.f87.name, by decide, Try.func87.trans (congrArg some (by kernel_rfl))⟩
  f11 := ⟨Try.f88.name, by decide, Try.func88.trans (congrArg some (by kernel_rfl))⟩
  f12 := ⟨Try.f89.name, by decide, Try.func89.trans (congrArg some (by kernel_rfl))⟩
  f13 := ⟨Try.f90.name, by decide, Try.func90.trans (congrArg some (by kernel_rfl))⟩
  f14 := ⟨Try.f91.name, by decide, Try.func91.trans (congrArg some (by kernel_rfl))⟩
  f15 := ⟨Try.f92.name, by decide, Try.func92.trans (congrArg some (by kernel_rfl))⟩
  f16 := ⟨Try.f56.name, by decide, Try.func56.trans (congrArg some (by kernel_rfl))⟩
  f17 := ⟨Try.f93.name, by decide, Try.func93.trans (congrArg some (by kernel_rfl))⟩
  f18 := ⟨Try.f94.name, by decide, Try.func94.trans (congrArg some (by kernel_rfl))⟩
  f19 := Try.func84.trans (congrArg some (by kernel_rfl))
  f20 := Try.func85.trans (congrArg some (by kernel_rfl))
  f30 := ⟨Try.f100.name, by decide, Try.func100.trans (congrArg some (by kernel_rfl))⟩
  f31 := Try.func96.trans (congrArg some (by kernel_rfl))
  f32 := Try.func97.trans (congrArg some (by kernel_rfl))
  f33 := ⟨Try.f101.name, by decide, Try.func101.trans (congrArg some (by kernel_rfl))⟩
  f34 := ⟨Try.f102.name, by decide, Try.func102.trans (congrArg some (by kernel_rfl))⟩
  f35 := ⟨Try.f70.name, by decide, Try.func70.trans (congrArg some (by kernel_rfl))⟩
  f40 := ⟨Try.f104.name, by decide, Try.func104.trans (congrArg some (by kernel_rfl))⟩
  t0 := Try.underlying0
  a0 := Try.isAgg0
  z0 := Try.sizeOf0
  v0 := Try.zeroValue0
  t3 := Try.underlying3
  a3 := Try.isAgg3
  z3 := Try.sizeOf3
  v3 := Try.zeroValue3
  t4 := Try.underlying4
  a4 := Try.isAgg4
  z4 := Try.sizeOf4
  v4 := Try.zeroValue4
  t5 := Try.underlying5
  a5 := Try.isAgg5
  z5 := Try.sizeOf5
  v5 := Try.zeroValue5
  t9 := Try.underlying9
  a9 := Try.isAgg9
  z9 := Try.sizeOf9
  v9 := Try.zeroValue9
  t22 := Try.underlying42
  a22 := Try.isAgg42
  z22 := Try.sizeOf42
  v22 := Try.zeroValue42
  t23 := Try.underlying42
  a23 := Try.isAgg42
  z23 := Try.sizeOf42
  v23 := Try.zeroValue42
  t25 := Try.underlying3
  a25 := Try.isAgg3
  z25 := Try.sizeOf3
  v25 := Try.zeroValue3
  t32 := Try.underlying93
  a32 := Try.isAgg93
  z32 := Try.sizeOf93
  v32 := Try.zeroValue93
  t35 := Try.underlying110
  a35 := Try.isAgg110
  z35 := Try.sizeOf110
  v35 := Try.zeroValue110
  t36 := Try.underlying111
  a36 := Try.isAgg111
  z36 := Try.sizeOf111
  v36 := Try.zeroValue111
  t41 := Try.underlying63
  a41 := Try.isAgg63
  z41 := Try.sizeOf63
  v41 := Try.zeroValue63
  t44 := Try.underlying117
  a44 := Try.isAgg117
  z44 := Try.sizeOf117
  v44 := Try.zeroValue117
  t46 := Try.underlying119
  a46 := Try.isAgg119
  z46 := Try.sizeOf119
  v46 := Try.zeroValue119
  t53 := Try.underlying125
  a53 := Try.isAgg125
  z53 := Try.sizeOf125
  v53 := Try.zeroValue125
  t57 := Try.underlying129
  a57 := Try.isAgg129
  z57 := Try.sizeOf129
  v57 := Try.zeroValue129
  t63 := Try.underlying133
  a63 := Try.isAgg133
  z63 := Try.sizeOf133
  v63 := Try.zeroValue133
  t64 := Try.underlying134
  a64 := Try.isAgg134
  z64 := Try.sizeOf134
  v64 := Try.zeroValue134
}
theorem sortsI (m : Nat) : AnyZI.SortsIn Try.prog sortedIRen Fence.wide m :=
  ⟨fun blk off cap ss W hH hblk hsz => callsIn_wide.2 (AnyM.slices_Sort_int sortILaid blk off cap ss W hH hblk hsz),
   fun p cap W => callsIn_wide.2 (AnyM.slices_Sort_int_none sortILaid p cap W)⟩
theorem sortIIn : Go.Proofs.YtbejhhoakeapgaaVM.Enters Try.prog 62 := Go.Proofs.YtbejhhoakeapgaaVM.enters_B (by kernel_rfl)
def keysiRen : Go.Shelf.Ren := ⟨fun | 7 => 46 | 10 => 63 | n => n, fun | 23 => 79 | 26 => 3 | 3 => 3 | 28 => 86 | 0 => 0 | 27 => 85 | 33 => 97 | 4 => 4 | n => n, fun n => n⟩
theorem keysiLaid : SlLaysZI.n10 Try.prog keysiRen := {
  mixed := (by kernel_rfl)
  f10 := ⟨Try.f63.name, by decide, Try.func63.trans (congrArg some (by kernel_rfl))⟩
  t0 := Try.underlying0
  a0 := Try.isAgg0
  z0 := Try.sizeOf0
  v0 := Try.zeroValue0
  t4 := Try.underlying4
  a4 := Try.isAgg4
  z4 := Try.sizeOf4
  v4 := Try.zeroValue4
  t23 := Try.underlying79
  a23 := Try.isAgg79
  z23 := Try.sizeOf79
  v23 := Try.zeroValue79
  t26 := Try.underlying3
  a26 := Try.isAgg3
  z26 := Try.sizeOf3
  v26 := Try.zeroValue3
  t33 := Try.underlying97
  a33 := Try.isAgg97
  z33 := Try.sizeOf97
  v33 := Try.zeroValue97
}
theorem iteriIn : Go.Proofs.YtbejhhoakeapgaaVM.Enters Try.prog 63 := Go.Proofs.YtbejhhoakeapgaaVM.enters_B (by kernel_rfl)
def keysjRen : Go.Shelf.Ren := ⟨fun | 7 => 60 | 10 => 72 | n => n, fun | 23 => 71 | 26 => 3 | 3 => 42 | 28 => 86 | 0 => 0 | 27 => 85 | 33 => 97 | 4 => 4 | n => n, fun n => n⟩
theorem keysjLaid : SlLaysZI.n10 Try.prog keysjRen := {
  mixed := (by kernel_rfl)
  f10 := ⟨Try.f72.name, by decide, Try.func72.trans (congrArg some (by kernel_rfl))⟩
  t0 := Try.underlying0
  a0 := Try.isAgg0
  z0 := Try.sizeOf0
  v0 := Try.zeroValue0
  t4 := Try.underlying4
  a4 := Try.isAgg4
  z4 := Try.sizeOf4
  v4 := Try.zeroValue4
  t23 := Try.underlying71
  a23 := Try.isAgg71
  z23 := Try.sizeOf71
  v23 := Try.zeroValue71
  t26 := Try.underlying3
  a26 := Try.isAgg3
  z26 := Try.sizeOf3
  v26 := Try.zeroValue3
  t33 := Try.underlying97
  a33 := Try.isAgg97
  z33 := Try.sizeOf97
  v33 := Try.zeroValue97
}
theorem iterjIn : Go.Proofs.YtbejhhoakeapgaaVM.Enters Try.prog 72 := Go.Proofs.YtbejhhoakeapgaaVM.enters_B (by kernel_rfl)
def inssRen : Go.Shelf.Ren := ⟨fun | 17 => 75 | 22 => 33 | 29 => 50 | 30 => 51 | 36 => 66 | n => n, fun | 24 => 22 | n => n, fun n => n⟩
theorem inssLaid : Lays2.n22 Try.prog inssRen := {
  mixed := (by kernel_rfl)
  f17 := Try.func75.trans (congrArg some (by kernel_rfl))
  f22 := Try.func33.trans (congrArg some (by kernel_rfl))
  f29 := Try.func50.trans (congrArg some (by kernel_rfl))
  f30 := Try.func51.trans (congrArg some (by kernel_rfl))
  f36 := Try.func66.trans (congrArg some (by kernel_rfl))
  t0 := Try.underlying0
  a0 := Try.isAgg0
  z0 := Try.sizeOf0
  v0 := Try.zeroValue0
  t3 := Try.underlying3
  a3 := Try.isAgg3
  z3 := Try.sizeOf3
  v3 := Try.zeroValue3
  t4 := Try.underlying4
  a4 := Try.isAgg4
  z4 := Try.sizeOf4
  v4 := Try.zeroValue4
  t9 := Try.underlying9
  a9 := Try.isAgg9
  z9 := Try.sizeOf9
  v9 := Try.zeroValue9
  t24 := Try.underlying22
  a24 := Try.isAgg22
  z24 := Try.sizeOf22
  v24 := Try.zeroValue22
  i9 := (by kernel_rfl)
}
def insiRen : Go.Shelf.Ren := ⟨fun | 21 => 39 | 27 => 58 | 28 => 59 | 35 => 71 | 39 => 86 | n => n, fun | 22 => 42 | n => n, fun n => n⟩
theorem insiLaid : Lays2.n21 Try.prog insiRen := {
  mixed := (by kernel_rfl)
  f21 := Try.func39.trans (congrArg some (by kernel_rfl))
  f27 := Try.func58.trans (congrArg some (by kernel_rfl))
  f28 := Try.func59.trans (congrArg some (by kernel_rfl))
  f35 := Try.func71.trans (congrArg some (by kernel_rfl))
  f39 := Try.func86.trans (congrArg some (by kernel_rfl))
  t0 := Try.underlying0
  a0 := Try.isAgg0
  z0 := Try.sizeOf0
  v0 := Try.zeroValue0
  t3 := Try.underlying3
  a3 := Try.isAgg3
  z3 := Try.sizeOf3
  v3 := Try.zeroValue3
  t4 := Try.underlying4
  a4 := Try.isAgg4
  z4 := Try.sizeOf4
  v4 := Try.zeroValue4
  t22 := Try.underlying42
  a22 := Try.isAgg42
  z22 := Try.sizeOf42
  v22 := Try.zeroValue42
  i3 := (by kernel_rfl)
}

theorem noPrims1 : ((YtbejhhoakeapgaaGI.ents.drop 6).take 42).all (fun e => e.prim.isNone) = true := by kernel_rfl
theorem noPrims2 : (YtbejhhoakeapgaaGI.ents.drop 50).all (fun e => e.prim.isNone) = true := by kernel_rfl
theorem prims (i : Nat) (e : Entry) (F) (he : YtbejhhoakeapgaaGI.ents[i]? = some e) (hp : e.prim = some F) : FnOk Try.prog YtbejhhoakeapgaaGI.G0 e F := by
  by_cases hi48 : i = 48
  · subst hi48
    have h1 : YtbejhhoakeapgaaGI.e48 = e := Option.some.inj he
    subst h1
    have h2 : insFn = F := Option.some.inj hp
    subst h2
    exact insert_ok (insInt insiLaid) Try.underlying3 (by kernel_rfl) (fun h => by cases (Try.underlying3.symm.trans h)) (Go.Proofs.YtbejhhoakeapgaaVM.enters_of entered 48 YtbejhhoakeapgaaGI.e48 rfl)
  by_cases hi49 : i = 49
  · subst hi49
    have h1 : YtbejhhoakeapgaaGI.e49 = e := Option.some.inj he
    subst h1
    have h2 : insFn = F := Option.some.inj hp
    subst h2
    exact insert_ok (insStr inssLaid) Try.underlying3 (by kernel_rfl) (fun h => by cases (Try.underlying9.symm.trans h)) (Go.Proofs.YtbejhhoakeapgaaVM.enters_of entered 49 YtbejhhoakeapgaaGI.e49 rfl)
  by_cases hj : 49 < i
  · exact prims_of noPrims2 (i - 50) e F (by rw [List.getElem?_drop, show 50 + (i - 50) = i by omega]; exact he) hp
  match i, he with
  | 0, he =>
    have h1 : YtbejhhoakeapgaaGI.e0 = e := Option.some.inj he
    subst h1
    have h2 : sortedIF = F := Option.some.inj hp
    subst h2
    exact sortedI_ok keysiLaid sortedILaid sortsI iteriIn sortIIn (Go.Proofs.YtbejhhoakeapgaaVM.enters_of entered 0 YtbejhhoakeapgaaGI.e0 rfl) rfl rfl Try.underlying3 (by kernel_rfl) Try.underlying42 (by kernel_rfl)
  | 1, he =>
    have h1 : YtbejhhoakeapgaaGI.e1 = e := Option.some.inj he
    subst h1
    have h2 : sortedIF = F := Option.some.inj hp
    subst h2
    exact sortedI_ok keysjLaid sortedILaid sortsI iterjIn sortIIn (Go.Proofs.YtbejhhoakeapgaaVM.enters_of entered 1 YtbejhhoakeapgaaGI.e1 rfl) rfl rfl Try.underlying3 (by kernel_rfl) Try.underlying42 (by kernel_rfl)
  | 2, he =>
    have h1 : YtbejhhoakeapgaaGI.e2 = e := Option.some.inj he
    subst h1
    have h2 : sortedF = F := Option.some.inj hp
    subst h2
    exact sorted_ok keysaLaid sortedLaid sorts iteraIn sortIn (Go.Proofs.YtbejhhoakeapgaaVM.enters_of entered 2 YtbejhhoakeapgaaGI.e2 rfl) rfl rfl Try.underlying9 (by kernel_rfl) Try.underlying22 (by kernel_rfl)
  | 3, he =>
    have h1 : YtbejhhoakeapgaaGI.e3 = e := Option.some.inj he
    subst h1
    have h2 : sortedF = F := Option.some.inj hp
    subst h2
    exact sorted_ok keysbLaid sortedLaid sorts iterbIn sortIn (Go.Proofs.YtbejhhoakeapgaaVM.enters_of entered 3 YtbejhhoakeapgaaGI.e3 rfl) rfl rfl Try.underlying9 (by kernel_rfl) Try.underlying22 (by kernel_rfl)
  | 4, he =>
    have h1 : YtbejhhoakeapgaaGI.e4 = e := Option.some.inj he
    subst h1
    have h2 : cloneF = F := Option.some.inj hp
    subst h2
    exact clone_ok cl40Laid rfl rfl (i0 := Try.t3) (z := .int .i64 0) (by kernel_rfl) (by kernel_rfl) (by kernel_rfl) (by kernel_rfl) (of_decide_eq_true (by kernel_rfl)) (of_decide_eq_true (by kernel_rfl)) Try.sizeOf3 (Go.Proofs.YtbejhhoakeapgaaVM.enters_of entered 4 YtbejhhoakeapgaaGI.e4 rfl)
  | 5, he =>
    have h1 : YtbejhhoakeapgaaGI.e5 = e := Option.some.inj he
    subst h1
    have h2 : cloneF = F := Option.some.inj hp
    subst h2
    exact clone_ok cl34Laid rfl rfl (i0 := Try.t9) (z := .string ⟨#[]⟩) (by kernel_rfl) (by kernel_rfl) (by kernel_rfl) (by kernel_rfl) (of_decide_eq_true (by kernel_rfl)) (of_decide_eq_true (by kernel_rfl)) Try.sizeOf9 (Go.Proofs.YtbejhhoakeapgaaVM.enters_of entered 5 YtbejhhoakeapgaaGI.e5 rfl)
  | i + 6, he => exact prims_of noPrims1 i e F (by rw [List.getElem?_take, if_pos (by omega), List.getElem?_drop, Nat.add_comm]; exact he) hp
theorem plain (ts : List T) (h : TOks Try.prog [35] ts) : ∃ n, sem Try.prog YtbejhhoakeapgaaGI.G0 YtbejhhoakeapgaaGI.ents n YtbejhhoakeapgaaGI.i_L17_GraphInts (ts.map A.t) = some [A.t (.bool true)] := by
  match ts, h with
  | [t0], ⟨h0, _⟩ => exact (YtbejhhoakeapgaaGI.law_does t0 (YtbejhhoakeapgaaGI.bys_of h0)).sem
set_option maxRecDepth 100000 in
theorem lifted (os : Os) (started : os.Started) (H : Type) (enc : TypeId × Value → H) :
    ReturnsInHanded {} Try.checked os 4 .any (Rows.graphIntsSpec.pre6 enc Try.prog Try.f4 Rows.graphIntsRow.domain false) (Rows.graphIntsSpec.post enc Try.prog Try.f4 false true false false) := by
  refine returnsInHanded_of_change_sized (C := Try.checked) own started (by kernel_rfl) Try.func4
    (ChangeSpec.witness6 (enc := enc) (C := Try.checked) false ⟨#[], #[.slice none 0 0], []⟩ 8 (by kernel_rfl) (by kernel_rfl) (by kernel_rfl) (by kernel_rfl)) ?_
  intro W base args ds gs before hval0 hW hcnd hsz0 _
  have hval : ∀ (j : Nat) t v, Try.f4.params[j]? = some t → args[j]? = some v → Value.okWide Try.prog W .any base t v := hval0
  have hW' := hW
  obtain ⟨p, q, hA0, hV, rfl, hfz, hnd⟩ := hW
  have hA : DataW.TrodAll enc Try.prog W 0 (fun _ => true) true Try.f4.params.toList args.toList ds p := hA0
  rw [Try.params4] at hA hval
  obtain ⟨rfl, rfl⟩ := trodVars_none hV
  obtain ⟨ts, hpv, hok⟩ := args_open (types_of tysOk) hA (by kernel_rfl) (fun j t v ht hv => hval j t v (by simpa using ht) (by simpa using hv))
  obtain ⟨n, hn⟩ := plain ts hok
  have hlt := DataW.TrodAll.lt hA
  clear hA0 hval0 hsz0
  refine (FnOk.data (sem_ok (drawOk orders) (Go.Proofs.YtbejhhoakeapgaaVM.enters_of entered) prims n YtbejhhoakeapgaaGI.i_L17_GraphInts (e := YtbejhhoakeapgaaGI.e6) rfl) (ps := [35]) (rs := [4]) rfl rfl (by kernel_rfl) (by kernel_rfl) (fun g τ t h => by cases h) hpv hn).mono fun e W' ⟨us, he, bel, hus⟩ => ?_
  obtain rfl := bool_of Try.underlying4 hus
  subst he
  obtain ⟨d0, rfl⟩ : ∃ d0, ds = [d0] := by
    have hl : ds.length = 1 := (trodAll_length hA).2
    match ds, hl with
    | [a0], _ => exact ⟨a0, rfl⟩
  exact ⟨_, rfl, _, _, _, [], _, [], hW', trodAll_mk1 (shut_bool Try.underlying4 _), args_stay laidOut bel hA (by kernel_rfl) hlt, rfl, bel.frame _, fun h => by cases h⟩
theorem over : Rows.graphIntsRow.holds Try.pinned (OpenSpec.ofChange Rows.graphIntsSpec) :=
  OpenClaim.holds_of_wide 4 Try.f4 rfl rfl rfl rfl rfl rfl rfl ⟨rfl, rfl, rfl, rfl, rfl⟩ rfl rfl rfl rfl rfl (by kernel_rfl) Try.func4 (by kernel_rfl)
    (of_decide_eq_true (by kernel_rfl)) (by unfold Func.isWrapper; first | (rw [if_pos (by decide +kernel)]; kernel_rfl) | (rw [if_neg (by decide +kernel)]; exact ⟨rfl, rfl⟩))
    (fun os started H enc _ => lifted os started H enc)
theorem proved : Rows.GraphIntsSaid := over
#print axioms proved
end Go.Proofs.Ytbejhhoakeapgaa.graphInts
namespace Go.Proofs.Ytbejhhoakeapgaa
theorem graphInts_holds : Rows.GraphIntsSaid := graphInts.proved
end Go.Proofs.Ytbejhhoakeapgaa

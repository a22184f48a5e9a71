/- treillage, treillagelaw33.OrderHolds: for every input the law returns true, and each argument reads as it did: the row, and its card (the words of the language are laid). -/
import Derived.Test.YtjnbggianlgjiaaDoorOHB
import Derived.Test.YtjnbggianlgjiaaDoorWd
import Derived.Test.YtjnbggianlgjiaaDoorVmZq
import Derived.Test.YtjnbggianlgjiaaDoorVmZt
import Derived.Test.YtjnbggianlgjiaaDoorVmZu
import Derived.Test.YtjnbggianlgjiaaDoorVmZy
import Derived.Test.YtjnbggianlgjiaaDoorVmZx
import Derived.Shelf.SortM.Plain
import Derived.Shelf.SortM.SortNone
import Derived.Test.YtjnbggianlgjiaaDoorVmC
import Derived.Test.YtjnbggianlgjiaaDoorCards
import Derived.Test.YtjnbggianlgjiaaDoorTie
import Derived.WalkKit
import Derived.ProofKit
import Derived.OpenShut
import Derived.ShutString
import Derived.ChangeOld
import Derived.Below
import Derived.SizedLaws
import Derived.ChangeCalls
import Derived.Deep.DeepHandedRow
import Derived.Lib.LaidTab
namespace Go.Proofs.YtjnbggianlgjiaaDoor.orderHolds
open Go.ChangeShapes Go.WideShapes Go.ChangeAt Go.RowKit
open Go.Proofs.YtjnbggianlgjiaaDoorVM
set_option maxRecDepth 100000
set_option linter.unusedVariables false
theorem own : ownKnob Tryd.prog.godebug = none := by kernel_rfl
theorem laidOut : laidOutB Tryd.prog = true := by kernel_rfl
theorem orders : Tryd.prog.follows .mixedOrders = true := by kernel_rfl
def tys : List TypeId := [22, 32, 41, 39, 9, 36, 34, 99, 97, 101, 3, 4, 37]
theorem tysOk : tys.all (okTy Tryd.prog tys) = true := by kernel_rfl
theorem entered : YtjnbggianlgjiaaDoorOH.ents.all (fun e => entersB Tryd.prog e.fid) = true := by kernel_rfl
def cl42Ren : Go.Shelf.Ren := ⟨fun | 41 => 42 | n => n, fun | 22 => 37 | 23 => 9 | n => n, fun n => n⟩
theorem cl42Laid : SlLaysE0.n41 Tryd.prog cl42Ren := {
  mixed := (by kernel_rfl)
  f41 := ⟨Tryd.f42.name, by decide, Tryd.func42.trans (congrArg some (by kernel_rfl))⟩
  t4 := Tryd.underlying4
  a4 := Tryd.isAgg4
  z4 := Tryd.sizeOf4
  v4 := Tryd.zeroValue4
  t22 := Tryd.underlying37
  a22 := Tryd.isAgg37
  z22 := Tryd.sizeOf37
  v22 := Tryd.zeroValue37
}
def cl70Ren : Go.Shelf.Ren := ⟨fun | 41 => 70 | n => n, fun | 22 => 34 | 23 => 99 | n => n, fun n => n⟩
theorem cl70Laid : SlLaysE0.n41 Tryd.prog cl70Ren := {
  mixed := (by kernel_rfl)
  f41 := ⟨Tryd.f70.name, by decide, Tryd.func70.trans (congrArg some (by kernel_rfl))⟩
  t4 := Tryd.underlying4
  a4 := Tryd.isAgg4
  z4 := Tryd.sizeOf4
  v4 := Tryd.zeroValue4
  t22 := Tryd.underlying34
  a22 := Tryd.isAgg34
  z22 := Tryd.sizeOf34
  v22 := Tryd.zeroValue34
}
def cl71Ren : Go.Shelf.Ren := ⟨fun | 41 => 71 | n => n, fun | 22 => 97 | 23 => 101 | n => n, fun n => n⟩
theorem cl71Laid : SlLaysE0.n41 Tryd.prog cl71Ren := {
  mixed := (by kernel_rfl)
  f41 := ⟨Tryd.f71.name, by decide, Tryd.func71.trans (congrArg some (by kernel_rfl))⟩
  t4 := Tryd.underlying4
  a4 := Tryd.isAgg4
  z4 := Tryd.sizeOf4
  v4 := Tryd.zeroValue4
  t22 := Tryd.underlying97
  a22 := Tryd.isAgg97
  z22 := Tryd.sizeOf97
  v22 := Tryd.zeroValue97
}
def sortedRen : Go.Shelf.Ren := ⟨fun | 6 => 57 | 8 => 67 | 9 => 68 | 11 => 77 | 13 => 79 | 12 => 78 | 23 => 91 | 24 => 92 | 14 => 83 | 15 => 84 | 16 => 85 | 17 => 86 | 18 => 87 | 19 => 88 | 20 => 60 | 21 => 89 | 22 => 90 | 25 => 94 | 26 => 95 | 27 => 96 | 28 => 97 | 29 => 98 | 30 => 72 | 31 => 99 | n => n, fun | 26 => 9 | 28 => 89 | 24 => 37 | 0 => 0 | 3 => 3 | 37 => 92 | 48 => 121 | 50 => 33 | 4 => 4 | 40 => 115 | 39 => 114 | 45 => 69 | 5 => 5 | 9 => 9 | 51 => 124 | 55 => 128 | 57 => 130 | 58 => 131 | 33 => 54 | n => n, fun n => n⟩
def sortRen : Go.Shelf.Ren := ⟨fun | 6 => 68 | 8 => 79 | 9 => 78 | 19 => 91 | 20 => 92 | 21 => 83 | 22 => 84 | 23 => 85 | 24 => 86 | 25 => 87 | 26 => 88 | 27 => 60 | 28 => 89 | 29 => 90 | 36 => 94 | 31 => 95 | 32 => 96 | 37 => 97 | 38 => 98 | 39 => 72 | 41 => 99 | n => n, fun | 27 => 37 | 29 => 9 | 3 => 3 | 32 => 92 | 26 => 37 | 0 => 0 | 44 => 121 | 46 => 33 | 4 => 4 | 36 => 115 | 35 => 114 | 41 => 69 | 5 => 5 | 9 => 9 | 53 => 124 | 57 => 128 | 63 => 130 | 64 => 131 | n => n, fun n => n⟩
theorem sortedLaid : SlLaysZ.n6 Tryd.prog sortedRen := {
  mixed := (by kernel_rfl)
  f6 := ⟨Tryd.f57.name, by decide, Tryd.func57.trans (congrArg some (by kernel_rfl))⟩
  f8 := ⟨Tryd.f67.name, by decide, Tryd.func67.trans (congrArg some (by kernel_rfl))⟩
  f11 := ⟨Tryd.f77.name, by decide, Tryd.func77.trans (congrArg some (by kernel_rfl))⟩
  t0 := Tryd.underlying0
  a0 := Tryd.isAgg0
  z0 := Tryd.sizeOf0
  v0 := Tryd.zeroValue0
  t24 := Tryd.underlying37
  a24 := Tryd.isAgg37
  z24 := Tryd.sizeOf37
  v24 := Tryd.zeroValue37
  t26 := Tryd.underlying9
  a26 := Tryd.isAgg9
  z26 := Tryd.sizeOf9
  v26 := Tryd.zeroValue9
  t28 := Tryd.underlying89
  a28 := Tryd.isAgg89
  z28 := Tryd.sizeOf89
  v28 := Tryd.zeroValue89
  i26 := (by kernel_rfl)
}
theorem sortLaid : SlLaysM.n6 Tryd.prog sortRen := {
  mixed := (by kernel_rfl)
  f6 := ⟨Tryd.f68.name, by decide, Tryd.func68.trans (congrArg some (by kernel_rfl))⟩
  f8 := Tryd.func79.trans (congrArg some (by kernel_rfl))
  f9 := ⟨Tryd.f78.name, by decide, Tryd.func78.trans (congrArg some (by kernel_rfl))⟩
  f19 := Tryd.func91.trans (congrArg some (by kernel_rfl))
  f20 := Tryd.func92.trans (congrArg some (by kernel_rfl))
  f21 := ⟨Tryd.f83.name, by decide, Tryd.func83.trans (congrArg some (by kernel_rfl))⟩
  f22 := ⟨Tryd.f84.name, by decide, Tryd.func84.trans (congrArg some (by kernel_rfl))⟩
  f23 := ⟨Tryd.f85.name, by decide, Tryd.func85.trans (congrArg some (by kernel_rfl))⟩
  f24 := ⟨Tryd.f86.name, by decide, Tryd.func86.trans (congrArg some (by kernel_rfl))⟩
  f25 := ⟨Tryd.f87.name, by decide, Tryd.func87.trans (congrArg some (by kernel_rfl))⟩
  f26 := ⟨Tryd.f88.name, by decide, Tryd.func88.trans (congrArg some (by kernel_rfl))⟩
  f27 := ⟨Tryd.f60.name, by decide, Tryd.func60.trans (congrArg some (by kernel_rfl))⟩
  f28 := ⟨Tryd.f89.name, by decide, Tryd.func89.trans (congrArg some (by kernel_rfl))⟩
  f29 := ⟨Tryd.f90.name, by decide, Tryd.func90.trans (congrArg some (by kernel_rfl))⟩
  f31 := Tryd.func95.trans (congrArg some (by kernel_rfl))
  f32 := Tryd.func96.trans (congrArg some (by kernel_rfl))
  f36 := ⟨Tryd.f94.name, by decide, Tryd.func94.trans (congrArg some (by kernel_rfl))⟩
  f37 := ⟨Tryd.f97.name, by decide, Tryd.func97.trans (congrArg some (by kernel_rfl))⟩
  f38 := ⟨Tryd.f98.name, by decide, Tryd.func98.trans (congrArg some (by kernel_rfl))⟩
  f39 := ⟨Tryd.f72.name, by decide, Tryd.func72.trans (congrArg some (by kernel_rfl))⟩
  f41 := ⟨Tryd.f99.name, by decide, Tryd.func99.trans (congrArg some (by kernel_rfl))⟩
  t0 := Tryd.underlying0
  a0 := Tryd.isAgg0
  z0 := Tryd.sizeOf0
  v0 := Tryd.zeroValue0
  t3 := Tryd.underlying3
  a3 := Tryd.isAgg3
  z3 := Tryd.sizeOf3
  v3 := Tryd.zeroValue3
  t4 := Tryd.underlying4
  a4 := Tryd.isAgg4
  z4 := Tryd.sizeOf4
  v4 := Tryd.zeroValue4
  t5 := Tryd.underlying5
  a5 := Tryd.isAgg5
  z5 := Tryd.sizeOf5
  v5 := Tryd.zeroValue5
  t9 := Tryd.underlying9
  a9 := Tryd.isAgg9
  z9 := Tryd.sizeOf9
  v9 := Tryd.zeroValue9
  t26 := Tryd.underlying37
  a26 := Tryd.isAgg37
  z26 := Tryd.sizeOf37
  v26 := Tryd.zeroValue37
  t27 := Tryd.underlying37
  a27 := Tryd.isAgg37
  z27 := Tryd.sizeOf37
  v27 := Tryd.zeroValue37
  t29 := Tryd.underlying9
  a29 := Tryd.isAgg9
  z29 := Tryd.sizeOf9
  v29 := Tryd.zeroValue9
  t32 := Tryd.underlying92
  a32 := Tryd.isAgg92
  z32 := Tryd.sizeOf92
  v32 := Tryd.zeroValue92
  t35 := Tryd.underlying114
  a35 := Tryd.isAgg114
  z35 := Tryd.sizeOf114
  v35 := Tryd.zeroValue114
  t36 := Tryd.underlying115
  a36 := Tryd.isAgg115
  z36 := Tryd.sizeOf115
  v36 := Tryd.zeroValue115
  t41 := Tryd.underlying69
  a41 := Tryd.isAgg69
  z41 := Tryd.sizeOf69
  v41 := Tryd.zeroValue69
  t44 := Tryd.underlying121
  a44 := Tryd.isAgg121
  z44 := Tryd.sizeOf121
  v44 := Tryd.zeroValue121
  t46 := Tryd.underlying33
  a46 := Tryd.isAgg33
  z46 := Tryd.sizeOf33
  v46 := Tryd.zeroValue33
  t53 := Tryd.underlying124
  a53 := Tryd.isAgg124
  z53 := Tryd.sizeOf124
  v53 := Tryd.zeroValue124
  t57 := Tryd.underlying128
  a57 := Tryd.isAgg128
  z57 := Tryd.sizeOf128
  v57 := Tryd.zeroValue128
  t63 := Tryd.underlying130
  a63 := Tryd.isAgg130
  z63 := Tryd.sizeOf130
  v63 := Tryd.zeroValue130
  t64 := Tryd.underlying131
  a64 := Tryd.isAgg131
  z64 := Tryd.sizeOf131
  v64 := Tryd.zeroValue131
}
theorem sorts (m : Nat) : AnyZ.SortsIn Tryd.prog sortedRen Fence.wide m :=
  ⟨fun blk off cap ss W hH hblk hsz => callsIn_wide.2 (AnyM.slices_Sort_string sortLaid blk off cap ss W hH hblk hsz),
   fun p cap W => callsIn_wide.2 (AnyM.slices_Sort_string_none sortLaid p cap W)⟩
theorem sortIn : Go.Proofs.YtjnbggianlgjiaaDoorVM.Enters Tryd.prog 68 := Go.Proofs.YtjnbggianlgjiaaDoorVM.enters_B (by kernel_rfl)
def keysRen : Go.Shelf.Ren := ⟨fun | 7 => 58 | 10 => 69 | n => n, fun | 23 => 59 | 26 => 9 | 3 => 3 | 28 => 89 | 0 => 0 | 27 => 88 | 33 => 54 | 4 => 4 | n => n, fun n => n⟩
theorem keysLaid : SlLaysZ.n10 Tryd.prog keysRen := {
  mixed := (by kernel_rfl)
  f10 := ⟨Tryd.f69.name, by decide, Tryd.func69.trans (congrArg some (by kernel_rfl))⟩
  t0 := Tryd.underlying0
  a0 := Tryd.isAgg0
  z0 := Tryd.sizeOf0
  v0 := Tryd.zeroValue0
  t4 := Tryd.underlying4
  a4 := Tryd.isAgg4
  z4 := Tryd.sizeOf4
  v4 := Tryd.zeroValue4
  t23 := Tryd.underlying59
  a23 := Tryd.isAgg59
  z23 := Tryd.sizeOf59
  v23 := Tryd.zeroValue59
  t26 := Tryd.underlying9
  a26 := Tryd.isAgg9
  z26 := Tryd.sizeOf9
  v26 := Tryd.zeroValue9
  t33 := Tryd.underlying54
  a33 := Tryd.isAgg54
  z33 := Tryd.sizeOf54
  v33 := Tryd.zeroValue54
}
theorem iterIn : Go.Proofs.YtjnbggianlgjiaaDoorVM.Enters Tryd.prog 69 := Go.Proofs.YtjnbggianlgjiaaDoorVM.enters_B (by kernel_rfl)
def keysbRen : Go.Shelf.Ren := ⟨fun | 7 => 66 | 10 => 76 | n => n, fun | 23 => 66 | 26 => 9 | 3 => 37 | 28 => 89 | 0 => 0 | 27 => 88 | 33 => 54 | 4 => 4 | n => n, fun n => n⟩
theorem keysbLaid : SlLaysZ.n10 Tryd.prog keysbRen := {
  mixed := (by kernel_rfl)
  f10 := ⟨Tryd.f76.name, by decide, Tryd.func76.trans (congrArg some (by kernel_rfl))⟩
  t0 := Tryd.underlying0
  a0 := Tryd.isAgg0
  z0 := Tryd.sizeOf0
  v0 := Tryd.zeroValue0
  t4 := Tryd.underlying4
  a4 := Tryd.isAgg4
  z4 := Tryd.sizeOf4
  v4 := Tryd.zeroValue4
  t23 := Tryd.underlying66
  a23 := Tryd.isAgg66
  z23 := Tryd.sizeOf66
  v23 := Tryd.zeroValue66
  t26 := Tryd.underlying9
  a26 := Tryd.isAgg9
  z26 := Tryd.sizeOf9
  v26 := Tryd.zeroValue9
  t33 := Tryd.underlying54
  a33 := Tryd.isAgg54
  z33 := Tryd.sizeOf54
  v33 := Tryd.zeroValue54
}
theorem iterbIn : Go.Proofs.YtjnbggianlgjiaaDoorVM.Enters Tryd.prog 76 := Go.Proofs.YtjnbggianlgjiaaDoorVM.enters_B (by kernel_rfl)
def inssRen : Go.Shelf.Ren := ⟨fun | 17 => 80 | 22 => 41 | 29 => 62 | 30 => 63 | 36 => 73 | n => n, fun | 24 => 37 | n => n, fun n => n⟩
theorem inssLaid : Lays2.n22 Tryd.prog inssRen := {
  mixed := (by kernel_rfl)
  f17 := Tryd.func80.trans (congrArg some (by kernel_rfl))
  f22 := Tryd.func41.trans (congrArg some (by kernel_rfl))
  f29 := Tryd.func62.trans (congrArg some (by kernel_rfl))
  f30 := Tryd.func63.trans (congrArg some (by kernel_rfl))
  f36 := Tryd.func73.trans (congrArg some (by kernel_rfl))
  t0 := Tryd.underlying0
  a0 := Tryd.isAgg0
  z0 := Tryd.sizeOf0
  v0 := Tryd.zeroValue0
  t3 := Tryd.underlying3
  a3 := Tryd.isAgg3
  z3 := Tryd.sizeOf3
  v3 := Tryd.zeroValue3
  t4 := Tryd.underlying4
  a4 := Tryd.isAgg4
  z4 := Tryd.sizeOf4
  v4 := Tryd.zeroValue4
  t9 := Tryd.underlying9
  a9 := Tryd.isAgg9
  z9 := Tryd.sizeOf9
  v9 := Tryd.zeroValue9
  t24 := Tryd.underlying37
  a24 := Tryd.isAgg37
  z24 := Tryd.sizeOf37
  v24 := Tryd.zeroValue37
  i9 := (by kernel_rfl)
}

theorem noPrims1 : ((YtjnbggianlgjiaaDoorOH.ents.drop 6).take 62).all (fun e => e.prim.isNone) = true := by kernel_rfl
theorem noPrims2 : (YtjnbggianlgjiaaDoorOH.ents.drop 69).all (fun e => e.prim.isNone) = true := by kernel_rfl
theorem prims (i : Nat) (e : Entry) (F) (he : YtjnbggianlgjiaaDoorOH.ents[i]? = some e) (hp : e.prim = some F) : FnOk Tryd.prog YtjnbggianlgjiaaDoorOH.G0 e F := by
  by_cases hi : i = 68
  · subst hi
    have h1 : YtjnbggianlgjiaaDoorOH.e68 = e := Option.some.inj he
    subst h1
    have h2 : insFn = F := Option.some.inj hp
    subst h2
    exact insert_ok (insStr inssLaid) Tryd.underlying3 (by kernel_rfl) (fun h => by cases (Tryd.underlying9.symm.trans h)) (Go.Proofs.YtjnbggianlgjiaaDoorVM.enters_of entered 68 YtjnbggianlgjiaaDoorOH.e68 rfl)
  by_cases hj : 68 < i
  · exact prims_of noPrims2 (i - 69) e F (by rw [List.getElem?_drop, show 69 + (i - 69) = i by omega]; exact he) hp
  match i, he with
  | 0, he =>
    have h1 : YtjnbggianlgjiaaDoorOH.e0 = e := Option.some.inj he
    subst h1
    have h2 : sortedF = F := Option.some.inj hp
    subst h2
    exact sorted_ok keysLaid sortedLaid sorts iterIn sortIn (Go.Proofs.YtjnbggianlgjiaaDoorVM.enters_of entered 0 YtjnbggianlgjiaaDoorOH.e0 rfl) rfl rfl Tryd.underlying9 (by kernel_rfl) Tryd.underlying37 (by kernel_rfl)
  | 1, he =>
    have h1 : YtjnbggianlgjiaaDoorOH.e1 = e := Option.some.inj he
    subst h1
    have h2 : sortedF = F := Option.some.inj hp
    subst h2
    exact sorted_ok keysbLaid sortedLaid sorts iterbIn sortIn (Go.Proofs.YtjnbggianlgjiaaDoorVM.enters_of entered 1 YtjnbggianlgjiaaDoorOH.e1 rfl) rfl rfl Tryd.underlying9 (by kernel_rfl) Tryd.underlying37 (by kernel_rfl)
  | 2, he =>
    have h1 : YtjnbggianlgjiaaDoorOH.e2 = e := Option.some.inj he
    subst h1
    have h2 : cloneF = F := Option.some.inj hp
    subst h2
    exact clone_ok cl42Laid rfl rfl (i0 := Tryd.t9) (z := .string ⟨#[]⟩) (by kernel_rfl) (by kernel_rfl) (by kernel_rfl) (by kernel_rfl) (of_decide_eq_true (by kernel_rfl)) (of_decide_eq_true (by kernel_rfl)) Tryd.sizeOf9 (Go.Proofs.YtjnbggianlgjiaaDoorVM.enters_of entered 2 YtjnbggianlgjiaaDoorOH.e2 rfl)
  | 3, he =>
    have h1 : YtjnbggianlgjiaaDoorOH.e3 = e := Option.some.inj he
    subst h1
    have h2 : nameF = F := Option.some.inj hp
    subst h2
    exact YtjnbggianlgjiaaDoorWD.name_ok (Go.Proofs.YtjnbggianlgjiaaDoorVM.enters_of entered 3 YtjnbggianlgjiaaDoorOH.e3 rfl)
  | 4, he =>
    have h1 : YtjnbggianlgjiaaDoorOH.e4 = e := Option.some.inj he
    subst h1
    have h2 : cloneF = F := Option.some.inj hp
    subst h2
    exact clone_ok cl70Laid rfl rfl (i0 := Tryd.t99) (z := .agg #[.int .i64 0, .int .i64 0, .int .i64 0, .string ⟨#[]⟩, .bool false, .bool false, .bool false, .slice none 0 0]) (by kernel_rfl) (by kernel_rfl) (by kernel_rfl) (by kernel_rfl) (of_decide_eq_true (by kernel_rfl)) (of_decide_eq_true (by kernel_rfl)) Tryd.sizeOf99 (Go.Proofs.YtjnbggianlgjiaaDoorVM.enters_of entered 4 YtjnbggianlgjiaaDoorOH.e4 rfl)
  | 5, he =>
    have h1 : YtjnbggianlgjiaaDoorOH.e5 = e := Option.some.inj he
    subst h1
    have h2 : cloneF = F := Option.some.inj hp
    subst h2
    exact clone_ok cl71Laid rfl rfl (i0 := Tryd.t101) (z := .agg #[.string ⟨#[]⟩, .slice none 0 0]) (by kernel_rfl) (by kernel_rfl) (by kernel_rfl) (by kernel_rfl) (of_decide_eq_true (by kernel_rfl)) (of_decide_eq_true (by kernel_rfl)) Tryd.sizeOf101 (Go.Proofs.YtjnbggianlgjiaaDoorVM.enters_of entered 5 YtjnbggianlgjiaaDoorOH.e5 rfl)
  | i + 6, he => exact prims_of noPrims1 i e F (by rw [List.getElem?_take, if_pos (by omega), List.getElem?_drop, Nat.add_comm]; exact he) hp
theorem plain (ts : List T) (h : TOks Tryd.prog [22, 32] ts) (hb : (tAtD ts 0).kids.length ≤ 1048576) : ∃ n, sem Tryd.prog YtjnbggianlgjiaaDoorOH.G0 YtjnbggianlgjiaaDoorOH.ents n YtjnbggianlgjiaaDoorOH.i_L33_OrderHolds (ts.map A.t) = some [A.t (.bool true)] := by
  match ts, h, hb with
  | [t0, t1], ⟨h0, _⟩, hb => exact (YtjnbggianlgjiaaDoorOH.law_does t0 t1 hb (YtjnbggianlgjiaaDoorOH.acts_of h0)).sem
theorem gWords : Tryd.prog.globalNamed "treillage/name.words" = some 0 := by kernel_rfl
theorem tWords : (Tryd.prog.globals[0]?).map (·.type) = some 102 := by kernel_rfl
theorem c9 : Tryd.prog.cellsOf 9 = 1 := by kernel_rfl
theorem cWords : Tryd.prog.cellsOf 102 = 9 := by kernel_rfl
theorem kWords : csz Tryd.prog 102 = some 9 := by kernel_rfl
theorem aWords : arrOf Tryd.prog 102 = some (9, 9, 1) := by kernel_rfl
theorem wordsD : (Rows.laid_treillage_name_words : DataW Unit) = .agg (wordsL.map fun w => .lit (.string w.data.toList)) := rfl
theorem table {W : World} (h : laidMetH Tryd.prog Rows.orderHoldsUptoRow.laid W) : YtjnbggianlgjiaaDoorWD.Laid W := by
  rw [MakeChecks.laidMetH_plain _ _ _ (by kernel_rfl)] at h
  obtain ⟨ps, ⟨g0, t0, cs0, f0, p0, q0, hg0, ht0, hv0, hd0, _, _⟩, _, _⟩ := h
  obtain rfl := Option.some.inj (gWords.symm.trans hg0)
  obtain rfl := Option.some.inj (tWords.symm.trans ht0)
  obtain ⟨xs, m, rfl, hx1, hlen, hn, hel⟩ := DataW.trod_array Tryd.underlying102 hd0
  rw [wordsD] at hx1
  simp only [Prod.mk.injEq, DataW.agg.injEq] at hx1
  rw [cWords] at hlen
  rw [c9] at hel
  have hcell : ∃ el fr, W.heap[0]? = some (.cells cs0 el fr) := by
    unfold World.var? at hv0
    rw [gWords] at hv0
    simp only [Option.bind_some] at hv0
    split at hv0
    · rename_i cs el fr hh
      cases hv0
      exact ⟨el, fr, hh⟩
    · cases hv0
  obtain ⟨el, fr, hh⟩ := hcell
  have hsz : cs0.size = 9 := by rw [← Array.length_toList]; exact hlen
  intro g τ t hm
  obtain ⟨rfl, rfl, rfl⟩ : g = 0 ∧ τ = 102 ∧ t = .node (wordsL.map T.str) := by
    have : (g, τ, t) = (0, 102, .node (wordsL.map T.str)) := List.mem_singleton.1 hm
    simpa using this
  refine ⟨cs0, el, fr, 9, hh, kWords, ?_, by omega⟩
  rw [List.take_of_length_le (by omega)]
  refine .arr aWords (by omega) fun i hi => ?_
  have hi2 : i < wordsL.length := hi
  have hxi : i < xs.length := by omega
  have h1 := hel i hi
  rw [List.getElem?_eq_getElem hxi] at h1
  obtain ⟨s, e1, e2, _⟩ := DataW.trod_string Tryd.underlying9 h1
  rw [e1]
  have hw : s = wordsL[i] := by
    have h3 : (xs.map (·.1))[i]? = (wordsL.map fun w => (DataW.lit (.string w.data.toList) : DataW Unit))[i]? := by rw [hx1.1]
    rw [List.getElem?_map, List.getElem?_map, List.getElem?_eq_getElem hxi, List.getElem?_eq_getElem hi2, e2] at h3
    simp only [Option.map_some, Option.some.injEq, DataW.lit.injEq, Lit.string.injEq] at h3
    exact ByteArray.ext (Array.toList_inj.1 h3)
  have hg : T.get (.node (wordsL.map T.str)) i = .str wordsL[i] := by
    show (wordsL.map T.str).getD i (.node []) = _
    rw [List.getD, List.getElem?_map, List.getElem?_eq_getElem hi2]
    rfl
  rw [hg, hw]
  exact .str Tryd.underlying9
theorem one_le {H : Type} (d : DataW H) : 1 ≤ Rows.uptoBulk d := by
  cases d with
  | lit l => cases l <;> simp [Rows.uptoBulk]
  | nil => simp [Rows.uptoBulk]
  | ptr d => simp [Rows.uptoBulk]
  | slice elems rest => simp [Rows.uptoBulk]
  | agg parts => simp [Rows.uptoBulk]
  | iface c d => simp [Rows.uptoBulk]
  | map es => simp [Rows.uptoBulk]
  | held h => simp [Rows.uptoBulk]
theorem length_le {H : Type} (l : List (DataW H)) : l.length ≤ Rows.uptoBulkAll l := by
  induction l with
  | nil => simp [Rows.uptoBulkAll]
  | cons x r ih => have := one_le x; simp only [Rows.uptoBulkAll, List.length_cons]; omega
theorem len_bound {H : Type} {enc : TypeId × Value → H} {W : World} {base : Nat} {spare : Nat → Bool} {held : Bool} {τs : List TypeId} {vs : List Value} {ds : List (DataW H)} {ps : List MemPlace} {ok : Nat → Prop} {ts : List T}
    (hA : DataW.TrodAll enc Tryd.prog W base spare held (22 :: τs) vs ds ps) (hpv : PVs Tryd.prog W ok (22 :: τs) ts vs) (hk : Rows.uptoSmall H (ds ++ []) = true) : (tAtD ts 0).kids.length ≤ 1048576 := by
  obtain ⟨v, vs', d, ds', p, q, rfl, rfl, rfl, ⟨fuel, h1⟩, _⟩ := trodAll_cons hA
  have hk2 := of_decide_eq_true hk
  simp only [List.append_nil, Rows.uptoBulkAll] at hk2
  match ts, hpv with
  | u :: us, ⟨⟨cs, hp, hv⟩, _⟩ =>
    show u.kids.length ≤ 1048576
    rw [if_neg (by simp [isAggB, Tryd.underlying22])] at hv
    subst hv
    cases hp with
    | slice hu _ _ =>
      rcases DataW.trod_slice Tryd.underlying22 h1 with ⟨e, _⟩ | ⟨a, len, cap, elems, rest, n, _, e, hx, _, _, _, hlen, _⟩
      · have e2 : ([Value.slice _ _ _] : List Value) = [.slice none 0 0] := e
        simp only [List.cons.injEq, Value.slice.injEq, and_true] at e2
        omega
      · have e2 : ([Value.slice _ _ _] : List Value) = [.slice (some a) len cap] := e
        simp only [List.cons.injEq, Value.slice.injEq, and_true] at e2
        simp only [Prod.mk.injEq] at hx
        rw [hx.1] at hk2
        simp only [Rows.uptoBulk] at hk2
        have h3 := length_le (elems.map (·.1))
        rw [List.length_map] at h3
        omega
    | bool h => rw [Tryd.underlying22] at h; cases h
    | int h => rw [Tryd.underlying22] at h; cases h
    | str h => rw [Tryd.underlying22] at h; cases h
    | struct h _ => obtain ⟨_, _, _, hq, _⟩ := fieldsOf_agg h; rw [Tryd.underlying22] at hq; cases hq
    | arr h _ _ => obtain ⟨_, _, _, _, hq⟩ := arrOf_agg h; rw [Tryd.underlying22] at hq; cases hq
noncomputable def laidWorld (os : Os) : World :=
  { World.holding Tryd.prog os ⟨#[], #[], []⟩ with heap := (World.holding Tryd.prog os ⟨#[], #[], []⟩).heap.modify 0 fun
      | .cells _ t frozen => .cells (wordsL.map Value.string).toArray t frozen
      | o => o }
theorem laid_met (os : Os) : laidMet Tryd.prog Rows.orderHoldsUptoRow.laid ((laidWorld os).forCall (fun _ _ => 0) ⟨#[], #[.slice none 0 0, .slice none 0 0], []⟩).memory :=
  laidMet_of_run' 8 (by kernel_rfl) (by kernel_rfl)
theorem reads (os : Os) {H : Type} (enc : TypeId × Value → H) : ∃ places, DataW.whole enc Tryd.prog ((laidWorld os).forCall (fun _ _ => 0) ⟨#[], #[.slice none 0 0, .slice none 0 0], []⟩).memory Tryd.f4.params.toList Rows.orderHoldsSpec.vars false #[.slice none 0 0, .slice none 0 0].toList 8 = some ([.nil, .nil], [], places) :=
  ⟨[], by kernel_rfl⟩
set_option maxRecDepth 100000 in
theorem lifted (os : Os) (started : os.Started) (H : Type) (enc : TypeId × Value → H) (F : Stop.Interp) :
    ReturnsInHanded {} Tryd.checked os 4 .any ((Rows.OpenSpec.upto Rows.orderHoldsSpec).preRow enc Tryd.prog Tryd.f4 Rows.orderHoldsUptoRow.domain false Rows.orderHoldsUptoRow.laid) (((Rows.OpenSpec.upto Rows.orderHoldsSpec).at F).post enc Tryd.prog Tryd.f4 false true false false) := by
  obtain ⟨places, hx⟩ := reads os enc
  refine returnsInHanded_of_row (C := Tryd.checked) (s := Rows.OpenSpec.upto Rows.orderHoldsSpec) own started (by kernel_rfl) Tryd.func4
    (witness_row_at (enc := enc) (C := Tryd.checked) false (laidWorld os) #[.slice none 0 0, .slice none 0 0] rfl (by kernel_rfl) (by kernel_rfl) (by kernel_rfl)
      (OpenSpec.preRow_of_cond 8 hx (by kernel_rfl) (fun k hk => by cases hk; kernel_rfl) (by kernel_rfl) (laid_met os))) ?_
  intro W base args ds gs before hval0 hW _ hcond _ hL _ _
  have hval : ∀ (j : Nat) t v, Tryd.f4.params[j]? = some t → args[j]? = some v → Value.okWide Tryd.prog W .any base t v := hval0
  have hW' := hW
  obtain ⟨p, q, hA0, hV, rfl, hfz, hnd⟩ := hW
  have hA : DataW.TrodAll enc Tryd.prog W 0 (fun _ => true) true Tryd.f4.params.toList args.toList ds p := hA0
  rw [Tryd.params4] at hA hval
  obtain ⟨rfl, rfl⟩ := trodVars_none hV
  obtain ⟨ts, hpv, hok⟩ := args_open (types_of tysOk) hA (by kernel_rfl) (fun j t v ht hv => hval j t v (by simpa using ht) (by simpa using hv))
  obtain ⟨n, hn⟩ := plain ts hok (len_bound hA hpv (hcond _ rfl))
  have hlt := DataW.TrodAll.lt hA
  clear hA0 hval0
  have hlaid := table hL
  refine (FnOk.data (sem_ok (drawOk orders) (Go.Proofs.YtjnbggianlgjiaaDoorVM.enters_of entered) prims n YtjnbggianlgjiaaDoorOH.i_L33_OrderHolds (e := YtjnbggianlgjiaaDoorOH.e6) rfl) (ps := [22, 32]) (rs := [4]) rfl rfl (by kernel_rfl) (by kernel_rfl) hlaid hpv hn).mono fun e W' ⟨us, he, bel, hus⟩ => ?_
  obtain rfl := bool_of Tryd.underlying4 hus
  subst he
  obtain ⟨d0, d1, rfl⟩ : ∃ d0 d1, ds = [d0, d1] := by
    have hl : ds.length = 2 := (trodAll_length hA).2
    match ds, hl with
    | [a0, a1], _ => exact ⟨a0, a1, rfl⟩
  exact ⟨_, rfl, _, _, _, [], _, [], hW', trodAll_mk1 (shut_bool Tryd.underlying4 _), args_stay laidOut bel hA (by kernel_rfl) hlt, rfl, bel.frame _, fun h => by cases h⟩
theorem said : Rows.OrderHoldsUptoSaid :=
  OpenClaim.holds_of_cond 4 Tryd.f4 rfl rfl rfl rfl rfl rfl rfl ⟨rfl, rfl, rfl, rfl, rfl⟩ rfl rfl rfl rfl rfl (by kernel_rfl) Tryd.func4 (by kernel_rfl)
    (of_decide_eq_true (by kernel_rfl)) (by unfold Func.isWrapper; first | (rw [if_pos (by decide +kernel)]; kernel_rfl) | (rw [if_neg (by decide +kernel)]; exact ⟨rfl, rfl⟩))
    (fun os started H enc _ F => by rw [OpenClaim.pre_eq_preRow]; exact lifted os started H enc F)
theorem looks (f : FuncId) (fn : Func) (hf : Tryd.pinned.checked.prog.funcNamed "treillage/treillagelaw33.OrderHolds" = some f) (hfn : Tryd.pinned.checked.prog.funcs[f]? = some fn) :
    false = Tryd.pinned.checked.prog.looks [] ∧ ∀ (j : Nat) t, fn.params[j]? = some t → Tryd.pinned.checked.prog.wantsStandIn t = false := by
  obtain rfl : f = 4 := Option.some.inj ((show Tryd.prog.funcNamed "treillage/treillagelaw33.OrderHolds" = some 4 by kernel_rfl).symm.trans hf) |>.symm
  obtain rfl : fn = Tryd.f4 := (Option.some.inj (Tryd.func4.symm.trans hfn)).symm
  refine ⟨by kernel_rfl, fun j t ht => ?_⟩
  rw [Tryd.params4] at ht
  have hm := Array.mem_of_getElem? ht
  have ha : ([22, 32] : List TypeId).all (fun t => !Tryd.prog.wantsStandIn t) = true := by kernel_rfl
  rw [List.all_eq_true] at ha
  have := ha t (by simpa using hm)
  rw [Bool.not_eq_true'] at this
  exact this
theorem proved : Rows.OrderHoldsUptoCardSaid :=
  Claim7.holds_tied_plain_at .later [] _ _ _ _ said (fun _ h => by cases h) (by kernel_rfl) (fun _ h => by cases h) orderHoldsUpto_row_tie rfl ⟨rfl, rfl⟩ (by kernel_rfl) rfl looks (by kernel_rfl)
#print axioms proved
end Go.Proofs.YtjnbggianlgjiaaDoor.orderHolds
namespace Go.Proofs.YtjnbggianlgjiaaDoor
theorem orderHolds_holds : Rows.OrderHoldsUptoCardSaid := orderHolds.proved
end Go.Proofs.YtjnbggianlgjiaaDoor

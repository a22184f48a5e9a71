/- treillage, treillagelaw17.GraphOrders: for every input the law returns true, and each argument reads as it did: the row, and its card (the words of the language are laid). -/
import Derived.Test.YtbejhhoakeapgaaGOA
import Derived.Test.YtbejhhoakeapgaaVmZq
import Derived.Test.YtbejhhoakeapgaaVmZt
import Derived.Test.YtbejhhoakeapgaaVmZu
import Derived.Test.YtbejhhoakeapgaaVmZy
import Derived.Test.YtbejhhoakeapgaaVmZx
import Derived.Shelf.SortM.Plain
import Derived.Shelf.SortM.SortNone
import Derived.Test.YtbejhhoakeapgaaVmC
import Derived.WalkKit
import Derived.ProofKit
import Derived.OpenShut
import Derived.ShutString
import Derived.ChangeOld
import Derived.Below
import Derived.SizedLaws
import Derived.ChangeCalls
import Derived.Deep.DeepHandedRow
import Derived.Lib.LaidTab
import Derived.Test.YtbejhhoakeapgaaRows
namespace Go.Proofs.Ytbejhhoakeapgaa.graphOrders
open Go.ChangeShapes Go.WideShapes Go.ChangeAt Go.RowKit
open Go.Proofs.YtbejhhoakeapgaaVM
set_option maxRecDepth 100000
set_option linter.unusedVariables false
theorem own : ownKnob Try.prog.godebug = none := by kernel_rfl
theorem laidOut : laidOutB Try.prog = true := by kernel_rfl
theorem orders : Try.prog.follows .mixedOrders = true := by kernel_rfl
def tys : List TypeId := [22, 23, 41, 9]
theorem tysOk : tys.all (okTy Try.prog tys) = true := by kernel_rfl
theorem entered : YtbejhhoakeapgaaGO.ents.all (fun e => entersB Try.prog e.fid) = true := by kernel_rfl
def cl34Ren : Go.Shelf.Ren := ⟨fun | 41 => 34 | n => n, fun | 22 => 22 | 23 => 9 | n => n, fun n => n⟩
theorem cl34Laid : SlLaysE0.n41 Try.prog cl34Ren := {
  mixed := (by kernel_rfl)
  f41 := ⟨Try.f34.name, by decide, Try.func34.trans (congrArg some (by kernel_rfl))⟩
  t4 := Try.underlying4
  a4 := Try.isAgg4
  z4 := Try.sizeOf4
  v4 := Try.zeroValue4
  t22 := Try.underlying22
  a22 := Try.isAgg22
  z22 := Try.sizeOf22
  v22 := Try.zeroValue22
}
def sortedRen : Go.Shelf.Ren := ⟨fun | 6 => 35 | 8 => 52 | 9 => 53 | 11 => 67 | 13 => 69 | 12 => 68 | 23 => 84 | 24 => 85 | 14 => 76 | 15 => 77 | 16 => 78 | 17 => 79 | 18 => 80 | 19 => 81 | 20 => 48 | 21 => 82 | 22 => 83 | 25 => 95 | 26 => 96 | 27 => 97 | 28 => 98 | 29 => 99 | 30 => 65 | 31 => 103 | n => n, fun | 26 => 9 | 28 => 69 | 24 => 22 | 0 => 0 | 3 => 3 | 37 => 93 | 48 => 117 | 50 => 119 | 4 => 4 | 40 => 111 | 39 => 110 | 45 => 63 | 5 => 5 | 9 => 9 | 51 => 125 | 55 => 129 | 57 => 133 | 58 => 134 | 33 => 53 | n => n, fun n => n⟩
def sortRen : Go.Shelf.Ren := ⟨fun | 6 => 53 | 8 => 69 | 9 => 68 | 19 => 84 | 20 => 85 | 21 => 76 | 22 => 77 | 23 => 78 | 24 => 79 | 25 => 80 | 26 => 81 | 27 => 48 | 28 => 82 | 29 => 83 | 36 => 95 | 31 => 96 | 32 => 97 | 37 => 98 | 38 => 99 | 39 => 65 | 41 => 103 | n => n, fun | 27 => 22 | 29 => 9 | 3 => 3 | 32 => 93 | 26 => 22 | 0 => 0 | 44 => 117 | 46 => 119 | 4 => 4 | 36 => 111 | 35 => 110 | 41 => 63 | 5 => 5 | 9 => 9 | 53 => 125 | 57 => 129 | 63 => 133 | 64 => 134 | n => n, fun n => n⟩
theorem sortedLaid : SlLaysZ.n6 Try.prog sortedRen := {
  mixed := (by kernel_rfl)
  f6 := ⟨Try.f35.name, by decide, Try.func35.trans (congrArg some (by kernel_rfl))⟩
  f8 := ⟨Try.f52.name, by decide, Try.func52.trans (congrArg some (by kernel_rfl))⟩
  f11 := ⟨Try.f67.name, by decide, Try.func67.trans (congrArg some (by kernel_rfl))⟩
  t0 := Try.underlying0
  a0 := Try.isAgg0
  z0 := Try.sizeOf0
  v0 := Try.zeroValue0
  t24 := Try.underlying22
  a24 := Try.isAgg22
  z24 := Try.sizeOf22
  v24 := Try.zeroValue22
  t26 := Try.underlying9
  a26 := Try.isAgg9
  z26 := Try.sizeOf9
  v26 := Try.zeroValue9
  t28 := Try.underlying69
  a28 := Try.isAgg69
  z28 := Try.sizeOf69
  v28 := Try.zeroValue69
  i26 := (by kernel_rfl)
}
theorem sortLaid : SlLaysM.n6 Try.prog sortRen := {
  mixed := (by kernel_rfl)
  f6 := ⟨Try.f53.name, by decide, Try.func53.trans (congrArg some (by kernel_rfl))⟩
  f8 := Try.func69.trans (congrArg some (by kernel_rfl))
  f9 := ⟨Try.f68.name, by decide, Try.func68.trans (congrArg some (by kernel_rfl))⟩
  f19 := Try.func84.trans (congrArg some (by kernel_rfl))
  f20 := Try.func85.trans (congrArg some (by kernel_rfl))
  f21 := ⟨Try.f76.name, by decide, Try.func76.trans (congrArg some (by kernel_rfl))⟩
  f22 := ⟨Try.f77.name, by decide, Try.func77.trans (congrArg some (by kernel_rfl))⟩
  f23 := ⟨Try.f78.name, by decide, Try.func78.trans (congrArg some (by kernel_rfl))⟩
  f24 := ⟨Try.f79.name, by decide, Try.func79.trans (congrArg some (by kernel_rfl))⟩
  f25 := ⟨Try.f80.name, by decide, Try.func80.trans (congrArg some (by kernel_rfl))⟩
  f26 := ⟨Try.f81.name, by decide, Try.func81.trans (congrArg some (by kernel_rfl))⟩
  f27 := ⟨Try.f48.name, by decide, Try.func48.trans (congrArg some (by kernel_rfl))⟩
  f28 := ⟨Try.f82.name, by decide, Try.func82.trans (congrArg some (by kernel_rfl))⟩
  f29 := ⟨Try.f83.name, by decide, Try.func83.trans (congrArg some (by kernel_rfl))⟩
  f31 := Try.func96.trans (congrArg some (by kernel_rfl))
  f32 := Try.func97.trans (congrArg some (by kernel_rfl))
  f36 := ⟨Try.f95.name, by decide, Try.func95.trans (congrArg some (by kernel_rfl))⟩
  f37 := ⟨Try.f98.name, by decide, Try.func98.trans (congrArg some (by kernel_rfl))⟩
  f38 := ⟨Try.f99.name, by decide, Try.func99.trans (congrArg some (by kernel_rfl))⟩
  f39 := ⟨Try.f65.name, by decide, Try.func65.trans (congrArg some (by kernel_rfl))⟩
  f41 := ⟨Try.f103.name, by decide, Try.func103.trans (congrArg some (by kernel_rfl))⟩
  t0 := Try.underlying0
  a0 := Try.isAgg0
  z0 := Try.sizeOf0
  v0 := Try.zeroValue0
  t3 := Try.underlying3
  a3 := Try.isAgg3
  z3 := Try.sizeOf3
  v3 := Try.zeroValue3
  t4 := Try.underlying4
  a4 := Try.isAgg4
  z4 := Try.sizeOf4
  v4 := Try.zeroValue4
  t5 := Try.underlying5
  a5 := Try.isAgg5
  z5 := Try.sizeOf5
  v5 := Try.zeroValue5
  t9 := Try.underlying9
  a9 := Try.isAgg9
  z9 := Try.sizeOf9
  v9 := Try.zeroValue9
  t26 := Try.underlying22
  a26 := Try.isAgg22
  z26 := Try.sizeOf22
  v26 := Try.zeroValue22
  t27 := Try.underlying22
  a27 := Try.isAgg22
  z27 := Try.sizeOf22
  v27 := Try.zeroValue22
  t29 := Try.underlying9
  a29 := Try.isAgg9
  z29 := Try.sizeOf9
  v29 := Try.zeroValue9
  t32 := Try.underlying93
  a32 := Try.isAgg93
  z32 := Try.sizeOf93
  v32 := Try.zeroValue93
  t35 := Try.underlying110
  a35 := Try.isAgg110
  z35 := Try.sizeOf110
  v35 := Try.zeroValue110
  t36 := Try.underlying111
  a36 := Try.isAgg111
  z36 := Try.sizeOf111
  v36 := Try.zeroValue111
  t41 := Try.underlying63
  a41 := Try.isAgg63
  z41 := Try.sizeOf63
  v41 := Try.zeroValue63
  t44 := Try.underlying117
  a44 := Try.isAgg117
  z44 := Try.sizeOf117
  v44 := Try.zeroValue117
  t46 := Try.underlying119
  a46 := Try.isAgg119
  z46 := Try.sizeOf119
  v46 := Try.zeroValue119
  t53 := Try.underlying125
  a53 := Try.isAgg125
  z53 := Try.sizeOf125
  v53 := Try.zeroValue125
  t57 := Try.underlying129
  a57 := Try.isAgg129
  z57 := Try.sizeOf129
  v57 := Try.zeroValue129
  t63 := Try.underlying133
  a63 := Try.isAgg133
  z63 := Try.sizeOf133
  v63 := Try.zeroValue133
  t64 := Try.underlying134
  a64 := Try.isAgg134
  z64 := Try.sizeOf134
  v64 := Try.zeroValue134
}
theorem sorts (m : Nat) : AnyZ.SortsIn Try.prog sortedRen Fence.wide m :=
  ⟨fun blk off cap ss W hH hblk hsz => callsIn_wide.2 (AnyM.slices_Sort_string sortLaid blk off cap ss W hH hblk hsz),
   fun p cap W => callsIn_wide.2 (AnyM.slices_Sort_string_none sortLaid p cap W)⟩
theorem sortIn : Go.Proofs.YtbejhhoakeapgaaVM.Enters Try.prog 53 := Go.Proofs.YtbejhhoakeapgaaVM.enters_B (by kernel_rfl)
def keysaRen : Go.Shelf.Ren := ⟨fun | 7 => 36 | 10 => 54 | n => n, fun | 23 => 60 | 26 => 9 | 3 => 3 | 28 => 69 | 0 => 0 | 27 => 68 | 33 => 53 | 4 => 4 | n => n, fun n => n⟩
theorem keysaLaid : SlLaysZ.n10 Try.prog keysaRen := {
  mixed := (by kernel_rfl)
  f10 := ⟨Try.f54.name, by decide, Try.func54.trans (congrArg some (by kernel_rfl))⟩
  t0 := Try.underlying0
  a0 := Try.isAgg0
  z0 := Try.sizeOf0
  v0 := Try.zeroValue0
  t4 := Try.underlying4
  a4 := Try.isAgg4
  z4 := Try.sizeOf4
  v4 := Try.zeroValue4
  t23 := Try.underlying60
  a23 := Try.isAgg60
  z23 := Try.sizeOf60
  v23 := Try.zeroValue60
  t26 := Try.underlying9
  a26 := Try.isAgg9
  z26 := Try.sizeOf9
  v26 := Try.zeroValue9
  t33 := Try.underlying53
  a33 := Try.isAgg53
  z33 := Try.sizeOf53
  v33 := Try.zeroValue53
}
theorem iteraIn : Go.Proofs.YtbejhhoakeapgaaVM.Enters Try.prog 54 := Go.Proofs.YtbejhhoakeapgaaVM.enters_B (by kernel_rfl)
def keysbRen : Go.Shelf.Ren := ⟨fun | 7 => 47 | 10 => 64 | n => n, fun | 23 => 88 | 26 => 9 | 3 => 22 | 28 => 69 | 0 => 0 | 27 => 68 | 33 => 53 | 4 => 4 | n => n, fun n => n⟩
theorem keysbLaid : SlLaysZ.n10 Try.prog keysbRen := {
  mixed := (by kernel_rfl)
  f10 := ⟨Try.f64.name, by decide, Try.func64.trans (congrArg some (by kernel_rfl))⟩
  t0 := Try.underlying0
  a0 := Try.isAgg0
  z0 := Try.sizeOf0
  v0 := Try.zeroValue0
  t4 := Try.underlying4
  a4 := Try.isAgg4
  z4 := Try.sizeOf4
  v4 := Try.zeroValue4
  t23 := Try.underlying88
  a23 := Try.isAgg88
  z23 := Try.sizeOf88
  v23 := Try.zeroValue88
  t26 := Try.underlying9
  a26 := Try.isAgg9
  z26 := Try.sizeOf9
  v26 := Try.zeroValue9
  t33 := Try.underlying53
  a33 := Try.isAgg53
  z33 := Try.sizeOf53
  v33 := Try.zeroValue53
}
theorem iterbIn : Go.Proofs.YtbejhhoakeapgaaVM.Enters Try.prog 64 := Go.Proofs.YtbejhhoakeapgaaVM.enters_B (by kernel_rfl)
def inssRen : Go.Shelf.Ren := ⟨fun | 17 => 75 | 22 => 33 | 29 => 50 | 30 => 51 | 36 => 66 | n => n, fun | 24 => 22 | n => n, fun n => n⟩
theorem inssLaid : Lays2.n22 Try.prog inssRen := {
  mixed := (by kernel_rfl)
  f17 := Try.func75.trans (congrArg some (by kernel_rfl))
  f22 := Try.func33.trans (congrArg some (by kernel_rfl))
  f29 := Try.func50.trans (congrArg some (by kernel_rfl))
  f30 := Try.func51.trans (congrArg some (by kernel_rfl))
  f36 := Try.func66.trans (congrArg some (by kernel_rfl))
  t0 := Try.underlying0
  a0 := Try.isAgg0
  z0 := Try.sizeOf0
  v0 := Try.zeroValue0
  t3 := Try.underlying3
  a3 := Try.isAgg3
  z3 := Try.sizeOf3
  v3 := Try.zeroValue3
  t4 := Try.underlying4
  a4 := Try.isAgg4
  z4 := Try.sizeOf4
  v4 := Try.zeroValue4
  t9 := Try.underlying9
  a9 := Try.isAgg9
  z9 := Try.sizeOf9
  v9 := Try.zeroValue9
  t24 := Try.underlying22
  a24 := Try.isAgg22
  z24 := Try.sizeOf22
  v24 := Try.zeroValue22
  i9 := (by kernel_rfl)
}

theorem noPrims1 : ((YtbejhhoakeapgaaGO.ents.drop 3).take 29).all (fun e => e.prim.isNone) = true := by kernel_rfl
theorem noPrims2 : (YtbejhhoakeapgaaGO.ents.drop 33).all (fun e => e.prim.isNone) = true := by kernel_rfl
theorem prims (i : Nat) (e : Entry) (F) (he : YtbejhhoakeapgaaGO.ents[i]? = some e) (hp : e.prim = some F) : FnOk Try.prog YtbejhhoakeapgaaGO.G0 e F := by
  by_cases hi : i = 32
  · subst hi
    have h1 : YtbejhhoakeapgaaGO.e32 = e := Option.some.inj he
    subst h1
    have h2 : insFn = F := Option.some.inj hp
    subst h2
    exact insert_ok (insStr inssLaid) Try.underlying3 (by kernel_rfl) (fun h => by cases (Try.underlying9.symm.trans h)) (Go.Proofs.YtbejhhoakeapgaaVM.enters_of entered 32 YtbejhhoakeapgaaGO.e32 rfl)
  by_cases hj : 32 < i
  · exact prims_of noPrims2 (i - 33) e F (by rw [List.getElem?_drop, show 33 + (i - 33) = i by omega]; exact he) hp
  match i, he with
  | 0, he =>
    have h1 : YtbejhhoakeapgaaGO.e0 = e := Option.some.inj he
    subst h1
    have h2 : sortedF = F := Option.some.inj hp
    subst h2
    exact sorted_ok keysaLaid sortedLaid sorts iteraIn sortIn (Go.Proofs.YtbejhhoakeapgaaVM.enters_of entered 0 YtbejhhoakeapgaaGO.e0 rfl) rfl rfl Try.underlying9 (by kernel_rfl) Try.underlying22 (by kernel_rfl)
  | 1, he =>
    have h1 : YtbejhhoakeapgaaGO.e1 = e := Option.some.inj he
    subst h1
    have h2 : sortedF = F := Option.some.inj hp
    subst h2
    exact sorted_ok keysbLaid sortedLaid sorts iterbIn sortIn (Go.Proofs.YtbejhhoakeapgaaVM.enters_of entered 1 YtbejhhoakeapgaaGO.e1 rfl) rfl rfl Try.underlying9 (by kernel_rfl) Try.underlying22 (by kernel_rfl)
  | 2, he =>
    have h1 : YtbejhhoakeapgaaGO.e2 = e := Option.some.inj he
    subst h1
    have h2 : cloneF = F := Option.some.inj hp
    subst h2
    exact clone_ok cl34Laid rfl rfl (i0 := Try.t9) (z := .string ⟨#[]⟩) (by kernel_rfl) (by kernel_rfl) (by kernel_rfl) (by kernel_rfl) (of_decide_eq_true (by kernel_rfl)) (of_decide_eq_true (by kernel_rfl)) Try.sizeOf9 (Go.Proofs.YtbejhhoakeapgaaVM.enters_of entered 2 YtbejhhoakeapgaaGO.e2 rfl)
  | i + 3, he => exact prims_of noPrims1 i e F (by rw [List.getElem?_take, if_pos (by omega), List.getElem?_drop, Nat.add_comm]; exact he) hp
theorem plain (ts : List T) (h : TOks Try.prog [22, 23] ts) : ∃ n, sem Try.prog YtbejhhoakeapgaaGO.G0 YtbejhhoakeapgaaGO.ents n YtbejhhoakeapgaaGO.i_L17_GraphOrders (ts.map A.t) = some [A.t (.bool true)] := by
  match ts, h with
  | [t0, t1], ⟨h0, _⟩ => exact (YtbejhhoakeapgaaGO.law_does t0 t1 (YtbejhhoakeapgaaGO.texts_of h0)).sem
set_option maxRecDepth 100000 in
theorem lifted (os : Os) (started : os.Started) (H : Type) (enc : TypeId × Value → H) :
    ReturnsInHanded {} Try.checked os 3 .any (Rows.graphOrdersSpec.pre6 enc Try.prog Try.f3 Rows.graphOrdersRow.domain false) (Rows.graphOrdersSpec.post enc Try.prog Try.f3 false true false false) := by
  refine returnsInHanded_of_change_sized (C := Try.checked) own started (by kernel_rfl) Try.func3
    (ChangeSpec.witness6 (enc := enc) (C := Try.checked) false ⟨#[], #[.slice none 0 0, .slice none 0 0], []⟩ 8 (by kernel_rfl) (by kernel_rfl) (by kernel_rfl) (by kernel_rfl)) ?_
  intro W base args ds gs before hval0 hW hcnd hsz0 _
  have hval : ∀ (j : Nat) t v, Try.f3.params[j]? = some t → args[j]? = some v → Value.okWide Try.prog W .any base t v := hval0
  have hW' := hW
  obtain ⟨p, q, hA0, hV, rfl, hfz, hnd⟩ := hW
  have hA : DataW.TrodAll enc Try.prog W 0 (fun _ => true) true Try.f3.params.toList args.toList ds p := hA0
  rw [Try.params3] at hA hval
  obtain ⟨rfl, rfl⟩ := trodVars_none hV
  obtain ⟨ts, hpv, hok⟩ := args_open (types_of tysOk) hA (by kernel_rfl) (fun j t v ht hv => hval j t v (by simpa using ht) (by simpa using hv))
  obtain ⟨n, hn⟩ := plain ts hok
  have hlt := DataW.TrodAll.lt hA
  clear hA0 hval0 hsz0
  refine (FnOk.data (sem_ok (drawOk orders) (Go.Proofs.YtbejhhoakeapgaaVM.enters_of entered) prims n YtbejhhoakeapgaaGO.i_L17_GraphOrders (e := YtbejhhoakeapgaaGO.e3) rfl) (ps := [22, 23]) (rs := [4]) rfl rfl (by kernel_rfl) (by kernel_rfl) (fun g τ t h => by cases h) hpv hn).mono fun e W' ⟨us, he, bel, hus⟩ => ?_
  obtain rfl := bool_of Try.underlying4 hus
  subst he
  obtain ⟨d0, d1, rfl⟩ : ∃ d0 d1, ds = [d0, d1] := by
    have hl : ds.length = 2 := (trodAll_length hA).2
    match ds, hl with
    | [a0, a1], _ => exact ⟨a0, a1, rfl⟩
  exact ⟨_, rfl, _, _, _, [], _, [], hW', trodAll_mk1 (shut_bool Try.underlying4 _), args_stay laidOut bel hA (by kernel_rfl) hlt, rfl, bel.frame _, fun h => by cases h⟩
theorem over : Rows.graphOrdersRow.holds Try.pinned (OpenSpec.ofChange Rows.graphOrdersSpec) :=
  OpenClaim.holds_of_wide 3 Try.f3 rfl rfl rfl rfl rfl rfl rfl ⟨rfl, rfl, rfl, rfl, rfl⟩ rfl rfl rfl rfl rfl (by kernel_rfl) Try.func3 (by kernel_rfl)
    (of_decide_eq_true (by kernel_rfl)) (by unfold Func.isWrapper; first | (rw [if_pos (by decide +kernel)]; kernel_rfl) | (rw [if_neg (by decide +kernel)]; exact ⟨rfl, rfl⟩))
    (fun os started H enc _ => lifted os started H enc)
theorem proved : Rows.GraphOrdersSaid := over
#print axioms proved
end Go.Proofs.Ytbejhhoakeapgaa.graphOrders
namespace Go.Proofs.Ytbejhhoakeapgaa
theorem graphOrders_holds : Rows.GraphOrdersSaid := graphOrders.proved
end Go.Proofs.Ytbejhhoakeapgaa

/- treillage, treillagelaw23.DiskPlays: for every input the law returns true, and each argument reads as it did: the row, and its card (the words of the language are laid). -/
import Derived.Test.YtigbgcopidghfaaDoorDPA
import Derived.Test.YtigbgcopidghfaaDoorWd
import Derived.Test.YtigbgcopidghfaaDoorVmZq
import Derived.Test.YtigbgcopidghfaaDoorVmZt
import Derived.Test.YtigbgcopidghfaaDoorVmZu
import Derived.Test.YtigbgcopidghfaaDoorVmZx
import Derived.Shelf.SortM.Plain
import Derived.Shelf.SortM.SortNone
import Derived.Test.YtigbgcopidghfaaDoorVmC
import Derived.Test.YtigbgcopidghfaaDoorCards
import Derived.Test.YtigbgcopidghfaaDoorTie
import Derived.WalkKit
import Derived.ProofKit
import Derived.OpenShut
import Derived.ShutString
import Derived.ChangeOld
import Derived.Below
import Derived.SizedLaws
import Derived.ChangeCalls
import Derived.Deep.DeepHandedRow
import Derived.Lib.LaidTab
namespace Go.Proofs.YtigbgcopidghfaaDoor.diskPlays
open Go.ChangeShapes Go.WideShapes Go.ChangeAt Go.RowKit
open Go.Proofs.YtigbgcopidghfaaDoorVM
set_option maxRecDepth 100000
set_option linter.unusedVariables false
theorem own : ownKnob Tryd.prog.godebug = none := by kernel_rfl
theorem laidOut : laidOutB Tryd.prog = true := by kernel_rfl
theorem orders : Tryd.prog.follows .mixedOrders = true := by kernel_rfl
def tys : List TypeId := [22, 28, 5, 9, 26, 3]
theorem tysOk : tys.all (okTy Tryd.prog tys) = true := by kernel_rfl
theorem entered : YtigbgcopidghfaaDoorDP.ents.all (fun e => entersB Tryd.prog e.fid) = true := by kernel_rfl
def keysRen : Go.Shelf.Ren := ⟨fun | 7 => 34 | 10 => 44 | n => n, fun | 23 => 49 | 26 => 9 | 3 => 53 | 28 => 67 | 0 => 0 | 27 => 66 | 33 => 55 | 4 => 4 | n => n, fun n => n⟩
def sortedRen : Go.Shelf.Ren := ⟨fun | 6 => 33 | 8 => 42 | 9 => 43 | 11 => 46 | 13 => 48 | 12 => 47 | 23 => 58 | 24 => 59 | 14 => 49 | 15 => 50 | 16 => 51 | 17 => 52 | 18 => 53 | 19 => 54 | 20 => 55 | 21 => 56 | 22 => 57 | 25 => 60 | 26 => 61 | 27 => 62 | 28 => 63 | 29 => 64 | 30 => 65 | 31 => 66 | n => n, fun | 26 => 9 | 28 => 67 | 24 => 47 | 0 => 0 | 3 => 3 | 37 => 79 | 48 => 90 | 50 => 92 | 4 => 4 | 40 => 82 | 39 => 81 | 45 => 87 | 5 => 5 | 9 => 9 | 51 => 93 | 55 => 97 | 57 => 99 | 58 => 100 | 33 => 55 | n => n, fun n => n⟩
def sortRen : Go.Shelf.Ren := ⟨fun | 6 => 43 | 8 => 48 | 9 => 47 | 19 => 58 | 20 => 59 | 21 => 49 | 22 => 50 | 23 => 51 | 24 => 52 | 25 => 53 | 26 => 54 | 27 => 55 | 28 => 56 | 29 => 57 | 36 => 60 | 31 => 61 | 32 => 62 | 37 => 63 | 38 => 64 | 39 => 65 | 41 => 66 | n => n, fun | 27 => 47 | 29 => 9 | 3 => 3 | 32 => 79 | 26 => 47 | 0 => 0 | 44 => 90 | 46 => 92 | 4 => 4 | 36 => 82 | 35 => 81 | 41 => 87 | 5 => 5 | 9 => 9 | 53 => 93 | 57 => 97 | 63 => 99 | 64 => 100 | n => n, fun n => n⟩
theorem keysLaid : SlLaysZ.n10 Tryd.prog keysRen := {
  mixed := (by kernel_rfl)
  f10 := ⟨Tryd.f44.name, by decide, Tryd.func44.trans (congrArg some (by kernel_rfl))⟩
  t0 := Tryd.underlying0
  a0 := Tryd.isAgg0
  z0 := Tryd.sizeOf0
  v0 := Tryd.zeroValue0
  t4 := Tryd.underlying4
  a4 := Tryd.isAgg4
  z4 := Tryd.sizeOf4
  v4 := Tryd.zeroValue4
  t23 := Tryd.underlying49
  a23 := Tryd.isAgg49
  z23 := Tryd.sizeOf49
  v23 := Tryd.zeroValue49
  t26 := Tryd.underlying9
  a26 := Tryd.isAgg9
  z26 := Tryd.sizeOf9
  v26 := Tryd.zeroValue9
  t33 := Tryd.underlying55
  a33 := Tryd.isAgg55
  z33 := Tryd.sizeOf55
  v33 := Tryd.zeroValue55
}
theorem sortedLaid : SlLaysZ.n6 Tryd.prog sortedRen := {
  mixed := (by kernel_rfl)
  f6 := ⟨Tryd.f33.name, by decide, Tryd.func33.trans (congrArg some (by kernel_rfl))⟩
  f8 := ⟨Tryd.f42.name, by decide, Tryd.func42.trans (congrArg some (by kernel_rfl))⟩
  f11 := ⟨Tryd.f46.name, by decide, Tryd.func46.trans (congrArg some (by kernel_rfl))⟩
  t0 := Tryd.underlying0
  a0 := Tryd.isAgg0
  z0 := Tryd.sizeOf0
  v0 := Tryd.zeroValue0
  t24 := Tryd.underlying47
  a24 := Tryd.isAgg47
  z24 := Tryd.sizeOf47
  v24 := Tryd.zeroValue47
  t26 := Tryd.underlying9
  a26 := Tryd.isAgg9
  z26 := Tryd.sizeOf9
  v26 := Tryd.zeroValue9
  t28 := Tryd.underlying67
  a28 := Tryd.isAgg67
  z28 := Tryd.sizeOf67
  v28 := Tryd.zeroValue67
  i26 := (by kernel_rfl)
}
theorem sortLaid : SlLaysM.n6 Tryd.prog sortRen := {
  mixed := (by kernel_rfl)
  f6 := ⟨Tryd.f43.name, by decide, Tryd.func43.trans (congrArg some (by kernel_rfl))⟩
  f8 := Tryd.func48.trans (congrArg some (by kernel_rfl))
  f9 := ⟨Tryd.f47.name, by decide, Tryd.func47.trans (congrArg some (by kernel_rfl))⟩
  f19 := Tryd.func58.trans (congrArg some (by kernel_rfl))
  f20 := Tryd.func59.trans (congrArg some (by kernel_rfl))
  f21 := ⟨Tryd.f49.name, by decide, Tryd.func49.trans (congrArg some (by kernel_rfl))⟩
  f22 := ⟨Tryd.f50.name, by decide, Tryd.func50.trans (congrArg some (by kernel_rfl))⟩
  f23 := ⟨Tryd.f51.name, by decide, Tryd.func51.trans (congrArg some (by kernel_rfl))⟩
  f24 := ⟨Tryd.f52.name, by decide, Tryd.func52.trans (congrArg some (by kernel_rfl))⟩
  f25 := ⟨Tryd.f53.name, by decide, Tryd.func53.trans (congrArg some (by kernel_rfl))⟩
  f26 := ⟨Tryd.f54.name, by decide, Tryd.func54.trans (congrArg some (by kernel_rfl))⟩
  f27 := ⟨Tryd.f55.name, by decide, Tryd.func55.trans (congrArg some (by kernel_rfl))⟩
  f28 := ⟨Tryd.f56.name, by decide, Tryd.func56.trans (congrArg some (by kernel_rfl))⟩
  f29 := ⟨Tryd.f57.name, by decide, Tryd.func57.trans (congrArg some (by kernel_rfl))⟩
  f31 := Tryd.func61.trans (congrArg some (by kernel_rfl))
  f32 := Tryd.func62.trans (congrArg some (by kernel_rfl))
  f36 := ⟨Tryd.f60.name, by decide, Tryd.func60.trans (congrArg some (by kernel_rfl))⟩
  f37 := ⟨Tryd.f63.name, by decide, Tryd.func63.trans (congrArg some (by kernel_rfl))⟩
  f38 := ⟨Tryd.f64.name, by decide, Tryd.func64.trans (congrArg some (by kernel_rfl))⟩
  f39 := ⟨Tryd.f65.name, by decide, Tryd.func65.trans (congrArg some (by kernel_rfl))⟩
  f41 := ⟨Tryd.f66.name, by decide, Tryd.func66.trans (congrArg some (by kernel_rfl))⟩
  t0 := Tryd.underlying0
  a0 := Tryd.isAgg0
  z0 := Tryd.sizeOf0
  v0 := Tryd.zeroValue0
  t3 := Tryd.underlying3
  a3 := Tryd.isAgg3
  z3 := Tryd.sizeOf3
  v3 := Tryd.zeroValue3
  t4 := Tryd.underlying4
  a4 := Tryd.isAgg4
  z4 := Tryd.sizeOf4
  v4 := Tryd.zeroValue4
  t5 := Tryd.underlying5
  a5 := Tryd.isAgg5
  z5 := Tryd.sizeOf5
  v5 := Tryd.zeroValue5
  t9 := Tryd.underlying9
  a9 := Tryd.isAgg9
  z9 := Tryd.sizeOf9
  v9 := Tryd.zeroValue9
  t26 := Tryd.underlying47
  a26 := Tryd.isAgg47
  z26 := Tryd.sizeOf47
  v26 := Tryd.zeroValue47
  t27 := Tryd.underlying47
  a27 := Tryd.isAgg47
  z27 := Tryd.sizeOf47
  v27 := Tryd.zeroValue47
  t29 := Tryd.underlying9
  a29 := Tryd.isAgg9
  z29 := Tryd.sizeOf9
  v29 := Tryd.zeroValue9
  t32 := Tryd.underlying79
  a32 := Tryd.isAgg79
  z32 := Tryd.sizeOf79
  v32 := Tryd.zeroValue79
  t35 := Tryd.underlying81
  a35 := Tryd.isAgg81
  z35 := Tryd.sizeOf81
  v35 := Tryd.zeroValue81
  t36 := Tryd.underlying82
  a36 := Tryd.isAgg82
  z36 := Tryd.sizeOf82
  v36 := Tryd.zeroValue82
  t41 := Tryd.underlying87
  a41 := Tryd.isAgg87
  z41 := Tryd.sizeOf87
  v41 := Tryd.zeroValue87
  t44 := Tryd.underlying90
  a44 := Tryd.isAgg90
  z44 := Tryd.sizeOf90
  v44 := Tryd.zeroValue90
  t46 := Tryd.underlying92
  a46 := Tryd.isAgg92
  z46 := Tryd.sizeOf92
  v46 := Tryd.zeroValue92
  t53 := Tryd.underlying93
  a53 := Tryd.isAgg93
  z53 := Tryd.sizeOf93
  v53 := Tryd.zeroValue93
  t57 := Tryd.underlying97
  a57 := Tryd.isAgg97
  z57 := Tryd.sizeOf97
  v57 := Tryd.zeroValue97
  t63 := Tryd.underlying99
  a63 := Tryd.isAgg99
  z63 := Tryd.sizeOf99
  v63 := Tryd.zeroValue99
  t64 := Tryd.underlying100
  a64 := Tryd.isAgg100
  z64 := Tryd.sizeOf100
  v64 := Tryd.zeroValue100
}
theorem sorts (m : Nat) : AnyZ.SortsIn Tryd.prog sortedRen Fence.wide m :=
  ⟨fun blk off cap ss W hH hblk hsz => callsIn_wide.2 (AnyM.slices_Sort_string sortLaid blk off cap ss W hH hblk hsz),
   fun p cap W => callsIn_wide.2 (AnyM.slices_Sort_string_none sortLaid p cap W)⟩
theorem iterIn : Go.Proofs.YtigbgcopidghfaaDoorVM.Enters Tryd.prog 44 := Go.Proofs.YtigbgcopidghfaaDoorVM.enters_B (by kernel_rfl)
theorem sortIn : Go.Proofs.YtigbgcopidghfaaDoorVM.Enters Tryd.prog 43 := Go.Proofs.YtigbgcopidghfaaDoorVM.enters_B (by kernel_rfl)

theorem noPrims : (YtigbgcopidghfaaDoorDP.ents.drop 2).all (fun e => e.prim.isNone) = true := by kernel_rfl
theorem prims (i : Nat) (e : Entry) (F) (he : YtigbgcopidghfaaDoorDP.ents[i]? = some e) (hp : e.prim = some F) : FnOk Tryd.prog YtigbgcopidghfaaDoorDP.G0 e F := by
  match i, he with
  | 0, he =>
    have h1 : YtigbgcopidghfaaDoorDP.e0 = e := Option.some.inj he
    subst h1
    have h2 : nameF = F := Option.some.inj hp
    subst h2
    exact YtigbgcopidghfaaDoorWD.name_ok (Go.Proofs.YtigbgcopidghfaaDoorVM.enters_of entered 0 YtigbgcopidghfaaDoorDP.e0 rfl)
  | 1, he =>
    have h1 : YtigbgcopidghfaaDoorDP.e1 = e := Option.some.inj he
    subst h1
    have h2 : sortedF = F := Option.some.inj hp
    subst h2
    exact sorted_ok keysLaid sortedLaid sorts iterIn sortIn (Go.Proofs.YtigbgcopidghfaaDoorVM.enters_of entered 1 YtigbgcopidghfaaDoorDP.e1 rfl) rfl rfl Tryd.underlying9 (by kernel_rfl) Tryd.underlying47 (by kernel_rfl)
  | i + 2, he => exact prims_of noPrims i e F (by rw [List.getElem?_drop, Nat.add_comm]; exact he) hp
theorem plain (ts : List T) (h : TOks Tryd.prog [22] ts) : ∃ n, sem Tryd.prog YtigbgcopidghfaaDoorDP.G0 YtigbgcopidghfaaDoorDP.ents n YtigbgcopidghfaaDoorDP.i_L23_DiskPlays (ts.map A.t) = some [A.t (.bool true)] := by
  match ts, h with
  | [t0], _ => exact (YtigbgcopidghfaaDoorDP.law_does t0).sem
theorem gWords : Tryd.prog.globalNamed "treillage/name.words" = some 0 := by kernel_rfl
theorem tWords : (Tryd.prog.globals[0]?).map (·.type) = some 75 := by kernel_rfl
theorem c9 : Tryd.prog.cellsOf 9 = 1 := by kernel_rfl
theorem cWords : Tryd.prog.cellsOf 75 = 9 := by kernel_rfl
theorem kWords : csz Tryd.prog 75 = some 9 := by kernel_rfl
theorem aWords : arrOf Tryd.prog 75 = some (9, 9, 1) := by kernel_rfl
theorem wordsD : (Rows.laid_treillage_name_words : DataW Unit) = .agg (wordsL.map fun w => .lit (.string w.data.toList)) := rfl
theorem table {W : World} (h : laidMetH Tryd.prog Rows.diskPlaysRow.laid W) : YtigbgcopidghfaaDoorWD.Laid W := by
  rw [MakeChecks.laidMetH_plain _ _ _ (by kernel_rfl)] at h
  obtain ⟨ps, ⟨g0, t0, cs0, f0, p0, q0, hg0, ht0, hv0, hd0, _, _⟩, _, _⟩ := h
  obtain rfl := Option.some.inj (gWords.symm.trans hg0)
  obtain rfl := Option.some.inj (tWords.symm.trans ht0)
  obtain ⟨xs, m, rfl, hx1, hlen, hn, hel⟩ := DataW.trod_array Tryd.underlying75 hd0
  rw [wordsD] at hx1
  simp only [Prod.mk.injEq, DataW.agg.injEq] at hx1
  rw [cWords] at hlen
  rw [c9] at hel
  have hcell : ∃ el fr, W.heap[0]? = some (.cells cs0 el fr) := by
    unfold World.var? at hv0
    rw [gWords] at hv0
    simp only [Option.bind_some] at hv0
    split at hv0
    · rename_i cs el fr hh
      cases hv0
      exact ⟨el, fr, hh⟩
    · cases hv0
  obtain ⟨el, fr, hh⟩ := hcell
  have hsz : cs0.size = 9 := by rw [← Array.length_toList]; exact hlen
  intro g τ t hm
  obtain ⟨rfl, rfl, rfl⟩ : g = 0 ∧ τ = 75 ∧ t = .node (wordsL.map T.str) := by
    have : (g, τ, t) = (0, 75, .node (wordsL.map T.str)) := List.mem_singleton.1 hm
    simpa using this
  refine ⟨cs0, el, fr, 9, hh, kWords, ?_, by omega⟩
  rw [List.take_of_length_le (by omega)]
  refine .arr aWords (by omega) fun i hi => ?_
  have hi2 : i < wordsL.length := hi
  have hxi : i < xs.length := by omega
  have h1 := hel i hi
  rw [List.getElem?_eq_getElem hxi] at h1
  obtain ⟨s, e1, e2, _⟩ := DataW.trod_string Tryd.underlying9 h1
  rw [e1]
  have hw : s = wordsL[i] := by
    have h3 : (xs.map (·.1))[i]? = (wordsL.map fun w => (DataW.lit (.string w.data.toList) : DataW Unit))[i]? := by rw [hx1.1]
    rw [List.getElem?_map, List.getElem?_map, List.getElem?_eq_getElem hxi, List.getElem?_eq_getElem hi2, e2] at h3
    simp only [Option.map_some, Option.some.injEq, DataW.lit.injEq, Lit.string.injEq] at h3
    exact ByteArray.ext (Array.toList_inj.1 h3)
  have hg : T.get (.node (wordsL.map T.str)) i = .str wordsL[i] := by
    show (wordsL.map T.str).getD i (.node []) = _
    rw [List.getD, List.getElem?_map, List.getElem?_eq_getElem hi2]
    rfl
  rw [hg, hw]
  exact .str Tryd.underlying9
noncomputable def laidWorld (os : Os) : World :=
  { World.holding Tryd.prog os ⟨#[], #[], []⟩ with heap := (World.holding Tryd.prog os ⟨#[], #[], []⟩).heap.modify 0 fun
      | .cells _ t frozen => .cells (wordsL.map Value.string).toArray t frozen
      | o => o }
theorem laid_met (os : Os) : laidMet Tryd.prog Rows.diskPlaysRow.laid ((laidWorld os).forCall (fun _ _ => 0) ⟨#[], #[.slice none 0 0], []⟩).memory :=
  laidMet_of_run' 8 (by kernel_rfl) (by kernel_rfl)
theorem reads (os : Os) {H : Type} (enc : TypeId × Value → H) : ∃ places, DataW.whole enc Tryd.prog ((laidWorld os).forCall (fun _ _ => 0) ⟨#[], #[.slice none 0 0], []⟩).memory Tryd.f4.params.toList Rows.diskPlaysSpec.vars false #[.slice none 0 0].toList 8 = some ([.nil], [], places) :=
  ⟨[], by kernel_rfl⟩
set_option maxRecDepth 100000 in
theorem lifted (os : Os) (started : os.Started) (H : Type) (enc : TypeId × Value → H) (F : Stop.Interp) :
    ReturnsInHanded {} Tryd.checked os 4 .any ((OpenSpec.ofChange Rows.diskPlaysSpec).preRow enc Tryd.prog Tryd.f4 Rows.diskPlaysRow.domain false Rows.diskPlaysRow.laid) (((OpenSpec.ofChange Rows.diskPlaysSpec).at F).post enc Tryd.prog Tryd.f4 false true false false) := by
  obtain ⟨places, hx⟩ := reads os enc
  refine returnsInHanded_of_row (C := Tryd.checked) (s := OpenSpec.ofChange Rows.diskPlaysSpec) own started (by kernel_rfl) Tryd.func4
    (witness_row_at (enc := enc) (C := Tryd.checked) false (laidWorld os) #[.slice none 0 0] rfl (by kernel_rfl) (by kernel_rfl) (by kernel_rfl)
      (OpenSpec.preRow_of_cond 8 hx (by kernel_rfl) (fun k hk => by cases hk) (by kernel_rfl) (laid_met os))) ?_
  intro W base args ds gs before hval0 hW _ _ _ hL _ _
  have hval : ∀ (j : Nat) t v, Tryd.f4.params[j]? = some t → args[j]? = some v → Value.okWide Tryd.prog W .any base t v := hval0
  have hW' := hW
  obtain ⟨p, q, hA0, hV, rfl, hfz, hnd⟩ := hW
  have hA : DataW.TrodAll enc Tryd.prog W 0 (fun _ => true) true Tryd.f4.params.toList args.toList ds p := hA0
  rw [Tryd.params4] at hA hval
  obtain ⟨rfl, rfl⟩ := trodVars_none hV
  obtain ⟨ts, hpv, hok⟩ := args_open (types_of tysOk) hA (by kernel_rfl) (fun j t v ht hv => hval j t v (by simpa using ht) (by simpa using hv))
  obtain ⟨n, hn⟩ := plain ts hok
  have hlt := DataW.TrodAll.lt hA
  clear hA0 hval0
  have hlaid := table hL
  refine (FnOk.data (sem_ok (drawOk orders) (Go.Proofs.YtigbgcopidghfaaDoorVM.enters_of entered) prims n YtigbgcopidghfaaDoorDP.i_L23_DiskPlays (e := YtigbgcopidghfaaDoorDP.e2) rfl) (ps := [22]) (rs := [4]) rfl rfl (by kernel_rfl) (by kernel_rfl) hlaid hpv hn).mono fun e W' ⟨us, he, bel, hus⟩ => ?_
  obtain rfl := bool_of Tryd.underlying4 hus
  subst he
  obtain ⟨d0, rfl⟩ : ∃ d0, ds = [d0] := by
    have hl : ds.length = 1 := (trodAll_length hA).2
    match ds, hl with
    | [a0], _ => exact ⟨a0, rfl⟩
  exact ⟨_, rfl, _, _, _, [], _, [], hW', trodAll_mk1 (shut_bool Tryd.underlying4 _), args_stay laidOut bel hA (by kernel_rfl) hlt, rfl, bel.frame _, fun h => by cases h⟩
theorem said : Rows.DiskPlaysSaid :=
  OpenClaim.holds_of_cond 4 Tryd.f4 rfl rfl rfl rfl rfl rfl rfl ⟨rfl, rfl, rfl, rfl, rfl⟩ rfl rfl rfl rfl rfl (by kernel_rfl) Tryd.func4 (by kernel_rfl)
    (of_decide_eq_true (by kernel_rfl)) (by unfold Func.isWrapper; first | (rw [if_pos (by decide +kernel)]; kernel_rfl) | (rw [if_neg (by decide +kernel)]; exact ⟨rfl, rfl⟩))
    (fun os started H enc _ F => by rw [OpenClaim.pre_eq_preRow]; exact lifted os started H enc F)
theorem looks (f : FuncId) (fn : Func) (hf : Tryd.pinned.checked.prog.funcNamed "treillage/treillagelaw23.DiskPlays" = some f) (hfn : Tryd.pinned.checked.prog.funcs[f]? = some fn) :
    false = Tryd.pinned.checked.prog.looks [] ∧ ∀ (j : Nat) t, fn.params[j]? = some t → Tryd.pinned.checked.prog.wantsStandIn t = false := by
  obtain rfl : f = 4 := Option.some.inj ((show Tryd.prog.funcNamed "treillage/treillagelaw23.DiskPlays" = some 4 by kernel_rfl).symm.trans hf) |>.symm
  obtain rfl : fn = Tryd.f4 := (Option.some.inj (Tryd.func4.symm.trans hfn)).symm
  refine ⟨by kernel_rfl, fun j t ht => ?_⟩
  rw [Tryd.params4] at ht
  have hm := Array.mem_of_getElem? ht
  have ha : ([22] : List TypeId).all (fun t => !Tryd.prog.wantsStandIn t) = true := by kernel_rfl
  rw [List.all_eq_true] at ha
  have := ha t (by simpa using hm)
  rw [Bool.not_eq_true'] at this
  exact this
theorem proved : Rows.DiskPlaysCardSaid :=
  Claim7.holds_tied_plain_at .later [] _ _ _ _ said (fun _ h => by cases h) (by kernel_rfl) (fun _ h => by cases h) diskPlays_row_tie rfl ⟨rfl, rfl⟩ (by kernel_rfl) rfl looks (by kernel_rfl)
#print axioms proved
end Go.Proofs.YtigbgcopidghfaaDoor.diskPlays
namespace Go.Proofs.YtigbgcopidghfaaDoor
theorem diskPlays_holds : Rows.DiskPlaysCardSaid := diskPlays.proved
end Go.Proofs.YtigbgcopidghfaaDoor

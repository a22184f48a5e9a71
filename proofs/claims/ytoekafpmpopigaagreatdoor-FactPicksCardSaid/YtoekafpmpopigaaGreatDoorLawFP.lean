/- treillage, treillagelaw11.FactPicks: for every input the law returns true, and each argument reads as it did: the row, and its card (the words of the language are laid). -/
import Derived.Test.YtoekafpmpopigaaGreatDoorFPB
import Derived.Test.YtoekafpmpopigaaGreatDoorWd
import Derived.Test.YtoekafpmpopigaaGreatDoorVmZq
import Derived.Test.YtoekafpmpopigaaGreatDoorVmZt
import Derived.Test.YtoekafpmpopigaaGreatDoorVmZu
import Derived.Test.YtoekafpmpopigaaGreatDoorVmC
import Derived.Test.YtoekafpmpopigaaGreatDoorCards
import Derived.Test.YtoekafpmpopigaaGreatDoorTie
import Derived.WalkKit
import Derived.ProofKit
import Derived.OpenShut
import Derived.ShutString
import Derived.ChangeOld
import Derived.Below
import Derived.SizedLaws
import Derived.ChangeCalls
import Derived.Deep.DeepHandedRow
import Derived.Lib.LaidTab
namespace Go.Proofs.YtoekafpmpopigaaGreatDoor.factPicks
open Go.ChangeShapes Go.WideShapes Go.ChangeAt Go.RowKit
open Go.Proofs.YtoekafpmpopigaaGreatDoorVM
set_option maxRecDepth 100000
set_option linter.unusedVariables false
theorem own : ownKnob Tryz.prog.godebug = none := by kernel_rfl
theorem laidOut : laidOutB Tryz.prog = true := by kernel_rfl
theorem orders : Tryz.prog.follows .mixedOrders = true := by kernel_rfl
def tys : List TypeId := [24, 22, 38, 3, 9, 4, 36, 46, 25]
theorem tysOk : tys.all (okTy Tryz.prog tys) = true := by kernel_rfl
theorem entered : YtoekafpmpopigaaGreatDoorFP.ents.all (fun e => entersB Tryz.prog e.fid) = true := by kernel_rfl
def cmpRen : Go.Shelf.Ren := ⟨fun | 106 => 63 | 213 => 80 | 265 => 102 | n => n, fun n => n, fun n => n⟩
theorem cmpLaid : Lays.n106 Tryz.prog cmpRen := {
  mixed := (by kernel_rfl)
  f106 := Tryz.func63.trans (congrArg some (by kernel_rfl))
  f213 := Tryz.func80.trans (congrArg some (by kernel_rfl))
  f265 := Tryz.func102.trans (congrArg some (by kernel_rfl))
  t3 := Tryz.underlying3
  a3 := Tryz.isAgg3
  z3 := Tryz.sizeOf3
  v3 := Tryz.zeroValue3
  t9 := Tryz.underlying9
  a9 := Tryz.isAgg9
  z9 := Tryz.sizeOf9
  v9 := Tryz.zeroValue9
}
def cl49Ren : Go.Shelf.Ren := ⟨fun | 41 => 49 | n => n, fun | 22 => 22 | 23 => 38 | n => n, fun n => n⟩
theorem cl49Laid : SlLaysE0.n41 Tryz.prog cl49Ren := {
  mixed := (by kernel_rfl)
  f41 := ⟨Tryz.f49.name, by decide, Tryz.func49.trans (congrArg some (by kernel_rfl))⟩
  t4 := Tryz.underlying4
  a4 := Tryz.isAgg4
  z4 := Tryz.sizeOf4
  v4 := Tryz.zeroValue4
  t22 := Tryz.underlying22
  a22 := Tryz.isAgg22
  z22 := Tryz.sizeOf22
  v22 := Tryz.zeroValue22
}
def cl74Ren : Go.Shelf.Ren := ⟨fun | 41 => 74 | n => n, fun | 22 => 36 | 23 => 46 | n => n, fun n => n⟩
theorem cl74Laid : SlLaysE0.n41 Tryz.prog cl74Ren := {
  mixed := (by kernel_rfl)
  f41 := ⟨Tryz.f74.name, by decide, Tryz.func74.trans (congrArg some (by kernel_rfl))⟩
  t4 := Tryz.underlying4
  a4 := Tryz.isAgg4
  z4 := Tryz.sizeOf4
  v4 := Tryz.zeroValue4
  t22 := Tryz.underlying36
  a22 := Tryz.isAgg36
  z22 := Tryz.sizeOf36
  v22 := Tryz.zeroValue36
}

theorem noPrims1 : ((YtoekafpmpopigaaGreatDoorFP.ents.drop 4).take 87).all (fun e => e.prim.isNone) = true := by kernel_rfl
theorem noPrims2 : (YtoekafpmpopigaaGreatDoorFP.ents.drop 92).all (fun e => e.prim.isNone) = true := by kernel_rfl
theorem prims (i : Nat) (e : Entry) (F) (he : YtoekafpmpopigaaGreatDoorFP.ents[i]? = some e) (hp : e.prim = some F) : FnOk Tryz.prog YtoekafpmpopigaaGreatDoorFP.G0 e F := by
  by_cases hi : i = 91
  · subst hi
    have h1 : YtoekafpmpopigaaGreatDoorFP.e91 = e := Option.some.inj he
    subst h1
    have h2 : cloneOF = F := Option.some.inj hp
    subst h2
    exact cloneO_ok cl49Laid rfl (i0 := Tryz.t38) (z := .agg #[.int .i64 0, .int .i64 0, .int .i64 0, .string ⟨#[]⟩, .bool false, .bool false, .bool false, .slice none 0 0]) (by kernel_rfl) (by kernel_rfl) (by kernel_rfl) (by kernel_rfl) (of_decide_eq_true (by kernel_rfl)) (of_decide_eq_true (by kernel_rfl)) Tryz.sizeOf38 (Go.Proofs.YtoekafpmpopigaaGreatDoorVM.enters_of entered 91 YtoekafpmpopigaaGreatDoorFP.e91 rfl)
  by_cases hj : 91 < i
  · exact prims_of noPrims2 (i - 92) e F (by rw [List.getElem?_drop, show 92 + (i - 92) = i by omega]; exact he) hp
  match i, he with
  | 0, he =>
    have h1 : YtoekafpmpopigaaGreatDoorFP.e0 = e := Option.some.inj he
    subst h1
    have h2 : cmpF = F := Option.some.inj hp
    subst h2
    exact cmp_ok cmpLaid Tryz.underlying9 Tryz.underlying3 (Go.Proofs.YtoekafpmpopigaaGreatDoorVM.enters_of entered 0 YtoekafpmpopigaaGreatDoorFP.e0 rfl)
  | 1, he =>
    have h1 : YtoekafpmpopigaaGreatDoorFP.e1 = e := Option.some.inj he
    subst h1
    have h2 : nameF = F := Option.some.inj hp
    subst h2
    exact YtoekafpmpopigaaGreatDoorWD.name_ok (Go.Proofs.YtoekafpmpopigaaGreatDoorVM.enters_of entered 1 YtoekafpmpopigaaGreatDoorFP.e1 rfl)
  | 2, he =>
    have h1 : YtoekafpmpopigaaGreatDoorFP.e2 = e := Option.some.inj he
    subst h1
    have h2 : cloneF = F := Option.some.inj hp
    subst h2
    exact clone_ok cl49Laid rfl rfl (i0 := Tryz.t38) (z := .agg #[.int .i64 0, .int .i64 0, .int .i64 0, .string ⟨#[]⟩, .bool false, .bool false, .bool false, .slice none 0 0]) (by kernel_rfl) (by kernel_rfl) (by kernel_rfl) (by kernel_rfl) (of_decide_eq_true (by kernel_rfl)) (of_decide_eq_true (by kernel_rfl)) Tryz.sizeOf38 (Go.Proofs.YtoekafpmpopigaaGreatDoorVM.enters_of entered 2 YtoekafpmpopigaaGreatDoorFP.e2 rfl)
  | 3, he =>
    have h1 : YtoekafpmpopigaaGreatDoorFP.e3 = e := Option.some.inj he
    subst h1
    have h2 : cloneF = F := Option.some.inj hp
    subst h2
    exact clone_ok cl74Laid rfl rfl (i0 := Tryz.t46) (z := .agg #[.string ⟨#[]⟩, .slice none 0 0]) (by kernel_rfl) (by kernel_rfl) (by kernel_rfl) (by kernel_rfl) (of_decide_eq_true (by kernel_rfl)) (of_decide_eq_true (by kernel_rfl)) Tryz.sizeOf46 (Go.Proofs.YtoekafpmpopigaaGreatDoorVM.enters_of entered 3 YtoekafpmpopigaaGreatDoorFP.e3 rfl)
  | i + 4, he => exact prims_of noPrims1 i e F (by rw [List.getElem?_take, if_pos (by omega), List.getElem?_drop, Nat.add_comm]; exact he) hp
theorem plain (ts : List T) (h : TOks Tryz.prog [24, 25] ts) : ∃ n, sem Tryz.prog YtoekafpmpopigaaGreatDoorFP.G0 YtoekafpmpopigaaGreatDoorFP.ents n YtoekafpmpopigaaGreatDoorFP.i_L11_FactPicks (ts.map A.t) = some [A.t (.bool true)] := by
  match ts, h with
  | [t0, t1], ⟨h0, h1, _⟩ => exact (YtoekafpmpopigaaGreatDoorFP.law_does t0 t1 h0 (YtoekafpmpopigaaGreatDoorFP.strs_of h1)).sem
theorem gWords : Tryz.prog.globalNamed "treillage/name.words" = some 1 := by kernel_rfl
theorem tWords : (Tryz.prog.globals[1]?).map (·.type) = some 108 := by kernel_rfl
theorem c9 : Tryz.prog.cellsOf 9 = 1 := by kernel_rfl
theorem cWords : Tryz.prog.cellsOf 108 = 9 := by kernel_rfl
theorem kWords : csz Tryz.prog 108 = some 9 := by kernel_rfl
theorem aWords : arrOf Tryz.prog 108 = some (9, 9, 1) := by kernel_rfl
theorem wordsD : (Rows.laid_treillage_name_words : DataW Unit) = .agg (wordsL.map fun w => .lit (.string w.data.toList)) := rfl
theorem table {W : World} (h : laidMetH Tryz.prog Rows.factPicksRow.laid W) : YtoekafpmpopigaaGreatDoorWD.Laid W := by
  rw [MakeChecks.laidMetH_plain _ _ _ (by kernel_rfl)] at h
  obtain ⟨ps, ⟨g0, t0, cs0, f0, p0, q0, hg0, ht0, hv0, hd0, _, _⟩, _, _⟩ := h
  obtain rfl := Option.some.inj (gWords.symm.trans hg0)
  obtain rfl := Option.some.inj (tWords.symm.trans ht0)
  obtain ⟨xs, m, rfl, hx1, hlen, hn, hel⟩ := DataW.trod_array Tryz.underlying108 hd0
  rw [wordsD] at hx1
  simp only [Prod.mk.injEq, DataW.agg.injEq] at hx1
  rw [cWords] at hlen
  rw [c9] at hel
  have hcell : ∃ el fr, W.heap[1]? = some (.cells cs0 el fr) := by
    unfold World.var? at hv0
    rw [gWords] at hv0
    simp only [Option.bind_some] at hv0
    split at hv0
    · rename_i cs el fr hh
      cases hv0
      exact ⟨el, fr, hh⟩
    · cases hv0
  obtain ⟨el, fr, hh⟩ := hcell
  have hsz : cs0.size = 9 := by rw [← Array.length_toList]; exact hlen
  intro g τ t hm
  obtain ⟨rfl, rfl, rfl⟩ : g = 1 ∧ τ = 108 ∧ t = .node (wordsL.map T.str) := by
    have : (g, τ, t) = (1, 108, .node (wordsL.map T.str)) := List.mem_singleton.1 hm
    simpa using this
  refine ⟨cs0, el, fr, 9, hh, kWords, ?_, by omega⟩
  rw [List.take_of_length_le (by omega)]
  refine .arr aWords (by omega) fun i hi => ?_
  have hi2 : i < wordsL.length := hi
  have hxi : i < xs.length := by omega
  have h1 := hel i hi
  rw [List.getElem?_eq_getElem hxi] at h1
  obtain ⟨s, e1, e2, _⟩ := DataW.trod_string Tryz.underlying9 h1
  rw [e1]
  have hw : s = wordsL[i] := by
    have h3 : (xs.map (·.1))[i]? = (wordsL.map fun w => (DataW.lit (.string w.data.toList) : DataW Unit))[i]? := by rw [hx1.1]
    rw [List.getElem?_map, List.getElem?_map, List.getElem?_eq_getElem hxi, List.getElem?_eq_getElem hi2, e2] at h3
    simp only [Option.map_some, Option.some.injEq, DataW.lit.injEq, Lit.string.injEq] at h3
    exact ByteArray.ext (Array.toList_inj.1 h3)
  have hg : T.get (.node (wordsL.map T.str)) i = .str wordsL[i] := by
    show (wordsL.map T.str).getD i (.node []) = _
    rw [List.getD, List.getElem?_map, List.getElem?_eq_getElem hi2]
    rfl
  rw [hg, hw]
  exact .str Tryz.underlying9
noncomputable def laidWorld (os : Os) : World :=
  { World.holding Tryz.prog os ⟨#[], #[], []⟩ with heap := (World.holding Tryz.prog os ⟨#[], #[], []⟩).heap.modify 1 fun
      | .cells _ t frozen => .cells (wordsL.map Value.string).toArray t frozen
      | o => o }
theorem laid_met (os : Os) : laidMet Tryz.prog Rows.factPicksRow.laid ((laidWorld os).forCall (fun _ _ => 0) ⟨#[], #[.agg #[.slice none 0 0], .slice none 0 0], []⟩).memory :=
  laidMet_of_run' 8 (by kernel_rfl) (by kernel_rfl)
theorem reads (os : Os) {H : Type} (enc : TypeId × Value → H) : ∃ places, DataW.whole enc Tryz.prog ((laidWorld os).forCall (fun _ _ => 0) ⟨#[], #[.agg #[.slice none 0 0], .slice none 0 0], []⟩).memory Tryz.f3.params.toList Rows.factPicksSpec.vars false #[.agg #[.slice none 0 0], .slice none 0 0].toList 8 = some ([.agg [.nil], .nil], [], places) :=
  ⟨[], by kernel_rfl⟩
set_option maxRecDepth 100000 in
theorem lifted (os : Os) (started : os.Started) (H : Type) (enc : TypeId × Value → H) (F : Stop.Interp) :
    ReturnsInHanded {} Tryz.checked os 3 .any ((OpenSpec.ofChange Rows.factPicksSpec).preRow enc Tryz.prog Tryz.f3 Rows.factPicksRow.domain false Rows.factPicksRow.laid) (((OpenSpec.ofChange Rows.factPicksSpec).at F).post enc Tryz.prog Tryz.f3 false true false false) := by
  obtain ⟨places, hx⟩ := reads os enc
  refine returnsInHanded_of_row (C := Tryz.checked) (s := OpenSpec.ofChange Rows.factPicksSpec) own started (by kernel_rfl) Tryz.func3
    (witness_row_at (enc := enc) (C := Tryz.checked) false (laidWorld os) #[.agg #[.slice none 0 0], .slice none 0 0] rfl (by kernel_rfl) (by kernel_rfl) (by kernel_rfl)
      (OpenSpec.preRow_of_cond 8 hx (by kernel_rfl) (fun k hk => by cases hk) (by kernel_rfl) (laid_met os))) ?_
  intro W base args ds gs before hval0 hW _ _ _ hL _ _
  have hval : ∀ (j : Nat) t v, Tryz.f3.params[j]? = some t → args[j]? = some v → Value.okWide Tryz.prog W .any base t v := hval0
  have hW' := hW
  obtain ⟨p, q, hA0, hV, rfl, hfz, hnd⟩ := hW
  have hA : DataW.TrodAll enc Tryz.prog W 0 (fun _ => true) true Tryz.f3.params.toList args.toList ds p := hA0
  rw [Tryz.params3] at hA hval
  obtain ⟨rfl, rfl⟩ := trodVars_none hV
  obtain ⟨ts, hpv, hok⟩ := args_open (types_of tysOk) hA (by kernel_rfl) (fun j t v ht hv => hval j t v (by simpa using ht) (by simpa using hv))
  obtain ⟨n, hn⟩ := plain ts hok
  have hlt := DataW.TrodAll.lt hA
  clear hA0 hval0
  have hlaid := table hL
  refine (FnOk.data (sem_ok (drawOk orders) (Go.Proofs.YtoekafpmpopigaaGreatDoorVM.enters_of entered) prims n YtoekafpmpopigaaGreatDoorFP.i_L11_FactPicks (e := YtoekafpmpopigaaGreatDoorFP.e4) rfl) (ps := [24, 25]) (rs := [4]) rfl rfl (by kernel_rfl) (by kernel_rfl) hlaid hpv hn).mono fun e W' ⟨us, he, bel, hus⟩ => ?_
  obtain rfl := bool_of Tryz.underlying4 hus
  subst he
  obtain ⟨d0, d1, rfl⟩ : ∃ d0 d1, ds = [d0, d1] := by
    have hl : ds.length = 2 := (trodAll_length hA).2
    match ds, hl with
    | [a0, a1], _ => exact ⟨a0, a1, rfl⟩
  exact ⟨_, rfl, _, _, _, [], _, [], hW', trodAll_mk1 (shut_bool Tryz.underlying4 _), args_stay laidOut bel hA (by kernel_rfl) hlt, rfl, bel.frame _, fun h => by cases h⟩
theorem said : Rows.FactPicksSaid :=
  OpenClaim.holds_of_cond 3 Tryz.f3 rfl rfl rfl rfl rfl rfl rfl ⟨rfl, rfl, rfl, rfl, rfl⟩ rfl rfl rfl rfl rfl (by kernel_rfl) Tryz.func3 (by kernel_rfl)
    (of_decide_eq_true (by kernel_rfl)) (by unfold Func.isWrapper; first | (rw [if_pos (by decide +kernel)]; kernel_rfl) | (rw [if_neg (by decide +kernel)]; exact ⟨rfl, rfl⟩))
    (fun os started H enc _ F => by rw [OpenClaim.pre_eq_preRow]; exact lifted os started H enc F)
theorem looks (f : FuncId) (fn : Func) (hf : Tryz.pinned.checked.prog.funcNamed "treillage/treillagelaw11.FactPicks" = some f) (hfn : Tryz.pinned.checked.prog.funcs[f]? = some fn) :
    false = Tryz.pinned.checked.prog.looks [] ∧ ∀ (j : Nat) t, fn.params[j]? = some t → Tryz.pinned.checked.prog.wantsStandIn t = false := by
  obtain rfl : f = 3 := Option.some.inj ((show Tryz.prog.funcNamed "treillage/treillagelaw11.FactPicks" = some 3 by kernel_rfl).symm.trans hf) |>.symm
  obtain rfl : fn = Tryz.f3 := (Option.some.inj (Tryz.func3.symm.trans hfn)).symm
  refine ⟨by kernel_rfl, fun j t ht => ?_⟩
  rw [Tryz.params3] at ht
  have hm := Array.mem_of_getElem? ht
  have ha : ([24, 25] : List TypeId).all (fun t => !Tryz.prog.wantsStandIn t) = true := by kernel_rfl
  rw [List.all_eq_true] at ha
  have := ha t (by simpa using hm)
  rw [Bool.not_eq_true'] at this
  exact this
theorem proved : Rows.FactPicksCardSaid :=
  Claim7.holds_tied_plain_at .later [] _ _ _ _ said (fun _ h => by cases h) (by kernel_rfl) (fun _ h => by cases h) factPicks_row_tie rfl ⟨rfl, rfl⟩ (by kernel_rfl) rfl looks (by kernel_rfl)
#print axioms proved
end Go.Proofs.YtoekafpmpopigaaGreatDoor.factPicks
namespace Go.Proofs.YtoekafpmpopigaaGreatDoor
theorem factPicks_holds : Rows.FactPicksCardSaid := factPicks.proved
end Go.Proofs.YtoekafpmpopigaaGreatDoor

/- treillage, treillagelaw11.FactTells: for every input the law returns true, and each argument reads as it did: the row, and its card (the words of the language are laid). -/
import Derived.Test.YtffncdkbcphbgaaGreatDoorFKB
import Derived.Test.YtffncdkbcphbgaaGreatDoorWd
import Derived.Test.YtffncdkbcphbgaaGreatDoorVmZq
import Derived.Test.YtffncdkbcphbgaaGreatDoorVmZt
import Derived.Test.YtffncdkbcphbgaaGreatDoorVmZu
import Derived.Test.YtffncdkbcphbgaaGreatDoorVmC
import Derived.Test.YtffncdkbcphbgaaGreatDoorCards
import Derived.Test.YtffncdkbcphbgaaGreatDoorTie
import Derived.WalkKit
import Derived.ProofKit
import Derived.OpenShut
import Derived.ShutString
import Derived.ChangeOld
import Derived.Below
import Derived.SizedLaws
import Derived.ChangeCalls
import Derived.Deep.DeepHandedRow
import Derived.Lib.LaidTab
namespace Go.Proofs.YtffncdkbcphbgaaGreatDoor.factTells
open Go.ChangeShapes Go.WideShapes Go.ChangeAt Go.RowKit
open Go.Proofs.YtffncdkbcphbgaaGreatDoorVM
set_option maxRecDepth 100000
set_option linter.unusedVariables false
theorem own : ownKnob Tryz.prog.godebug = none := by kernel_rfl
theorem laidOut : laidOutB Tryz.prog = true := by kernel_rfl
theorem orders : Tryz.prog.follows .mixedOrders = true := by kernel_rfl
def tys : List TypeId := [24, 22, 38, 3, 9, 4, 36, 65]
theorem tysOk : tys.all (okTy Tryz.prog tys) = true := by kernel_rfl
theorem entered : YtffncdkbcphbgaaGreatDoorFK.ents.all (fun e => entersB Tryz.prog e.fid) = true := by kernel_rfl
def cmpRen : Go.Shelf.Ren := ⟨fun | 106 => 113 | 213 => 138 | 265 => 150 | n => n, fun n => n, fun n => n⟩
theorem cmpLaid : Lays.n106 Tryz.prog cmpRen := {
  mixed := (by kernel_rfl)
  f106 := Tryz.func113.trans (congrArg some (by kernel_rfl))
  f213 := Tryz.func138.trans (congrArg some (by kernel_rfl))
  f265 := Tryz.func150.trans (congrArg some (by kernel_rfl))
  t3 := Tryz.underlying3
  a3 := Tryz.isAgg3
  z3 := Tryz.sizeOf3
  v3 := Tryz.zeroValue3
  t9 := Tryz.underlying9
  a9 := Tryz.isAgg9
  z9 := Tryz.sizeOf9
  v9 := Tryz.zeroValue9
}
def cl91Ren : Go.Shelf.Ren := ⟨fun | 41 => 91 | n => n, fun | 22 => 22 | 23 => 38 | n => n, fun n => n⟩
theorem cl91Laid : SlLaysE0.n41 Tryz.prog cl91Ren := {
  mixed := (by kernel_rfl)
  f41 := ⟨Tryz.f91.name, by decide, Tryz.func91.trans (congrArg some (by kernel_rfl))⟩
  t4 := Tryz.underlying4
  a4 := Tryz.isAgg4
  z4 := Tryz.sizeOf4
  v4 := Tryz.zeroValue4
  t22 := Tryz.underlying22
  a22 := Tryz.isAgg22
  z22 := Tryz.sizeOf22
  v22 := Tryz.zeroValue22
}
def cl120Ren : Go.Shelf.Ren := ⟨fun | 41 => 120 | n => n, fun | 22 => 36 | 23 => 65 | n => n, fun n => n⟩
theorem cl120Laid : SlLaysE0.n41 Tryz.prog cl120Ren := {
  mixed := (by kernel_rfl)
  f41 := ⟨Tryz.f120.name, by decide, Tryz.func120.trans (congrArg some (by kernel_rfl))⟩
  t4 := Tryz.underlying4
  a4 := Tryz.isAgg4
  z4 := Tryz.sizeOf4
  v4 := Tryz.zeroValue4
  t22 := Tryz.underlying36
  a22 := Tryz.isAgg36
  z22 := Tryz.sizeOf36
  v22 := Tryz.zeroValue36
}

theorem noPrims1 : ((YtffncdkbcphbgaaGreatDoorFK.ents.drop 4).take 102).all (fun e => e.prim.isNone) = true := by kernel_rfl
theorem noPrims2 : (YtffncdkbcphbgaaGreatDoorFK.ents.drop 107).all (fun e => e.prim.isNone) = true := by kernel_rfl
theorem prims (i : Nat) (e : Entry) (F) (he : YtffncdkbcphbgaaGreatDoorFK.ents[i]? = some e) (hp : e.prim = some F) : FnOk Tryz.prog YtffncdkbcphbgaaGreatDoorFK.G0 e F := by
  by_cases hi : i = 106
  · subst hi
    have h1 : YtffncdkbcphbgaaGreatDoorFK.e106 = e := Option.some.inj he
    subst h1
    have h2 : cloneOF = F := Option.some.inj hp
    subst h2
    exact cloneO_ok cl91Laid rfl (i0 := Tryz.t38) (z := .agg #[.int .i64 0, .int .i64 0, .int .i64 0, .string ⟨#[]⟩, .bool false, .bool false, .bool false, .slice none 0 0]) (by kernel_rfl) (by kernel_rfl) (by kernel_rfl) (by kernel_rfl) (of_decide_eq_true (by kernel_rfl)) (of_decide_eq_true (by kernel_rfl)) Tryz.sizeOf38 (Go.Proofs.YtffncdkbcphbgaaGreatDoorVM.enters_of entered 106 YtffncdkbcphbgaaGreatDoorFK.e106 rfl)
  by_cases hj : 106 < i
  · exact prims_of noPrims2 (i - 107) e F (by rw [List.getElem?_drop, show 107 + (i - 107) = i by omega]; exact he) hp
  match i, he with
  | 0, he =>
    have h1 : YtffncdkbcphbgaaGreatDoorFK.e0 = e := Option.some.inj he
    subst h1
    have h2 : cmpF = F := Option.some.inj hp
    subst h2
    exact cmp_ok cmpLaid Tryz.underlying9 Tryz.underlying3 (Go.Proofs.YtffncdkbcphbgaaGreatDoorVM.enters_of entered 0 YtffncdkbcphbgaaGreatDoorFK.e0 rfl)
  | 1, he =>
    have h1 : YtffncdkbcphbgaaGreatDoorFK.e1 = e := Option.some.inj he
    subst h1
    have h2 : nameF = F := Option.some.inj hp
    subst h2
    exact YtffncdkbcphbgaaGreatDoorWD.name_ok (Go.Proofs.YtffncdkbcphbgaaGreatDoorVM.enters_of entered 1 YtffncdkbcphbgaaGreatDoorFK.e1 rfl)
  | 2, he =>
    have h1 : YtffncdkbcphbgaaGreatDoorFK.e2 = e := Option.some.inj he
    subst h1
    have h2 : cloneF = F := Option.some.inj hp
    subst h2
    exact clone_ok cl91Laid rfl rfl (i0 := Tryz.t38) (z := .agg #[.int .i64 0, .int .i64 0, .int .i64 0, .string ⟨#[]⟩, .bool false, .bool false, .bool false, .slice none 0 0]) (by kernel_rfl) (by kernel_rfl) (by kernel_rfl) (by kernel_rfl) (of_decide_eq_true (by kernel_rfl)) (of_decide_eq_true (by kernel_rfl)) Tryz.sizeOf38 (Go.Proofs.YtffncdkbcphbgaaGreatDoorVM.enters_of entered 2 YtffncdkbcphbgaaGreatDoorFK.e2 rfl)
  | 3, he =>
    have h1 : YtffncdkbcphbgaaGreatDoorFK.e3 = e := Option.some.inj he
    subst h1
    have h2 : cloneF = F := Option.some.inj hp
    subst h2
    exact clone_ok cl120Laid rfl rfl (i0 := Tryz.t65) (z := .agg #[.string ⟨#[]⟩, .slice none 0 0]) (by kernel_rfl) (by kernel_rfl) (by kernel_rfl) (by kernel_rfl) (of_decide_eq_true (by kernel_rfl)) (of_decide_eq_true (by kernel_rfl)) Tryz.sizeOf65 (Go.Proofs.YtffncdkbcphbgaaGreatDoorVM.enters_of entered 3 YtffncdkbcphbgaaGreatDoorFK.e3 rfl)
  | i + 4, he => exact prims_of noPrims1 i e F (by rw [List.getElem?_take, if_pos (by omega), List.getElem?_drop, Nat.add_comm]; exact he) hp
theorem plain (ts : List T) (h : TOks Tryz.prog [24] ts) : ∃ n, sem Tryz.prog YtffncdkbcphbgaaGreatDoorFK.G0 YtffncdkbcphbgaaGreatDoorFK.ents n YtffncdkbcphbgaaGreatDoorFK.i_L11_FactTells (ts.map A.t) = some [A.t (.bool true)] := by
  match ts, h with
  | [t0], _ => exact (YtffncdkbcphbgaaGreatDoorFK.law_does t0).sem
theorem gWords : Tryz.prog.globalNamed "treillage/name.words" = some 0 := by kernel_rfl
theorem tWords : (Tryz.prog.globals[0]?).map (·.type) = some 125 := by kernel_rfl
theorem c9 : Tryz.prog.cellsOf 9 = 1 := by kernel_rfl
theorem cWords : Tryz.prog.cellsOf 125 = 9 := by kernel_rfl
theorem kWords : csz Tryz.prog 125 = some 9 := by kernel_rfl
theorem aWords : arrOf Tryz.prog 125 = some (9, 9, 1) := by kernel_rfl
theorem wordsD : (Rows.laid_treillage_name_words : DataW Unit) = .agg (wordsL.map fun w => .lit (.string w.data.toList)) := rfl
theorem table {W : World} (h : laidMetH Tryz.prog Rows.factTellsRow.laid W) : YtffncdkbcphbgaaGreatDoorWD.Laid W := by
  rw [MakeChecks.laidMetH_plain _ _ _ (by kernel_rfl)] at h
  obtain ⟨ps, ⟨g0, t0, cs0, f0, p0, q0, hg0, ht0, hv0, hd0, _, _⟩, _, _⟩ := h
  obtain rfl := Option.some.inj (gWords.symm.trans hg0)
  obtain rfl := Option.some.inj (tWords.symm.trans ht0)
  obtain ⟨xs, m, rfl, hx1, hlen, hn, hel⟩ := DataW.trod_array Tryz.underlying125 hd0
  rw [wordsD] at hx1
  simp only [Prod.mk.injEq, DataW.agg.injEq] at hx1
  rw [cWords] at hlen
  rw [c9] at hel
  have hcell : ∃ el fr, W.heap[0]? = some (.cells cs0 el fr) := by
    unfold World.var? at hv0
    rw [gWords] at hv0
    simp only [Option.bind_some] at hv0
    split at hv0
    · rename_i cs el fr hh
      cases hv0
      exact ⟨el, fr, hh⟩
    · cases hv0
  obtain ⟨el, fr, hh⟩ := hcell
  have hsz : cs0.size = 9 := by rw [← Array.length_toList]; exact hlen
  intro g τ t hm
  obtain ⟨rfl, rfl, rfl⟩ : g = 0 ∧ τ = 125 ∧ t = .node (wordsL.map T.str) := by
    have : (g, τ, t) = (0, 125, .node (wordsL.map T.str)) := List.mem_singleton.1 hm
    simpa using this
  refine ⟨cs0, el, fr, 9, hh, kWords, ?_, by omega⟩
  rw [List.take_of_length_le (by omega)]
  refine .arr aWords (by omega) fun i hi => ?_
  have hi2 : i < wordsL.length := hi
  have hxi : i < xs.length := by omega
  have h1 := hel i hi
  rw [List.getElem?_eq_getElem hxi] at h1
  obtain ⟨s, e1, e2, _⟩ := DataW.trod_string Tryz.underlying9 h1
  rw [e1]
  have hw : s = wordsL[i] := by
    have h3 : (xs.map (·.1))[i]? = (wordsL.map fun w => (DataW.lit (.string w.data.toList) : DataW Unit))[i]? := by rw [hx1.1]
    rw [List.getElem?_map, List.getElem?_map, List.getElem?_eq_getElem hxi, List.getElem?_eq_getElem hi2, e2] at h3
    simp only [Option.map_some, Option.some.injEq, DataW.lit.injEq, Lit.string.injEq] at h3
    exact ByteArray.ext (Array.toList_inj.1 h3)
  have hg : T.get (.node (wordsL.map T.str)) i = .str wordsL[i] := by
    show (wordsL.map T.str).getD i (.node []) = _
    rw [List.getD, List.getElem?_map, List.getElem?_eq_getElem hi2]
    rfl
  rw [hg, hw]
  exact .str Tryz.underlying9
noncomputable def laidWorld (os : Os) : World :=
  { World.holding Tryz.prog os ⟨#[], #[], []⟩ with heap := (World.holding Tryz.prog os ⟨#[], #[], []⟩).heap.modify 0 fun
      | .cells _ t frozen => .cells (wordsL.map Value.string).toArray t frozen
      | o => o }
theorem laid_met (os : Os) : laidMet Tryz.prog Rows.factTellsRow.laid ((laidWorld os).forCall (fun _ _ => 0) ⟨#[], #[Value.agg #[.slice none 0 0]], []⟩).memory :=
  laidMet_of_run' 8 (by kernel_rfl) (by kernel_rfl)
theorem reads (os : Os) {H : Type} (enc : TypeId × Value → H) : ∃ places, DataW.whole enc Tryz.prog ((laidWorld os).forCall (fun _ _ => 0) ⟨#[], #[Value.agg #[.slice none 0 0]], []⟩).memory Tryz.f4.params.toList Rows.factTellsSpec.vars false #[Value.agg #[.slice none 0 0]].toList 8 = some ([.agg [.nil]], [], places) :=
  ⟨[], by kernel_rfl⟩
set_option maxRecDepth 100000 in
theorem lifted (os : Os) (started : os.Started) (H : Type) (enc : TypeId × Value → H) (F : Stop.Interp) :
    ReturnsInHanded {} Tryz.checked os 4 .any ((OpenSpec.ofChange Rows.factTellsSpec).preRow enc Tryz.prog Tryz.f4 Rows.factTellsRow.domain false Rows.factTellsRow.laid) (((OpenSpec.ofChange Rows.factTellsSpec).at F).post enc Tryz.prog Tryz.f4 false true false false) := by
  obtain ⟨places, hx⟩ := reads os enc
  refine returnsInHanded_of_row (C := Tryz.checked) (s := OpenSpec.ofChange Rows.factTellsSpec) own started (by kernel_rfl) Tryz.func4
    (witness_row_at (enc := enc) (C := Tryz.checked) false (laidWorld os) #[Value.agg #[.slice none 0 0]] rfl (by kernel_rfl) (by kernel_rfl) (by kernel_rfl)
      (OpenSpec.preRow_of_cond 8 hx (by kernel_rfl) (fun k hk => by cases hk) (by kernel_rfl) (laid_met os))) ?_
  intro W base args ds gs before hval0 hW _ _ _ hL _ _
  have hval : ∀ (j : Nat) t v, Tryz.f4.params[j]? = some t → args[j]? = some v → Value.okWide Tryz.prog W .any base t v := hval0
  have hW' := hW
  obtain ⟨p, q, hA0, hV, rfl, hfz, hnd⟩ := hW
  have hA : DataW.TrodAll enc Tryz.prog W 0 (fun _ => true) true Tryz.f4.params.toList args.toList ds p := hA0
  rw [Tryz.params4] at hA hval
  obtain ⟨rfl, rfl⟩ := trodVars_none hV
  obtain ⟨ts, hpv, hok⟩ := args_open (types_of tysOk) hA (by kernel_rfl) (fun j t v ht hv => hval j t v (by simpa using ht) (by simpa using hv))
  obtain ⟨n, hn⟩ := plain ts hok
  have hlt := DataW.TrodAll.lt hA
  clear hA0 hval0
  have hlaid := table hL
  refine (FnOk.data (sem_ok (drawOk orders) (Go.Proofs.YtffncdkbcphbgaaGreatDoorVM.enters_of entered) prims n YtffncdkbcphbgaaGreatDoorFK.i_L11_FactTells (e := YtffncdkbcphbgaaGreatDoorFK.e4) rfl) (ps := [24]) (rs := [4]) rfl rfl (by kernel_rfl) (by kernel_rfl) hlaid hpv hn).mono fun e W' ⟨us, he, bel, hus⟩ => ?_
  obtain rfl := bool_of Tryz.underlying4 hus
  subst he
  obtain ⟨d0, rfl⟩ : ∃ d0, ds = [d0] := by
    have hl : ds.length = 1 := (trodAll_length hA).2
    match ds, hl with
    | [a0], _ => exact ⟨a0, rfl⟩
  exact ⟨_, rfl, _, _, _, [], _, [], hW', trodAll_mk1 (shut_bool Tryz.underlying4 _), args_stay laidOut bel hA (by kernel_rfl) hlt, rfl, bel.frame _, fun h => by cases h⟩
theorem said : Rows.FactTellsSaid :=
  OpenClaim.holds_of_cond 4 Tryz.f4 rfl rfl rfl rfl rfl rfl rfl ⟨rfl, rfl, rfl, rfl, rfl⟩ rfl rfl rfl rfl rfl (by kernel_rfl) Tryz.func4 (by kernel_rfl)
    (of_decide_eq_true (by kernel_rfl)) (by unfold Func.isWrapper; first | (rw [if_pos (by decide +kernel)]; kernel_rfl) | (rw [if_neg (by decide +kernel)]; exact ⟨rfl, rfl⟩))
    (fun os started H enc _ F => by rw [OpenClaim.pre_eq_preRow]; exact lifted os started H enc F)
theorem looks (f : FuncId) (fn : Func) (hf : Tryz.pinned.checked.prog.funcNamed "treillage/treillagelaw11.FactTells" = some f) (hfn : Tryz.pinned.checked.prog.funcs[f]? = some fn) :
    false = Tryz.pinned.checked.prog.looks [] ∧ ∀ (j : Nat) t, fn.params[j]? = some t → Tryz.pinned.checked.prog.wantsStandIn t = false := by
  obtain rfl : f = 4 := Option.some.inj ((show Tryz.prog.funcNamed "treillage/treillagelaw11.FactTells" = some 4 by kernel_rfl).symm.trans hf) |>.symm
  obtain rfl : fn = Tryz.f4 := (Option.some.inj (Tryz.func4.symm.trans hfn)).symm
  refine ⟨by kernel_rfl, fun j t ht => ?_⟩
  rw [Tryz.params4] at ht
  have hm := Array.mem_of_getElem? ht
  have ha : ([24] : List TypeId).all (fun t => !Tryz.prog.wantsStandIn t) = true := by kernel_rfl
  rw [List.all_eq_true] at ha
  have := ha t (by simpa using hm)
  rw [Bool.not_eq_true'] at this
  exact this
theorem proved : Rows.FactTellsCardSaid :=
  Claim7.holds_tied_plain_at .later [] _ _ _ _ said (fun _ h => by cases h) (by kernel_rfl) (fun _ h => by cases h) factTells_row_tie rfl ⟨rfl, rfl⟩ (by kernel_rfl) rfl looks (by kernel_rfl)
#print axioms proved
end Go.Proofs.YtffncdkbcphbgaaGreatDoor.factTells
namespace Go.Proofs.YtffncdkbcphbgaaGreatDoor
theorem factTells_holds : Rows.FactTellsCardSaid := factTells.proved
end Go.Proofs.YtffncdkbcphbgaaGreatDoor

/- treillage, treillagelaw10.CodeBack: for every input the law returns true, and each argument reads as it did: the row, and its card (the words of the language are laid). -/
import Derived.Test.YtdofdhlpheaonaaDoorCBB
import Derived.Test.YtdofdhlpheaonaaDoorWd
import Derived.Test.YtdofdhlpheaonaaDoorVmZq
import Derived.Test.YtdofdhlpheaonaaDoorVmZt
import Derived.Test.YtdofdhlpheaonaaDoorVmZu
import Derived.Test.YtdofdhlpheaonaaDoorVmC
import Derived.Test.YtdofdhlpheaonaaDoorCards
import Derived.Test.YtdofdhlpheaonaaDoorTie
import Derived.WalkKit
import Derived.ProofKit
import Derived.OpenShut
import Derived.ShutString
import Derived.ChangeOld
import Derived.Below
import Derived.SizedLaws
import Derived.ChangeCalls
import Derived.Deep.DeepHandedRow
import Derived.Lib.LaidTab
namespace Go.Proofs.YtdofdhlpheaonaaDoor.codeBack
open Go.ChangeShapes Go.WideShapes Go.ChangeAt Go.RowKit
open Go.Proofs.YtdofdhlpheaonaaDoorVM
set_option maxRecDepth 100000
set_option linter.unusedVariables false
theorem own : ownKnob Tryd.prog.godebug = none := by kernel_rfl
theorem laidOut : laidOutB Tryd.prog = true := by kernel_rfl
theorem orders : Tryd.prog.follows .mixedOrders = true := by kernel_rfl
def tys : List TypeId := [50, 48, 87, 3, 9, 4, 85, 152]
theorem tysOk : tys.all (okTy Tryd.prog tys) = true := by kernel_rfl
theorem entered : YtdofdhlpheaonaaDoorCB.ents.all (fun e => entersB Tryd.prog e.fid) = true := by kernel_rfl
def cmpRen : Go.Shelf.Ren := ⟨fun | 106 => 173 | 213 => 199 | 265 => 215 | n => n, fun n => n, fun n => n⟩
theorem cmpLaid : Lays.n106 Tryd.prog cmpRen := {
  mixed := (by kernel_rfl)
  f106 := Tryd.func173.trans (congrArg some (by kernel_rfl))
  f213 := Tryd.func199.trans (congrArg some (by kernel_rfl))
  f265 := Tryd.func215.trans (congrArg some (by kernel_rfl))
  t3 := Tryd.underlying3
  a3 := Tryd.isAgg3
  z3 := Tryd.sizeOf3
  v3 := Tryd.zeroValue3
  t9 := Tryd.underlying9
  a9 := Tryd.isAgg9
  z9 := Tryd.sizeOf9
  v9 := Tryd.zeroValue9
}
def growRen : Go.Shelf.Ren := ⟨fun | 4 => 181 | n => n, fun | 22 => 106 | 25 => 5 | n => n, fun n => n⟩
theorem growLaid : Lays8.n4 Tryd.prog growRen := {
  mixed := (by kernel_rfl)
  f4 := ⟨Tryd.f181.name, by decide, Tryd.func181.trans (congrArg some (by kernel_rfl))⟩
  t0 := Tryd.underlying0
  a0 := Tryd.isAgg0
  z0 := Tryd.sizeOf0
  v0 := Tryd.zeroValue0
  t3 := Tryd.underlying3
  a3 := Tryd.isAgg3
  z3 := Tryd.sizeOf3
  v3 := Tryd.zeroValue3
  t4 := Tryd.underlying4
  a4 := Tryd.isAgg4
  z4 := Tryd.sizeOf4
  v4 := Tryd.zeroValue4
  t9 := Tryd.underlying9
  a9 := Tryd.isAgg9
  z9 := Tryd.sizeOf9
  v9 := Tryd.zeroValue9
  t20 := Tryd.underlying20
  a20 := Tryd.isAgg20
  z20 := Tryd.sizeOf20
  v20 := Tryd.zeroValue20
  t22 := Tryd.underlying106
  a22 := Tryd.isAgg106
  z22 := Tryd.sizeOf106
  v22 := Tryd.zeroValue106
}

theorem noPrims : (YtdofdhlpheaonaaDoorCB.ents.drop 3).all (fun e => e.prim.isNone) = true := by kernel_rfl
theorem prims (i : Nat) (e : Entry) (F) (he : YtdofdhlpheaonaaDoorCB.ents[i]? = some e) (hp : e.prim = some F) : FnOk Tryd.prog YtdofdhlpheaonaaDoorCB.G0 e F := by
  match i, he with
  | 0, he =>
    have h1 : YtdofdhlpheaonaaDoorCB.e0 = e := Option.some.inj he
    subst h1
    have h2 : growF = F := Option.some.inj hp
    subst h2
    exact grow_ok growLaid Tryd.underlying3 rfl (i0 := Tryd.t5) (z := .int .u8 0) (by kernel_rfl) (by kernel_rfl) (by kernel_rfl) (by kernel_rfl) (of_decide_eq_true (by kernel_rfl)) (of_decide_eq_true (by kernel_rfl)) (Go.Proofs.YtdofdhlpheaonaaDoorVM.enters_of entered 0 YtdofdhlpheaonaaDoorCB.e0 rfl)
  | 1, he =>
    have h1 : YtdofdhlpheaonaaDoorCB.e1 = e := Option.some.inj he
    subst h1
    have h2 : cmpF = F := Option.some.inj hp
    subst h2
    exact cmp_ok cmpLaid Tryd.underlying9 Tryd.underlying3 (Go.Proofs.YtdofdhlpheaonaaDoorVM.enters_of entered 1 YtdofdhlpheaonaaDoorCB.e1 rfl)
  | 2, he =>
    have h1 : YtdofdhlpheaonaaDoorCB.e2 = e := Option.some.inj he
    subst h1
    have h2 : nameF = F := Option.some.inj hp
    subst h2
    exact YtdofdhlpheaonaaDoorWD.name_ok (Go.Proofs.YtdofdhlpheaonaaDoorVM.enters_of entered 2 YtdofdhlpheaonaaDoorCB.e2 rfl)
  | i + 3, he => exact prims_of noPrims i e F (by rw [List.getElem?_drop, Nat.add_comm]; exact he) hp
theorem plain (ts : List T) (h : TOks Tryd.prog [50, 50, 3] ts) : ∃ n, sem Tryd.prog YtdofdhlpheaonaaDoorCB.G0 YtdofdhlpheaonaaDoorCB.ents n YtdofdhlpheaonaaDoorCB.i_L10_CodeBack (ts.map A.t) = some [A.t (.bool true)] := by
  match ts, h with
  | [t0, t1, t2], ⟨h0, h1, h2, _⟩ => exact (YtdofdhlpheaonaaDoorCB.law_does t0 t1 t2 h0 h1).sem
theorem gWords : Tryd.prog.globalNamed "treillage/name.words" = some 1 := by kernel_rfl
theorem tWords : (Tryd.prog.globals[1]?).map (·.type) = some 176 := by kernel_rfl
theorem c9 : Tryd.prog.cellsOf 9 = 1 := by kernel_rfl
theorem cWords : Tryd.prog.cellsOf 176 = 9 := by kernel_rfl
theorem kWords : csz Tryd.prog 176 = some 9 := by kernel_rfl
theorem aWords : arrOf Tryd.prog 176 = some (9, 9, 1) := by kernel_rfl
theorem wordsD : (Rows.laid_treillage_name_words : DataW Unit) = .agg (wordsL.map fun w => .lit (.string w.data.toList)) := rfl
theorem table {W : World} (h : laidMetH Tryd.prog Rows.codeBackRow.laid W) : YtdofdhlpheaonaaDoorWD.Laid W := by
  rw [MakeChecks.laidMetH_plain _ _ _ (by kernel_rfl)] at h
  obtain ⟨ps, ⟨g0, t0, cs0, f0, p0, q0, hg0, ht0, hv0, hd0, _, _⟩, _, _⟩ := h
  obtain rfl := Option.some.inj (gWords.symm.trans hg0)
  obtain rfl := Option.some.inj (tWords.symm.trans ht0)
  obtain ⟨xs, m, rfl, hx1, hlen, hn, hel⟩ := DataW.trod_array Tryd.underlying176 hd0
  rw [wordsD] at hx1
  simp only [Prod.mk.injEq, DataW.agg.injEq] at hx1
  rw [cWords] at hlen
  rw [c9] at hel
  have hcell : ∃ el fr, W.heap[1]? = some (.cells cs0 el fr) := by
    unfold World.var? at hv0
    rw [gWords] at hv0
    simp only [Option.bind_some] at hv0
    split at hv0
    · rename_i cs el fr hh
      cases hv0
      exact ⟨el, fr, hh⟩
    · cases hv0
  obtain ⟨el, fr, hh⟩ := hcell
  have hsz : cs0.size = 9 := by rw [← Array.length_toList]; exact hlen
  intro g τ t hm
  obtain ⟨rfl, rfl, rfl⟩ : g = 1 ∧ τ = 176 ∧ t = .node (wordsL.map T.str) := by
    have : (g, τ, t) = (1, 176, .node (wordsL.map T.str)) := List.mem_singleton.1 hm
    simpa using this
  refine ⟨cs0, el, fr, 9, hh, kWords, ?_, by omega⟩
  rw [List.take_of_length_le (by omega)]
  refine .arr aWords (by omega) fun i hi => ?_
  have hi2 : i < wordsL.length := hi
  have hxi : i < xs.length := by omega
  have h1 := hel i hi
  rw [List.getElem?_eq_getElem hxi] at h1
  obtain ⟨s, e1, e2, _⟩ := DataW.trod_string Tryd.underlying9 h1
  rw [e1]
  have hw : s = wordsL[i] := by
    have h3 : (xs.map (·.1))[i]? = (wordsL.map fun w => (DataW.lit (.string w.data.toList) : DataW Unit))[i]? := by rw [hx1.1]
    rw [List.getElem?_map, List.getElem?_map, List.getElem?_eq_getElem hxi, List.getElem?_eq_getElem hi2, e2] at h3
    simp only [Option.map_some, Option.some.injEq, DataW.lit.injEq, Lit.string.injEq] at h3
    exact ByteArray.ext (Array.toList_inj.1 h3)
  have hg : T.get (.node (wordsL.map T.str)) i = .str wordsL[i] := by
    show (wordsL.map T.str).getD i (.node []) = _
    rw [List.getD, List.getElem?_map, List.getElem?_eq_getElem hi2]
    rfl
  rw [hg, hw]
  exact .str Tryd.underlying9
noncomputable def laidWorld (os : Os) : World :=
  { World.holding Tryd.prog os ⟨#[], #[], []⟩ with heap := (World.holding Tryd.prog os ⟨#[], #[], []⟩).heap.modify 1 fun
      | .cells _ t frozen => .cells (wordsL.map Value.string).toArray t frozen
      | o => o }
theorem laid_met (os : Os) : laidMet Tryd.prog Rows.codeBackRow.laid ((laidWorld os).forCall (fun _ _ => 0) ⟨#[], #[.agg #[.slice none 0 0], .agg #[.slice none 0 0], .int .i64 0], []⟩).memory :=
  laidMet_of_run' 8 (by kernel_rfl) (by kernel_rfl)
theorem reads (os : Os) {H : Type} (enc : TypeId × Value → H) : ∃ places, DataW.whole enc Tryd.prog ((laidWorld os).forCall (fun _ _ => 0) ⟨#[], #[.agg #[.slice none 0 0], .agg #[.slice none 0 0], .int .i64 0], []⟩).memory Tryd.f6.params.toList Rows.codeBackSpec.vars false #[.agg #[.slice none 0 0], .agg #[.slice none 0 0], .int .i64 0].toList 8 = some ([.agg [.nil], .agg [.nil], .lit (.int .i64 0)], [], places) :=
  ⟨[], by kernel_rfl⟩
set_option maxRecDepth 100000 in
theorem lifted (os : Os) (started : os.Started) (H : Type) (enc : TypeId × Value → H) (F : Stop.Interp) :
    ReturnsInHanded {} Tryd.checked os 6 .any ((OpenSpec.ofChange Rows.codeBackSpec).preRow enc Tryd.prog Tryd.f6 Rows.codeBackRow.domain false Rows.codeBackRow.laid) (((OpenSpec.ofChange Rows.codeBackSpec).at F).post enc Tryd.prog Tryd.f6 false true false false) := by
  obtain ⟨places, hx⟩ := reads os enc
  refine returnsInHanded_of_row (C := Tryd.checked) (s := OpenSpec.ofChange Rows.codeBackSpec) own started (by kernel_rfl) Tryd.func6
    (witness_row_at (enc := enc) (C := Tryd.checked) false (laidWorld os) #[.agg #[.slice none 0 0], .agg #[.slice none 0 0], .int .i64 0] rfl (by kernel_rfl) (by kernel_rfl) (by kernel_rfl)
      (OpenSpec.preRow_of_cond 8 hx (by kernel_rfl) (fun k hk => by cases hk) (by kernel_rfl) (laid_met os))) ?_
  intro W base args ds gs before hval0 hW _ _ _ hL _ _
  have hval : ∀ (j : Nat) t v, Tryd.f6.params[j]? = some t → args[j]? = some v → Value.okWide Tryd.prog W .any base t v := hval0
  have hW' := hW
  obtain ⟨p, q, hA0, hV, rfl, hfz, hnd⟩ := hW
  have hA : DataW.TrodAll enc Tryd.prog W 0 (fun _ => true) true Tryd.f6.params.toList args.toList ds p := hA0
  rw [Tryd.params6] at hA hval
  obtain ⟨rfl, rfl⟩ := trodVars_none hV
  obtain ⟨ts, hpv, hok⟩ := args_open (types_of tysOk) hA (by kernel_rfl) (fun j t v ht hv => hval j t v (by simpa using ht) (by simpa using hv))
  obtain ⟨n, hn⟩ := plain ts hok
  have hlt := DataW.TrodAll.lt hA
  clear hA0 hval0
  have hlaid := table hL
  refine (FnOk.data (sem_ok (drawOk orders) (Go.Proofs.YtdofdhlpheaonaaDoorVM.enters_of entered) prims n YtdofdhlpheaonaaDoorCB.i_L10_CodeBack (e := YtdofdhlpheaonaaDoorCB.e3) rfl) (ps := [50, 50, 3]) (rs := [4]) rfl rfl (by kernel_rfl) (by kernel_rfl) hlaid hpv hn).mono fun e W' ⟨us, he, bel, hus⟩ => ?_
  obtain rfl := bool_of Tryd.underlying4 hus
  subst he
  obtain ⟨d0, d1, d2, rfl⟩ : ∃ d0 d1 d2, ds = [d0, d1, d2] := by
    have hl : ds.length = 3 := (trodAll_length hA).2
    match ds, hl with
    | [a0, a1, a2], _ => exact ⟨a0, a1, a2, rfl⟩
  exact ⟨_, rfl, _, _, _, [], _, [], hW', trodAll_mk1 (shut_bool Tryd.underlying4 _), args_stay laidOut bel hA (by kernel_rfl) hlt, rfl, bel.frame _, fun h => by cases h⟩
theorem said : Rows.CodeBackSaid :=
  OpenClaim.holds_of_cond 6 Tryd.f6 rfl rfl rfl rfl rfl rfl rfl ⟨rfl, rfl, rfl, rfl, rfl⟩ rfl rfl rfl rfl rfl (by kernel_rfl) Tryd.func6 (by kernel_rfl)
    (of_decide_eq_true (by kernel_rfl)) (by unfold Func.isWrapper; first | (rw [if_pos (by decide +kernel)]; kernel_rfl) | (rw [if_neg (by decide +kernel)]; exact ⟨rfl, rfl⟩))
    (fun os started H enc _ F => by rw [OpenClaim.pre_eq_preRow]; exact lifted os started H enc F)
theorem looks (f : FuncId) (fn : Func) (hf : Tryd.pinned.checked.prog.funcNamed "treillage/treillagelaw10.CodeBack" = some f) (hfn : Tryd.pinned.checked.prog.funcs[f]? = some fn) :
    false = Tryd.pinned.checked.prog.looks [] ∧ ∀ (j : Nat) t, fn.params[j]? = some t → Tryd.pinned.checked.prog.wantsStandIn t = false := by
  obtain rfl : f = 6 := Option.some.inj ((show Tryd.prog.funcNamed "treillage/treillagelaw10.CodeBack" = some 6 by kernel_rfl).symm.trans hf) |>.symm
  obtain rfl : fn = Tryd.f6 := (Option.some.inj (Tryd.func6.symm.trans hfn)).symm
  refine ⟨by kernel_rfl, fun j t ht => ?_⟩
  rw [Tryd.params6] at ht
  have hm := Array.mem_of_getElem? ht
  have ha : ([50, 50, 3] : List TypeId).all (fun t => !Tryd.prog.wantsStandIn t) = true := by kernel_rfl
  rw [List.all_eq_true] at ha
  have := ha t (by simpa using hm)
  rw [Bool.not_eq_true'] at this
  exact this
theorem proved : Rows.CodeBackCardSaid :=
  Claim7.holds_tied_plain_at .later [] _ _ _ _ said (fun _ h => by cases h) (by kernel_rfl) (fun _ h => by cases h) codeBack_row_tie rfl ⟨rfl, rfl⟩ (by kernel_rfl) rfl looks (by kernel_rfl)
#print axioms proved
end Go.Proofs.YtdofdhlpheaonaaDoor.codeBack
namespace Go.Proofs.YtdofdhlpheaonaaDoor
theorem codeBack_holds : Rows.CodeBackCardSaid := codeBack.proved
end Go.Proofs.YtdofdhlpheaonaaDoor

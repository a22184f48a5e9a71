/- For every value: what the program writes it as, and that it has none, is what the document says: the law treillagelaw10.CodePuts returns true, whatever the input; the input reads as it did. The words of the language are tied to the program's text. -/
import Derived.Test.YtpfglhjgjfhkjaaDoorCpD
import Derived.Test.YtpfglhjgjfhkjaaDoorCpE
import Derived.Test.YtpfglhjgjfhkjaaDoorVmG
import Derived.Test.YtpfglhjgjfhkjaaDoorCards
import Derived.Test.YtpfglhjgjfhkjaaDoorTie
import Derived.WalkKit
import Derived.ProofKit
import Derived.OpenShut
import Derived.ShutString
import Derived.ChangeOld
import Derived.Below
import Derived.SizedLaws
import Derived.ChangeCalls
import Derived.Deep.DeepHandedRow
import Derived.Lib.LaidTab
namespace Go.Proofs.YtpfglhjgjfhkjaaDoor.codePuts
open Go.ChangeShapes Go.WideShapes Go.ChangeAt Go.RowKit
open Go.Proofs.YtpfglhjgjfhkjaaDoorVM
set_option linter.unusedVariables false
theorem own : ownKnob Tryd.prog.godebug = none := by kernel_rfl
theorem laidOut : laidOutB Tryd.prog = true := by kernel_rfl
theorem orders : Tryd.prog.follows .mixedOrders = true := by kernel_rfl
/-- The types of what is handed in. -/
def tys : List TypeId := [36, 34, 52, 3, 9, 4, 50, 79]
theorem tysOk : tys.all (okTy Tryd.prog tys) = true := by kernel_rfl
theorem entered : YtpfglhjgjfhkjaaDoorCP.ents.all (fun e => entersB Tryd.prog e.fid) = true := by kernel_rfl
/-- slices.Grow, as the library's contract tells it. -/
def growRen : Go.Shelf.Ren := ⟨fun | 4 => 113 | n => n, fun | 22 => 53 | 25 => 5 | n => n, fun n => n⟩
theorem growLaid : Lays8.n4 Tryd.prog growRen := {
  mixed := (by kernel_rfl)
  f4 := ⟨Tryd.f113.name, by decide, Tryd.func113.trans (congrArg some (by kernel_rfl))⟩
  t0 := Tryd.underlying0
  a0 := Tryd.isAgg0
  z0 := Tryd.sizeOf0
  v0 := Tryd.zeroValue0
  t3 := Tryd.underlying3
  a3 := Tryd.isAgg3
  z3 := Tryd.sizeOf3
  v3 := Tryd.zeroValue3
  t4 := Tryd.underlying4
  a4 := Tryd.isAgg4
  z4 := Tryd.sizeOf4
  v4 := Tryd.zeroValue4
  t9 := Tryd.underlying9
  a9 := Tryd.isAgg9
  z9 := Tryd.sizeOf9
  v9 := Tryd.zeroValue9
  t20 := Tryd.underlying20
  a20 := Tryd.isAgg20
  z20 := Tryd.sizeOf20
  v20 := Tryd.zeroValue20
  t22 := Tryd.underlying53
  a22 := Tryd.isAgg53
  z22 := Tryd.sizeOf53
  v22 := Tryd.zeroValue53 }
/-- strings.Compare, likewise. -/
def cmpRen : Go.Shelf.Ren := ⟨fun | 106 => 105 | 213 => 125 | 265 => 135 | n => n, fun n => n, fun n => n⟩
theorem cmpLaid : Lays.n106 Tryd.prog cmpRen := {
  mixed := (by kernel_rfl)
  f106 := Tryd.func105.trans (congrArg some (by kernel_rfl))
  f213 := Tryd.func125.trans (congrArg some (by kernel_rfl))
  f265 := Tryd.func135.trans (congrArg some (by kernel_rfl))
  t3 := Tryd.underlying3
  a3 := Tryd.isAgg3
  z3 := Tryd.sizeOf3
  v3 := Tryd.zeroValue3
  t9 := Tryd.underlying9
  a9 := Tryd.isAgg9
  z9 := Tryd.sizeOf9
  v9 := Tryd.zeroValue9 }
theorem growOk : FnOk Tryd.prog YtpfglhjgjfhkjaaDoorCP.G0 YtpfglhjgjfhkjaaDoorCP.e0 growF :=
  grow_ok growLaid Tryd.underlying3 rfl (i0 := Tryd.t5) (z := .int .u8 0) (by kernel_rfl) (by kernel_rfl) (by kernel_rfl) (by kernel_rfl) (of_decide_eq_true (by kernel_rfl)) (of_decide_eq_true (by kernel_rfl)) (Go.Proofs.YtpfglhjgjfhkjaaDoorVM.enters_of entered 0 YtpfglhjgjfhkjaaDoorCP.e0 rfl)
theorem cmpOk : FnOk Tryd.prog YtpfglhjgjfhkjaaDoorCP.G0 YtpfglhjgjfhkjaaDoorCP.e1 cmpF := cmp_ok cmpLaid Tryd.underlying9 Tryd.underlying3 (Go.Proofs.YtpfglhjgjfhkjaaDoorVM.enters_of entered 1 YtpfglhjgjfhkjaaDoorCP.e1 rfl)
theorem nameOk : FnOk Tryd.prog YtpfglhjgjfhkjaaDoorCP.G0 YtpfglhjgjfhkjaaDoorCP.e2 nameF := YtpfglhjgjfhkjaaDoorWD.name_ok (Go.Proofs.YtpfglhjgjfhkjaaDoorVM.enters_of entered 2 YtpfglhjgjfhkjaaDoorCP.e2 rfl)
theorem noPrims : (YtpfglhjgjfhkjaaDoorCP.ents.drop 3).all (fun e => e.prim.isNone) = true := by kernel_rfl
theorem prims (i : Nat) (e : Entry) (F) (he : YtpfglhjgjfhkjaaDoorCP.ents[i]? = some e) (hp : e.prim = some F) : FnOk Tryd.prog YtpfglhjgjfhkjaaDoorCP.G0 e F := by
  match i, he with
  | 0, he =>
    have h1 : YtpfglhjgjfhkjaaDoorCP.e0 = e := Option.some.inj he
    subst h1
    have h2 : growF = F := Option.some.inj hp
    subst h2
    exact growOk
  | 1, he =>
    have h1 : YtpfglhjgjfhkjaaDoorCP.e1 = e := Option.some.inj he
    subst h1
    have h2 : cmpF = F := Option.some.inj hp
    subst h2
    exact cmpOk
  | 2, he =>
    have h1 : YtpfglhjgjfhkjaaDoorCP.e2 = e := Option.some.inj he
    subst h1
    have h2 : nameF = F := Option.some.inj hp
    subst h2
    exact nameOk
  | i + 3, he => exact prims_of noPrims i e F (by rw [List.getElem?_drop, Nat.add_comm]; exact he) hp
/-- The plain law, of all that may be handed in. -/
theorem plain (ts : List T) (h : TOks Tryd.prog [36] ts) : ∃ n, sem Tryd.prog YtpfglhjgjfhkjaaDoorCP.G0 YtpfglhjgjfhkjaaDoorCP.ents n YtpfglhjgjfhkjaaDoorCP.i_treillagelaw10_CodePuts (ts.map A.t) = some [A.t (.bool true)] := by
  match ts, h with
  | [t0], _ => exact (YtpfglhjgjfhkjaaDoorCP.law_does t0).sem
/-- The words of the language, as they are laid. -/
theorem gWords : Tryd.prog.globalNamed "treillage/name.words" = some 1 := by kernel_rfl
theorem tWords : (Tryd.prog.globals[1]?).map (·.type) = some 110 := by kernel_rfl
theorem c9 : Tryd.prog.cellsOf 9 = 1 := by kernel_rfl
theorem c110 : Tryd.prog.cellsOf 110 = 9 := by kernel_rfl
theorem k110 : csz Tryd.prog 110 = some 9 := by kernel_rfl
theorem a110 : arrOf Tryd.prog 110 = some (9, 9, 1) := by kernel_rfl
theorem wordsD : (Rows.laid_treillage_name_words : DataW Unit) = .agg (wordsL.map fun w => .lit (.string w.data.toList)) := rfl
theorem table {W : World} (h : laidMetH Tryd.prog Rows.codePutsRow.laid W) : YtpfglhjgjfhkjaaDoorWD.Laid W := by
  rw [MakeChecks.laidMetH_plain _ _ _ (by kernel_rfl)] at h
  obtain ⟨ps, ⟨g0, t0, cs0, f0, p0, q0, hg0, ht0, hv0, hd0, _, _⟩, _, _⟩ := h
  obtain rfl := Option.some.inj (gWords.symm.trans hg0)
  obtain rfl := Option.some.inj (tWords.symm.trans ht0)
  obtain ⟨xs, m, rfl, hx1, hlen, hn, hel⟩ := DataW.trod_array Tryd.underlying110 hd0
  rw [wordsD] at hx1
  simp only [Prod.mk.injEq, DataW.agg.injEq] at hx1
  rw [c110] at hlen
  rw [c9] at hel
  have hcell : ∃ el fr, W.heap[1]? = some (.cells cs0 el fr) := by
    unfold World.var? at hv0
    rw [gWords] at hv0
    simp only [Option.bind_some] at hv0
    split at hv0
    · rename_i cs el fr hh
      cases hv0
      exact ⟨el, fr, hh⟩
    · cases hv0
  obtain ⟨el, fr, hh⟩ := hcell
  have hsz : cs0.size = 9 := by rw [← Array.length_toList]; exact hlen
  intro g τ t hm
  obtain ⟨rfl, rfl, rfl⟩ : g = 1 ∧ τ = 110 ∧ t = .node (wordsL.map T.str) := by
    have : (g, τ, t) = (1, 110, .node (wordsL.map T.str)) := List.mem_singleton.1 hm
    simpa using this
  refine ⟨cs0, el, fr, 9, hh, k110, ?_, by omega⟩
  rw [List.take_of_length_le (by omega)]
  refine .arr a110 (by omega) fun i hi => ?_
  have hi2 : i < wordsL.length := hi
  have hxi : i < xs.length := by omega
  have h1 := hel i hi
  rw [List.getElem?_eq_getElem hxi] at h1
  obtain ⟨s, e1, e2, _⟩ := DataW.trod_string Tryd.underlying9 h1
  rw [e1]
  have hw : s = wordsL[i] := by
    have h3 : (xs.map (·.1))[i]? = (wordsL.map fun w => (DataW.lit (.string w.data.toList) : DataW Unit))[i]? := by rw [hx1.1]
    rw [List.getElem?_map, List.getElem?_map, List.getElem?_eq_getElem hxi, List.getElem?_eq_getElem hi2, e2] at h3
    simp only [Option.map_some, Option.some.injEq, DataW.lit.injEq, Lit.string.injEq] at h3
    exact ByteArray.ext (Array.toList_inj.1 h3)
  have hg : T.get (.node (wordsL.map T.str)) i = .str wordsL[i] := by
    show (wordsL.map T.str).getD i (.node []) = _
    rw [List.getD, List.getElem?_map, List.getElem?_eq_getElem hi2]
    rfl
  rw [hg, hw]
  exact .str Tryd.underlying9
/-- A world for the witness: the settled one, the words laid. -/
noncomputable def laidWorld (os : Os) : World :=
  { World.holding Tryd.prog os ⟨#[], #[], []⟩ with heap := (World.holding Tryd.prog os ⟨#[], #[], []⟩).heap.modify 1 fun
      | .cells _ t frozen => .cells (wordsL.map Value.string).toArray t frozen
      | o => o }
theorem laid_met (os : Os) : laidMet Tryd.prog Rows.codePutsRow.laid ((laidWorld os).forCall (fun _ _ => 0) ⟨#[], #[.agg #[.slice none 0 0]], []⟩).memory :=
  laidMet_of_run' 8 (by kernel_rfl) (by kernel_rfl)
theorem reads (os : Os) {H : Type} (enc : TypeId × Value → H) : ∃ places, DataW.whole enc Tryd.prog ((laidWorld os).forCall (fun _ _ => 0) ⟨#[], #[.agg #[.slice none 0 0]], []⟩).memory Tryd.f4.params.toList Rows.codePutsSpec.vars false #[Value.agg #[.slice none 0 0]].toList 8 = some ([.agg [.nil]], [], places) :=
  ⟨[], by kernel_rfl⟩
set_option maxRecDepth 100000 in
theorem lifted (os : Os) (started : os.Started) (H : Type) (enc : TypeId × Value → H) (F : Stop.Interp) :
    ReturnsInHanded {} Tryd.checked os 4 .any ((OpenSpec.ofChange Rows.codePutsSpec).preRow enc Tryd.prog Tryd.f4 Rows.codePutsRow.domain false Rows.codePutsRow.laid) (((OpenSpec.ofChange Rows.codePutsSpec).at F).post enc Tryd.prog Tryd.f4 false true false false) := by
  obtain ⟨places, hx⟩ := reads os enc
  refine returnsInHanded_of_row (C := Tryd.checked) (s := OpenSpec.ofChange Rows.codePutsSpec) own started (by kernel_rfl) Tryd.func4
    (witness_row_at (enc := enc) (C := Tryd.checked) false (laidWorld os) #[.agg #[.slice none 0 0]] rfl (by kernel_rfl) (by kernel_rfl) (by kernel_rfl)
      (OpenSpec.preRow_of_cond 8 hx (by kernel_rfl) (fun k hk => by cases hk) (by kernel_rfl) (laid_met os))) ?_
  intro W base args ds gs before hval0 hW _ _ _ hL _ _
  have hval : ∀ (j : Nat) t v, Tryd.f4.params[j]? = some t → args[j]? = some v → Value.okWide Tryd.prog W .any base t v := hval0
  have hW' := hW
  obtain ⟨p, q, hA0, hV, rfl, hfz, hnd⟩ := hW
  have hA : DataW.TrodAll enc Tryd.prog W 0 (fun _ => true) true Tryd.f4.params.toList args.toList ds p := hA0
  rw [Tryd.params4] at hA hval
  obtain ⟨rfl, rfl⟩ := trodVars_none hV
  obtain ⟨ts, hpv, hok⟩ := args_open (types_of tysOk) hA (by kernel_rfl) (fun j t v ht hv => hval j t v (by simpa using ht) (by simpa using hv))
  obtain ⟨n, hn⟩ := plain ts hok
  have hlt := DataW.TrodAll.lt hA
  clear hA0 hval0
  have hlaid := table hL
  refine (FnOk.data (sem_ok (drawOk orders) (Go.Proofs.YtpfglhjgjfhkjaaDoorVM.enters_of entered) prims n YtpfglhjgjfhkjaaDoorCP.i_treillagelaw10_CodePuts (e := YtpfglhjgjfhkjaaDoorCP.e3) rfl) (ps := [36]) (rs := [4]) rfl rfl (by kernel_rfl) (by kernel_rfl) hlaid hpv hn).mono fun e W' ⟨us, he, bel, hus⟩ => ?_
  obtain rfl := bool_of Tryd.underlying4 hus
  subst he
  obtain ⟨d0, rfl⟩ : ∃ d0, ds = [d0] := by
    have hl : ds.length = 1 := (trodAll_length hA).2
    match ds, hl with
    | [a], _ => exact ⟨a, rfl⟩
  exact ⟨_, rfl, _, _, _, [], _, [], hW', trodAll_mk1 (shut_bool Tryd.underlying4 _), args_stay laidOut bel hA (by kernel_rfl) hlt, rfl, bel.frame _, fun h => by cases h⟩
theorem said : Rows.CodePutsSaid :=
  OpenClaim.holds_of_cond 4 Tryd.f4 rfl rfl rfl rfl rfl rfl rfl ⟨rfl, rfl, rfl, rfl, rfl⟩ rfl rfl rfl rfl rfl (by kernel_rfl) Tryd.func4 (by kernel_rfl)
    (of_decide_eq_true (by kernel_rfl)) (by unfold Func.isWrapper; first | (rw [if_pos (by decide +kernel)]; kernel_rfl) | (rw [if_neg (by decide +kernel)]; exact ⟨rfl, rfl⟩))
    (fun os started H enc _ F => by rw [OpenClaim.pre_eq_preRow]; exact lifted os started H enc F)
/-- No parameter wants a stand-in; the program's own looks are off: what the card asks. -/
theorem looks (f : FuncId) (fn : Func) (hf : Tryd.pinned.checked.prog.funcNamed "treillage/treillagelaw10.CodePuts" = some f) (hfn : Tryd.pinned.checked.prog.funcs[f]? = some fn) :
    false = Tryd.pinned.checked.prog.looks [] ∧ ∀ (j : Nat) t, fn.params[j]? = some t → Tryd.pinned.checked.prog.wantsStandIn t = false := by
  obtain rfl : f = 4 := Option.some.inj ((show Tryd.prog.funcNamed "treillage/treillagelaw10.CodePuts" = some 4 by kernel_rfl).symm.trans hf) |>.symm
  obtain rfl : fn = Tryd.f4 := (Option.some.inj (Tryd.func4.symm.trans hfn)).symm
  refine ⟨by kernel_rfl, fun j t ht => ?_⟩
  rw [Tryd.params4] at ht
  obtain rfl : t = 36 := by simpa using Array.mem_of_getElem? ht
  exact (show Tryd.prog.wantsStandIn 36 = false by kernel_rfl)
/-- The card. -/
theorem proved : Rows.CodePutsCardSaid :=
  Claim7.holds_tied_plain_at .later [] _ _ _ _ said (fun _ h => by cases h) (by kernel_rfl) (fun _ h => by cases h) codePuts_row_tie rfl ⟨rfl, rfl⟩ (by kernel_rfl) rfl looks (by kernel_rfl)
#print axioms proved
end Go.Proofs.YtpfglhjgjfhkjaaDoor.codePuts
namespace Go.Proofs.YtpfglhjgjfhkjaaDoor
/-- The card, under a short name, for the claim. -/
theorem codePuts_holds : Rows.CodePutsCardSaid := codePuts.proved
end Go.Proofs.YtpfglhjgjfhkjaaDoor

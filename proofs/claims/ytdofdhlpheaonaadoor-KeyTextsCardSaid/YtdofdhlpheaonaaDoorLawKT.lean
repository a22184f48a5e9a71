/- treillage, treillagelaw22.KeyTexts: for every input the law returns true, and each argument reads as it did: the row, and its card (the words of the language are laid). -/
import Derived.Test.YtdofdhlpheaonaaDoorKTB
import Derived.Test.YtdofdhlpheaonaaDoorWd
import Derived.Test.YtdofdhlpheaonaaDoorVmZq
import Derived.Test.YtdofdhlpheaonaaDoorVmZt
import Derived.Test.YtdofdhlpheaonaaDoorVmZu
import Derived.Test.YtdofdhlpheaonaaDoorVmZw
import Derived.Test.YtdofdhlpheaonaaDoorVmC
import Derived.Test.YtdofdhlpheaonaaDoorCards
import Derived.Test.YtdofdhlpheaonaaDoorTie
import Derived.WalkKit
import Derived.ProofKit
import Derived.OpenShut
import Derived.ShutString
import Derived.ChangeOld
import Derived.Below
import Derived.SizedLaws
import Derived.ChangeCalls
import Derived.Deep.DeepHandedRow
import Derived.Lib.LaidTab
namespace Go.Proofs.YtdofdhlpheaonaaDoor.keyTexts
open Go.ChangeShapes Go.WideShapes Go.ChangeAt Go.RowKit
open Go.Proofs.YtdofdhlpheaonaaDoorVM
set_option maxRecDepth 100000
set_option linter.unusedVariables false
theorem own : ownKnob Tryd.prog.godebug = none := by kernel_rfl
theorem laidOut : laidOutB Tryd.prog = true := by kernel_rfl
theorem orders : Tryd.prog.follows .mixedOrders = true := by kernel_rfl
def tys : List TypeId := [24, 9, 4, 22, 74, 3, 69, 72, 137]
theorem tysOk : tys.all (okTy Tryd.prog tys) = true := by kernel_rfl
theorem entered : YtdofdhlpheaonaaDoorKT.ents.all (fun e => entersB Tryd.prog e.fid) = true := by kernel_rfl
def joinRen : Go.Shelf.Ren := ⟨fun | 156 => 41 | 165 => 77 | 166 => 78 | 169 => 79 | 240 => 129 | 241 => 130 | 276 => 159 | 277 => 160 | n => n, fun | 31 => 69 | 37 => 106 | 70 => 124 | 72 => 126 | 75 => 129 | 76 => 130 | 80 => 132 | 127 => 174 | 164 => 195 | n => n, fun n => n⟩
theorem joinLaid : Lays.n156 Tryd.prog joinRen := {
  mixed := (by kernel_rfl)
  f156 := Tryd.func41.trans (congrArg some (by kernel_rfl))
  f165 := Tryd.func77.trans (congrArg some (by kernel_rfl))
  f166 := Tryd.func78.trans (congrArg some (by kernel_rfl))
  f169 := Tryd.func79.trans (congrArg some (by kernel_rfl))
  f240 := Tryd.func129.trans (congrArg some (by kernel_rfl))
  f241 := Tryd.func130.trans (congrArg some (by kernel_rfl))
  f276 := Tryd.func159.trans (congrArg some (by kernel_rfl))
  f277 := Tryd.func160.trans (congrArg some (by kernel_rfl))
  t0 := Tryd.underlying0
  a0 := Tryd.isAgg0
  z0 := Tryd.sizeOf0
  v0 := Tryd.zeroValue0
  t3 := Tryd.underlying3
  a3 := Tryd.isAgg3
  z3 := Tryd.sizeOf3
  v3 := Tryd.zeroValue3
  t4 := Tryd.underlying4
  a4 := Tryd.isAgg4
  z4 := Tryd.sizeOf4
  v4 := Tryd.zeroValue4
  t9 := Tryd.underlying9
  a9 := Tryd.isAgg9
  z9 := Tryd.sizeOf9
  v9 := Tryd.zeroValue9
  t20 := Tryd.underlying20
  a20 := Tryd.isAgg20
  z20 := Tryd.sizeOf20
  v20 := Tryd.zeroValue20
  t31 := Tryd.underlying69
  a31 := Tryd.isAgg69
  z31 := Tryd.sizeOf69
  v31 := Tryd.zeroValue69
  t37 := Tryd.underlying106
  a37 := Tryd.isAgg106
  z37 := Tryd.sizeOf106
  v37 := Tryd.zeroValue106
  t70 := Tryd.underlying124
  a70 := Tryd.isAgg124
  z70 := Tryd.sizeOf124
  v70 := Tryd.zeroValue124
  t72 := Tryd.underlying126
  a72 := Tryd.isAgg126
  z72 := Tryd.sizeOf126
  v72 := Tryd.zeroValue126
  t75 := Tryd.underlying129
  a75 := Tryd.isAgg129
  z75 := Tryd.sizeOf129
  v75 := Tryd.zeroValue129
  t76 := Tryd.underlying130
  a76 := Tryd.isAgg130
  z76 := Tryd.sizeOf130
  v76 := Tryd.zeroValue130
  t127 := Tryd.underlying174
  a127 := Tryd.isAgg174
  z127 := Tryd.sizeOf174
  v127 := Tryd.zeroValue174
  t164 := Tryd.underlying195
  a164 := Tryd.isAgg195
  z164 := Tryd.sizeOf195
  v164 := Tryd.zeroValue195
}
theorem joinExtra : Builder.Extra Tryd.prog joinRen := {
  sizeBuilder := (by kernel_rfl)
  liesBuilder := (by kernel_rfl)
  t5 := Tryd.underlying5
  a5 := Tryd.isAgg5
  z5 := Tryd.sizeOf5
  v5 := Tryd.zeroValue5
  infoByte := (by kernel_rfl)
  cellsByte := (by kernel_rfl)
  sizeByte := (by kernel_rfl)
  neB5 := (by decide)
}

theorem noPrims1 : ((YtdofdhlpheaonaaDoorKT.ents.drop 2).take 51).all (fun e => e.prim.isNone) = true := by kernel_rfl
theorem noPrims2 : (YtdofdhlpheaonaaDoorKT.ents.drop 54).all (fun e => e.prim.isNone) = true := by kernel_rfl
theorem prims (i : Nat) (e : Entry) (F) (he : YtdofdhlpheaonaaDoorKT.ents[i]? = some e) (hp : e.prim = some F) : FnOk Tryd.prog YtdofdhlpheaonaaDoorKT.G0 e F := by
  by_cases hi : i = 53
  · subst hi
    have h1 : YtdofdhlpheaonaaDoorKT.e53 = e := Option.some.inj he
    subst h1
    have h2 : joinOF = F := Option.some.inj hp
    subst h2
    exact joinO_ok joinLaid joinExtra (ts := 9) Tryd.underlying9 (by kernel_rfl) (Go.Proofs.YtdofdhlpheaonaaDoorVM.enters_of entered 53 YtdofdhlpheaonaaDoorKT.e53 rfl)
  by_cases hj : 53 < i
  · exact prims_of noPrims2 (i - 54) e F (by rw [List.getElem?_drop, show 54 + (i - 54) = i by omega]; exact he) hp
  match i, he with
  | 0, he =>
    have h1 : YtdofdhlpheaonaaDoorKT.e0 = e := Option.some.inj he
    subst h1
    have h2 : nameF = F := Option.some.inj hp
    subst h2
    exact YtdofdhlpheaonaaDoorWD.name_okG (fun x h => List.mem_cons.2 (.inl (List.mem_singleton.1 h))) (Go.Proofs.YtdofdhlpheaonaaDoorVM.enters_of entered 0 YtdofdhlpheaonaaDoorKT.e0 rfl)
  | 1, he =>
    have h1 : YtdofdhlpheaonaaDoorKT.e1 = e := Option.some.inj he
    subst h1
    have h2 : joinF = F := Option.some.inj hp
    subst h2
    exact join_ok joinLaid joinExtra (tr := 69) (ts := 9) Tryd.underlying69 Tryd.underlying9 (by kernel_rfl) (Go.Proofs.YtdofdhlpheaonaaDoorVM.enters_of entered 1 YtdofdhlpheaonaaDoorKT.e1 rfl)
  | i + 2, he => exact prims_of noPrims1 i e F (by rw [List.getElem?_take, if_pos (by omega), List.getElem?_drop, Nat.add_comm]; exact he) hp
theorem plain (ts : List T) (h : TOks Tryd.prog [24, 3] ts) : ∃ n, sem Tryd.prog YtdofdhlpheaonaaDoorKT.G0 YtdofdhlpheaonaaDoorKT.ents n YtdofdhlpheaonaaDoorKT.i_L22_KeyTexts (ts.map A.t) = some [A.t (.bool true)] := by
  match ts, h with
  | [t0, t1], _ => exact (YtdofdhlpheaonaaDoorKT.law_does t0 t1).sem
theorem laidStr {W : World} {nm : String} {g t n f : Nat} {ws : List ByteArray} {cs : Array Value} {p : List MemPlace} (hg : Tryd.prog.globalNamed nm = some g) (hu : Tryd.prog.underlying t = some (.array n 9)) (h9 : Tryd.prog.cellsOf 9 = 1) (hc : Tryd.prog.cellsOf t = n)
    (hk : csz Tryd.prog t = some n) (ha : arrOf Tryd.prog t = some (n, 9, 1)) (hn : ws.length = n) (hv : W.var? Tryd.prog nm = some cs) (hd : DataW.trod (H := Unit) (fun _ => ()) Tryd.prog W 0 (fun _ => true) false f t cs.toList = some (.agg (ws.map fun w => .lit (.string w.data.toList)), p)) :
    ∃ c el fr s, W.heap[g]? = some (.cells c el fr) ∧ csz Tryd.prog t = some s ∧ PRep Tryd.prog W (fun _ => True) t (.node (ws.map T.str)) (c.toList.take s) ∧ s ≤ c.size := by
  obtain ⟨xs, m, rfl, hx1, hlen, hnn, hel⟩ := DataW.trod_array hu hd
  simp only [Prod.mk.injEq, DataW.agg.injEq] at hx1
  rw [hc] at hlen
  rw [h9] at hel
  have hcell : ∃ el fr, W.heap[g]? = some (.cells cs el fr) := by
    unfold World.var? at hv
    rw [hg] at hv
    simp only [Option.bind_some] at hv
    split at hv
    · rename_i cs el fr hh
      cases hv
      exact ⟨el, fr, hh⟩
    · cases hv
  obtain ⟨el, fr, hh⟩ := hcell
  have hsz : cs.size = n := by rw [← Array.length_toList]; exact hlen
  refine ⟨cs, el, fr, n, hh, hk, ?_, by omega⟩
  rw [List.take_of_length_le (by omega)]
  refine .arr ha (by omega) fun i hi => ?_
  have hi2 : i < ws.length := by omega
  have hxi : i < xs.length := by omega
  have h1 := hel i hi
  rw [List.getElem?_eq_getElem hxi] at h1
  obtain ⟨s, e1, e2, _⟩ := DataW.trod_string Tryd.underlying9 h1
  rw [e1]
  have hw : s = ws[i] := by
    have h3 : (xs.map (·.1))[i]? = (ws.map fun w => (DataW.lit (.string w.data.toList) : DataW Unit))[i]? := by rw [hx1.1]
    rw [List.getElem?_map, List.getElem?_map, List.getElem?_eq_getElem hxi, List.getElem?_eq_getElem hi2, e2] at h3
    simp only [Option.map_some, Option.some.injEq, DataW.lit.injEq, Lit.string.injEq] at h3
    exact ByteArray.ext (Array.toList_inj.1 h3)
  have hgt : T.get (.node (ws.map T.str)) i = .str ws[i] := by
    show (ws.map T.str).getD i (.node []) = _
    rw [List.getD, List.getElem?_map, List.getElem?_eq_getElem hi2]
    rfl
  rw [hgt, hw]
  exact .str Tryd.underlying9
theorem laidInt {W : World} {nm : String} {g t n f : Nat} {ws : List Int} {cs : Array Value} {p : List MemPlace} (hg : Tryd.prog.globalNamed nm = some g) (hu : Tryd.prog.underlying t = some (.array n 3)) (h9 : Tryd.prog.cellsOf 3 = 1) (hc : Tryd.prog.cellsOf t = n)
    (hk : csz Tryd.prog t = some n) (ha : arrOf Tryd.prog t = some (n, 3, 1)) (hn : ws.length = n) (hv : W.var? Tryd.prog nm = some cs) (hd : DataW.trod (H := Unit) (fun _ => ()) Tryd.prog W 0 (fun _ => true) false f t cs.toList = some (.agg (ws.map fun w => .lit (.int .i64 w)), p)) :
    ∃ c el fr s, W.heap[g]? = some (.cells c el fr) ∧ csz Tryd.prog t = some s ∧ PRep Tryd.prog W (fun _ => True) t (.node (ws.map T.int)) (c.toList.take s) ∧ s ≤ c.size := by
  obtain ⟨xs, m, rfl, hx1, hlen, hnn, hel⟩ := DataW.trod_array hu hd
  simp only [Prod.mk.injEq, DataW.agg.injEq] at hx1
  rw [hc] at hlen
  rw [h9] at hel
  have hcell : ∃ el fr, W.heap[g]? = some (.cells cs el fr) := by
    unfold World.var? at hv
    rw [hg] at hv
    simp only [Option.bind_some] at hv
    split at hv
    · rename_i cs el fr hh
      cases hv
      exact ⟨el, fr, hh⟩
    · cases hv
  obtain ⟨el, fr, hh⟩ := hcell
  have hsz : cs.size = n := by rw [← Array.length_toList]; exact hlen
  refine ⟨cs, el, fr, n, hh, hk, ?_, by omega⟩
  rw [List.take_of_length_le (by omega)]
  refine .arr ha (by omega) fun i hi => ?_
  have hi2 : i < ws.length := by omega
  have hxi : i < xs.length := by omega
  have h1 := hel i hi
  rw [List.getElem?_eq_getElem hxi] at h1
  obtain ⟨s, e1, e2, _⟩ := DataW.trod_int Tryd.underlying3 h1
  rw [e1]
  have hw : s = ws[i] := by
    have h3 : (xs.map (·.1))[i]? = (ws.map fun w => (DataW.lit (.int .i64 w) : DataW Unit))[i]? := by rw [hx1.1]
    rw [List.getElem?_map, List.getElem?_map, List.getElem?_eq_getElem hxi, List.getElem?_eq_getElem hi2, e2] at h3
    simpa using h3
  have hgt : T.get (.node (ws.map T.int)) i = .int ws[i] := by
    show (ws.map T.int).getD i (.node []) = _
    rw [List.getD, List.getElem?_map, List.getElem?_eq_getElem hi2]
    rfl
  rw [hgt, hw]
  exact .int Tryd.underlying3
theorem gN0 : Tryd.prog.globalNamed "treillage/name.words" = some 1 := by kernel_rfl
theorem gT0 : (Tryd.prog.globals[1]?).map (·.type) = some 176 := by kernel_rfl
def gL0 : List ByteArray := (match (YtdofdhlpheaonaaDoorKT.G0.find? fun (x : Nat × TypeId × T) => Nat.beq x.1 1) with | some (_, _, .node l) => l | _ => []).map T.txt
theorem gD0 : (Rows.laid_treillage_name_words : DataW Unit) = .agg (gL0.map fun w => .lit (.string w.data.toList)) := rfl
theorem gN1 : Tryd.prog.globalNamed "treillage/show.binds" = some 3 := by kernel_rfl
theorem gT1 : (Tryd.prog.globals[3]?).map (·.type) = some 221 := by kernel_rfl
def gL1 : List Int := (match (YtdofdhlpheaonaaDoorKT.G0.find? fun (x : Nat × TypeId × T) => Nat.beq x.1 3) with | some (_, _, .node l) => l | _ => []).map T.num
theorem gD1 : (Rows.laid_treillage_show_binds : DataW Unit) = .agg (gL1.map fun w => .lit (.int .i64 w)) := rfl
theorem gN2 : Tryd.prog.globalNamed "treillage/show.signs" = some 2 := by kernel_rfl
theorem gT2 : (Tryd.prog.globals[2]?).map (·.type) = some 194 := by kernel_rfl
def gL2 : List ByteArray := (match (YtdofdhlpheaonaaDoorKT.G0.find? fun (x : Nat × TypeId × T) => Nat.beq x.1 2) with | some (_, _, .node l) => l | _ => []).map T.txt
theorem gD2 : (Rows.laid_treillage_show_signs : DataW Unit) = .agg (gL2.map fun w => .lit (.string w.data.toList)) := rfl
theorem gN3 : Tryd.prog.globalNamed "treillage/show.kinds" = some 0 := by kernel_rfl
theorem gT3 : (Tryd.prog.globals[0]?).map (·.type) = some 170 := by kernel_rfl
def gL3 : List ByteArray := (match (YtdofdhlpheaonaaDoorKT.G0.find? fun (x : Nat × TypeId × T) => Nat.beq x.1 0) with | some (_, _, .node l) => l | _ => []).map T.txt
theorem gD3 : (Rows.laid_treillage_show_kinds : DataW Unit) = .agg (gL3.map fun w => .lit (.string w.data.toList)) := rfl
theorem table {W : World} (h : laidMetH Tryd.prog Rows.keyTextsRow.laid W) : ∀ g τ t, (g, τ, t) ∈ YtdofdhlpheaonaaDoorKT.G0 → ∃ c el fr s, W.heap[g]? = some (.cells c el fr) ∧ csz Tryd.prog τ = some s ∧ PRep Tryd.prog W (fun _ => True) τ t (c.toList.take s) ∧ s ≤ c.size := by
  rw [MakeChecks.laidMetH_plain _ _ _ (by kernel_rfl)] at h
  obtain ⟨ps, ⟨g0, t0, cs0, f0, p0, q0, hg0, ht0, hv0, hd0, ⟨g1, t1, cs1, f1, p1, q1, hg1, ht1, hv1, hd1, ⟨g2, t2, cs2, f2, p2, q2, hg2, ht2, hv2, hd2, ⟨g3, t3, cs3, f3, p3, q3, hg3, ht3, hv3, hd3, _, _⟩, _⟩, _⟩, _⟩, _, _⟩ := h
  obtain rfl := Option.some.inj (gN0.symm.trans hg0)
  obtain rfl := Option.some.inj (gT0.symm.trans ht0)
  rw [gD0] at hd0
  obtain rfl := Option.some.inj (gN1.symm.trans hg1)
  obtain rfl := Option.some.inj (gT1.symm.trans ht1)
  rw [gD1] at hd1
  obtain rfl := Option.some.inj (gN2.symm.trans hg2)
  obtain rfl := Option.some.inj (gT2.symm.trans ht2)
  rw [gD2] at hd2
  obtain rfl := Option.some.inj (gN3.symm.trans hg3)
  obtain rfl := Option.some.inj (gT3.symm.trans ht3)
  rw [gD3] at hd3
  intro g τ t hm
  have hm' : (g, τ, t) ∈ [(1, 176, T.node (gL0.map T.str)), (0, 170, T.node (gL3.map T.str)), (2, 194, T.node (gL2.map T.str)), (3, 221, T.node (gL1.map T.int))] := hm
  simp only [List.mem_cons, List.not_mem_nil, or_false, Prod.mk.injEq] at hm'
  rcases hm' with ⟨rfl, rfl, rfl⟩ | ⟨rfl, rfl, rfl⟩ | ⟨rfl, rfl, rfl⟩ | ⟨rfl, rfl, rfl⟩
  · exact laidStr gN0 Tryd.underlying176 (by kernel_rfl) (by kernel_rfl) (by kernel_rfl) (by kernel_rfl) (by kernel_rfl) hv0 hd0
  · exact laidStr gN3 Tryd.underlying170 (by kernel_rfl) (by kernel_rfl) (by kernel_rfl) (by kernel_rfl) (by kernel_rfl) hv3 hd3
  · exact laidStr gN2 Tryd.underlying194 (by kernel_rfl) (by kernel_rfl) (by kernel_rfl) (by kernel_rfl) (by kernel_rfl) hv2 hd2
  · exact laidInt gN1 Tryd.underlying221 (by kernel_rfl) (by kernel_rfl) (by kernel_rfl) (by kernel_rfl) (by kernel_rfl) hv1 hd1
noncomputable def laidHeap (os : Os) := Array.modify (Array.modify (Array.modify (Array.modify (World.holding Tryd.prog os ⟨#[], #[], []⟩).heap 1 (fun
      | .cells _ t frozen => .cells (gL0.map Value.string).toArray t frozen
      | o => o)) 3 (fun
      | .cells _ t frozen => .cells (gL1.map (Value.int .i64)).toArray t frozen
      | o => o)) 2 (fun
      | .cells _ t frozen => .cells (gL2.map Value.string).toArray t frozen
      | o => o)) 0 (fun
      | .cells _ t frozen => .cells (gL3.map Value.string).toArray t frozen
      | o => o)
noncomputable def laidWorld (os : Os) : World := { World.holding Tryd.prog os ⟨#[], #[], []⟩ with heap := laidHeap os }
theorem laid_met (os : Os) : laidMet Tryd.prog Rows.keyTextsRow.laid ((laidWorld os).forCall (fun _ _ => 0) ⟨#[], #[.agg #[.string ⟨#[]⟩, .bool false, .slice none 0 0], .int .i64 0], []⟩).memory :=
  laidMet_of_run' 8 (by kernel_rfl) (by kernel_rfl)
theorem reads (os : Os) {H : Type} (enc : TypeId × Value → H) : ∃ places, DataW.whole enc Tryd.prog ((laidWorld os).forCall (fun _ _ => 0) ⟨#[], #[.agg #[.string ⟨#[]⟩, .bool false, .slice none 0 0], .int .i64 0], []⟩).memory Tryd.f3.params.toList Rows.keyTextsSpec.vars false #[.agg #[.string ⟨#[]⟩, .bool false, .slice none 0 0], .int .i64 0].toList 8 = some ([.agg [.lit (.string []), .lit (.bool false), .nil], .lit (.int .i64 0)], [], places) :=
  ⟨[], by kernel_rfl⟩
set_option maxRecDepth 100000 in
theorem lifted (os : Os) (started : os.Started) (H : Type) (enc : TypeId × Value → H) (F : Stop.Interp) :
    ReturnsInHanded {} Tryd.checked os 3 .any ((OpenSpec.ofChange Rows.keyTextsSpec).preRow enc Tryd.prog Tryd.f3 Rows.keyTextsRow.domain false Rows.keyTextsRow.laid) (((OpenSpec.ofChange Rows.keyTextsSpec).at F).post enc Tryd.prog Tryd.f3 false true false false) := by
  obtain ⟨places, hx⟩ := reads os enc
  refine returnsInHanded_of_row (C := Tryd.checked) (s := OpenSpec.ofChange Rows.keyTextsSpec) own started (by kernel_rfl) Tryd.func3
    (witness_row_at (enc := enc) (C := Tryd.checked) false (laidWorld os) #[.agg #[.string ⟨#[]⟩, .bool false, .slice none 0 0], .int .i64 0] rfl (by kernel_rfl) (by kernel_rfl) (by kernel_rfl)
      (OpenSpec.preRow_of_cond 8 hx (by kernel_rfl) (fun k hk => by cases hk) (by kernel_rfl) (laid_met os))) ?_
  intro W base args ds gs before hval0 hW _ _ _ hL _ _
  have hval : ∀ (j : Nat) t v, Tryd.f3.params[j]? = some t → args[j]? = some v → Value.okWide Tryd.prog W .any base t v := hval0
  have hW' := hW
  obtain ⟨p, q, hA0, hV, rfl, hfz, hnd⟩ := hW
  have hA : DataW.TrodAll enc Tryd.prog W 0 (fun _ => true) true Tryd.f3.params.toList args.toList ds p := hA0
  rw [Tryd.params3] at hA hval
  obtain ⟨rfl, rfl⟩ := trodVars_none hV
  obtain ⟨ts, hpv, hok⟩ := args_open (types_of tysOk) hA (by kernel_rfl) (fun j t v ht hv => hval j t v (by simpa using ht) (by simpa using hv))
  obtain ⟨n, hn⟩ := plain ts hok
  have hlt := DataW.TrodAll.lt hA
  clear hA0 hval0
  have hlaid := table hL
  refine (FnOk.data (sem_ok (drawOk orders) (Go.Proofs.YtdofdhlpheaonaaDoorVM.enters_of entered) prims n YtdofdhlpheaonaaDoorKT.i_L22_KeyTexts (e := YtdofdhlpheaonaaDoorKT.e2) rfl) (ps := [24, 3]) (rs := [4]) rfl rfl (by kernel_rfl) (by kernel_rfl) hlaid hpv hn).mono fun e W' ⟨us, he, bel, hus⟩ => ?_
  obtain rfl := bool_of Tryd.underlying4 hus
  subst he
  obtain ⟨d0, d1, rfl⟩ : ∃ d0 d1, ds = [d0, d1] := by
    have hl : ds.length = 2 := (trodAll_length hA).2
    match ds, hl with
    | [a0, a1], _ => exact ⟨a0, a1, rfl⟩
  exact ⟨_, rfl, _, _, _, [], _, [], hW', trodAll_mk1 (shut_bool Tryd.underlying4 _), args_stay laidOut bel hA (by kernel_rfl) hlt, rfl, bel.frame _, fun h => by cases h⟩
theorem said : Rows.KeyTextsSaid :=
  OpenClaim.holds_of_cond 3 Tryd.f3 rfl rfl rfl rfl rfl rfl rfl ⟨rfl, rfl, rfl, rfl, rfl⟩ rfl rfl rfl rfl rfl (by kernel_rfl) Tryd.func3 (by kernel_rfl)
    (of_decide_eq_true (by kernel_rfl)) (by unfold Func.isWrapper; first | (rw [if_pos (by decide +kernel)]; kernel_rfl) | (rw [if_neg (by decide +kernel)]; exact ⟨rfl, rfl⟩))
    (fun os started H enc _ F => by rw [OpenClaim.pre_eq_preRow]; exact lifted os started H enc F)
theorem looks (f : FuncId) (fn : Func) (hf : Tryd.pinned.checked.prog.funcNamed "treillage/treillagelaw22.KeyTexts" = some f) (hfn : Tryd.pinned.checked.prog.funcs[f]? = some fn) :
    false = Tryd.pinned.checked.prog.looks [] ∧ ∀ (j : Nat) t, fn.params[j]? = some t → Tryd.pinned.checked.prog.wantsStandIn t = false := by
  obtain rfl : f = 3 := Option.some.inj ((show Tryd.prog.funcNamed "treillage/treillagelaw22.KeyTexts" = some 3 by kernel_rfl).symm.trans hf) |>.symm
  obtain rfl : fn = Tryd.f3 := (Option.some.inj (Tryd.func3.symm.trans hfn)).symm
  refine ⟨by kernel_rfl, fun j t ht => ?_⟩
  rw [Tryd.params3] at ht
  have hm := Array.mem_of_getElem? ht
  have ha : ([24, 3] : List TypeId).all (fun t => !Tryd.prog.wantsStandIn t) = true := by kernel_rfl
  rw [List.all_eq_true] at ha
  have := ha t (by simpa using hm)
  rw [Bool.not_eq_true'] at this
  exact this
theorem proved : Rows.KeyTextsCardSaid :=
  Claim7.holds_tied_plain_at .later [] _ _ _ _ said (fun _ h => by cases h) (by kernel_rfl) (fun _ h => by cases h) keyTexts_row_tie rfl ⟨rfl, rfl⟩ (by kernel_rfl) rfl looks (by kernel_rfl)
#print axioms proved
end Go.Proofs.YtdofdhlpheaonaaDoor.keyTexts
namespace Go.Proofs.YtdofdhlpheaonaaDoor
theorem keyTexts_holds : Rows.KeyTextsCardSaid := keyTexts.proved
end Go.Proofs.YtdofdhlpheaonaaDoor

/- The machine: functions of the library that are told by hand. -/
import Derived.Test.YtbejhhoakeapgaaVmZq
import Derived.Test.YtbejhhoakeapgaaVmC
import Derived.Test.YtbejhhoakeapgaaVmZu
import Derived.Test.YtbejhhoakeapgaaVmB
import Derived.Shelf.SlIter.Nil
import Derived.Sort.Walk0
namespace Go.Proofs.YtbejhhoakeapgaaVM
open Go Go.Shelf Go.RowKit Go.Proofs Go.Maps Go.Sort
set_option linter.unusedVariables false
set_option linter.unusedSimpArgs false

def keyB (e : T) : List UInt8 := (e.get 0).txt.data.toList
def keysOk (es : List T) : Bool := Nat.ble es.length 1048576 && es.all fun e => Nat.ble (e.get 0).txt.size 1048576
def insB (s : ByteArray) : List ByteArray → List ByteArray
  | [] => [s]
  | y :: l => bif sltB y s then y :: insB s l else s :: y :: l
def keysB (es : List T) : List ByteArray := es.foldr (fun e l => insB (e.get 0).txt l) []
def keysS (es : List T) : List T := (keysB es).map T.str
theorem insB_perm (s : ByteArray) : ∀ (l : List ByteArray), (insB s l).Perm (s :: l)
  | [] => List.Perm.refl _
  | y :: l => by
    unfold insB
    cases sltB y s
    · exact List.Perm.refl _
    · exact ((insB_perm s l).cons y).trans (List.Perm.swap s y l)
theorem keysB_perm : ∀ (es : List T), (keysB es).Perm (es.map fun e => (e.get 0).txt)
  | [] => List.Perm.refl _
  | e :: es => (insB_perm _ _).trans ((keysB_perm es).cons _)
theorem slt_data (a b : ByteArray) : sltB a b = decide (a.data.toList < b.data.toList) := by
  unfold sltB
  rw [bytesLess_eq, ByteArray.toList_eq, ByteArray.toList_eq]
theorem insB_rise (s : ByteArray) : ∀ (l : List ByteArray), l.Pairwise (fun a b => a.data.toList ≤ b.data.toList) → (insB s l).Pairwise (fun a b => a.data.toList ≤ b.data.toList)
  | [], _ => List.pairwise_singleton _ _
  | y :: l, h => by
    obtain ⟨h1, h2⟩ := List.pairwise_cons.1 h
    unfold insB
    rw [slt_data]
    by_cases hlt : y.data.toList < s.data.toList
    · rw [decide_eq_true hlt]
      simp only [cond_true]
      refine List.pairwise_cons.2 ⟨fun x hx => ?_, insB_rise s l h2⟩
      rcases List.mem_cons.1 ((insB_perm s l).mem_iff.1 hx) with rfl | hx
      · exact List.le_of_lt hlt
      · exact h1 x hx
    · rw [decide_eq_false hlt]
      simp only [cond_false]
      have hle : s.data.toList ≤ y.data.toList := hlt
      refine List.pairwise_cons.2 ⟨fun x hx => ?_, h⟩
      rcases List.mem_cons.1 hx with rfl | hx
      · exact hle
      · exact List.le_trans hle (h1 x hx)
theorem keysB_rise : ∀ (es : List T), (keysB es).Pairwise (fun a b => a.data.toList ≤ b.data.toList)
  | [] => List.Pairwise.nil
  | e :: es => insB_rise _ _ (keysB_rise es)
theorem keysB_sort (es : List T) : (keysB es).map (fun b => b.data.toList) = (es.map keyB).mergeSort fun x y => decide (x ≤ y) := by
  have hp : ((keysB es).map (fun b => b.data.toList)).Perm ((es.map keyB).mergeSort fun x y => decide (x ≤ y)) := by
    refine List.Perm.trans ?_ (List.mergeSort_perm _ _).symm
    have := (keysB_perm es).map fun b : ByteArray => b.data.toList
    rw [List.map_map] at this
    exact this
  refine List.Perm.eq_of_pairwise (le := fun a b : List UInt8 => a ≤ b) (fun a b _ _ h1 h2 => List.le_antisymm h1 h2) ?_ ?_ hp
  · exact List.pairwise_map.2 (keysB_rise es)
  · have := List.pairwise_mergeSort (le := fun x y : List UInt8 => decide (x ≤ y)) (fun a b c h1 h2 => by simp only [decide_eq_true_eq] at *; exact List.le_trans h1 h2) (fun a b => by simp only [Bool.or_eq_true, decide_eq_true_eq]; exact List.le_total a b) (es.map keyB)
    exact this.imp fun h => by simpa using h
theorem keysS_sort (es : List T) : keysS es = ((es.map keyB).mergeSort fun x y => decide (x ≤ y)).map fun b => T.str ⟨b.toArray⟩ := by
  rw [← keysB_sort, List.map_map]
  rfl
def sortedF (zs : List A) : Option (List A) := bif keysOk (aAt zs 0).tree.kids then some [.t (.node (keysS (aAt zs 0).tree.kids)), .t (.node (aAt zs 0).tree.kids)] else none
def sortedE (f fk tm kt vt tr : Nat) : Entry := { fid := f, ins := ⟨[(0, .clo fk [.p 0 tm])], [.var tm (.m 1) false, .map kt vt]⟩, outs := ⟨[(0, .v tr)], [.var tm (.m 1) false, .map kt vt]⟩, cuts := [], prim := some sortedF }

abbrev RAny : Value → Option (DataW Unit × List MemPlace) := fun _ => some (.nil, [])
theorem ents_keys {M : Mem} {kt vt : TypeId} (hkt : M.P.underlying kt = some .string) : ∀ {es : List T} {ms : List MapEntry}, REnts M kt vt es ms → (es.all fun e => Nat.ble (e.get 0).txt.size 1048576) = true →
    (∀ x ∈ ms, ∃ y, WideElems.rd M.P kt RAny x = some y) ∧ (ms.map (WideElems.rg M.P kt RAny)).map (fun p => strOf p.1) = es.map keyB ∧ ms.length = es.length
  | [], [], _, _ => ⟨fun x hx => by simp at hx, rfl, rfl⟩
  | [], _ :: _, h, _ => h.elim
  | _ :: _, [], h, _ => h.elim
  | e :: es, m :: ms, ⟨h1, h2⟩, hb => by
    simp only [List.all_cons, Bool.and_eq_true] at hb
    obtain ⟨a1, a2, a3⟩ := ents_keys hkt h2 hb.2
    have hk : m.key = .string (e.get 0).txt := pv_one (by simp [isAggB, hkt]) (pr_str hkt) h1.1
    have hs : (e.get 0).txt.size ≤ maxLen := Nat.le_trans (Nat.le_of_ble_eq_true hb.1) (by unfold maxLen; decide)
    have hrd : WideElems.rd M.P kt RAny m = some (.string (e.get 0).txt.data.toList, .nil) := by
      simp [WideElems.rd, keyOf, hkt, mapKey, hk, hs]
    refine ⟨fun x hx => ?_, ?_, by simp [a3]⟩
    · rcases List.mem_cons.1 hx with rfl | hx
      · exact ⟨_, hrd⟩
      · exact a1 x hx
    · simp only [List.map_cons, a2]
      congr 1
      simp [WideElems.rg, hrd, strOf, keyB]
theorem owns_of {M : Mem} {kt vt : TypeId} (hkt : M.P.underlying kt = some .string) {es : List T} {ms : Array MapEntry} {clock b : Nat} (hb : M.W.heap[b]? = some (.map ms clock)) (he : REnts M kt vt es ms.toList) (hs : MapKept.Stamped ms clock) (hok : keysOk es = true) :
    ∃ D0 : DataW Unit, M.W.ownsMap M.P kt RAny b es.length D0 ∧ (strKeys D0).Perm (es.map keyB) ∧ Maps.size D0 = es.length := by
  simp only [keysOk, Bool.and_eq_true] at hok
  obtain ⟨a1, a2, a3⟩ := ents_keys hkt he hok.2
  have hl : es.length ≤ 1048576 := Nat.le_of_ble_eq_true hok.1
  have hsz : ms.size = es.length := by rw [← a3, Array.length_toList]
  refine ⟨.map ((ms.toList.map (WideElems.rg M.P kt RAny)).foldr DataW.insert []), ⟨ms, clock, hb, ⟨by unfold maxLen; omega, hs, a1⟩, by omega, rfl⟩, ?_, ?_⟩
  · rw [← a2]
    exact (WideShapes.sorted_perm _).map _
  · simp only [Maps.size, length_sorted, List.length_map, Array.length_toList, hsz]
theorem enters_run {P : Program} {g : FuncId} (he : Enters P g) (args : Array Value) (w : World) : (callFunc g args).run P w = .ok (.enter g args) w := by
  obtain ⟨fn, h1, h2, h3⟩ := he
  have h2' : ¬ fn.name = "runtime.NumGoroutine" := by simpa using h2
  have h3' : ¬ fn.body = none := by intro h; simp [h] at h3
  simp [callFunc, program, Sem.run, h1, h2', h3']
theorem sorted_calls {P : Program} {ρk ρs : Ren} (Lk : SlLaysZ.n10 P ρk) (Ls : SlLaysZ.n6 P ρs) (hsort : ∀ m, AnyZ.SortsIn P ρs Fence.wide m) (ek : Enters P (ρk.f 10)) (e9 : Enters P (ρs.f 9)) {M : Mem} (hM : M.P = P) {kt vt : TypeId} (hk1 : ρk.t 26 = kt) (hkt : P.underlying kt = some .string) {es : List T} {ms : Array MapEntry} {clock b B : Nat}
    (hb : M.W.heap[b]? = some (.map ms clock)) (he : REnts M kt vt es ms.toList) (hs : MapKept.Stamped ms clock) (hok : keysOk es = true) (hB : B < M.W.heap.size) (hc : M.W.cell? ⟨B, 0, none⟩ = some (.map (some b))) :
    Calls P (ρs.f 6) #[.func (.func (ρk.f 10)) #[] #[.pointer (some ⟨B, 0, none⟩)]] M.W fun e w' => ∃ (v : Value) (ss : List (List UInt8)), e = .returned v ∧ ss.length = es.length ∧ ss.mergeSort (fun x y => decide (x ≤ y)) = (es.map keyB).mergeSort (fun x y => decide (x ≤ y)) ∧
      w'.ownsRow M.W.heap.size (ρs.t 26) 1 v ss.length ((ss.mergeSort (fun x y => decide (x ≤ y))).map encStr) ∧ (v = .slice none 0 0 ↔ ss = []) ∧ Below M.W.heap.size M.W w' := by
  subst hM hk1
  obtain ⟨D0, hown, hperm, hsize⟩ := owns_of hkt hb he hs hok
  simp only [keysOk, Bool.and_eq_true] at hok
  have hl : es.length ≤ 1048576 := Nat.le_of_ble_eq_true hok.1
  have hseq : SeqGives Fence.wide 2 M.P (ρk.f 10) #[.pointer (some ⟨B, 0, none⟩)] encStr (fun ss => ss.Perm (strKeys D0)) (Maps.size D0) M.W :=
    AnyZ.keys_gives Lk Fence.wide 2 trivial rfl (by omega) B b es.length D0 M.W hB hc hown
  refine (callsIn_wide.1 (AnyZ.sorted_in Ls Fence.wide 5 trivial trivial trivial trivial rfl (by omega) (hsort _) (enters_run e9) (ρk.f 10) #[.pointer (some ⟨B, 0, none⟩)] trivial (enters_run ek) _ (Maps.size D0) (by rw [hsize]; unfold maxLen; omega) (by rw [hsize]; omega) M.W hseq)).mono ?_
  rintro e w' ⟨v, ss, rfl, hS, hrow, hnil, hbl⟩
  have hp : ss.Perm (es.map keyB) := hS.trans hperm
  exact ⟨v, ss, rfl, by rw [hp.length_eq, List.length_map], mergeSort_of_perm hp, hrow, hnil, hbl⟩
theorem sorted_ok {P : Program} {G : Globs} {ρk ρs : Ren} (Lk : SlLaysZ.n10 P ρk) (Ls : SlLaysZ.n6 P ρs) (hsort : ∀ m, AnyZ.SortsIn P ρs Fence.wide m) (ek : Enters P (ρk.f 10)) (e9 : Enters P (ρs.f 9)) (hen : Enters P (ρs.f 6)) {tm kt vt tr : TypeId} (hk1 : ρk.t 26 = kt) (hk2 : ρs.t 26 = kt) (hkt : P.underlying kt = some .string)
    (hcs : csz P kt = some 1) (htr : P.underlying tr = some (.slice kt)) (hbd : boundB P (ρk.f 10) 1 = false) : FnOk P G (sortedE (ρs.f 6) (ρk.f 10) tm kt vt tr) sortedF := by
  refine FnOk.of_step (E := { call := fun _ _ => none, loop := fun _ _ => none, ents := [], cuts := [], σ0 := [], G := [] }) hen (by simp [sortedE]) ?_
  intro C β vs zs o W hW hF hl hrel
  unfold sortedF at hF
  obtain ⟨hF1, hF2⟩ := bif_some hF
  cases hF2
  have hu : unRs P id zs (regRMs (sortedE (ρs.f 6) (ρk.f 10) tm kt vt tr).ins) 0 = ([.clo (ρk.f 10) [.ptr 0 tm []]], 0) := by
    simp [sortedE, regRMs, unRs, unR]
  rw [hu] at hrel ⊢
  have hlk : lookOf P (sortedE (ρs.f 6) (ρk.f 10) tm kt vt tr).ins.objs zs 0 = fun n => if n = 0 then some (.var tm (.map 1) false) else if n = 1 then some (.map kt vt (aAt zs 0).tree.kids) else none := by
    funext n
    match n with
    | 0 => rfl
    | 1 => rfl
    | n + 2 => rfl
  have hrow : rowOf P tr = some (kt, 1) := by simp [rowOf, htr, hcs]
  refine ⟨{ d := .row (keysS (aAt zs 0).tree.kids) kt false, upd := goneAll [], touch := [], fresh := 0 }, ⟨[.t (.node (keysS (aAt zs 0).tree.kids)), .t (.node (aAt zs 0).tree.kids)], [(0, some 0), (1, some 1)], [], []⟩, ?_, rfl, ?_⟩
  · rw [show ([D.clo (ρk.f 10) [.ptr 0 tm []]], 0).2 = 0 from rfl, hlk]
    have hb1 : Nat.beq tm tm = true := Nat.beq_refl tm
    have hb2 : Nat.beq kt kt = true := Nat.beq_refl kt
    have hb3 : Nat.beq vt vt = true := Nat.beq_refl vt
    simp [packShape, sortedE, regRMs, packTops, packTop, packR, packObjs, bindN, sigma, stays, hasName, updF, setF, goneAll, apartB, meets, sigBound, gonesOk, liveB, packT, hrow, hb1, hb2, hb3, show Nat.beq 0 1 = false from rfl, show Nat.beq 1 1 = true from rfl, show Nat.beq 0 0 = true from rfl, show Nat.beq 1 0 = false from rfl]
    rfl
  have h0 := hrel.vals 0
  have hl' : vs.length = 1 := hl
  match vs, hl' with
  | [v0], _ =>
    obtain ⟨c0, ⟨us, fst, ws, hus, e0, hcl⟩, hv0⟩ := h0
    have e1 : v0 = .func (.func (ρk.f 10)) fst ws := by
      subst e0
      simp [VF, scalar, regsOf, Array.getD] at hv0
      exact hv0.symm
    have hus' : ∃ u, us.toList = [u] ∧ RC (memOf P C β (lookOf P (sortedE (ρs.f 6) (ρk.f 10) tm kt vt tr).ins.objs zs 0) W) β (.ptr 0 tm []) [u] := by
      generalize us.toList = l at hus
      match l, hus with
      | [u], ⟨h, _⟩ =>
        rcases h with h | ⟨cs, h1, h2⟩
        · cases h
        · simp [VF, scalar] at h2
          subst h2
          exact ⟨u, rfl, h1⟩
      | [], h => exact h.elim
      | _ :: _ :: _, ⟨_, h⟩ => exact h.elim
    obtain ⟨u, hul, pl, oo, hu1, hpl, hvirt, hoff⟩ := hus'
    simp only [poff, Option.some.injEq] at hoff
    subst hoff
    simp only [List.cons.injEq, and_true] at hu1
    subst hu1
    have e2 : fst = #[] ∧ ws = #[.pointer (some ⟨pl.b, 0, none⟩)] := by
      rcases hcl with ⟨h1, h2⟩ | ⟨_, _, h3⟩
      · refine ⟨h1, ?_⟩
        rw [h2]
        apply Array.toList_inj.1
        rw [hul]
      · rw [hul] at h3
        have h3' : boundB P (ρk.f 10) 1 = true := h3
        rw [hbd] at h3'; cases h3'
    obtain ⟨e3, e4⟩ := e2
    subst e3 e4 e1
    obtain ⟨pl', h5, h6, c, el, fr, h7, h8, h9, ⟨pl1, h10, h11, h12⟩, h13⟩ := hrel.objs 0 (.var tm (.map 1) false) (by rw [hlk]; rfl)
    rw [hpl] at h5; cases h5
    obtain ⟨pl1', h14, h15, ms, clock, h16, h17, h18⟩ := hrel.objs 1 (.map kt vt (aAt zs 0).tree.kids) (by rw [hlk]; rfl)
    rw [h10] at h14; cases h14
    change W.heap[pl.b]? = some (.cells c el fr) at h7
    have hlt : pl.b < W.heap.size := (Array.getElem?_eq_some_iff.1 h7).1
    have hcell : W.cell? ⟨pl.b, 0, none⟩ = some (.map (some pl1.b)) := by
      rw [cell_of h7, ← Array.getElem?_toList, h12]; rfl
    refine (sorted_calls (M := memOf P C β (lookOf P (sortedE (ρs.f 6) (ρk.f 10) tm kt vt tr).ins.objs zs 0) W) Lk Ls hsort ek e9 rfl hk1 hkt h16 h17 h18 hF1 hlt hcell).mono ?_
    rintro x W' ⟨v, ss, rfl, hsl, hsm, hrw, hnil, hb⟩
    refine ⟨v, rfl, nxt_gone hrel (Wr.of_below hb) (frz := []) (fun hle => ?_)⟩
    have hS : keysS (aAt zs 0).tree.kids = (ss.mergeSort fun x y => decide (x ≤ y)).map fun b => T.str ⟨b.toArray⟩ := by rw [keysS_sort, hsm]
    have hSl : (keysS (aAt zs 0).tree.kids).length = ss.length := by rw [hS, List.length_map, List.length_mergeSort]
    obtain ⟨_, h2⟩ := hrw
    rcases h2 with ⟨rfl, hz⟩ | ⟨g, cap, cur, rfl, hg, hh, hn, hcap, hsz, htake⟩
    · have hz' : keysS (aAt zs 0).tree.kids = [] := List.eq_nil_of_length_eq_zero (by rw [hSl, hz])
      exact RV_scalar ⟨none, 0, by rw [hz']; rfl, by rw [hz']; exact .nil, by rw [hz']; exact Nat.le_refl 0, fun h => by cases h⟩ rfl
    · refine RV_scalar ⟨some ⟨g, 0, none⟩, cap, by rw [hSl], ?_, by rw [hSl]; exact hn, fun h => by cases h⟩ rfl
      refine .mk (s := 1) hcs (by omega) ⟨fun hav => ?_, fun n pl hn hp hv hbe => ?_⟩ hh (fun i x hi => ?_)
      · have := hrel.avold _ hav
        rw [hW] at this
        change W.heap.size ≤ g at hg
        omega
      · have hlive := hrel.live_lt (n := n) (by rw [updF_gone] at hn; simpa using hn) hp hv
        change W.heap.size ≤ g at hg
        omega
      · rw [hS] at hi
        rw [List.getElem?_map] at hi
        cases hq : (ss.mergeSort fun x y => decide (x ≤ y))[i]? with
        | none => rw [hq] at hi; cases hi
        | some b =>
          rw [hq] at hi
          simp only [Option.map_some, Option.some.injEq] at hi
          subst hi
          have hil : i < ss.length := by have := (List.getElem?_eq_some_iff.1 hq).1; rwa [List.length_mergeSort] at this
          have hcu : cur.toList[0 + i * 1]? = some (encStr b) := by
            have : (cur.toList.take (ss.length * 1))[i]? = some (encStr b) := by rw [htake, List.getElem?_map, hq]; rfl
            rw [List.getElem?_take, if_pos (by omega)] at this
            simpa using this
          rw [take_one hcu]
          exact .str (t := T.str ⟨b.toArray⟩) hkt
theorem enters_B {P : Program} {f : FuncId} (h : entersB P f = true) : Enters P f := by
  unfold entersB at h
  split at h
  case h_2 => cases h
  case h_1 fn hf =>
    rw [Bool.and_eq_true, Bool.not_eq_true', Bool.not_eq_true'] at h
    exact ⟨fn, hf, h.1, h.2⟩
end Go.Proofs.YtbejhhoakeapgaaVM

/- The machine: functions of the library that are told by hand. -/
import Derived.Test.YtbejhhoakeapgaaVmZx
import Derived.Shelf.SlIterI.Nil
namespace Go.Proofs.YtbejhhoakeapgaaVM
open Go Go.Shelf Go.RowKit Go.Proofs Go.Maps Go.Sort
set_option linter.unusedVariables false
set_option linter.unusedSimpArgs false

def keyZ (e : T) : Int := (e.get 0).num
def keysIOk (es : List T) : Bool := Nat.ble es.length 1048576 && es.all fun e => (Lit.int .i64 (e.get 0).num).wf
def insZ (s : Int) : List Int → List Int
  | [] => [s]
  | y :: l => bif decide (y < s) then y :: insZ s l else s :: y :: l
def keysZ (es : List T) : List Int := es.foldr (fun e l => insZ (e.get 0).num l) []
def keysI (es : List T) : List T := (keysZ es).map T.int
theorem insZ_perm (s : Int) : ∀ (l : List Int), (insZ s l).Perm (s :: l)
  | [] => List.Perm.refl _
  | y :: l => by
    unfold insZ
    cases decide (y < s)
    · exact List.Perm.refl _
    · exact ((insZ_perm s l).cons y).trans (List.Perm.swap s y l)
theorem keysZ_perm : ∀ (es : List T), (keysZ es).Perm (es.map fun e => (e.get 0).num)
  | [] => List.Perm.refl _
  | e :: es => (insZ_perm _ _).trans ((keysZ_perm es).cons _)
theorem insZ_rise (s : Int) : ∀ (l : List Int), l.Pairwise (fun a b => a ≤ b) → (insZ s l).Pairwise (fun a b => a ≤ b)
  | [], _ => List.pairwise_singleton _ _
  | y :: l, h => by
    obtain ⟨h1, h2⟩ := List.pairwise_cons.1 h
    unfold insZ
    by_cases hlt : y < s
    · rw [decide_eq_true hlt]
      simp only [cond_true]
      refine List.pairwise_cons.2 ⟨fun x hx => ?_, insZ_rise s l h2⟩
      rcases List.mem_cons.1 ((insZ_perm s l).mem_iff.1 hx) with rfl | hx
      · exact Int.le_of_lt hlt
      · exact h1 x hx
    · rw [decide_eq_false hlt]
      simp only [cond_false]
      have hle : s ≤ y := Int.not_lt.1 hlt
      refine List.pairwise_cons.2 ⟨fun x hx => ?_, h⟩
      rcases List.mem_cons.1 hx with rfl | hx
      · exact hle
      · exact Int.le_trans hle (h1 x hx)
theorem keysZ_rise : ∀ (es : List T), (keysZ es).Pairwise (fun a b => a ≤ b)
  | [] => List.Pairwise.nil
  | e :: es => insZ_rise _ _ (keysZ_rise es)
theorem keysZ_sort (es : List T) : keysZ es = (es.map keyZ).mergeSort fun x y => decide (x ≤ y) := by
  refine List.Perm.eq_of_pairwise (le := fun a b : Int => a ≤ b) (fun a b _ _ h1 h2 => Int.le_antisymm h1 h2) (keysZ_rise es) ?_ ((keysZ_perm es).trans (List.mergeSort_perm _ _).symm)
  have := List.pairwise_mergeSort (le := fun x y : Int => decide (x ≤ y)) (fun a b c h1 h2 => by simp only [decide_eq_true_eq] at *; exact Int.le_trans h1 h2) (fun a b => by simp only [Bool.or_eq_true, decide_eq_true_eq]; exact Int.le_total a b) (es.map keyZ)
  exact this.imp fun h => by simpa using h
theorem keysI_sort (es : List T) : keysI es = ((es.map keyZ).mergeSort fun x y => decide (x ≤ y)).map T.int := by
  rw [← keysZ_sort]
  rfl
def sortedIF (zs : List A) : Option (List A) := bif keysIOk (aAt zs 0).tree.kids then some [.t (.node (keysI (aAt zs 0).tree.kids)), .t (.node (aAt zs 0).tree.kids)] else none
def sortedIE (f fk tm kt vt tr : Nat) : Entry := { fid := f, ins := ⟨[(0, .clo fk [.p 0 tm])], [.var tm (.m 1) false, .map kt vt]⟩, outs := ⟨[(0, .v tr)], [.var tm (.m 1) false, .map kt vt]⟩, cuts := [], prim := some sortedIF }

theorem ents_keysI {M : Mem} {kt vt : TypeId} (hkt : M.P.underlying kt = some (.int .i64)) : ∀ {es : List T} {ms : List MapEntry}, REnts M kt vt es ms → (es.all fun e => (Lit.int .i64 (e.get 0).num).wf) = true →
    (∀ x ∈ ms, ∃ y, WideElems.rd M.P kt RAny x = some y) ∧ (ms.map (WideElems.rg M.P kt RAny)).map (fun p => intOf p.1) = es.map keyZ ∧ ms.length = es.length
  | [], [], _, _ => ⟨fun x hx => by simp at hx, rfl, rfl⟩
  | [], _ :: _, h, _ => h.elim
  | _ :: _, [], h, _ => h.elim
  | e :: es, m :: ms, ⟨h1, h2⟩, hb => by
    simp only [List.all_cons, Bool.and_eq_true] at hb
    obtain ⟨a1, a2, a3⟩ := ents_keysI hkt h2 hb.2
    have hk : m.key = .int .i64 (e.get 0).num := pv_one (by simp [isAggB, hkt]) (int_cells hkt) h1.1
    have hs : (Lit.int .i64 (e.get 0).num).wf = true := hb.1
    have hrd : WideElems.rd M.P kt RAny m = some (.int .i64 (e.get 0).num, .nil) := by
      simp [WideElems.rd, keyOf, hkt, mapKey, hk, hs]
    refine ⟨fun x hx => ?_, ?_, by simp [a3]⟩
    · rcases List.mem_cons.1 hx with rfl | hx
      · exact ⟨_, hrd⟩
      · exact a1 x hx
    · simp only [List.map_cons, a2]
      congr 1
      simp [WideElems.rg, hrd, intOf, keyZ]
theorem owns_ofI {M : Mem} {kt vt : TypeId} (hkt : M.P.underlying kt = some (.int .i64)) {es : List T} {ms : Array MapEntry} {clock b : Nat} (hb : M.W.heap[b]? = some (.map ms clock)) (he : REnts M kt vt es ms.toList) (hs : MapKept.Stamped ms clock) (hok : keysIOk es = true) :
    ∃ D0 : DataW Unit, M.W.ownsMap M.P kt RAny b es.length D0 ∧ (intKeys D0).Perm (es.map keyZ) ∧ Maps.size D0 = es.length := by
  simp only [keysIOk, Bool.and_eq_true] at hok
  obtain ⟨a1, a2, a3⟩ := ents_keysI hkt he hok.2
  have hl : es.length ≤ 1048576 := Nat.le_of_ble_eq_true hok.1
  have hsz : ms.size = es.length := by rw [← a3, Array.length_toList]
  refine ⟨.map ((ms.toList.map (WideElems.rg M.P kt RAny)).foldr DataW.insert []), ⟨ms, clock, hb, ⟨by unfold maxLen; omega, hs, a1⟩, by omega, rfl⟩, ?_, ?_⟩
  · rw [← a2]
    exact (WideShapes.sorted_perm _).map _
  · simp only [Maps.size, length_sorted, List.length_map, Array.length_toList, hsz]
theorem sortedI_calls {P : Program} {ρk ρs : Ren} (Lk : SlLaysZI.n10 P ρk) (Ls : SlLaysZI.n6 P ρs) (hsort : ∀ m, AnyZI.SortsIn P ρs Fence.wide m) (ek : Enters P (ρk.f 10)) (e9 : Enters P (ρs.f 9)) {M : Mem} (hM : M.P = P) {kt vt : TypeId} (hk1 : ρk.t 26 = kt) (hkt : P.underlying kt = some (.int .i64)) {es : List T} {ms : Array MapEntry} {clock b B : Nat}
    (hb : M.W.heap[b]? = some (.map ms clock)) (he : REnts M kt vt es ms.toList) (hs : MapKept.Stamped ms clock) (hok : keysIOk es = true) (hB : B < M.W.heap.size) (hc : M.W.cell? ⟨B, 0, none⟩ = some (.map (some b))) :
    Calls P (ρs.f 6) #[.func (.func (ρk.f 10)) #[] #[.pointer (some ⟨B, 0, none⟩)]] M.W fun e w' => ∃ (v : Value) (ss : List Int), e = .returned v ∧ ss.length = es.length ∧ ss.mergeSort (fun x y => decide (x ≤ y)) = (es.map keyZ).mergeSort (fun x y => decide (x ≤ y)) ∧
      w'.ownsRow M.W.heap.size (ρs.t 26) 1 v ss.length ((ss.mergeSort (fun x y => decide (x ≤ y))).map encZ) ∧ (v = .slice none 0 0 ↔ ss = []) ∧ Below M.W.heap.size M.W w' := by
  subst hM hk1
  obtain ⟨D0, hown, hperm, hsize⟩ := owns_ofI hkt hb he hs hok
  simp only [keysIOk, Bool.and_eq_true] at hok
  have hl : es.length ≤ 1048576 := Nat.le_of_ble_eq_true hok.1
  have hseq : SeqGives Fence.wide 2 M.P (ρk.f 10) #[.pointer (some ⟨B, 0, none⟩)] encZ (fun ss => ss.Perm (intKeys D0)) (Maps.size D0) M.W :=
    AnyZI.keys_gives Lk Fence.wide 2 trivial rfl (by omega) B b es.length D0 M.W hB hc hown
  refine (callsIn_wide.1 (AnyZI.sorted_in Ls Fence.wide 5 trivial trivial trivial trivial rfl (by omega) (hsort _) (enters_run e9) (ρk.f 10) #[.pointer (some ⟨B, 0, none⟩)] trivial (enters_run ek) _ (Maps.size D0) (by rw [hsize]; unfold maxLen; omega) (by rw [hsize]; omega) M.W hseq)).mono ?_
  rintro e w' ⟨v, ss, rfl, hS, hrow, hnil, hbl⟩
  have hp : ss.Perm (es.map keyZ) := hS.trans hperm
  exact ⟨v, ss, rfl, by rw [hp.length_eq, List.length_map], mergeSort_of_perm_i hp, hrow, hnil, hbl⟩
theorem sortedI_ok {P : Program} {G : Globs} {ρk ρs : Ren} (Lk : SlLaysZI.n10 P ρk) (Ls : SlLaysZI.n6 P ρs) (hsort : ∀ m, AnyZI.SortsIn P ρs Fence.wide m) (ek : Enters P (ρk.f 10)) (e9 : Enters P (ρs.f 9)) (hen : Enters P (ρs.f 6)) {tm kt vt tr : TypeId} (hk1 : ρk.t 26 = kt) (hk2 : ρs.t 26 = kt) (hkt : P.underlying kt = some (.int .i64))
    (hcs : csz P kt = some 1) (htr : P.underlying tr = some (.slice kt)) (hbd : boundB P (ρk.f 10) 1 = false) : FnOk P G (sortedIE (ρs.f 6) (ρk.f 10) tm kt vt tr) sortedIF := by
  refine FnOk.of_step (E := { call := fun _ _ => none, loop := fun _ _ => none, ents := [], cuts := [], σ0 := [], G := [] }) hen (by simp [sortedIE]) ?_
  intro C β vs zs o W hW hF hl hrel
  unfold sortedIF at hF
  obtain ⟨hF1, hF2⟩ := bif_some hF
  cases hF2
  have hu : unRs P id zs (regRMs (sortedIE (ρs.f 6) (ρk.f 10) tm kt vt tr).ins) 0 = ([.clo (ρk.f 10) [.ptr 0 tm []]], 0) := by
    simp [sortedIE, regRMs, unRs, unR]
  rw [hu] at hrel ⊢
  have hlk : lookOf P (sortedIE (ρs.f 6) (ρk.f 10) tm kt vt tr).ins.objs zs 0 = fun n => if n = 0 then some (.var tm (.map 1) false) else if n = 1 then some (.map kt vt (aAt zs 0).tree.kids) else none := by
    funext n
    match n with
    | 0 => rfl
    | 1 => rfl
    | n + 2 => rfl
  have hrow : rowOf P tr = some (kt, 1) := by simp [rowOf, htr, hcs]
  refine ⟨{ d := .row (keysI (aAt zs 0).tree.kids) kt false, upd := goneAll [], touch := [], fresh := 0 }, ⟨[.t (.node (keysI (aAt zs 0).tree.kids)), .t (.node (aAt zs 0).tree.kids)], [(0, some 0), (1, some 1)], [], []⟩, ?_, rfl, ?_⟩
  · rw [show ([D.clo (ρk.f 10) [.ptr 0 tm []]], 0).2 = 0 from rfl, hlk]
    have hb1 : Nat.beq tm tm = true := Nat.beq_refl tm
    have hb2 : Nat.beq kt kt = true := Nat.beq_refl kt
    have hb3 : Nat.beq vt vt = true := Nat.beq_refl vt
    simp [packShape, sortedIE, regRMs, packTops, packTop, packR, packObjs, bindN, sigma, stays, hasName, updF, setF, goneAll, apartB, meets, sigBound, gonesOk, liveB, packT, hrow, hb1, hb2, hb3, show Nat.beq 0 1 = false from rfl, show Nat.beq 1 1 = true from rfl, show Nat.beq 0 0 = true from rfl, show Nat.beq 1 0 = false from rfl]
    rfl
  have h0 := hrel.vals 0
  have hl' : vs.length = 1 := hl
  match vs, hl' with
  | [v0], _ =>
    obtain ⟨c0, ⟨us, fst, ws, hus, e0, hcl⟩, hv0⟩ := h0
    have e1 : v0 = .func (.func (ρk.f 10)) fst ws := by
      subst e0
      simp [VF, scalar, regsOf, Array.getD] at hv0
      exact hv0.symm
    have hus' : ∃ u, us.toList = [u] ∧ RC (memOf P C β (lookOf P (sortedIE (ρs.f 6) (ρk.f 10) tm kt vt tr).ins.objs zs 0) W) β (.ptr 0 tm []) [u] := by
      generalize us.toList = l at hus
      match l, hus with
      | [u], ⟨h, _⟩ =>
        rcases h with h | ⟨cs, h1, h2⟩
        · cases h
        · simp [VF, scalar] at h2
          subst h2
          exact ⟨u, rfl, h1⟩
      | [], h => exact h.elim
      | _ :: _ :: _, ⟨_, h⟩ => exact h.elim
    obtain ⟨u, hul, pl, oo, hu1, hpl, hvirt, hoff⟩ := hus'
    simp only [poff, Option.some.injEq] at hoff
    subst hoff
    simp only [List.cons.injEq, and_true] at hu1
    subst hu1
    have e2 : fst = #[] ∧ ws = #[.pointer (some ⟨pl.b, 0, none⟩)] := by
      rcases hcl with ⟨h1, h2⟩ | ⟨_, _, h3⟩
      · refine ⟨h1, ?_⟩
        rw [h2]
        apply Array.toList_inj.1
        rw [hul]
      · rw [hul] at h3
        have h3' : boundB P (ρk.f 10) 1 = true := h3
        rw [hbd] at h3'; cases h3'
    obtain ⟨e3, e4⟩ := e2
    subst e3 e4 e1
    obtain ⟨pl', h5, h6, c, el, fr, h7, h8, h9, ⟨pl1, h10, h11, h12⟩, h13⟩ := hrel.objs 0 (.var tm (.map 1) false) (by rw [hlk]; rfl)
    rw [hpl] at h5; cases h5
    obtain ⟨pl1', h14, h15, ms, clock, h16, h17, h18⟩ := hrel.objs 1 (.map kt vt (aAt zs 0).tree.kids) (by rw [hlk]; rfl)
    rw [h10] at h14; cases h14
    change W.heap[pl.b]? = some (.cells c el fr) at h7
    have hlt : pl.b < W.heap.size := (Array.getElem?_eq_some_iff.1 h7).1
    have hcell : W.cell? ⟨pl.b, 0, none⟩ = some (.map (some pl1.b)) := by
      rw [cell_of h7, ← Array.getElem?_toList, h12]; rfl
    refine (sortedI_calls (M := memOf P C β (lookOf P (sortedIE (ρs.f 6) (ρk.f 10) tm kt vt tr).ins.objs zs 0) W) Lk Ls hsort ek e9 rfl hk1 hkt h16 h17 h18 hF1 hlt hcell).mono ?_
    rintro x W' ⟨v, ss, rfl, hsl, hsm, hrw, hnil, hb⟩
    refine ⟨v, rfl, nxt_gone hrel (Wr.of_below hb) (frz := []) (fun hle => ?_)⟩
    have hS : keysI (aAt zs 0).tree.kids = (ss.mergeSort fun x y => decide (x ≤ y)).map T.int := by rw [keysI_sort, hsm]
    have hSl : (keysI (aAt zs 0).tree.kids).length = ss.length := by rw [hS, List.length_map, List.length_mergeSort]
    obtain ⟨_, h2⟩ := hrw
    rcases h2 with ⟨rfl, hz⟩ | ⟨g, cap, cur, rfl, hg, hh, hn, hcap, hsz, htake⟩
    · have hz' : keysI (aAt zs 0).tree.kids = [] := List.eq_nil_of_length_eq_zero (by rw [hSl, hz])
      exact RV_scalar ⟨none, 0, by rw [hz']; rfl, by rw [hz']; exact .nil, by rw [hz']; exact Nat.le_refl 0, fun h => by cases h⟩ rfl
    · refine RV_scalar ⟨some ⟨g, 0, none⟩, cap, by rw [hSl], ?_, by rw [hSl]; exact hn, fun h => by cases h⟩ rfl
      refine .mk (s := 1) hcs (by omega) ⟨fun hav => ?_, fun n pl hn hp hv hbe => ?_⟩ hh (fun i x hi => ?_)
      · have := hrel.avold _ hav
        rw [hW] at this
        change W.heap.size ≤ g at hg
        omega
      · have hlive := hrel.live_lt (n := n) (by rw [updF_gone] at hn; simpa using hn) hp hv
        change W.heap.size ≤ g at hg
        omega
      · rw [hS] at hi
        rw [List.getElem?_map] at hi
        cases hq : (ss.mergeSort fun x y => decide (x ≤ y))[i]? with
        | none => rw [hq] at hi; cases hi
        | some b =>
          rw [hq] at hi
          simp only [Option.map_some, Option.some.injEq] at hi
          subst hi
          have hil : i < ss.length := by have := (List.getElem?_eq_some_iff.1 hq).1; rwa [List.length_mergeSort] at this
          have hcu : cur.toList[0 + i * 1]? = some (encZ b) := by
            have : (cur.toList.take (ss.length * 1))[i]? = some (encZ b) := by rw [htake, List.getElem?_map, hq]; rfl
            rw [List.getElem?_take, if_pos (by omega)] at this
            simpa using this
          rw [take_one hcu]
          exact .int (t := T.int b) hkt
end Go.Proofs.YtbejhhoakeapgaaVM

/- The machine: functions of the library that are told by hand. -/
import Derived.Test.YtdofdhlpheaonaaDoorVmZu
import Derived.Test.YtdofdhlpheaonaaDoorVmZt
import Derived.Shelf.Strings.OnBuilder
namespace Go.Proofs.YtdofdhlpheaonaaDoorVM
open Go Go.Shelf Go.RowKit Go.Proofs
set_option linter.unusedVariables false
set_option linter.unusedSimpArgs false
def joinB (xs : List ByteArray) (sep : ByteArray) : ByteArray := ⟨(Lib.join (xs.map (·.data.toList)) sep.data.toList).toArray⟩
def joinOk (xs : List ByteArray) (sep : ByteArray) : Bool := decide (xs.length ≤ 1000000000) && decide ((Lib.join (xs.map (·.data.toList)) sep.data.toList).length ≤ 140737488355328)
theorem prep_str {P : Program} {W : World} {ok : Nat → Prop} {te : TypeId} {t : T} {cs : List Value} (hu : P.underlying te = some .string) (h : PRep P W ok te t cs) : cs = [.string t.txt] := by
  cases h with
  | str _ => rfl
  | int h => rw [hu] at h; cases h
  | bool h => rw [hu] at h; cases h
  | slice h _ _ => rw [hu] at h; cases h
  | struct h _ => obtain ⟨_, _, _, hq, _⟩ := fieldsOf_agg h; rw [hu] at hq; cases hq
  | arr h _ _ => obtain ⟨_, _, _, _, hq⟩ := arrOf_agg h; rw [hu] at hq; cases hq
theorem join_lies {P : Program} {ρ : Ren} (L : Lays.n156 P ρ) (X : Builder.Extra P ρ) {te : TypeId} (hu : P.underlying te = some .string) (hcs : csz P te = some 1) {W : World} {ok : Nat → Prop} {xs : List T} {ad : Option Addr} {cap : Nat} (hl : Lies P W ok te xs ad)
    (hcap : xs.length ≤ cap) {sep : ByteArray} (hok : joinOk (xs.map T.txt) sep = true) : Calls P (ρ.f 156) #[.slice ad xs.length cap, .string sep] W fun x W' => x = .returned (.string (joinB (xs.map T.txt) sep)) ∧ Below W.heap.size W W' := by
  unfold joinOk at hok
  rw [Bool.and_eq_true, decide_eq_true_eq, decide_eq_true_eq] at hok
  rcases hl with rfl | ⟨b, off, s, c, el, fr, rfl, h2, h3, h4, h5, h6⟩
  · refine (Any.strings_Join_none L X ad cap sep W).mono ?_
    rintro x W' ⟨rfl, rfl⟩
    exact ⟨rfl, Below.refl _ _⟩
  · rw [hcs] at h2
    cases h2
    have hlm : (xs.map T.txt).length = xs.length := List.length_map _
    have h := Any.strings_Join L X b off cap (xs.map T.txt) sep W (fun j x hx => ?_) (Array.getElem?_eq_some_iff.1 h4).1 (by omega) (by omega) hok.2
    · rw [hlm] at h
      exact h
    · rw [List.getElem?_map] at hx
      cases ht : xs[j]? with
      | none => rw [ht] at hx; cases hx
      | some t =>
        rw [ht] at hx
        cases hx
        have hp := prep_str hu (h5 j t ht)
        rw [cell_of h4, Nat.mul_one] at *
        have h7 : (c.toList.drop (off + j)).take 1 = [.string t.txt] := hp
        have h8 : ((c.toList.drop (off + j)).take 1)[0]? = some (.string t.txt) := by rw [h7]; rfl
        rw [List.getElem?_take, if_pos (by omega), List.getElem?_drop, Nat.add_zero] at h8
        simpa using h8
def joinF (zs : List A) : Option (List A) := bif joinOk ((aAt zs 0).tree.kids.map T.txt) (aAt zs 1).tree.txt then some [.t (.str (joinB ((aAt zs 0).tree.kids.map T.txt) (aAt zs 1).tree.txt))] else none
def joinE (f tr ts : Nat) : Entry := { fid := f, ins := ⟨[(0, .v tr), (1, .v ts)], []⟩, outs := ⟨[(0, .v ts)], []⟩, cuts := [], prim := some joinF }
theorem join_ok {P : Program} {G : Globs} {ρ : Ren} (L : Lays.n156 P ρ) (X : Builder.Extra P ρ) {tr ts : TypeId} (htr : P.underlying tr = some (.slice ts)) (hts : P.underlying ts = some .string) (hcs : csz P ts = some 1) (hen : Enters P (ρ.f 156)) : FnOk P G (joinE (ρ.f 156) tr ts) joinF := by
  refine FnOk.of_step (E := { call := fun _ _ => none, loop := fun _ _ => none, ents := [], cuts := [], σ0 := [], G := [] }) hen (by simp [joinE]) ?_
  intro C β vs zs o W hW hF hl hrel
  unfold joinF at hF
  obtain ⟨hF1, hF2⟩ := bif_some hF
  cases hF2
  refine ⟨{ d := .str (joinB ((aAt zs 0).tree.kids.map T.txt) (aAt zs 1).tree.txt), upd := goneAll [], touch := [], fresh := 0 }, ⟨[.t (.str (joinB ((aAt zs 0).tree.kids.map T.txt) (aAt zs 1).tree.txt))], [], [], []⟩, ?_, rfl, ?_⟩
  · simp [packShape, joinE, regRMs, packTops, packTop, packR, packObjs, bindN, sigma, stays, hasName, updF, setF, goneAll, apartB, meets, sigBound, gonesOk, liveB, packT, hts]
  have hu : unRs P id zs (regRMs (joinE (ρ.f 156) tr ts).ins) 0 = ([.row (aAt zs 0).tree.kids ts false, .str (aAt zs 1).tree.txt], 2) := by
    simp [joinE, regRMs, unRs, unR, ofT, htr, hts]
  rw [hu] at hrel ⊢
  have h0 := hrel.vals 0
  have h1 := hrel.vals 1
  have hl' : vs.length = 2 := hl
  match vs, hl' with
  | [v0, v1], _ =>
    obtain ⟨c0, ⟨a, cap, e0, hrow, hcap, _⟩, hv0⟩ := h0
    obtain ⟨c1, hc1, hv1⟩ := h1
    have e2 : v0 = .slice a (aAt zs 0).tree.kids.length cap := by
      subst e0
      simp [VF, scalar, regsOf, Array.getD] at hv0
      exact hv0.symm
    have e1 : v1 = .string (aAt zs 1).tree.txt := by
      have : c1 = [.string (aAt zs 1).tree.txt] := hc1
      subst this
      simp [VF, scalar, regsOf, Array.getD] at hv1
      exact hv1.symm
    subst e2 e1
    refine (join_lies L X hts hcs (PRow.lies hrow) hcap hF1).mono ?_
    rintro x W' ⟨rfl, hb⟩
    exact ⟨_, rfl, nxt_gone hrel (Wr.of_below hb) (frz := []) (fun _ => rv_str)⟩
def joinOF (zs : List A) : Option (List A) := bif joinOk ((aAt zs 1).tree.kids.map T.txt) (aAt zs 0).tree.txt then some [.t (.str (joinB ((aAt zs 1).tree.kids.map T.txt) (aAt zs 0).tree.txt)), .t (.node (aAt zs 1).tree.kids)] else none
def joinOE (f ts : Nat) : Entry := { fid := f, ins := ⟨[(0, .o 0), (1, .v ts)], [.row ts]⟩, outs := ⟨[(0, .v ts)], [.row ts]⟩, cuts := [], prim := some joinOF }
theorem joinO_ok {P : Program} {G : Globs} {ρ : Ren} (L : Lays.n156 P ρ) (X : Builder.Extra P ρ) {ts : TypeId} (hts : P.underlying ts = some .string) (hcs : csz P ts = some 1) (hen : Enters P (ρ.f 156)) : FnOk P G (joinOE (ρ.f 156) ts) joinOF := by
  refine FnOk.of_step (E := { call := fun _ _ => none, loop := fun _ _ => none, ents := [], cuts := [], σ0 := [], G := [] }) hen (by simp [joinOE]) ?_
  intro C β vs zs o W hW hF hl hrel
  unfold joinOF at hF
  obtain ⟨hF1, hF2⟩ := bif_some hF
  cases hF2
  have hu : unRs P id zs (regRMs (joinOE (ρ.f 156) ts).ins) 0 = ([.own 0, .str (aAt zs 0).tree.txt], 1) := by
    simp [joinOE, regRMs, unRs, unR, ofT, hts]
  rw [hu] at hrel ⊢
  have hlk : lookOf P (joinOE (ρ.f 156) ts).ins.objs zs 1 = fun n => if n = 0 then some (.row ts (aAt zs 1).tree.kids) else none := by
    funext n
    cases n with
    | zero => rfl
    | succ n => cases n <;> rfl
  refine ⟨{ d := .str (joinB ((aAt zs 1).tree.kids.map T.txt) (aAt zs 0).tree.txt), upd := goneAll [], touch := [], fresh := 0 }, ⟨[.t (.str (joinB ((aAt zs 1).tree.kids.map T.txt) (aAt zs 0).tree.txt)), .t (.node (aAt zs 1).tree.kids)], [(0, some 0)], [], []⟩, ?_, rfl, ?_⟩
  · rw [show ([D.own 0, D.str (aAt zs 0).tree.txt], 1).2 = 1 from rfl, hlk]
    have hb : Nat.beq ts ts = true := Nat.beq_refl ts
    simp [packShape, joinOE, regRMs, packTops, packTop, packR, packObjs, bindN, sigma, stays, hasName, updF, setF, goneAll, apartB, meets, sigBound, gonesOk, liveB, packT, hts, hb]
    rfl
  have h0 := hrel.vals 0
  have h1 := hrel.vals 1
  have hl' : vs.length = 2 := hl
  match vs, hl' with
  | [v0, v1], _ =>
    obtain ⟨c1, hc1, hv1⟩ := h1
    have e1 : v1 = .string (aAt zs 0).tree.txt := by
      have : c1 = [.string (aAt zs 0).tree.txt] := hc1
      subst this
      simp [VF, scalar, regsOf, Array.getD] at hv1
      exact hv1.symm
    obtain ⟨ad, cap, e2, hlies⟩ := elems_lie hrel h0 (xs := (aAt zs 1).tree.kids) (e := ts) (tc := [0]) (by simp [elemsD, regsOf, hlk])
    have e3 : v0 = .slice ad (aAt zs 1).tree.kids.length cap := by simpa [Array.getD] using e2
    have hcap : (aAt zs 1).tree.kids.length ≤ cap := by
      obtain ⟨c0, ⟨pl, hp1, hp2⟩, hv0⟩ := h0
      by_cases hv : pl.virt = true
      · rw [if_pos hv] at hp2
        obtain ⟨a, e4⟩ := hp2
        subst e4
        simp [VF, scalar, regsOf, Array.getD] at hv0
        rw [e3] at hv0
        injection hv0 with e6 e7 e8
        omega
      · rw [if_neg hv] at hp2
        obtain ⟨cap', e4, e5, _⟩ := hp2
        subst e4
        simp [VF, scalar, regsOf, Array.getD] at hv0
        rw [e3] at hv0
        injection hv0 with e6 e7 e8
        omega
    subst e1 e3
    refine (join_lies L X hts hcs hlies hcap hF1).mono ?_
    rintro x W' ⟨rfl, hb⟩
    exact ⟨_, rfl, nxt_gone hrel (Wr.of_below hb) (frz := []) (fun _ => rv_str)⟩
end Go.Proofs.YtdofdhlpheaonaaDoorVM

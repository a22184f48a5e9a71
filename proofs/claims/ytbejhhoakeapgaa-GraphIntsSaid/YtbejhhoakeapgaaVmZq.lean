/- The machine: functions of the library that are told by hand. -/
import Derived.Test.YtbejhhoakeapgaaVmC
import Derived.Test.YtbejhhoakeapgaaVmA
import Derived.Shelf.Spec.SlicesGrow
namespace Go.Proofs.YtbejhhoakeapgaaVM
open Go
set_option linter.unusedVariables false
set_option linter.unusedSimpArgs false

theorem FnOk.of_step {P : Program} {G : Globs} {e : Entry} {F : List A → Option (List A)} {E : Env} (hen : Enters P e.fid) (hpos : 0 < e.ins.regs.length)
    (h : ∀ (C : Ctx) (β : Places) (vs : List Value) (zs o : List A) (W : World), C.W0 = W → F zs = some o → vs.length = e.ins.regs.length →
      Rel P G C β (fun j => e.ins.objs.length ≤ j) vs.length (regsOf (unRs P id zs (regRMs e.ins) 0).1) (lookOf P e.ins.objs zs (unRs P id zs (regRMs e.ins) 0).2) ⟨vs.toArray, []⟩ W →
      ∃ u pk, packShape P true E (updF (lookOf P e.ins.objs zs (unRs P id zs (regRMs e.ins) 0).2) u.upd) (stays 0 e.ins.objs e.outs.objs) e.outs [u.d] = some pk ∧ pk.«as» = o ∧
        Calls P e.fid vs.toArray W fun x W' => ∃ v, x = .returned v ∧ Nxt P G C β (fun j => e.ins.objs.length ≤ j) vs.length (regsOf (unRs P id zs (regRMs e.ins) 0).1) (lookOf P e.ins.objs zs (unRs P id zs (regRMs e.ins) 0).2) (some 0) e.ins.objs.length u (Act.put ⟨vs.toArray, []⟩ (some 0) v) W') :
    FnOk P G e F := by
  refine ⟨hen, fun C β vs zs o W hW hF hat => ?_⟩
  obtain ⟨hl, _, hrel⟩ := hat
  obtain ⟨u, pk, hp, rfl, hc⟩ := h C β vs zs o W hW hF hl hrel
  refine hc.mono ?_
  rintro x W' ⟨v, rfl, β', hs, hr⟩
  have hv0 := hr.vals 0
  have e1 : upd1 vs.length (regsOf (unRs P id zs (regRMs e.ins) 0).1) (some 0) u.d 0 = u.d := by
    unfold upd1
    rw [if_pos ⟨rfl, by omega⟩]
  have e2 : (Act.put ⟨vs.toArray, []⟩ (some 0) v).tmps.getD 0 Go.undef = v := by
    simp [Act.put, Array.getD, show 0 < vs.length by omega]
  rw [e1, e2] at hv0
  obtain ⟨β'', q1, q2, q3, q4⟩ := pack_same hr (stays_inj _ _ 0) hp (vs := [v]) ⟨hv0, trivial⟩
  have hlen := q3.length
  rw [unRs_length] at hlen
  refine ⟨[v], β'', rfl, fun j pl hs' hb => by rw [q1 j j hs']; exact hs j pl hb, by rw [← hlen]; simp [regRMs], q2, ?_⟩
  refine q4 rfl (by simp) q3.get (fun t ht => ?_)
  unfold regsOf
  rw [List.getD, List.getElem?_eq_none (by rw [unRs_length, hlen]; exact ht)]
  rfl

def growF (zs : List A) : Option (List A) := bif decide (0 ≤ (aAt zs 0).tree.num) && decide ((aAt zs 0).tree.num ≤ 1000000000) then some [.t (.node [])] else none
def growE (f : FuncId) (ti te : TypeId) : Entry := { fid := f, ins := ⟨[(0, .nl), (1, .v ti)], []⟩, outs := ⟨[(0, .o 0)], [.row te]⟩, cuts := [], prim := some growF }
theorem grow_ok {P : Program} {G : Globs} {ρ : Go.Shelf.Ren} (L : Go.Proofs.Lays8.n4 P ρ) {ti te : TypeId} {i0 : TypeInfo} {z : Value} (hti : P.underlying ti = some (.int .i64)) (hte : ρ.t 25 = te) (hi0 : P.info? te = some i0) (hz0 : i0.zero = some z) (hzs : z.cells.size = i0.size)
    (hcs : csz P te = some i0.size) (hs0 : 0 < i0.size) (hby : i0.bytes ≤ 65536) (hen : Enters P (ρ.f 4)) : FnOk P G (growE (ρ.f 4) ti te) growF := by
  refine FnOk.of_step (E := { call := fun _ _ => none, loop := fun _ _ => none, ents := [], cuts := [], σ0 := [], G := [] }) hen (by simp [growE]) ?_
  intro C β vs zs o W hW hF hl hrel
  unfold growF at hF
  obtain ⟨hF1, hF2⟩ := bif_some hF
  rw [Bool.and_eq_true, decide_eq_true_eq, decide_eq_true_eq] at hF1
  cases hF2
  obtain ⟨n, hn⟩ := Int.eq_ofNat_of_zero_le hF1.1
  refine ⟨{ d := .own 0, upd := (0, some (.row te [])) :: goneAll [], touch := [], fresh := 1 }, ⟨[.t (.node [])], [(0, some 0)], [], []⟩, by simp [packShape, growE, regRMs, packTops, packTop, packR, packObjs, bindN, sigma, stays, hasName, updF, setF, goneAll, apartB, meets, sigBound, gonesOk, liveB]; rfl, rfl, ?_⟩
  -- the arguments
  have hu : unRs P id zs (regRMs (growE (ρ.f 4) ti te).ins) 0 = ([.nils, .int .i64 (aAt zs 0).tree.num], 1) := by
    simp [growE, regRMs, unRs, unR, ofT, hti]
  rw [hu] at hrel ⊢
  have h0 := hrel.vals 0
  have h1 := hrel.vals 1
  have hl' : vs.length = 2 := hl
  match vs, hl' with
  | [v0, v1], _ =>
    obtain ⟨c0, hc0, hv0⟩ := h0
    obtain ⟨c1, hc1, hv1⟩ := h1
    have e0 : v0 = .slice none 0 0 := by
      have : c0 = [.slice none 0 0] := hc0
      subst this
      simp [VF, scalar, regsOf, Array.getD] at hv0
      exact hv0.symm
    have e1 : v1 = .int .i64 n := by
      have : c1 = [.int .i64 (aAt zs 0).tree.num] := hc1
      subst this
      simp [VF, scalar, regsOf, Array.getD] at hv1
      rw [← hv1, hn]
    subst e0 e1
    have hfree : ([] : List OM).length ≤ 0 := Nat.le_refl _
    by_cases hz : n = 0
    · subst hz
      refine (Go.Proofs.Any8.slices_Grow_room L none 0 0 0 W (by omega) (by omega) (by omega) (by omega)).mono ?_
      rintro x W' ⟨rfl, rfl⟩
      refine ⟨_, rfl, nxt_new hrel hfree (frz := []) (Wr.refl _ W') (pl := { b := 0, off := 0, len := 0, sz := i0.size, lim := 0, virt := true }) rfl (.inl rfl) (fun hle => ?_) (fun hle => ?_)⟩
      · exact ⟨rfl, hcs, hs0, fun _ => rfl, fun hv => by cases hv⟩
      · exact RV_scalar ⟨{ b := 0, off := 0, len := 0, sz := i0.size, lim := 0, virt := true }, by simp [setP, growE], by simp⟩ rfl
    · have hb : (0 + n) * i0.bytes ≤ 140737488355328 := by
        have : n ≤ 1000000000 := by omega
        calc (0 + n) * i0.bytes ≤ 1000000000 * 65536 := Nat.mul_le_mul (by omega) hby
          _ ≤ 140737488355328 := by decide
      have hge := grownCap_ge W (0 + n) 0 (ρ.t 25)
      refine (Go.Proofs.Any8.slices_Grow_grow L i0 z (by rw [hte]; exact hi0) hz0 hs0 none 0 0 n [] W (by omega) (by omega) hb (by omega) (by simp) (fun _ => rfl) (fun a h => by cases h)).mono ?_
      rintro x W' ⟨rfl, rfl⟩
      refine ⟨_, rfl, nxt_new hrel hfree (frz := []) (Wr.grow W _) (pl := { b := W.heap.size, off := 0, len := 0, sz := i0.size, lim := grownCap W (0 + n) 0 (ρ.t 25) * i0.size }) rfl (.inr (Nat.le_refl _)) (fun hle => ?_) (fun hle => ?_)⟩
      · refine ⟨rfl, hcs, hs0, (fun hv => by cases hv), fun _ => ⟨_, _, (0, 0), heap_alloc_last W.drew _, ?_, ⟨fun o _ hx => by have := hx.2; omega, .inr ⟨rfl, ?_⟩⟩, fun i x hi => by simp at hi⟩⟩
        · simp only [Array.size_append, List.size_toArray, zeroCells_size, hzs, List.length_nil, Nat.zero_add, ← Nat.add_mul]
          congr 1
          rw [Nat.zero_add] at hge
          omega
        · simp only [Array.size_append, List.size_toArray, zeroCells_size, hzs, List.length_nil, Nat.zero_add, ← Nat.add_mul]
          refine Nat.mul_le_mul_right _ ?_
          have hmx := grownCap_le_maxLen W (0 + n) 0 (ρ.t 25) (by unfold maxLen; omega)
          rw [Nat.zero_add] at hge hmx
          omega
      · refine RV_scalar ⟨_, by simp [setP, growE]; rfl, ?_⟩ rfl
        simp only [Bool.false_eq_true, if_false]
        exact ⟨grownCap W (0 + n) 0 (ρ.t 25), rfl, by omega, by simp⟩
end Go.Proofs.YtbejhhoakeapgaaVM

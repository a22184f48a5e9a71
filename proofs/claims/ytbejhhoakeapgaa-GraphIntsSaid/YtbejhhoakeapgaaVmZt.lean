/- The machine: functions of the library that are told by hand. -/
import Derived.Test.YtbejhhoakeapgaaVmC
import Derived.Test.YtbejhhoakeapgaaVmZq
import Derived.Test.YtbejhhoakeapgaaVmA
import Derived.Shelf.Small.Strs
namespace Go.Proofs.YtbejhhoakeapgaaVM
open Go
set_option linter.unusedVariables false
set_option linter.unusedSimpArgs false
theorem compareBytes_eq : ∀ l m : List UInt8, Lib.compareBytes l m = bif Op.bytesLess l m then -1 else bif Op.bytesLess m l then 1 else 0
  | [], [] => rfl
  | [], _ :: _ => rfl
  | _ :: _, [] => rfl
  | a :: l, b :: m => by
    have ih := compareBytes_eq l m
    have hc : Lib.compareBytes (a :: l) (b :: m) = if a < b then -1 else if b < a then 1 else Lib.compareBytes l m := rfl
    rw [hc, ih]
    simp only [Op.bytesLess, Bool.cond_eq_ite, Bool.or_eq_true, decide_eq_true_eq, Bool.and_eq_true, beq_iff_eq]
    by_cases h1 : a < b
    · rw [if_pos h1, if_pos (.inl h1)]
    · by_cases h2 : b < a
      · have h3 : ¬ (a < b ∨ a = b ∧ Op.bytesLess l m = true) := by
          rintro (h | ⟨h, _⟩)
          · exact h1 h
          · subst h; exact h1 h2
        rw [if_neg h1, if_pos h2, if_neg h3, if_pos (.inl h2)]
      · have h3 : a = b := by
          have := UInt8.le_antisymm (UInt8.not_lt.1 h2) (UInt8.not_lt.1 h1)
          exact this
        subst h3
        rw [if_neg h1, if_neg h1]
        simp [h1]
theorem cmp_ok {P : Program} {G : Globs} {ρ : Go.Shelf.Ren} (L : Go.Proofs.Lays.n106 P ρ) {ts ti : TypeId} (hts : P.underlying ts = some .string) (hti : P.underlying ti = some (.int .i64)) (hen : Enters P (ρ.f 106)) : FnOk P G (cmpE (ρ.f 106) ts ti) cmpF := by
  refine FnOk.of_step (E := { call := fun _ _ => none, loop := fun _ _ => none, ents := [], cuts := [], σ0 := [], G := [] }) hen (by simp [cmpE]) ?_
  intro C β vs zs o W hW hF hl hrel
  cases hF
  refine ⟨{ d := .int .i64 (cmpB (aAt zs 0).tree.txt (aAt zs 1).tree.txt), upd := goneAll [], touch := [], fresh := 0 }, ⟨[.t (.int (cmpB (aAt zs 0).tree.txt (aAt zs 1).tree.txt))], [], [], []⟩, ?_, rfl, ?_⟩
  · simp [packShape, cmpE, regRMs, packTops, packTop, packR, packObjs, bindN, sigma, stays, hasName, updF, setF, goneAll, apartB, meets, sigBound, gonesOk, liveB, packT, hti]
  have hu : unRs P id zs (regRMs (cmpE (ρ.f 106) ts ti).ins) 0 = ([.str (aAt zs 0).tree.txt, .str (aAt zs 1).tree.txt], 2) := by
    simp [cmpE, regRMs, unRs, unR, ofT, hts]
  rw [hu] at hrel ⊢
  have h0 := hrel.vals 0
  have h1 := hrel.vals 1
  have hl' : vs.length = 2 := hl
  match vs, hl' with
  | [v0, v1], _ =>
    obtain ⟨c0, hc0, hv0⟩ := h0
    obtain ⟨c1, hc1, hv1⟩ := h1
    have e0 : v0 = .string (aAt zs 0).tree.txt := by
      have : c0 = [.string (aAt zs 0).tree.txt] := hc0
      subst this
      simp [VF, scalar, regsOf, Array.getD] at hv0
      exact hv0.symm
    have e1 : v1 = .string (aAt zs 1).tree.txt := by
      have : c1 = [.string (aAt zs 1).tree.txt] := hc1
      subst this
      simp [VF, scalar, regsOf, Array.getD] at hv1
      exact hv1.symm
    subst e0 e1
    refine (Go.Proofs.Any.strings_Compare L _ _ W).mono ?_
    rintro x W' ⟨rfl, rfl⟩
    refine ⟨_, rfl, nxt_gone hrel (Wr.refl _ _) (frz := []) (fun _ => ?_)⟩
    have hb : Lib.compareBytes (aAt zs 0).tree.txt.data.toList (aAt zs 1).tree.txt.data.toList = cmpB (aAt zs 0).tree.txt (aAt zs 1).tree.txt := by
      rw [compareBytes_eq]
      simp only [cmpB, sltB, ByteArray.toList_eq]
    rw [hb]
    exact rv_int
end Go.Proofs.YtbejhhoakeapgaaVM

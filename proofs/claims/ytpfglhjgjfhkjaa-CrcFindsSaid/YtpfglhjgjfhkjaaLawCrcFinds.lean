import Derived.Test.YtpfglhjgjfhkjaaPureCrcFinds
import Derived.Test.YtpfglhjgjfhkjaaRows
import Derived.WalkKit
import Derived.ProofKit
import Derived.OpenShut
import Derived.ShutString
import Derived.ChangeOld
import Derived.Below
import Derived.SizedLaws
import Derived.ChangeCalls
namespace Go.Proofs.Ytpfglhjgjfhkjaa.crcFinds
open Go.ChangeShapes Go.WideShapes Go.ChangeAt Go.RowKit
open Go.Proofs.YtpfglhjgjfhkjaaVM
set_option linter.unusedVariables false
theorem own : ownKnob Try.prog.godebug = none := by kernel_rfl
theorem laidOut : laidOutB Try.prog = true := by kernel_rfl
theorem orders : Try.prog.follows .mixedOrders = true := by kernel_rfl
/-- The types of what is handed in. -/
def tys : List TypeId := [9, 3, 23]
theorem tysOk : tys.all (okTy Try.prog tys) = true := by kernel_rfl
theorem entered : CrcFinds.ents.all (fun e => entersB Try.prog e.fid) = true := by kernel_rfl
theorem noPrims : CrcFinds.ents.all (fun e => e.prim.isNone) = true := by kernel_rfl
/-- The plain law, of all that may be handed in. -/
theorem plain (ts : List T) (h : TOks Try.prog [9, 3, 23] ts) : ∃ n, sem Try.prog [] CrcFinds.ents n 0 (ts.map A.t) = some [A.t (.bool true)] := by
  match ts, h with
  | [t0, t1, t2], ⟨h0, h1, h2, _⟩ =>
    obtain ⟨s, rfl, hs⟩ := h0.str_of Try.underlying9
    obtain ⟨a, rfl, _⟩ := h1.int_of Try.underlying3
    obtain ⟨m, rfl, hm⟩ := h2.int_of Try.underlying23
    have hm' : 0 ≤ m ∧ m < 4294967296 := by
      simp [Lit.wf, IntKind.min, IntKind.max, IntKind.bits, IntKind.signed] at hm
      omega
    obtain ⟨k, rfl⟩ := Int.eq_ofNat_of_zero_le hm'.1
    exact (CrcFinds.law_does s a k (by omega)).sem
set_option maxRecDepth 100000 in
theorem lifted (os : Os) (started : os.Started) (H : Type) (enc : TypeId × Value → H) :
    ReturnsInHanded {} Try.checked os 5 .any (Rows.crcFindsSpec.pre6 enc Try.prog Try.f5 Rows.crcFindsRow.domain false) (Rows.crcFindsSpec.post enc Try.prog Try.f5 false true false false) := by
  refine returnsInHanded_of_change_sized (C := Try.checked) own started (by kernel_rfl) Try.func5
    (ChangeSpec.witness6 (enc := enc) (C := Try.checked) false ⟨#[], #[.string ByteArray.empty, .int .i64 0, .int .u32 0], []⟩ 8 (by kernel_rfl) (by kernel_rfl) (by kernel_rfl) (by kernel_rfl)) ?_
  intro W base args ds gs before hval0 hW hcnd hsz0 _
  have hval : ∀ (j : Nat) t v, Try.f5.params[j]? = some t → args[j]? = some v → Value.okWide Try.prog W .any base t v := hval0
  have hW' := hW
  obtain ⟨p, q, hA0, hV, rfl, hfz, hnd⟩ := hW
  have hA : DataW.TrodAll enc Try.prog W 0 (fun _ => true) true Try.f5.params.toList args.toList ds p := hA0
  rw [Try.params5] at hA hval
  obtain ⟨rfl, rfl⟩ := trodVars_none hV
  obtain ⟨ts, hpv, hok⟩ := args_open (types_of tysOk) hA (by kernel_rfl) (fun j t v ht hv => hval j t v (by simpa using ht) (by simpa using hv))
  obtain ⟨n, hn⟩ := plain ts hok
  have hlt := DataW.TrodAll.lt hA
  clear hA0 hval0 hsz0
  refine (FnOk.data (sem_ok (drawOk orders) (enters_of entered) (prims_of noPrims) n 0 (e := CrcFinds.e0) rfl) (ps := [9, 3, 23]) (rs := [4]) rfl rfl (by kernel_rfl) (by kernel_rfl) (fun g τ t h => by cases h) hpv hn).mono fun e W' ⟨us, he, bel, hus⟩ => ?_
  obtain rfl := bool_of Try.underlying4 hus
  subst he
  obtain ⟨d0, d1, d2, rfl⟩ : ∃ d0 d1 d2, ds = [d0, d1, d2] := by
    have hl : ds.length = 3 := (trodAll_length hA).2
    match ds, hl with
    | [a, b, c], _ => exact ⟨a, b, c, rfl⟩
  exact ⟨_, rfl, _, _, _, [], _, [], hW', trodAll_mk1 (shut_bool Try.underlying4 _), args_stay laidOut bel hA (by kernel_rfl) hlt, rfl, bel.frame _, fun h => by cases h⟩
theorem over : Rows.crcFindsRow.holds Try.pinned (OpenSpec.ofChange Rows.crcFindsSpec) :=
  OpenClaim.holds_of_wide 5 Try.f5 rfl rfl rfl rfl rfl rfl rfl ⟨rfl, rfl, rfl, rfl, rfl⟩ rfl rfl rfl rfl rfl (by kernel_rfl) Try.func5 (by kernel_rfl)
    (of_decide_eq_true (by kernel_rfl)) (by unfold Func.isWrapper; first | (rw [if_pos (by decide +kernel)]; kernel_rfl) | (rw [if_neg (by decide +kernel)]; exact ⟨rfl, rfl⟩))
    (fun os started H enc _ => lifted os started H enc)
theorem proved : Rows.CrcFindsSaid := over
#print axioms proved
end Go.Proofs.Ytpfglhjgjfhkjaa.crcFinds
namespace Go.Proofs.Ytpfglhjgjfhkjaa
/-- The row, under a short name, for the claim. -/
theorem crcFinds_holds : Rows.CrcFindsSaid := crcFinds.proved
end Go.Proofs.Ytpfglhjgjfhkjaa

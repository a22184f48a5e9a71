import Derived.Test.YtpfglhjgjfhkjaaPureFrameTurned
import Derived.Test.YtpfglhjgjfhkjaaRows
import Derived.WalkKit
import Derived.ProofKit
import Derived.OpenShut
import Derived.ShutString
import Derived.ChangeOld
import Derived.Below
import Derived.SizedLaws
import Derived.ChangeCalls
namespace Go.Proofs.Ytpfglhjgjfhkjaa.frameTurned
open Go.ChangeShapes Go.WideShapes Go.ChangeAt Go.RowKit
open Go.Proofs.YtpfglhjgjfhkjaaVM
set_option linter.unusedVariables false
theorem own : ownKnob Try.prog.godebug = none := by kernel_rfl
theorem laidOut : laidOutB Try.prog = true := by kernel_rfl
theorem orders : Try.prog.follows .mixedOrders = true := by kernel_rfl
/-- The types of what is handed in. -/
def tys : List TypeId := [9, 3, 23]
theorem tysOk : tys.all (okTy Try.prog tys) = true := by kernel_rfl
theorem entered : FrameTurned.ents.all (fun e => entersB Try.prog e.fid) = true := by kernel_rfl
/-- slices.Grow, as the library's contract tells it. -/
def growRen : Go.Shelf.Ren := ⟨fun | 4 => 59 | n => n, fun | 22 => 34 | 25 => 5 | n => n, fun n => n⟩
theorem growLaid : Lays8.n4 Try.prog growRen := {
  mixed := (by kernel_rfl)
  f4 := ⟨Try.f59.name, by decide, Try.func59.trans (congrArg some (by kernel_rfl))⟩
  t0 := Try.underlying0
  a0 := Try.isAgg0
  z0 := Try.sizeOf0
  v0 := Try.zeroValue0
  t3 := Try.underlying3
  a3 := Try.isAgg3
  z3 := Try.sizeOf3
  v3 := Try.zeroValue3
  t4 := Try.underlying4
  a4 := Try.isAgg4
  z4 := Try.sizeOf4
  v4 := Try.zeroValue4
  t9 := Try.underlying9
  a9 := Try.isAgg9
  z9 := Try.sizeOf9
  v9 := Try.zeroValue9
  t20 := Try.underlying20
  a20 := Try.isAgg20
  z20 := Try.sizeOf20
  v20 := Try.zeroValue20
  t22 := Try.underlying34
  a22 := Try.isAgg34
  z22 := Try.sizeOf34
  v22 := Try.zeroValue34 }
theorem growOk : FnOk Try.prog [] FrameTurned.e0 growF :=
  grow_ok growLaid Try.underlying3 rfl (i0 := Try.t5) (z := .int .u8 0) (by kernel_rfl) (by kernel_rfl) (by kernel_rfl) (by kernel_rfl) (of_decide_eq_true (by kernel_rfl)) (of_decide_eq_true (by kernel_rfl)) (Go.Proofs.YtpfglhjgjfhkjaaVM.enters_of entered 0 FrameTurned.e0 rfl)
theorem noPrims : (FrameTurned.ents.drop 1).all (fun e => e.prim.isNone) = true := by kernel_rfl
theorem prims (i : Nat) (e : Entry) (F) (he : FrameTurned.ents[i]? = some e) (hp : e.prim = some F) : FnOk Try.prog [] e F := by
  cases i with
  | zero =>
    have h1 : FrameTurned.e0 = e := Option.some.inj he
    subst h1
    have h2 : growF = F := Option.some.inj hp
    subst h2
    exact growOk
  | succ i => exact prims_of noPrims i e F (by rw [List.getElem?_drop, Nat.add_comm]; exact he) hp
/-- The plain law, of all that may be handed in. -/
theorem plain (ts : List T) (h : TOks Try.prog [9, 3, 23] ts) : ∃ n, sem Try.prog [] FrameTurned.ents n 1 (ts.map A.t) = some [A.t (.bool true)] := by
  match ts, h with
  | [t0, t1, t2], ⟨h0, h1, h2, _⟩ =>
    obtain ⟨s, rfl, hs⟩ := h0.str_of Try.underlying9
    obtain ⟨a, rfl, _⟩ := h1.int_of Try.underlying3
    obtain ⟨m, rfl, hm⟩ := h2.int_of Try.underlying23
    have hm' : 0 ≤ m ∧ m < 4294967296 := by
      simp [Lit.wf, IntKind.min, IntKind.max, IntKind.bits, IntKind.signed] at hm
      omega
    obtain ⟨k, rfl⟩ := Int.eq_ofNat_of_zero_le hm'.1
    exact (FrameTurned.law_does s a k (by omega)).sem
set_option maxRecDepth 100000 in
theorem lifted (os : Os) (started : os.Started) (H : Type) (enc : TypeId × Value → H) :
    ReturnsInHanded {} Try.checked os 10 .any (Rows.frameTurnedSpec.pre6 enc Try.prog Try.f10 Rows.frameTurnedRow.domain false) (Rows.frameTurnedSpec.post enc Try.prog Try.f10 false true false false) := by
  refine returnsInHanded_of_change_sized (C := Try.checked) own started (by kernel_rfl) Try.func10
    (ChangeSpec.witness6 (enc := enc) (C := Try.checked) false ⟨#[], #[.string ByteArray.empty, .int .i64 0, .int .u32 0], []⟩ 8 (by kernel_rfl) (by kernel_rfl) (by kernel_rfl) (by kernel_rfl)) ?_
  intro W base args ds gs before hval0 hW hcnd hsz0 _
  have hval : ∀ (j : Nat) t v, Try.f10.params[j]? = some t → args[j]? = some v → Value.okWide Try.prog W .any base t v := hval0
  have hW' := hW
  obtain ⟨p, q, hA0, hV, rfl, hfz, hnd⟩ := hW
  have hA : DataW.TrodAll enc Try.prog W 0 (fun _ => true) true Try.f10.params.toList args.toList ds p := hA0
  rw [Try.params10] at hA hval
  obtain ⟨rfl, rfl⟩ := trodVars_none hV
  obtain ⟨ts, hpv, hok⟩ := args_open (types_of tysOk) hA (by kernel_rfl) (fun j t v ht hv => hval j t v (by simpa using ht) (by simpa using hv))
  obtain ⟨n, hn⟩ := plain ts hok
  have hlt := DataW.TrodAll.lt hA
  clear hA0 hval0 hsz0
  refine (FnOk.data (sem_ok (drawOk orders) (Go.Proofs.YtpfglhjgjfhkjaaVM.enters_of entered) prims n 1 (e := FrameTurned.e1) rfl) (ps := [9, 3, 23]) (rs := [4]) rfl rfl (by kernel_rfl) (by kernel_rfl) (fun g τ t h => by cases h) hpv hn).mono fun e W' ⟨us, he, bel, hus⟩ => ?_
  obtain rfl := bool_of Try.underlying4 hus
  subst he
  obtain ⟨d0, d1, d2, rfl⟩ : ∃ d0 d1 d2, ds = [d0, d1, d2] := by
    have hl : ds.length = 3 := (trodAll_length hA).2
    match ds, hl with
    | [a, b, c], _ => exact ⟨a, b, c, rfl⟩
  exact ⟨_, rfl, _, _, _, [], _, [], hW', trodAll_mk1 (shut_bool Try.underlying4 _), args_stay laidOut bel hA (by kernel_rfl) hlt, rfl, bel.frame _, fun h => by cases h⟩
theorem over : Rows.frameTurnedRow.holds Try.pinned (OpenSpec.ofChange Rows.frameTurnedSpec) :=
  OpenClaim.holds_of_wide 10 Try.f10 rfl rfl rfl rfl rfl rfl rfl ⟨rfl, rfl, rfl, rfl, rfl⟩ rfl rfl rfl rfl rfl (by kernel_rfl) Try.func10 (by kernel_rfl)
    (of_decide_eq_true (by kernel_rfl)) (by unfold Func.isWrapper; first | (rw [if_pos (by decide +kernel)]; kernel_rfl) | (rw [if_neg (by decide +kernel)]; exact ⟨rfl, rfl⟩))
    (fun os started H enc _ => lifted os started H enc)
theorem proved : Rows.FrameTurnedSaid := over
#print axioms proved
end Go.Proofs.Ytpfglhjgjfhkjaa.frameTurned
namespace Go.Proofs.Ytpfglhjgjfhkjaa
/-- The row, under a short name, for the claim. -/
theorem frameTurned_holds : Rows.FrameTurnedSaid := frameTurned.proved
end Go.Proofs.Ytpfglhjgjfhkjaa

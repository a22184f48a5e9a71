-- Written by wip/tools/xprint.py of this work, over the kit's printer.
import Derived.Test.YtpfglhjgjfhkjaaXP0
import Derived.Test.YtpfglhjgjfhkjaaXP2
import Derived.Test.YtpfglhjgjfhkjaaXP4
import Derived.Test.YtpfglhjgjfhkjaaXP5
import Derived.Test.YtpfglhjgjfhkjaaXP6
namespace Go.Proofs.Ytpfglhjgjfhkjaa.XP
open Go.RowKit Go.Proofs.YtpfglhjgjfhkjaaW.PrintWords Go.Proofs.YtpfglhjgjfhkjaaW.PrintLast Go.Proofs.YtpfglhjgjfhkjaaW.PrintMore
attribute [local go_sem] max2_int min2_int max_two min_two max_three min_three max_four min_four   -- for this text's walks alone
set_option linter.unusedVariables false
set_option linter.unusedSimpArgs false

/-! ### treillagelaw03_VintReads: function 8 -/
mutual
def treillagelaw03_VintReads.j0 : Nat → ByteArray → List (S54) → Bool → Option (Bool)
  | 0, _, _, _ => none
  | k + 1, x0, x1, x25 => if x25 = true then ((treillagelaw03_awake.f).bind fun t324 => (some t324)) else ((vint_New.f x0).bind fun bt325 => (treillagelaw03_VintReads.l0 k x0 x1 0 bt325.1 bt325.2.1 bt325.2.2 x0 0 0))
def treillagelaw03_VintReads.l0 : Nat → ByteArray → List (S54) → Int → ByteArray → Int → Int → ByteArray → Int → Int → Option (Bool)
  | 0, _, _, _, _, _, _, _, _, _ => none
  | k + 1, x0, x1, x7, x329000, x329001, x329002, x330000, x330001, x330002 => if x7 < (x1.length : Int) then (if 0 ≤ x7 then (if (Go.bits .and .u8 ((rd_T54 x1 x7).f0) 3) = 0 then ((treillageref03_Get.f x330000 x330001 x330002).bind fun bt331 => ((vint_Reader_Get.f k x329000 x329001 x329002).bind fun bt336 => (treillagelaw03_VintReads.j2 k x0 x1 x7 (bt336.1 == bt331.2.2.2) bt336.2.1 bt336.2.2.1 bt336.2.2.2 bt331.1 bt331.2.1 bt331.2.2.1))) else (if (Go.bits .and .u8 ((rd_T54 x1 x7).f0) 3) = 1 then ((treillageref03_Most.f x330000 x330001 x330002 (IntKind.u64.wrap ((rd_T54 x1 x7).f1))).bind fun bt341 => ((vint_Reader_Most.f k x329000 x329001 x329002 (IntKind.u64.wrap ((rd_T54 x1 x7).f1))).bind fun bt347 => (treillagelaw03_VintReads.j2 k x0 x1 x7 (bt347.1 == bt341.2.2.2) bt347.2.1 bt347.2.2.1 bt347.2.2.2 bt341.1 bt341.2.1 bt341.2.2.1))) else (if (Go.bits .and .u8 ((rd_T54 x1 x7).f0) 3) = 2 then ((treillageref03_GetInt.f x330000 x330001 x330002).bind fun bt351 => ((vint_Reader_GetInt.f k x329000 x329001 x329002).bind fun bt356 => (treillagelaw03_VintReads.j2 k x0 x1 x7 (bt356.1 == bt351.2.2.2) bt356.2.1 bt356.2.2.1 bt356.2.2.2 bt351.1 bt351.2.1 bt351.2.2.1))) else ((treillageref03_GetText.f k x330000 x330001 x330002 ((rd_T54 x1 x7).f1)).bind fun bt361 => ((vint_Reader_GetText.f k x329000 x329001 x329002 ((rd_T54 x1 x7).f1)).bind fun bt367 => (treillagelaw03_VintReads.j2 k x0 x1 x7 (bt367.1.toList == bt361.2.2.2.toList) bt367.2.1 bt367.2.2.1 bt367.2.2.2 bt361.1 bt361.2.1 bt361.2.2.1)))))) else (none)) else ((treillagelaw03_awake.f).bind fun t384 => (if t384 = true then ((vint_Reader_Get_nil.f).bind fun t385 => (if t385 = 0 then ((vint_Reader_Most_nil.f 5).bind fun t386 => (if t386 = 0 then ((vint_Reader_GetInt_nil.f).bind fun t387 => (if t387 = 0 then ((vint_Reader_GetText_nil.f 5).bind fun t388 => (if t388.toList = ([] : List UInt8) then ((vint_Reader_Left_nil.f).bind fun t389 => (if t389 = 0 then ((vint_Reader_Err_nil.f).bind fun t390 => (if t390 = 1 then ((vint_Reader_End_nil.f).bind fun t391 => (some (t391 == 1))) else (none))) else (none))) else (none))) else (none))) else (none))) else (none))) else (none)))
def treillagelaw03_VintReads.j2 : Nat → ByteArray → List (S54) → Int → Bool → ByteArray → Int → Int → ByteArray → Int → Int → Option (Bool)
  | 0, _, _, _, _, _, _, _, _, _, _ => none
  | k + 1, x0, x1, x7, x8, x329000, x329001, x329002, x330000, x330001, x330002 => if x8 = true then ((vint_Reader_Err.f x329000 x329001 x329002).bind fun bt371 => (if bt371.1 = x330002 then ((vint_Reader_Left.f bt371.2.1 bt371.2.2.1 bt371.2.2.2).bind fun bt375 => (if bt375.1 = (wrap64 ((x0.size : Int) - x330001)) then ((vint_Reader_End.f bt375.2.1 bt375.2.2.1 bt375.2.2.2).bind fun bt379 => ((treillageref03_End.f x330000 x330001 x330002).bind fun t383 => (if bt379.1 = t383 then (treillagelaw03_VintReads.l0 k x0 x1 (wrap64 (x7 + 1)) bt379.2.1 bt379.2.2.1 bt379.2.2.2 x330000 x330001 x330002) else (none)))) else (none))) else (none))) else (none)
end
def treillagelaw03_VintReads.f (k : Nat) (a0 : ByteArray) (l1 : List (S54)) : Option (Bool) := if (a0.size : Int) > 400 then (treillagelaw03_VintReads.j0 k a0 l1 true) else (treillagelaw03_VintReads.j0 k a0 l1 (decide ((l1.length : Int) > 60)))
theorem treillagelaw03_VintReads.mono_l : ∀ k, (∀ y0 y1 y2, LeO (treillagelaw03_VintReads.j0 k y0 y1 y2) (treillagelaw03_VintReads.j0 (k + 1) y0 y1 y2)) ∧ (∀ y0 y1 y2 y3 y4 y5 y6 y7 y8, LeO (treillagelaw03_VintReads.l0 k y0 y1 y2 y3 y4 y5 y6 y7 y8) (treillagelaw03_VintReads.l0 (k + 1) y0 y1 y2 y3 y4 y5 y6 y7 y8)) ∧ (∀ y0 y1 y2 y3 y4 y5 y6 y7 y8 y9, LeO (treillagelaw03_VintReads.j2 k y0 y1 y2 y3 y4 y5 y6 y7 y8 y9) (treillagelaw03_VintReads.j2 (k + 1) y0 y1 y2 y3 y4 y5 y6 y7 y8 y9))
  | 0 => ⟨fun _ _ _ r h => by simp [treillagelaw03_VintReads.j0] at h, fun _ _ _ _ _ _ _ _ _ r h => by simp [treillagelaw03_VintReads.l0] at h, fun _ _ _ _ _ _ _ _ _ _ r h => by simp [treillagelaw03_VintReads.j2] at h⟩
  | k + 1 => by
    obtain ⟨ih0, ih1, ih2⟩ := treillagelaw03_VintReads.mono_l k
    refine ⟨?_, ?_, ?_⟩
    · intro y0 y1 y2
      unfold treillagelaw03_VintReads.j0
      repeat' first
      | (with_reducible exact ih0 _ _ _)
      | (with_reducible exact ih1 _ _ _ _ _ _ _ _ _)
      | (with_reducible exact ih2 _ _ _ _ _ _ _ _ _ _)
      | (with_reducible exact treillageref03_GetText.mono _ _ _ _ _)
      | (with_reducible exact vint_Reader_Get.mono _ _ _ _)
      | (with_reducible exact vint_Reader_GetInt.mono _ _ _ _)
      | (with_reducible exact vint_Reader_GetText.mono _ _ _ _ _)
      | (with_reducible exact vint_Reader_Most.mono _ _ _ _ _)
      | (with_reducible exact LeO.refl _)
      | (with_reducible exact LeO.none _)
      | (with_reducible refine LeO.ite ?_ ?_)
      | (with_reducible refine LeO.bind ?_ (fun _ => ?_))
      | exact ih0 _ _ _
      | exact ih1 _ _ _ _ _ _ _ _ _
      | exact ih2 _ _ _ _ _ _ _ _ _ _
      | exact treillageref03_GetText.mono _ _ _ _ _
      | exact vint_Reader_Get.mono _ _ _ _
      | exact vint_Reader_GetInt.mono _ _ _ _
      | exact vint_Reader_GetText.mono _ _ _ _ _
      | exact vint_Reader_Most.mono _ _ _ _ _
      | exact LeO.none _
      | refine LeO.ite ?_ ?_
      | refine LeO.bind ?_ (fun _ => ?_)
    · intro y0 y1 y2 y3 y4 y5 y6 y7 y8
      unfold treillagelaw03_VintReads.l0
      repeat' first
      | (with_reducible exact ih0 _ _ _)
      | (with_reducible exact ih1 _ _ _ _ _ _ _ _ _)
      | (with_reducible exact ih2 _ _ _ _ _ _ _ _ _ _)
      | (with_reducible exact treillageref03_GetText.mono _ _ _ _ _)
      | (with_reducible exact vint_Reader_Get.mono _ _ _ _)
      | (with_reducible exact vint_Reader_GetInt.mono _ _ _ _)
      | (with_reducible exact vint_Reader_GetText.mono _ _ _ _ _)
      | (with_reducible exact vint_Reader_Most.mono _ _ _ _ _)
      | (with_reducible exact LeO.refl _)
      | (with_reducible exact LeO.none _)
      | (with_reducible refine LeO.ite ?_ ?_)
      | (with_reducible refine LeO.bind ?_ (fun _ => ?_))
      | exact ih0 _ _ _
      | exact ih1 _ _ _ _ _ _ _ _ _
      | exact ih2 _ _ _ _ _ _ _ _ _ _
      | exact treillageref03_GetText.mono _ _ _ _ _
      | exact vint_Reader_Get.mono _ _ _ _
      | exact vint_Reader_GetInt.mono _ _ _ _
      | exact vint_Reader_GetText.mono _ _ _ _ _
      | exact vint_Reader_Most.mono _ _ _ _ _
      | exact LeO.none _
      | refine LeO.ite ?_ ?_
      | refine LeO.bind ?_ (fun _ => ?_)
    · intro y0 y1 y2 y3 y4 y5 y6 y7 y8 y9
      unfold treillagelaw03_VintReads.j2
      repeat' first
      | (with_reducible exact ih0 _ _ _)
      | (with_reducible exact ih1 _ _ _ _ _ _ _ _ _)
      | (with_reducible exact ih2 _ _ _ _ _ _ _ _ _ _)
      | (with_reducible exact treillageref03_GetText.mono _ _ _ _ _)
      | (with_reducible exact vint_Reader_Get.mono _ _ _ _)
      | (with_reducible exact vint_Reader_GetInt.mono _ _ _ _)
      | (with_reducible exact vint_Reader_GetText.mono _ _ _ _ _)
      | (with_reducible exact vint_Reader_Most.mono _ _ _ _ _)
      | (with_reducible exact LeO.refl _)
      | (with_reducible exact LeO.none _)
      | (with_reducible refine LeO.ite ?_ ?_)
      | (with_reducible refine LeO.bind ?_ (fun _ => ?_))
      | exact ih0 _ _ _
      | exact ih1 _ _ _ _ _ _ _ _ _
      | exact ih2 _ _ _ _ _ _ _ _ _ _
      | exact treillageref03_GetText.mono _ _ _ _ _
      | exact vint_Reader_Get.mono _ _ _ _
      | exact vint_Reader_GetInt.mono _ _ _ _
      | exact vint_Reader_GetText.mono _ _ _ _ _
      | exact vint_Reader_Most.mono _ _ _ _ _
      | exact LeO.none _
      | refine LeO.ite ?_ ?_
      | refine LeO.bind ?_ (fun _ => ?_)
theorem treillagelaw03_VintReads.mono : ∀ a0 a1 k, LeO (treillagelaw03_VintReads.f k a0 a1) (treillagelaw03_VintReads.f (k + 1) a0 a1) := by
  intro a0 a1 k
  obtain ⟨ih0, ih1, ih2⟩ := treillagelaw03_VintReads.mono_l k
  unfold treillagelaw03_VintReads.f
  repeat' first
      | (with_reducible exact ih0 _ _ _)
      | (with_reducible exact ih1 _ _ _ _ _ _ _ _ _)
      | (with_reducible exact ih2 _ _ _ _ _ _ _ _ _ _)
      | (with_reducible exact treillageref03_GetText.mono _ _ _ _ _)
      | (with_reducible exact vint_Reader_Get.mono _ _ _ _)
      | (with_reducible exact vint_Reader_GetInt.mono _ _ _ _)
      | (with_reducible exact vint_Reader_GetText.mono _ _ _ _ _)
      | (with_reducible exact vint_Reader_Most.mono _ _ _ _ _)
      | (with_reducible exact LeO.refl _)
      | (with_reducible exact LeO.none _)
      | (with_reducible refine LeO.ite ?_ ?_)
      | (with_reducible refine LeO.bind ?_ (fun _ => ?_))
      | exact ih0 _ _ _
      | exact ih1 _ _ _ _ _ _ _ _ _
      | exact ih2 _ _ _ _ _ _ _ _ _ _
      | exact treillageref03_GetText.mono _ _ _ _ _
      | exact vint_Reader_Get.mono _ _ _ _
      | exact vint_Reader_GetInt.mono _ _ _ _
      | exact vint_Reader_GetText.mono _ _ _ _ _
      | exact vint_Reader_Most.mono _ _ _ _ _
      | exact LeO.none _
      | refine LeO.ite ?_ ?_
      | refine LeO.bind ?_ (fun _ => ?_)
def treillagelaw03_VintReads.T10 : Bool × List (List Nat × List Nat) := (true, [([], []), ([], []), ([], []), ([1, 2], [1, 2]), ([3], [3]), ([4], [4]), ([0, 5], [0, 5]), ([6], [6]), ([7], [7]), ([7], [7]), ([], []), ([10, 8, 6, 0, 1, 2, 3, 4, 5, 6, 7, 8, 10], [8, 10]), ([9, 11, 0, 1, 2, 3, 4, 5, 6, 7, 8, 9, 10, 11], [9])])
def treillagelaw03_VintReads.B10 : List Nat := [0, 0, 0, 6, 14, 30, 63, 127, 255, 255, 0, 1535, 4095]
theorem treillagelaw03_VintReads.tab10 : rtab .any (opsOf Try.f8 10) = treillagelaw03_VintReads.T10 := by kernel_rfl
theorem treillagelaw03_VintReads.bits10 : waitsOk treillagelaw03_VintReads.T10.2 treillagelaw03_VintReads.B10 = true := by kernel_rfl
def treillagelaw03_VintReads.T18 : Bool × List (List Nat × List Nat) := (true, [([], []), ([], []), ([], []), ([1, 2], [1, 2]), ([3], [3]), ([4], [4]), ([5], [5]), ([0, 6], [0, 6]), ([7], [7]), ([8], [8]), ([8], [8]), ([], []), ([11, 9, 7, 0, 1, 2, 3, 4, 5, 6, 7, 8, 9, 11], [9, 11]), ([10, 12, 0, 1, 2, 3, 4, 5, 6, 7, 8, 9, 10, 11, 12], [10])])
def treillagelaw03_VintReads.B18 : List Nat := [0, 0, 0, 6, 14, 30, 62, 127, 255, 511, 511, 0, 3071, 8191]
theorem treillagelaw03_VintReads.tab18 : rtab .any (opsOf Try.f8 18) = treillagelaw03_VintReads.T18 := by kernel_rfl
theorem treillagelaw03_VintReads.bits18 : waitsOk treillagelaw03_VintReads.T18.2 treillagelaw03_VintReads.B18 = true := by kernel_rfl
def treillagelaw03_VintReads.T25 : Bool × List (List Nat × List Nat) := (true, [([], []), ([0], [0]), ([1], [1]), ([2], [2]), ([3, 2, 2], [2, 3]), ([2], [2]), ([5, 2], [2, 5]), ([4, 6, 2], [2, 4, 6]), ([2, 7], [2, 7]), ([8, 4], [8]), ([9], [9]), ([10, 9, 9], [9, 10]), ([9], [9]), ([12, 9], [9, 12]), ([9], [9]), ([14, 9], [9, 14]), ([13, 15, 9], [9, 13, 15]), ([11, 16, 9], [9, 11, 16]), ([9, 17], [9, 17]), ([18, 11], [18]), ([19], [19]), ([20, 19, 19], [19, 20]), ([19], [19]), ([22, 21, 19], [19, 22]), ([21, 23, 19], [19, 21, 23]), ([19, 24], [19, 24])])
def treillagelaw03_VintReads.B25 : List Nat := [0, 1, 3, 7, 15, 7, 39, 127, 255, 511, 1023, 2047, 1023, 5119, 1023, 17407, 62463, 131071, 262143, 524287, 1048575, 2097151, 1048575, 8388607, 16777215, 33554431]
theorem treillagelaw03_VintReads.tab25 : rtab .any (opsOf Try.f8 25) = treillagelaw03_VintReads.T25 := by kernel_rfl
theorem treillagelaw03_VintReads.bits25 : waitsOk treillagelaw03_VintReads.T25.2 treillagelaw03_VintReads.B25 = true := by kernel_rfl
set_option maxHeartbeats 8000000 in
set_option maxRecDepth 100000 in
theorem treillagelaw03_VintReads.calls (k : Nat) (a0 : ByteArray) (A1 : Option Addr) (c1 : Nat) (l1 : List (S54)) (r : Bool) (w : World) (hr1 : Kd.C k54 w A1 l1.length l1) (hc1 : l1.length ≤ c1) (h : treillagelaw03_VintReads.f k a0 l1 = some r) :
    Calls Try.prog 8 #[.string a0, .slice A1 l1.length c1] w fun e w' => e = .returned (.bool r) ∧ Below w.heap.size w w' := by
  have hu52 := Try.underlying52
  have HR1 := Aside0.mk hr1
  have HC1 := Aside0.mk hc1
  clear hr1 hc1
  have HB := Aside0.mk (Below.refl w.heap.size w)
  have H : (if (a0.size : Int) > 400 then (treillagelaw03_VintReads.j0 k a0 l1 true) else (treillagelaw03_VintReads.j0 k a0 l1 (decide ((l1.length : Int) > 60)))) = some r := h
  clear h
  have HC3 := Aside0.mk H
  clear H
  go_enter Try.func8, Try.ntmps8
  go_upto_region 1 with (fail)
  go_cut [25] (fun v25 wc => ∃ (kq : Nat) (x25_2 : Bool), v25 = .bool x25_2 ∧ Aside0 (treillagelaw03_VintReads.j0 kq a0 l1 x25_2 = some r) ∧ Aside0 (kq ≤ k) ∧ Aside0 (Below w.heap.size w wc))
  case first =>
    have H := HC3.out
    clear HC3
    by_cases c4 : (a0.size : Int) > 400
    · rw [if_pos c4] at H
      have c4b0 : decide (400 < (a0.size : Int)) = true := decide_eq_true c4
      have c4b1 : decide (400 < a0.size) = true := decide_eq_true (by omega)
      clear c4
      (first | rw [c4b0] | (simp only [i64_w, i32_w]; rw [c4b0]) | skip)
      have H' := Aside0.mk H
      clear H
      go_wp2
      go_meet
      case rel => exact ⟨_, (true), (by first | rfl | (simp; done) | (simp [*]; done)), H', ⟨by first | omega | exact Nat.le_refl _⟩, ⟨by repeat (first | (with_reducible first | exact HB.out | apply below_alloc | apply pw_below_drewN | apply below_drew1) | exact HB.out)⟩⟩
    · rw [if_neg c4] at H
      have c4b0 : decide (400 < (a0.size : Int)) = false := decide_eq_false c4
      have c4b1 : decide (400 < a0.size) = false := decide_eq_false (by omega)
      clear c4
      (first | rw [c4b0] | (simp only [i64_w, i32_w]; rw [c4b0]) | skip)
      have H' := Aside0.mk H
      clear H
      go_wp2
      go_meet
      case rel => exact ⟨_, (decide ((l1.length : Int) > 60)), (by first | rfl | (simp; done) | (simp [*]; done)), H', ⟨by first | omega | exact Nat.le_refl _⟩, ⟨by repeat (first | (with_reducible first | exact HB.out | apply below_alloc | apply pw_below_drewN | apply below_drew1) | exact HB.out)⟩⟩
  case rest =>
    clear HC3
    try clear c1
    try clear p2
    try clear c4
    try clear c4b0
    try clear c4b1
    obtain ⟨kq, x25_2, rfl, HA, HJ2, HB⟩ := hcut
    cases kq with
    | zero => exact absurd HA.out (by simp [treillagelaw03_VintReads.j0])
    | succ kj2 =>
      have H := HA.out
      clear HA
      simp only [treillagelaw03_VintReads.j0] at H
      by_cases c5 : x25_2 = true
      · subst c5
        have H1 : ((treillagelaw03_awake.f).bind fun t324 => (some t324)) = some r := by rw [if_pos rfl] at H; exact H
        clear H
        have H := H1
        clear H1
        replace H := Option.bind_eq_some_iff.mp H
        obtain ⟨t324, A60, H⟩ := H
        replace H : (some t324) = some r := H
        have A6 := Aside0.mk A60
        clear A60
        obtain rfl := Option.some.inj H
        go_wp2_with (first | ((with_reducible refine gate_callee (f := 20) rfl ?_); refine goesL_ (some 26) rfl rfl Try.func20 (by kernel_rfl) rfl #[] rfl (by (try simp only [List.map_toArray, List.map_cons, List.map_nil]); first | done | rfl | (simp only [List.length_drop, List.length_take]; rfl)) ?_; (with_reducible refine (treillagelaw03_awake.calls  t324 _ A6.out).mono ?_); rintro e w7 ⟨rfl, hb⟩; refine ⟨_, rfl, ?_⟩; have n0_ := Aside0.mk (below_step (by repeat (first | (with_reducible first | exact HB.out | apply below_alloc | apply pw_below_drewN | apply below_drew1) | exact HB.out)) hb); clear HB; have HB := n0_; clear n0_; (try clear hb); (try clear hb2); (try clear hk); (try clear hi)))
        go_ret
        exact ⟨by first | rfl | (simp [errW_none, errW_some] <;> rfl) | (simp [*, errW_none, errW_some] <;> rfl), by repeat (first | (with_reducible first | exact HB.out | apply below_alloc | apply pw_below_drewN | apply below_drew1) | exact HB.out)⟩
      · replace c5 := Bool.eq_false_iff.mpr c5
        subst c5
        have H1 : ((vint_New.f a0).bind fun bt325 => (treillagelaw03_VintReads.l0 kj2 a0 l1 0 bt325.1 bt325.2.1 bt325.2.2 a0 0 0)) = some r := by rw [if_neg (show ¬ (false = true) by decide)] at H; exact H
        clear H
        have H := H1
        clear H1
        replace H := Option.bind_eq_some_iff.mp H
        obtain ⟨⟨t325, t326, t327⟩, A80, H⟩ := H
        replace H : (treillagelaw03_VintReads.l0 kj2 a0 l1 0 t325 t326 t327 a0 0 0) = some r := H
        have A8 := Aside0.mk A80
        clear A80
        have H' := Aside0.mk H
        clear H
        go_wp2_with (first | ((with_reducible refine gate_callee (f := 27) rfl ?_); refine goesL_ (some 28) rfl rfl Try.func27 (by kernel_rfl) rfl #[.string a0] rfl (by (try simp only [List.map_toArray, List.map_cons, List.map_nil]); first | done | rfl | (simp only [List.length_drop, List.length_take]; rfl)) ?_; (with_reducible refine (vint_New.calls a0 t325 t326 t327 w _ ?side1 A8.out).mono ?_); (case side1 => repeat (first | (with_reducible first | exact HB.out | apply below_alloc | apply pw_below_drewN | apply below_drew1) | exact HB.out)); rintro e w9 ⟨g328, rfl, hi, hb, hb2⟩; refine ⟨_, rfl, ?_⟩; have n0_ := Aside0.mk (hb); have n1_ := Aside0.mk (hi); clear HB; have HB := n0_; have HI328 := n1_; clear n0_ n1_; (try clear hb); (try clear hb2); (try clear hk); (try clear hi)) | ((with_reducible refine gate_dst (N := 6) rfl ?_); (try (refine gate_guard (by rfl) ?_; dsimp only)); refine box_event ?hg (N := 6) ?hd (cs := #[.string (⟨#[]⟩ : ByteArray), .int .i64 0, .int .i64 0]) (t := 52) ?hr ?_; (case hd => rfl); (case hg => rfl); (case hr => first | (go_simp; done) | (go_simp; rfl)); intro gb329 hg w10 hbox hb; have n0_ := Aside0.mk (IsS88.below (by repeat (first | (with_reducible first | exact HI328.out | apply IsS88.alloc | apply IsS88.drewN | apply IsS88.drew | apply IsS88.set_0 | apply IsS88.set_1 | apply IsS88.set_2) | exact HI328.out)) hb); have n1_ := Aside0.mk (below_step (by repeat (first | (with_reducible first | exact HB.out | apply below_alloc | apply pw_below_drewN | apply below_drew1 | refine below_set ?_ (IsS88.ge HI328.out)) | exact HB.out)) hb); have n2_ := Aside0.mk (hbox); have n3_ := Aside0.mk ((by rw [hg]; exact (below_size (by repeat (first | (with_reducible first | exact HB.out | apply below_alloc | apply pw_below_drewN | apply below_drew1 | refine below_set ?_ (IsS88.ge HI328.out)) | exact HB.out))) : w.heap.size ≤ gb329)); have n4_ := Aside0.mk ((by rw [hg]; exact (below_size (by repeat (first | (with_reducible first | exact HB.out | apply below_alloc | apply pw_below_drewN | apply below_drew1 | refine below_set ?_ (IsS88.ge HI328.out)) | exact HB.out))) : w.heap.size ≤ gb329)); have n5_ := Aside0.mk ((by rw [hg]; exact Nat.ne_of_lt (IsS88.lt (show IsS88 w _ g328 t325 t326 t327 from by repeat (first | (with_reducible first | exact HI328.out | apply IsS88.alloc | apply IsS88.drewN | apply IsS88.drew | apply IsS88.set_0 | apply IsS88.set_1 | apply IsS88.set_2) | exact HI328.out))) : g328 ≠ gb329)); have n6_ := Aside0.mk ((by rw [hg]; exact Nat.ne_of_gt (IsS88.lt (show IsS88 w _ g328 t325 t326 t327 from by repeat (first | (with_reducible first | exact HI328.out | apply IsS88.alloc | apply IsS88.drewN | apply IsS88.drew | apply IsS88.set_0 | apply IsS88.set_1 | apply IsS88.set_2) | exact HI328.out))) : gb329 ≠ g328)); clear HI328; clear HB; have HI328 := n0_; have HB := n1_; have BK329 := n2_; have GW329 := n3_; have GE329 := n4_; have NB328_329 := n5_; have NB329_328 := n6_; clear n0_ n1_ n2_ n3_ n4_ n5_ n6_; clear hb hbox hg; have hnb11 := NB329_328.out; have hnc11 := NB328_329.out; have hcz12_0 : w10.cell? ⟨gb329, 0, none⟩ = some (.string (⟨#[]⟩ : ByteArray)) := (blk_cell BK329.out 0).trans rfl; have hcz12_1 : w10.cell? ⟨gb329, 1, none⟩ = some (.int .i64 0) := (blk_cell BK329.out 1).trans rfl; have hcz12_2 : w10.cell? ⟨gb329, 2, none⟩ = some (.int .i64 0) := (blk_cell BK329.out 2).trans rfl; have hfz12_0 := blk_frozen BK329.out 0; have hfz12_1 := blk_frozen BK329.out 1; have hfz12_2 := blk_frozen BK329.out 2))
        go_loopg [7] kj2 (fun kq v7 w' => ∃ (x7_2 : Int) (x329000_2 : ByteArray) (x329001_2 : Int) (x329002_2 : Int) (x330000_2 : ByteArray) (x330001_2 : Int) (x330002_2 : Int), v7 = .int .i64 x7_2 ∧ Aside0 (treillagelaw03_VintReads.l0 kq a0 l1 x7_2 x329000_2 x329001_2 x329002_2 x330000_2 x330001_2 x330002_2 = some r) ∧ Aside0 (kq ≤ kj2) ∧ Aside0 (w'.heap[gb329]? = some (.cells #[.string x330000_2, .int .i64 x330001_2, .int .i64 x330002_2] 52 (0, 0))) ∧ Aside0 (IsS88 w w' g328 x329000_2 x329001_2 x329002_2) ∧ Aside0 (Below w.heap.size w w'))
        case atStart => exact ⟨(0), (t325), (t326), (t327), (a0), (0), (0), (by first | rfl | (simp; done) | (simp [*]; done)), H', ⟨Nat.le_refl _⟩, ⟨by (with_reducible repeat (first | refine blk_drewN ?_ _ | refine blk_drew ?_ | refine blk_alloc ?_ _)); refine blk_put (cs := #[.string a0, .int .i64 0, .int .i64 0]) ?_ 2 _ rfl; (with_reducible repeat (first | refine blk_drewN ?_ _ | refine blk_drew ?_ | refine blk_alloc ?_ _)); refine blk_put (cs := #[.string a0, .int .i64 0, .int .i64 0]) ?_ 1 _ rfl; (with_reducible repeat (first | refine blk_drewN ?_ _ | refine blk_drew ?_ | refine blk_alloc ?_ _)); refine blk_put (cs := #[.string (⟨#[]⟩ : ByteArray), .int .i64 0, .int .i64 0]) ?_ 0 _ rfl; (with_reducible repeat (first | refine blk_drewN ?_ _ | refine blk_drew ?_ | refine blk_alloc ?_ _)); exact BK329.out⟩, ⟨by repeat (first | (with_reducible first | exact HI328.out | apply IsS88.alloc | apply IsS88.drewN | apply IsS88.drew | apply IsS88.set_0 | apply IsS88.set_1 | apply IsS88.set_2 | refine IsS88.far ?_ NB328_329.out _) | exact HI328.out)⟩, ⟨by repeat (first | (with_reducible first | exact HB.out | apply below_alloc | apply pw_below_drewN | apply below_drew1 | refine below_set ?_ (IsS88.ge HI328.out) | refine below_set ?_ GE329.out) | exact HB.out)⟩⟩
        case round =>
          clear H'
          try clear c1
          try clear c2
          try clear p2
          try clear c4
          try clear c4b0
          try clear c4b1
          try clear c5
          try clear c8
          try clear c11
          try clear hcz12_0
          try clear hcz12_1
          try clear hcz12_2
          try clear hfz12_0
          try clear hfz12_1
          try clear hfz12_2
          try clear p2
          obtain ⟨x7_2, x329000_2, x329001_2, x329002_2, x330000_2, x330001_2, x330002_2, rfl, HA, HK2, BK329, HI328, HB⟩ := hrel
          cases gk with
          | zero => exact absurd HA.out (by simp [treillagelaw03_VintReads.l0])
          | succ k2 =>
            have H := HA.out
            clear HA
            simp only [treillagelaw03_VintReads.l0] at H
            by_cases c13 : x7_2 < (l1.length : Int)
            · rw [if_pos c13] at H
              have c13b0 : decide (x7_2 < (l1.length : Int)) = true := decide_eq_true c13
              clear c13
              by_cases c14 : 0 ≤ x7_2
              · rw [if_pos c14] at H
                have c14b0 : decide (0 ≤ x7_2) = true := decide_eq_true c14
                clear c14
                have HC15 := Aside0.mk H
                clear H
                have p330 : 0 ≤ (x7_2 : Int) := of_decide_eq_true (by first | (with_reducible assumption) | assumption)
                have q330 : x7_2 < (l1.length : Int) := of_decide_eq_true (by first | (with_reducible assumption) | assumption)
                obtain ⟨ad330, e330, hx330_0, hx330_1⟩ := at_T54 HR1.out x7_2 p330 q330
                cases e330
                replace hx330_0 := (HB.out.cell (World.block_lt_of_cell? w _ hx330_0)).trans hx330_0
                replace hx330_1 := (HB.out.cell (World.block_lt_of_cell? w _ hx330_1)).trans hx330_1
                replace p330 := eq_true p330
                replace q330 := eq_true q330
                go_upto_block 2 with (fail)
                go_cut [8] (fun v8 wc => ∃ (kq : Nat) (x8_14 : Bool) (x329000_14 : ByteArray) (x329001_14 : Int) (x329002_14 : Int) (x330000_14 : ByteArray) (x330001_14 : Int) (x330002_14 : Int), v8 = .bool x8_14 ∧ Aside0 (treillagelaw03_VintReads.j2 kq a0 l1 x7_2 x8_14 x329000_14 x329001_14 x329002_14 x330000_14 x330001_14 x330002_14 = some r) ∧ Aside0 (kq ≤ k2) ∧ Aside0 (wc.heap[gb329]? = some (.cells #[.string x330000_14, .int .i64 x330001_14, .int .i64 x330002_14] 52 (0, 0))) ∧ Aside0 (IsS88 w wc g328 x329000_14 x329001_14 x329002_14) ∧ Aside0 (Below w.heap.size w wc))
                case first =>
                  have H := HC15.out
                  clear HC15
                  by_cases c16 : (Go.bits .and .u8 ((rd_T54 l1 x7_2).f0) 3) = 0
                  · rw [if_pos c16] at H
                    have c16b0 : ((Go.bits .and .u8 ((rd_T54 l1 x7_2).f0) 3) == 0) = true := beq_iff_eq.mpr c16
                    have c16b1 : ((Go.bits .and .u8 ((rd_T54 l1 x7_2).f0) 3) != 0) = false := bne_eq_false_iff_eq.mpr c16
                    clear c16
                    (first | rw [c16b0] | (simp only [i64_w, i32_w]; rw [c16b0]) | skip)
                    replace H := Option.bind_eq_some_iff.mp H
                    obtain ⟨⟨t331, t332, t333, t334⟩, A170, H⟩ := H
                    replace H : ((vint_Reader_Get.f k2 x329000_2 x329001_2 x329002_2).bind fun bt336 => (treillagelaw03_VintReads.j2 k2 a0 l1 x7_2 (bt336.1 == t334) bt336.2.1 bt336.2.2.1 bt336.2.2.2 t331 t332 t333)) = some r := H
                    have A17 := Aside0.mk A170
                    clear A170
                    replace H := Option.bind_eq_some_iff.mp H
                    obtain ⟨⟨t336, t337, t338, t339⟩, A180, H⟩ := H
                    replace H : (treillagelaw03_VintReads.j2 k2 a0 l1 x7_2 (t336 == t334) t337 t338 t339 t331 t332 t333) = some r := H
                    have A18 := Aside0.mk A180
                    clear A180
                    have H' := Aside0.mk H
                    clear H
                    have hnb19 := NB329_328.out
                    have hnc19 := NB328_329.out
                    have hcz20_0 : wr.cell? ⟨gb329, 0, none⟩ = some (.string x330000_2) := (blk_cell BK329.out 0).trans rfl
                    have hcz20_1 : wr.cell? ⟨gb329, 1, none⟩ = some (.int .i64 x330001_2) := (blk_cell BK329.out 1).trans rfl
                    have hcz20_2 : wr.cell? ⟨gb329, 2, none⟩ = some (.int .i64 x330002_2) := (blk_cell BK329.out 2).trans rfl
                    have hfz20_0 := blk_frozen BK329.out 0
                    have hfz20_1 := blk_frozen BK329.out 1
                    have hfz20_2 := blk_frozen BK329.out 2
                    go_wp2_with (first | ((with_reducible refine gate_callee (f := 33) rfl ?_); refine goesL_ (some 67) rfl rfl Try.func33 (by kernel_rfl) rfl #[.agg #[.string x330000_2, .int .i64 x330001_2, .int .i64 x330002_2]] rfl (by (try simp only [List.map_toArray, List.map_cons, List.map_nil]); first | done | rfl | (simp only [List.length_drop, List.length_take]; rfl)) ?_; (with_reducible refine (treillageref03_Get.calls x330000_2 x330001_2 x330002_2 t331 t332 t333 t334 _ A17.out).mono ?_); rintro e w21 ⟨rfl, hb⟩; refine ⟨_, rfl, ?_⟩; have n0_ := Aside0.mk (blk_below (g := gb329) (o := .cells #[.string x330000_2, .int .i64 x330001_2, .int .i64 x330002_2] 52 (0, 0)) (by (with_reducible repeat (first | refine blk_drewN ?_ _ | refine blk_drew ?_ | refine blk_alloc ?_ _)); exact BK329.out) hb); have n1_ := Aside0.mk (IsS88.below (by repeat (first | (with_reducible first | exact HI328.out | apply IsS88.alloc | apply IsS88.drewN | apply IsS88.drew | apply IsS88.set_0 | apply IsS88.set_1 | apply IsS88.set_2 | refine IsS88.far ?_ NB328_329.out _) | exact HI328.out)) hb); have n2_ := Aside0.mk (below_step (by repeat (first | (with_reducible first | exact HB.out | apply below_alloc | apply pw_below_drewN | apply below_drew1 | refine below_set ?_ (IsS88.ge HI328.out) | refine below_set ?_ GE329.out) | exact HB.out)) hb); clear BK329; clear HI328; clear HB; have BK329 := n0_; have HI328 := n1_; have HB := n2_; clear n0_ n1_ n2_; (try clear hb); (try clear hb2); (try clear hk); (try clear hi)) | ((with_reducible refine gate_dst (N := 9) rfl ?_); (try (refine gate_guard (by rfl) ?_; dsimp only)); refine box_event ?hg (N := 9) ?hd (cs := #[.string (⟨#[]⟩ : ByteArray), .int .i64 0, .int .i64 0]) (t := 52) ?hr ?_; (case hd => rfl); (case hg => rfl); (case hr => first | (go_simp; done) | (go_simp; rfl)); intro gb335 hg w22 hbox hb; have n0_ := Aside0.mk (blk_below (g := gb329) (o := .cells #[.string x330000_2, .int .i64 x330001_2, .int .i64 x330002_2] 52 (0, 0)) (by (with_reducible repeat (first | refine blk_drewN ?_ _ | refine blk_drew ?_ | refine blk_alloc ?_ _)); exact BK329.out) hb); have n1_ := Aside0.mk (IsS88.below (by repeat (first | (with_reducible first | exact HI328.out | apply IsS88.alloc | apply IsS88.drewN | apply IsS88.drew | apply IsS88.set_0 | apply IsS88.set_1 | apply IsS88.set_2 | refine IsS88.far ?_ NB328_329.out _) | exact HI328.out)) hb); have n2_ := Aside0.mk (below_step (by repeat (first | (with_reducible first | exact HB.out | apply below_alloc | apply pw_below_drewN | apply below_drew1 | refine below_set ?_ (IsS88.ge HI328.out) | refine below_set ?_ GE329.out) | exact HB.out)) hb); have n3_ := Aside0.mk (hbox); have n4_ := Aside0.mk ((by rw [hg]; exact (below_size (by repeat (first | (with_reducible first | exact HB.out | apply below_alloc | apply pw_below_drewN | apply below_drew1 | refine below_set ?_ (IsS88.ge HI328.out) | refine below_set ?_ GE329.out) | exact HB.out))) : w.heap.size ≤ gb335)); have n5_ := Aside0.mk ((by rw [hg]; exact (below_size (by repeat (first | (with_reducible first | exact HB.out | apply below_alloc | apply pw_below_drewN | apply below_drew1 | refine below_set ?_ (IsS88.ge HI328.out) | refine below_set ?_ GE329.out) | exact HB.out))) : w.heap.size ≤ gb335)); have n6_ := Aside0.mk ((by rw [hg]; exact Nat.ne_of_lt (blk_lt (g := gb329) (o := .cells #[.string x330000_2, .int .i64 x330001_2, .int .i64 x330002_2] 52 (0, 0)) (by (with_reducible repeat (first | refine blk_drewN ?_ _ | refine blk_drew ?_ | refine blk_alloc ?_ _)); exact BK329.out)) : gb329 ≠ gb335)); have n7_ := Aside0.mk ((by rw [hg]; exact Nat.ne_of_gt (blk_lt (g := gb329) (o := .cells #[.string x330000_2, .int .i64 x330001_2, .int .i64 x330002_2] 52 (0, 0)) (by (with_reducible repeat (first | refine blk_drewN ?_ _ | refine blk_drew ?_ | refine blk_alloc ?_ _)); exact BK329.out)) : gb335 ≠ gb329)); have n8_ := Aside0.mk ((by rw [hg]; exact Nat.ne_of_lt (IsS88.lt (show IsS88 w _ g328 x329000_2 x329001_2 x329002_2 from by repeat (first | (with_reducible first | exact HI328.out | apply IsS88.alloc | apply IsS88.drewN | apply IsS88.drew | apply IsS88.set_0 | apply IsS88.set_1 | apply IsS88.set_2 | refine IsS88.far ?_ NB328_329.out _) | exact HI328.out))) : g328 ≠ gb335)); have n9_ := Aside0.mk ((by rw [hg]; exact Nat.ne_of_gt (IsS88.lt (show IsS88 w _ g328 x329000_2 x329001_2 x329002_2 from by repeat (first | (with_reducible first | exact HI328.out | apply IsS88.alloc | apply IsS88.drewN | apply IsS88.drew | apply IsS88.set_0 | apply IsS88.set_1 | apply IsS88.set_2 | refine IsS88.far ?_ NB328_329.out _) | exact HI328.out))) : gb335 ≠ g328)); clear BK329; clear HI328; clear HB; have BK329 := n0_; have HI328 := n1_; have HB := n2_; have BK335 := n3_; have GW335 := n4_; have GE335 := n5_; have NB329_335 := n6_; have NB335_329 := n7_; have NB328_335 := n8_; have NB335_328 := n9_; clear n0_ n1_ n2_ n3_ n4_ n5_ n6_ n7_ n8_ n9_; clear hb hbox hg; have hnb23 := NB335_329.out; have hnc23 := NB329_335.out; have hnb24 := NB335_328.out; have hnc24 := NB328_335.out; have hcz25_0 : w22.cell? ⟨gb335, 0, none⟩ = some (.string (⟨#[]⟩ : ByteArray)) := (blk_cell BK335.out 0).trans rfl; have hcz25_1 : w22.cell? ⟨gb335, 1, none⟩ = some (.int .i64 0) := (blk_cell BK335.out 1).trans rfl; have hcz25_2 : w22.cell? ⟨gb335, 2, none⟩ = some (.int .i64 0) := (blk_cell BK335.out 2).trans rfl; have hfz25_0 := blk_frozen BK335.out 0; have hfz25_1 := blk_frozen BK335.out 1; have hfz25_2 := blk_frozen BK335.out 2; have hcz26_0 : w22.cell? ⟨gb329, 0, none⟩ = some (.string x330000_2) := (blk_cell BK329.out 0).trans rfl; have hcz26_1 : w22.cell? ⟨gb329, 1, none⟩ = some (.int .i64 x330001_2) := (blk_cell BK329.out 1).trans rfl; have hcz26_2 : w22.cell? ⟨gb329, 2, none⟩ = some (.int .i64 x330002_2) := (blk_cell BK329.out 2).trans rfl; have hfz26_0 := blk_frozen BK329.out 0; have hfz26_1 := blk_frozen BK329.out 1; have hfz26_2 := blk_frozen BK329.out 2) | ((with_reducible refine gate_callee (f := 28) rfl ?_); refine goesL_ (some 72) rfl rfl Try.func28 (by kernel_rfl) rfl #[.pointer (some ⟨g328, 0, none⟩)] rfl (by (try simp only [List.map_toArray, List.map_cons, List.map_nil]); first | done | rfl | (simp only [List.length_drop, List.length_take]; rfl)) ?_; (with_reducible refine (vint_Reader_Get.calls k2 g328 x329000_2 x329001_2 x329002_2 t336 t337 t338 t339 w _ ?side1 ?side2 A18.out).mono ?_); (case side1 => repeat (first | (with_reducible first | exact HI328.out | apply IsS88.alloc | apply IsS88.drewN | apply IsS88.drew | apply IsS88.set_0 | apply IsS88.set_1 | apply IsS88.set_2 | refine IsS88.far ?_ NB328_329.out _ | refine IsS88.far ?_ NB328_335.out _) | exact HI328.out)); (case side2 => repeat (first | (with_reducible first | exact HB.out | apply below_alloc | apply pw_below_drewN | apply below_drew1 | refine below_set ?_ (IsS88.ge HI328.out) | refine below_set ?_ GE329.out | refine below_set ?_ GE335.out) | exact HB.out)); rintro e w27 ⟨rfl, hi, hb, hk⟩; refine ⟨_, rfl, ?_⟩; have n0_ := Aside0.mk (KeepBut.blk hk (g' := gb329) (o := .cells #[.string t331, .int .i64 t332, .int .i64 t333] 52 (0, 0)) (by (with_reducible repeat (first | refine blk_drewN ?_ _ | refine blk_drew ?_ | refine blk_alloc ?_ _)); refine blk_put (cs := #[.string t331, .int .i64 t332, .int .i64 x330002_2]) ?_ 2 _ rfl; (with_reducible repeat (first | refine blk_drewN ?_ _ | refine blk_drew ?_ | refine blk_alloc ?_ _)); refine blk_put (cs := #[.string t331, .int .i64 x330001_2, .int .i64 x330002_2]) ?_ 1 _ rfl; (with_reducible repeat (first | refine blk_drewN ?_ _ | refine blk_drew ?_ | refine blk_alloc ?_ _)); refine blk_put (cs := #[.string x330000_2, .int .i64 x330001_2, .int .i64 x330002_2]) ?_ 0 _ rfl; (with_reducible repeat (first | refine blk_drewN ?_ _ | refine blk_drew ?_ | refine blk_alloc ?_ _)); refine blk_far ?_ NB329_335.out _; (with_reducible repeat (first | refine blk_drewN ?_ _ | refine blk_drew ?_ | refine blk_alloc ?_ _)); refine blk_far ?_ NB329_335.out _; (with_reducible repeat (first | refine blk_drewN ?_ _ | refine blk_drew ?_ | refine blk_alloc ?_ _)); refine blk_far ?_ NB329_335.out _; (with_reducible repeat (first | refine blk_drewN ?_ _ | refine blk_drew ?_ | refine blk_alloc ?_ _)); exact BK329.out) NB329_328.out (by simp)); have n1_ := Aside0.mk (KeepBut.blk hk (g' := gb335) (o := .cells #[.string t331, .int .i64 t332, .int .i64 t333] 52 (0, 0)) (by (with_reducible repeat (first | refine blk_drewN ?_ _ | refine blk_drew ?_ | refine blk_alloc ?_ _)); refine blk_far ?_ NB335_329.out _; (with_reducible repeat (first | refine blk_drewN ?_ _ | refine blk_drew ?_ | refine blk_alloc ?_ _)); refine blk_far ?_ NB335_329.out _; (with_reducible repeat (first | refine blk_drewN ?_ _ | refine blk_drew ?_ | refine blk_alloc ?_ _)); refine blk_far ?_ NB335_329.out _; (with_reducible repeat (first | refine blk_drewN ?_ _ | refine blk_drew ?_ | refine blk_alloc ?_ _)); refine blk_put (cs := #[.string t331, .int .i64 t332, .int .i64 0]) ?_ 2 _ rfl; (with_reducible repeat (first | refine blk_drewN ?_ _ | refine blk_drew ?_ | refine blk_alloc ?_ _)); refine blk_put (cs := #[.string t331, .int .i64 0, .int .i64 0]) ?_ 1 _ rfl; (with_reducible repeat (first | refine blk_drewN ?_ _ | refine blk_drew ?_ | refine blk_alloc ?_ _)); refine blk_put (cs := #[.string (⟨#[]⟩ : ByteArray), .int .i64 0, .int .i64 0]) ?_ 0 _ rfl; (with_reducible repeat (first | refine blk_drewN ?_ _ | refine blk_drew ?_ | refine blk_alloc ?_ _)); exact BK335.out) NB335_328.out (by simp)); have n2_ := Aside0.mk (hb); have n3_ := Aside0.mk (hi); clear BK329; clear BK335; clear HB; clear HI328; have BK329 := n0_; have BK335 := n1_; have HB := n2_; have HI328 := n3_; clear n0_ n1_ n2_ n3_; (try clear hb); (try clear hb2); (try clear hk); (try clear hi)))
                    go_meet
                    case rel => exact ⟨_, ((t336 == t334)), (t337), (t338), (t339), (t331), (t332), (t333), (by first | rfl | (simp; done) | (simp [*]; done)), H', ⟨by have := HJ2.out; have := HK2.out; first | omega | exact Nat.le_refl _⟩, ⟨by (with_reducible repeat (first | refine blk_drewN ?_ _ | refine blk_drew ?_ | refine blk_alloc ?_ _)); exact BK329.out⟩, ⟨by repeat (first | (with_reducible first | exact HI328.out | apply IsS88.alloc | apply IsS88.drewN | apply IsS88.drew | apply IsS88.set_0 | apply IsS88.set_1 | apply IsS88.set_2 | refine IsS88.far ?_ NB328_329.out _ | refine IsS88.far ?_ NB328_335.out _) | exact HI328.out)⟩, ⟨by repeat (first | (with_reducible first | exact HB.out | apply below_alloc | apply pw_below_drewN | apply below_drew1 | refine below_set ?_ (IsS88.ge HI328.out) | refine below_set ?_ GE329.out | refine below_set ?_ GE335.out) | exact HB.out)⟩⟩
                  · rw [if_neg c16] at H
                    have c16b0 : ((Go.bits .and .u8 ((rd_T54 l1 x7_2).f0) 3) == 0) = false := beq_eq_false_iff_ne.mpr c16
                    have c16b1 : ((Go.bits .and .u8 ((rd_T54 l1 x7_2).f0) 3) != 0) = true := bne_iff_ne.mpr c16
                    (first | rw [c16b0] | (simp only [i64_w, i32_w]; rw [c16b0]) | skip)
                    by_cases c28 : (Go.bits .and .u8 ((rd_T54 l1 x7_2).f0) 3) = 1
                    · rw [if_pos c28] at H
                      have c28b0 : ((Go.bits .and .u8 ((rd_T54 l1 x7_2).f0) 3) == 1) = true := beq_iff_eq.mpr c28
                      have c28b1 : ((Go.bits .and .u8 ((rd_T54 l1 x7_2).f0) 3) != 1) = false := bne_eq_false_iff_eq.mpr c28
                      clear c28
                      replace H := Option.bind_eq_some_iff.mp H
                      obtain ⟨⟨t341, t342, t343, t344⟩, A290, H⟩ := H
                      replace H : ((vint_Reader_Most.f k2 x329000_2 x329001_2 x329002_2 (IntKind.u64.wrap ((rd_T54 l1 x7_2).f1))).bind fun bt347 => (treillagelaw03_VintReads.j2 k2 a0 l1 x7_2 (bt347.1 == t344) bt347.2.1 bt347.2.2.1 bt347.2.2.2 t341 t342 t343)) = some r := H
                      have A29 := Aside0.mk A290
                      clear A290
                      replace H := Option.bind_eq_some_iff.mp H
                      obtain ⟨⟨t347, t348, t349, t350⟩, A300, H⟩ := H
                      replace H : (treillagelaw03_VintReads.j2 k2 a0 l1 x7_2 (t347 == t344) t348 t349 t350 t341 t342 t343) = some r := H
                      have A30 := Aside0.mk A300
                      clear A300
                      have H' := Aside0.mk H
                      clear H
                      try go_wp2
                      have n0_ := Aside0.mk (blk_drew BK329.out)
                      have n1_ := Aside0.mk (IsS88.drew HI328.out)
                      have n2_ := Aside0.mk (below_drew1 HB.out)
                      clear BK329
                      clear HI328
                      clear HB
                      have BK329 := n0_
                      have HI328 := n1_
                      have HB := n2_
                      clear n0_ n1_ n2_
                      have p340 : 0 ≤ (x7_2 : Int) := of_decide_eq_true (by first | (with_reducible assumption) | assumption)
                      have q340 : x7_2 < (l1.length : Int) := of_decide_eq_true (by first | (with_reducible assumption) | assumption)
                      obtain ⟨ad340, e340, hx340_0, hx340_1⟩ := at_T54 HR1.out x7_2 p340 q340
                      have hw340_1 := hx340_1
                      have hw340_0 := hx340_0
                      obtain rfl : ad330 = ad340 := (by injection e340)
                      replace hx340_0 := (HB.out.cell (World.block_lt_of_cell? w _ hx340_0)).trans hx340_0
                      replace hx340_1 := (HB.out.cell (World.block_lt_of_cell? w _ hx340_1)).trans hx340_1
                      replace p340 := eq_true p340
                      replace q340 := eq_true q340
                      refine start_ (n := 14) (S := fun w' => w'.cell? ⟨gb329, 0, none⟩ = some (.string x330000_2) ∧ w'.cell? ⟨gb329, 1, none⟩ = some (.int .i64 x330001_2) ∧ w'.cell? ⟨gb329, 2, none⟩ = some (.int .i64 x330002_2) ∧ w'.cell? (ad330.add ((x7_2).toNat * 2)) = some (.int .u8 ((rd_T54 l1 x7_2).f0)) ∧ w'.cell? ⟨(ad330.add ((x7_2).toNat * 2)).block, (ad330.add ((x7_2).toNat * 2)).off + 1, none⟩ = some (.int .i64 ((rd_T54 l1 x7_2).f1))) (ds := []) #[false, false, false, false, false, false, false, false, false, false, false, false, false, false] (by kernel_rfl) rfl rfl ⟨(blk_cell BK329.out 0).trans rfl, (blk_cell BK329.out 1).trans rfl, (blk_cell BK329.out 2).trans rfl, ((HB.out.cell (World.block_lt_of_cell? w _ hw340_0)).trans hw340_0), ((HB.out.cell (World.block_lt_of_cell? w _ hw340_1)).trans hw340_1)⟩ (fun hHeld => ?_); refine with_tabW treillagelaw03_VintReads.tab18 treillagelaw03_VintReads.bits18 (fun HT_ HW_ => ?_)
                      generalize wr.drew = w31 at BK329 HI328 HB hx340_0 hx340_1 hHeld ⊢
                      refine pure_ (i := 1) (N := some 79) (v := ?_) (a' := ?_) #[false, true, false, false, false, false, false, false, false, false, false, false, false, false] rfl rfl (any_of HT_.out (by kernel_rfl)) (fun _ _ _ h => h) (Or.inl ⟨by rfl, ?_⟩) ?_ ?_
                      rotate_left
                      · intro w'
                        go_simp
                        with_reducible rfl
                      rotate_left
                      · simp only [Act.put, List.setIfInBounds_toArray, List.set_cons_zero, List.set_cons_succ, i64_w, i32_w]
                        rfl
                      refine pure_ (i := 2) (N := some 80) (v := ?_) (a' := ?_) #[false, true, true, false, false, false, false, false, false, false, false, false, false, false] rfl rfl (any_of HT_.out (by kernel_rfl)) (fun _ _ _ h => h) (Or.inl ⟨by rfl, ?_⟩) ?_ ?_
                      rotate_left
                      · intro w'
                        go_simp
                        with_reducible rfl
                      rotate_left
                      · simp only [Act.put, List.setIfInBounds_toArray, List.set_cons_zero, List.set_cons_succ, i64_w, i32_w]
                        rfl
                      refine pure_ (i := 3) (N := some 81) (v := ?_) (a' := ?_) #[false, true, true, true, false, false, false, false, false, false, false, false, false, false] rfl rfl (any_of HT_.out (by kernel_rfl)) (fun _ _ _ h => h) (Or.inl ⟨by rfl, ?_⟩) ?_ ?_
                      rotate_left
                      · intro w'
                        go_simp
                        with_reducible rfl
                      rotate_left
                      · simp only [Act.put, List.setIfInBounds_toArray, List.set_cons_zero, List.set_cons_succ, i64_w, i32_w]
                        rfl
                      refine pure_ (i := 4) (N := some 82) (v := ?_) (a' := ?_) #[false, true, true, true, true, false, false, false, false, false, false, false, false, false] rfl rfl (any_of HT_.out (by kernel_rfl)) (fun _ _ _ h => h) (Or.inl ⟨by rfl, ?_⟩) ?_ ?_
                      rotate_left
                      · intro w'
                        go_simp
                        with_reducible rfl
                      rotate_left
                      · simp only [Act.put, List.setIfInBounds_toArray, List.set_cons_zero, List.set_cons_succ, i64_w, i32_w]
                        rfl
                      refine take_ (i := 0) (N := some 78) (v := ?_) (a' := ?_) #[true, true, true, true, true, false, false, false, false, false, false, false, false, false] rfl rfl (take_ofW HT_.out HW_.out (by kernel_rfl)) (fun _ _ _ h => h) (Or.inl ⟨by rfl, ?_⟩) hHeld ?_ ?_
                      rotate_left
                      · rintro w' ⟨s0, s1, s2, s3, s4⟩
                        go_simp
                        with_reducible rfl
                      rotate_left
                      · simp only [Act.put, List.setIfInBounds_toArray, List.set_cons_zero, List.set_cons_succ, i64_w, i32_w]
                        rfl
                      refine take_ (i := 5) (N := some 83) (v := ?_) (a' := ?_) #[true, true, true, true, true, true, false, false, false, false, false, false, false, false] rfl rfl (take_ofW HT_.out HW_.out (by kernel_rfl)) (fun _ _ _ h => h) (Or.inl ⟨by rfl, ?_⟩) hHeld ?_ ?_
                      rotate_left
                      · rintro w' ⟨s0, s1, s2, s3, s4⟩
                        go_simp
                        with_reducible rfl
                      rotate_left
                      · simp only [Act.put, List.setIfInBounds_toArray, List.set_cons_zero, List.set_cons_succ, i64_w, i32_w]
                        rfl
                      refine pure_ (i := 6) (N := some 84) (v := ?_) (a' := ?_) #[true, true, true, true, true, true, true, false, false, false, false, false, false, false] rfl rfl (any_of HT_.out (by kernel_rfl)) (fun _ _ _ h => h) (Or.inl ⟨by rfl, ?_⟩) ?_ ?_
                      rotate_left
                      · intro w'
                        go_simp
                        with_reducible rfl
                      rotate_left
                      · simp only [Act.put, List.setIfInBounds_toArray, List.set_cons_zero, List.set_cons_succ, i64_w, i32_w]
                        rfl
                      refine join_ (σ := Nat) 2 #[true, true, true, true, true, true, true, true, true, true, true, true, false, false] (fun s_ => [(85, .tuple #[.agg #[.string t341, .int .i64 t342, .int .i64 t343], .int .u64 t344]), (11, .pointer (some ⟨s_, 0, none⟩)), (77, .tuple #[.agg #[.string t341, .int .i64 t342, .int .i64 t343], .int .u64 t344]), (86, .agg #[.string t341, .int .i64 t342, .int .i64 t343]), (87, .int .u64 t344)]) (fun s_ w' => (w'.cell? ⟨gb329, 0, none⟩ = some (.string x330000_2) ∧ w'.cell? ⟨gb329, 1, none⟩ = some (.int .i64 x330001_2) ∧ w'.cell? ⟨gb329, 2, none⟩ = some (.int .i64 x330002_2) ∧ w'.cell? (ad330.add ((x7_2).toNat * 2)) = some (.int .u8 ((rd_T54 l1 x7_2).f0)) ∧ w'.cell? ⟨(ad330.add ((x7_2).toNat * 2)).block, (ad330.add ((x7_2).toNat * 2)).off + 1, none⟩ = some (.int .i64 ((rd_T54 l1 x7_2).f1))) ∧ (w'.heap[gb329]? = some (.cells #[.string x330000_2, .int .i64 x330001_2, .int .i64 x330002_2] 52 (0, 0))) ∧ (w'.heap[s_]? = some (.cells #[.string (⟨#[]⟩ : ByteArray), .int .i64 0, .int .i64 0] 52 (0, 0))) ∧ (w.heap.size ≤ s_) ∧ (w.heap.size ≤ s_) ∧ (g328 ≠ s_) ∧ (s_ ≠ g328) ∧ (gb329 ≠ s_) ∧ (s_ ≠ gb329) ∧ (IsS88 w w' g328 x329000_2 x329001_2 x329002_2) ∧ (Below w.heap.size w w')) ?_ ?_
                      rotate_left
                      · intro hCont
                        refine two_ (i := 7) (j := 11) (Ni := some 85) (Nj := some 11) #[true, true, true, true, true, true, true, true, false, false, false, false, false, false] #[true, true, true, true, true, true, true, false, false, false, false, true, false, false] rfl rfl rfl rfl (two_of HT_.out (by kernel_rfl)) (by decide) (by decide) (fun K hK => ?_) (fun K hK => ?_)
                        · skip
                          refine goes_ Try.func34 (by kernel_rfl) rfl #[.agg #[.string x330000_2, .int .i64 x330001_2, .int .i64 x330002_2], .int .u64 (IntKind.u64.wrap ((rd_T54 l1 x7_2).f1))] (by rfl) rfl rfl (by (try simp only [List.map_toArray, List.map_cons, List.map_nil]); first | done | rfl | (simp only [List.length_drop, List.length_take]; rfl)) ?_
                          with_reducible refine (treillageref03_Most.calls x330000_2 x330001_2 x330002_2 (IntKind.u64.wrap ((rd_T54 l1 x7_2).f1)) t341 t342 t343 t344 _ A29.out).mono ?_
                          rintro e w32 ⟨rfl, hb⟩
                          refine ⟨_, rfl, ?_⟩
                          have n0_ := Aside0.mk (blk_below (g := gb329) (o := .cells #[.string x330000_2, .int .i64 x330001_2, .int .i64 x330002_2] 52 (0, 0)) (by (with_reducible repeat (first | refine blk_drewN ?_ _ | refine blk_drew ?_ | refine blk_alloc ?_ _)); exact BK329.out) hb)
                          have n1_ := Aside0.mk (IsS88.below (by repeat (first | (with_reducible first | exact HI328.out | apply IsS88.alloc | apply IsS88.drewN | apply IsS88.drew | apply IsS88.set_0 | apply IsS88.set_1 | apply IsS88.set_2 | refine IsS88.far ?_ NB328_329.out _) | exact HI328.out)) hb)
                          have n2_ := Aside0.mk (below_step (by repeat (first | (with_reducible first | exact HB.out | apply below_alloc | apply pw_below_drewN | apply below_drew1 | refine below_set ?_ (IsS88.ge HI328.out) | refine below_set ?_ GE329.out) | exact HB.out)) hb)
                          clear BK329
                          clear HI328
                          clear HB
                          have BK329 := n0_
                          have HI328 := n1_
                          have HB := n2_
                          clear n0_ n1_ n2_
                          (try clear hb)
                          (try clear hb2)
                          (try clear hk)
                          (try clear hi)
                          refine hK.out _ _ ⟨(blk_cell BK329.out 0).trans rfl, (blk_cell BK329.out 1).trans rfl, (blk_cell BK329.out 2).trans rfl, ((HB.out.cell (World.block_lt_of_cell? w _ hw340_0)).trans hw340_0), ((HB.out.cell (World.block_lt_of_cell? w _ hw340_1)).trans hw340_1)⟩ (fun hHeld => ?_)
                          clear hK K
                          refine norm_ (a' := ?_) ?_ ?_
                          rotate_left
                          · show Act.put _ (some 85) _ = _
                            simp only [Act.put, List.setIfInBounds_toArray, List.set_cons_zero, List.set_cons_succ, i64_w, i32_w]
                            rfl
                          refine pure_ (i := 8) (N := some 77) (v := ?_) (a' := ?_) #[true, true, true, true, true, true, true, true, true, false, false, false, false, false] rfl rfl (any_of HT_.out (by kernel_rfl)) (fun _ _ _ h => h) (Or.inl ⟨by rfl, ?_⟩) ?_ ?_
                          rotate_left
                          · intro w'
                            go_simp
                            with_reducible rfl
                          rotate_left
                          · simp only [Act.put, List.setIfInBounds_toArray, List.set_cons_zero, List.set_cons_succ, i64_w, i32_w]
                            rfl
                          refine pure_ (i := 9) (N := some 86) (v := ?_) (a' := ?_) #[true, true, true, true, true, true, true, true, true, true, false, false, false, false] rfl rfl (any_of HT_.out (by kernel_rfl)) (fun _ _ _ h => h) (Or.inl ⟨by rfl, ?_⟩) ?_ ?_
                          rotate_left
                          · intro w'
                            go_simp
                            with_reducible rfl
                          rotate_left
                          · simp only [Act.put, List.setIfInBounds_toArray, List.set_cons_zero, List.set_cons_succ, i64_w, i32_w]
                            rfl
                          refine pure_ (i := 10) (N := some 87) (v := ?_) (a' := ?_) #[true, true, true, true, true, true, true, true, true, true, true, false, false, false] rfl rfl (any_of HT_.out (by kernel_rfl)) (fun _ _ _ h => h) (Or.inl ⟨by rfl, ?_⟩) ?_ ?_
                          rotate_left
                          · intro w'
                            go_simp
                            with_reducible rfl
                          rotate_left
                          · simp only [Act.put, List.setIfInBounds_toArray, List.set_cons_zero, List.set_cons_succ, i64_w, i32_w]
                            rfl
                          refine one_ (i := 11) (N := some 11) #[true, true, true, true, true, true, true, true, true, true, true, true, false, false] rfl rfl (one_of HT_.out (by kernel_rfl)) (by decide) (fun K hK => ?_)
                          refine box_step ?hg (N := 11) ?hd (cs := #[.string (⟨#[]⟩ : ByteArray), .int .i64 0, .int .i64 0]) (t := 52) ?hr ?_; (case hd => rfl); (case hg => rfl); (case hr => first | (go_simp; done) | (go_simp; rfl))
                          intro gb345 hg w33 hbox hb
                          have n0_ := Aside0.mk (blk_below (g := gb329) (o := .cells #[.string x330000_2, .int .i64 x330001_2, .int .i64 x330002_2] 52 (0, 0)) (by (with_reducible repeat (first | refine blk_drewN ?_ _ | refine blk_drew ?_ | refine blk_alloc ?_ _)); exact BK329.out) hb)
                          have n1_ := Aside0.mk (IsS88.below (by repeat (first | (with_reducible first | exact HI328.out | apply IsS88.alloc | apply IsS88.drewN | apply IsS88.drew | apply IsS88.set_0 | apply IsS88.set_1 | apply IsS88.set_2 | refine IsS88.far ?_ NB328_329.out _) | exact HI328.out)) hb)
                          have n2_ := Aside0.mk (below_step (by repeat (first | (with_reducible first | exact HB.out | apply below_alloc | apply pw_below_drewN | apply below_drew1 | refine below_set ?_ (IsS88.ge HI328.out) | refine below_set ?_ GE329.out) | exact HB.out)) hb)
                          have n3_ := Aside0.mk (hbox)
                          have n4_ := Aside0.mk ((by rw [hg]; exact (below_size (by repeat (first | (with_reducible first | exact HB.out | apply below_alloc | apply pw_below_drewN | apply below_drew1 | refine below_set ?_ (IsS88.ge HI328.out) | refine below_set ?_ GE329.out) | exact HB.out))) : w.heap.size ≤ gb345))
                          have n5_ := Aside0.mk ((by rw [hg]; exact (below_size (by repeat (first | (with_reducible first | exact HB.out | apply below_alloc | apply pw_below_drewN | apply below_drew1 | refine below_set ?_ (IsS88.ge HI328.out) | refine below_set ?_ GE329.out) | exact HB.out))) : w.heap.size ≤ gb345))
                          have n6_ := Aside0.mk ((by rw [hg]; exact Nat.ne_of_lt (blk_lt (g := gb329) (o := .cells #[.string x330000_2, .int .i64 x330001_2, .int .i64 x330002_2] 52 (0, 0)) (by (with_reducible repeat (first | refine blk_drewN ?_ _ | refine blk_drew ?_ | refine blk_alloc ?_ _)); exact BK329.out)) : gb329 ≠ gb345))
                          have n7_ := Aside0.mk ((by rw [hg]; exact Nat.ne_of_gt (blk_lt (g := gb329) (o := .cells #[.string x330000_2, .int .i64 x330001_2, .int .i64 x330002_2] 52 (0, 0)) (by (with_reducible repeat (first | refine blk_drewN ?_ _ | refine blk_drew ?_ | refine blk_alloc ?_ _)); exact BK329.out)) : gb345 ≠ gb329))
                          have n8_ := Aside0.mk ((by rw [hg]; exact Nat.ne_of_lt (IsS88.lt (show IsS88 w _ g328 x329000_2 x329001_2 x329002_2 from by repeat (first | (with_reducible first | exact HI328.out | apply IsS88.alloc | apply IsS88.drewN | apply IsS88.drew | apply IsS88.set_0 | apply IsS88.set_1 | apply IsS88.set_2 | refine IsS88.far ?_ NB328_329.out _) | exact HI328.out))) : g328 ≠ gb345))
                          have n9_ := Aside0.mk ((by rw [hg]; exact Nat.ne_of_gt (IsS88.lt (show IsS88 w _ g328 x329000_2 x329001_2 x329002_2 from by repeat (first | (with_reducible first | exact HI328.out | apply IsS88.alloc | apply IsS88.drewN | apply IsS88.drew | apply IsS88.set_0 | apply IsS88.set_1 | apply IsS88.set_2 | refine IsS88.far ?_ NB328_329.out _) | exact HI328.out))) : gb345 ≠ g328))
                          clear BK329
                          clear HI328
                          clear HB
                          have BK329 := n0_
                          have HI328 := n1_
                          have HB := n2_
                          have BK345 := n3_
                          have GW345 := n4_
                          have GE345 := n5_
                          have NB329_345 := n6_
                          have NB345_329 := n7_
                          have NB328_345 := n8_
                          have NB345_328 := n9_
                          clear n0_ n1_ n2_ n3_ n4_ n5_ n6_ n7_ n8_ n9_
                          clear hb hbox hg
                          refine hK.out _ _ ⟨(blk_cell BK329.out 0).trans rfl, (blk_cell BK329.out 1).trans rfl, (blk_cell BK329.out 2).trans rfl, ((HB.out.cell (World.block_lt_of_cell? w _ hw340_0)).trans hw340_0), ((HB.out.cell (World.block_lt_of_cell? w _ hw340_1)).trans hw340_1)⟩ (fun hHeld => ?_)
                          clear hK K
                          refine norm_ (a' := ?_) ?_ ?_
                          rotate_left
                          · show Act.put _ (some 11) _ = _
                            simp only [Act.put, List.setIfInBounds_toArray, List.set_cons_zero, List.set_cons_succ, i64_w, i32_w]
                            rfl
                          exact norm_ (by simp only [putAll, Act.put, List.setIfInBounds_toArray, List.set_cons_zero, List.set_cons_succ]) (hCont (gb345) _ ⟨hHeld, (by (with_reducible repeat (first | refine blk_drewN ?_ _ | refine blk_drew ?_ | refine blk_alloc ?_ _)); exact BK329.out), (by (with_reducible repeat (first | refine blk_drewN ?_ _ | refine blk_drew ?_ | refine blk_alloc ?_ _)); exact BK345.out), GW345.out, GE345.out, NB328_345.out, NB345_328.out, NB329_345.out, NB345_329.out, (by repeat (first | (with_reducible first | exact HI328.out | apply IsS88.alloc | apply IsS88.drewN | apply IsS88.drew | apply IsS88.set_0 | apply IsS88.set_1 | apply IsS88.set_2 | refine IsS88.far ?_ NB328_329.out _ | refine IsS88.far ?_ NB328_345.out _) | exact HI328.out)), (by repeat (first | (with_reducible first | exact HB.out | apply below_alloc | apply pw_below_drewN | apply below_drew1 | refine below_set ?_ (IsS88.ge HI328.out) | refine below_set ?_ GE329.out | refine below_set ?_ GE345.out) | exact HB.out))⟩)
                        · skip
                          refine box_step ?hg (N := 11) ?hd (cs := #[.string (⟨#[]⟩ : ByteArray), .int .i64 0, .int .i64 0]) (t := 52) ?hr ?_; (case hd => rfl); (case hg => rfl); (case hr => first | (go_simp; done) | (go_simp; rfl))
                          intro gb345 hg w32 hbox hb
                          have n0_ := Aside0.mk (blk_below (g := gb329) (o := .cells #[.string x330000_2, .int .i64 x330001_2, .int .i64 x330002_2] 52 (0, 0)) (by (with_reducible repeat (first | refine blk_drewN ?_ _ | refine blk_drew ?_ | refine blk_alloc ?_ _)); exact BK329.out) hb)
                          have n1_ := Aside0.mk (IsS88.below (by repeat (first | (with_reducible first | exact HI328.out | apply IsS88.alloc | apply IsS88.drewN | apply IsS88.drew | apply IsS88.set_0 | apply IsS88.set_1 | apply IsS88.set_2 | refine IsS88.far ?_ NB328_329.out _) | exact HI328.out)) hb)
                          have n2_ := Aside0.mk (below_step (by repeat (first | (with_reducible first | exact HB.out | apply below_alloc | apply pw_below_drewN | apply below_drew1 | refine below_set ?_ (IsS88.ge HI328.out) | refine below_set ?_ GE329.out) | exact HB.out)) hb)
                          have n3_ := Aside0.mk (hbox)
                          have n4_ := Aside0.mk ((by rw [hg]; exact (below_size (by repeat (first | (with_reducible first | exact HB.out | apply below_alloc | apply pw_below_drewN | apply below_drew1 | refine below_set ?_ (IsS88.ge HI328.out) | refine below_set ?_ GE329.out) | exact HB.out))) : w.heap.size ≤ gb345))
                          have n5_ := Aside0.mk ((by rw [hg]; exact (below_size (by repeat (first | (with_reducible first | exact HB.out | apply below_alloc | apply pw_below_drewN | apply below_drew1 | refine below_set ?_ (IsS88.ge HI328.out) | refine below_set ?_ GE329.out) | exact HB.out))) : w.heap.size ≤ gb345))
                          have n6_ := Aside0.mk ((by rw [hg]; exact Nat.ne_of_lt (blk_lt (g := gb329) (o := .cells #[.string x330000_2, .int .i64 x330001_2, .int .i64 x330002_2] 52 (0, 0)) (by (with_reducible repeat (first | refine blk_drewN ?_ _ | refine blk_drew ?_ | refine blk_alloc ?_ _)); exact BK329.out)) : gb329 ≠ gb345))
                          have n7_ := Aside0.mk ((by rw [hg]; exact Nat.ne_of_gt (blk_lt (g := gb329) (o := .cells #[.string x330000_2, .int .i64 x330001_2, .int .i64 x330002_2] 52 (0, 0)) (by (with_reducible repeat (first | refine blk_drewN ?_ _ | refine blk_drew ?_ | refine blk_alloc ?_ _)); exact BK329.out)) : gb345 ≠ gb329))
                          have n8_ := Aside0.mk ((by rw [hg]; exact Nat.ne_of_lt (IsS88.lt (show IsS88 w _ g328 x329000_2 x329001_2 x329002_2 from by repeat (first | (with_reducible first | exact HI328.out | apply IsS88.alloc | apply IsS88.drewN | apply IsS88.drew | apply IsS88.set_0 | apply IsS88.set_1 | apply IsS88.set_2 | refine IsS88.far ?_ NB328_329.out _) | exact HI328.out))) : g328 ≠ gb345))
                          have n9_ := Aside0.mk ((by rw [hg]; exact Nat.ne_of_gt (IsS88.lt (show IsS88 w _ g328 x329000_2 x329001_2 x329002_2 from by repeat (first | (with_reducible first | exact HI328.out | apply IsS88.alloc | apply IsS88.drewN | apply IsS88.drew | apply IsS88.set_0 | apply IsS88.set_1 | apply IsS88.set_2 | refine IsS88.far ?_ NB328_329.out _) | exact HI328.out))) : gb345 ≠ g328))
                          clear BK329
                          clear HI328
                          clear HB
                          have BK329 := n0_
                          have HI328 := n1_
                          have HB := n2_
                          have BK345 := n3_
                          have GW345 := n4_
                          have GE345 := n5_
                          have NB329_345 := n6_
                          have NB345_329 := n7_
                          have NB328_345 := n8_
                          have NB345_328 := n9_
                          clear n0_ n1_ n2_ n3_ n4_ n5_ n6_ n7_ n8_ n9_
                          clear hb hbox hg
                          refine hK.out _ _ ⟨(blk_cell BK329.out 0).trans rfl, (blk_cell BK329.out 1).trans rfl, (blk_cell BK329.out 2).trans rfl, ((HB.out.cell (World.block_lt_of_cell? w _ hw340_0)).trans hw340_0), ((HB.out.cell (World.block_lt_of_cell? w _ hw340_1)).trans hw340_1)⟩ (fun hHeld => ?_)
                          clear hK K
                          refine norm_ (a' := ?_) ?_ ?_
                          rotate_left
                          · show Act.put _ (some 11) _ = _
                            simp only [Act.put, List.setIfInBounds_toArray, List.set_cons_zero, List.set_cons_succ, i64_w, i32_w]
                            rfl
                          refine one_ (i := 7) (N := some 85) #[true, true, true, true, true, true, true, true, false, false, false, true, false, false] rfl rfl (one_of HT_.out (by kernel_rfl)) (by decide) (fun K hK => ?_)
                          refine goes_ Try.func34 (by kernel_rfl) rfl #[.agg #[.string x330000_2, .int .i64 x330001_2, .int .i64 x330002_2], .int .u64 (IntKind.u64.wrap ((rd_T54 l1 x7_2).f1))] (by rfl) rfl rfl (by (try simp only [List.map_toArray, List.map_cons, List.map_nil]); first | done | rfl | (simp only [List.length_drop, List.length_take]; rfl)) ?_
                          with_reducible refine (treillageref03_Most.calls x330000_2 x330001_2 x330002_2 (IntKind.u64.wrap ((rd_T54 l1 x7_2).f1)) t341 t342 t343 t344 _ A29.out).mono ?_
                          rintro e w33 ⟨rfl, hb⟩
                          refine ⟨_, rfl, ?_⟩
                          have n0_ := Aside0.mk (blk_below (g := gb329) (o := .cells #[.string x330000_2, .int .i64 x330001_2, .int .i64 x330002_2] 52 (0, 0)) (by (with_reducible repeat (first | refine blk_drewN ?_ _ | refine blk_drew ?_ | refine blk_alloc ?_ _)); exact BK329.out) hb)
                          have n1_ := Aside0.mk (IsS88.below (by repeat (first | (with_reducible first | exact HI328.out | apply IsS88.alloc | apply IsS88.drewN | apply IsS88.drew | apply IsS88.set_0 | apply IsS88.set_1 | apply IsS88.set_2 | refine IsS88.far ?_ NB328_329.out _ | refine IsS88.far ?_ NB328_345.out _) | exact HI328.out)) hb)
                          have n2_ := Aside0.mk (blk_below (g := gb345) (o := .cells #[.string (⟨#[]⟩ : ByteArray), .int .i64 0, .int .i64 0] 52 (0, 0)) (by (with_reducible repeat (first | refine blk_drewN ?_ _ | refine blk_drew ?_ | refine blk_alloc ?_ _)); exact BK345.out) hb)
                          have n3_ := Aside0.mk (below_step (by repeat (first | (with_reducible first | exact HB.out | apply below_alloc | apply pw_below_drewN | apply below_drew1 | refine below_set ?_ (IsS88.ge HI328.out) | refine below_set ?_ GE329.out | refine below_set ?_ GE345.out) | exact HB.out)) hb)
                          clear BK329
                          clear HI328
                          clear BK345
                          clear HB
                          have BK329 := n0_
                          have HI328 := n1_
                          have BK345 := n2_
                          have HB := n3_
                          clear n0_ n1_ n2_ n3_
                          (try clear hb)
                          (try clear hb2)
                          (try clear hk)
                          (try clear hi)
                          refine hK.out _ _ ⟨(blk_cell BK329.out 0).trans rfl, (blk_cell BK329.out 1).trans rfl, (blk_cell BK329.out 2).trans rfl, ((HB.out.cell (World.block_lt_of_cell? w _ hw340_0)).trans hw340_0), ((HB.out.cell (World.block_lt_of_cell? w _ hw340_1)).trans hw340_1)⟩ (fun hHeld => ?_)
                          clear hK K
                          refine norm_ (a' := ?_) ?_ ?_
                          rotate_left
                          · show Act.put _ (some 85) _ = _
                            simp only [Act.put, List.setIfInBounds_toArray, List.set_cons_zero, List.set_cons_succ, i64_w, i32_w]
                            rfl
                          refine pure_ (i := 8) (N := some 77) (v := ?_) (a' := ?_) #[true, true, true, true, true, true, true, true, true, false, false, true, false, false] rfl rfl (any_of HT_.out (by kernel_rfl)) (fun _ _ _ h => h) (Or.inl ⟨by rfl, ?_⟩) ?_ ?_
                          rotate_left
                          · intro w'
                            go_simp
                            with_reducible rfl
                          rotate_left
                          · simp only [Act.put, List.setIfInBounds_toArray, List.set_cons_zero, List.set_cons_succ, i64_w, i32_w]
                            rfl
                          refine pure_ (i := 9) (N := some 86) (v := ?_) (a' := ?_) #[true, true, true, true, true, true, true, true, true, true, false, true, false, false] rfl rfl (any_of HT_.out (by kernel_rfl)) (fun _ _ _ h => h) (Or.inl ⟨by rfl, ?_⟩) ?_ ?_
                          rotate_left
                          · intro w'
                            go_simp
                            with_reducible rfl
                          rotate_left
                          · simp only [Act.put, List.setIfInBounds_toArray, List.set_cons_zero, List.set_cons_succ, i64_w, i32_w]
                            rfl
                          refine pure_ (i := 10) (N := some 87) (v := ?_) (a' := ?_) #[true, true, true, true, true, true, true, true, true, true, true, true, false, false] rfl rfl (any_of HT_.out (by kernel_rfl)) (fun _ _ _ h => h) (Or.inl ⟨by rfl, ?_⟩) ?_ ?_
                          rotate_left
                          · intro w'
                            go_simp
                            with_reducible rfl
                          rotate_left
                          · simp only [Act.put, List.setIfInBounds_toArray, List.set_cons_zero, List.set_cons_succ, i64_w, i32_w]
                            rfl
                          exact norm_ (by simp only [putAll, Act.put, List.setIfInBounds_toArray, List.set_cons_zero, List.set_cons_succ]) (hCont (gb345) _ ⟨hHeld, (by (with_reducible repeat (first | refine blk_drewN ?_ _ | refine blk_drew ?_ | refine blk_alloc ?_ _)); exact BK329.out), (by (with_reducible repeat (first | refine blk_drewN ?_ _ | refine blk_drew ?_ | refine blk_alloc ?_ _)); exact BK345.out), GW345.out, GE345.out, NB328_345.out, NB345_328.out, NB329_345.out, NB345_329.out, (by repeat (first | (with_reducible first | exact HI328.out | apply IsS88.alloc | apply IsS88.drewN | apply IsS88.drew | apply IsS88.set_0 | apply IsS88.set_1 | apply IsS88.set_2 | refine IsS88.far ?_ NB328_329.out _ | refine IsS88.far ?_ NB328_345.out _) | exact HI328.out)), (by repeat (first | (with_reducible first | exact HB.out | apply below_alloc | apply pw_below_drewN | apply below_drew1 | refine below_set ?_ (IsS88.ge HI328.out) | refine below_set ?_ GE329.out | refine below_set ?_ GE345.out) | exact HB.out))⟩)
                      rintro gb345 w34 ⟨hS_, h0_, h1_, h2_, h3_, h4_, h5_, h6_, h7_, h8_, h9_⟩
                      have n0_ : Aside0 (w34.heap[gb329]? = some (.cells #[.string x330000_2, .int .i64 x330001_2, .int .i64 x330002_2] 52 (0, 0))) := ⟨h0_⟩
                      have n1_ : Aside0 (w34.heap[gb345]? = some (.cells #[.string (⟨#[]⟩ : ByteArray), .int .i64 0, .int .i64 0] 52 (0, 0))) := ⟨h1_⟩
                      have n2_ : Aside0 (w.heap.size ≤ gb345) := ⟨h2_⟩
                      have n3_ : Aside0 (w.heap.size ≤ gb345) := ⟨h3_⟩
                      have n4_ : Aside0 (g328 ≠ gb345) := ⟨h4_⟩
                      have n5_ : Aside0 (gb345 ≠ g328) := ⟨h5_⟩
                      have n6_ : Aside0 (gb329 ≠ gb345) := ⟨h6_⟩
                      have n7_ : Aside0 (gb345 ≠ gb329) := ⟨h7_⟩
                      have n8_ : Aside0 (IsS88 w w34 g328 x329000_2 x329001_2 x329002_2) := ⟨h8_⟩
                      have n9_ : Aside0 (Below w.heap.size w w34) := ⟨h9_⟩
                      clear BK329
                      clear HI328
                      clear HB
                      clear h0_ h1_ h2_ h3_ h4_ h5_ h6_ h7_ h8_ h9_
                      have BK329 := n0_
                      have BK345 := n1_
                      have GW345 := n2_
                      have GE345 := n3_
                      have NB328_345 := n4_
                      have NB345_328 := n5_
                      have NB329_345 := n6_
                      have NB345_329 := n7_
                      have HI328 := n8_
                      have HB := n9_
                      clear n0_ n1_ n2_ n3_ n4_ n5_ n6_ n7_ n8_ n9_
                      have hHeld : w34.cell? ⟨gb329, 0, none⟩ = some (.string x330000_2) ∧ w34.cell? ⟨gb329, 1, none⟩ = some (.int .i64 x330001_2) ∧ w34.cell? ⟨gb329, 2, none⟩ = some (.int .i64 x330002_2) ∧ w34.cell? (ad330.add ((x7_2).toNat * 2)) = some (.int .u8 ((rd_T54 l1 x7_2).f0)) ∧ w34.cell? ⟨(ad330.add ((x7_2).toNat * 2)).block, (ad330.add ((x7_2).toNat * 2)).off + 1, none⟩ = some (.int .i64 ((rd_T54 l1 x7_2).f1)) := hS_
                      refine norm_ (a' := ?_) ?_ ?_
                      rotate_left
                      · simp only [putAll, Act.put, List.setIfInBounds_toArray, List.set_cons_zero, List.set_cons_succ]
                        rfl
                      refine one_ (i := 12) (N := none) #[true, true, true, true, true, true, true, true, true, true, true, true, true, false] rfl rfl (one_of HT_.out (by kernel_rfl)) (by decide) (fun K hK => ?_)
                      have hs35 : w34.cell? ⟨gb345, 0, none⟩ = some (.string (⟨#[]⟩ : ByteArray)) := (blk_cell BK345.out 0).trans rfl
                      have hfs35 := blk_frozen BK345.out 0
                      have hns35_0 := NB329_345.out
                      have hms35_0 := NB345_329.out
                      have hs36 : w34.cell? ⟨gb345, 1, none⟩ = some (.int .i64 0) := (blk_cell BK345.out 1).trans rfl
                      have hfs36 := blk_frozen BK345.out 1
                      have hns36_0 := NB329_345.out
                      have hms36_0 := NB345_329.out
                      have hs37 : w34.cell? ⟨gb345, 2, none⟩ = some (.int .i64 0) := (blk_cell BK345.out 2).trans rfl
                      have hfs37 := blk_frozen BK345.out 2
                      have hns37_0 := NB329_345.out
                      have hms37_0 := NB345_329.out
                      refine skip_ (w1 := ?_) (by rfl) rfl ?_ ?_
                      rotate_left
                      · go_simp
                        rfl
                      refine hK.out _ _ ⟨((cell_far (p := ⟨gb345, _, none⟩) NB329_345.out _).trans (((cell_far (p := ⟨gb345, _, none⟩) NB329_345.out _).trans (((cell_far (p := ⟨gb345, _, none⟩) NB329_345.out _).trans (hHeld.1)))))), ((cell_far (p := ⟨gb345, _, none⟩) NB329_345.out _).trans (((cell_far (p := ⟨gb345, _, none⟩) NB329_345.out _).trans (((cell_far (p := ⟨gb345, _, none⟩) NB329_345.out _).trans (hHeld.2.1)))))), ((cell_far (p := ⟨gb345, _, none⟩) NB329_345.out _).trans (((cell_far (p := ⟨gb345, _, none⟩) NB329_345.out _).trans (((cell_far (p := ⟨gb345, _, none⟩) NB329_345.out _).trans (hHeld.2.2.1)))))), ((cell_far (p := ⟨gb345, _, none⟩) (by first | exact Nat.ne_of_lt (Nat.lt_of_lt_of_le (by have := World.block_lt_of_cell? _ _ hw340_0; first | rwa [add_block] at this | exact this) GW345.out) | (rw [add_block]; exact Nat.ne_of_lt (Nat.lt_of_lt_of_le (by have := World.block_lt_of_cell? _ _ hw340_0; first | rwa [add_block] at this | exact this) GW345.out)) | (show (Addr.add _ _).block ≠ _; rw [add_block]; exact Nat.ne_of_lt (Nat.lt_of_lt_of_le (by have := World.block_lt_of_cell? _ _ hw340_0; first | rwa [add_block] at this | exact this) GW345.out)) | (dsimp only; exact Nat.ne_of_lt (Nat.lt_of_lt_of_le (by have := World.block_lt_of_cell? _ _ hw340_0; first | rwa [add_block] at this | exact this) GW345.out))) _).trans (((cell_far (p := ⟨gb345, _, none⟩) (by first | exact Nat.ne_of_lt (Nat.lt_of_lt_of_le (by have := World.block_lt_of_cell? _ _ hw340_0; first | rwa [add_block] at this | exact this) GW345.out) | (rw [add_block]; exact Nat.ne_of_lt (Nat.lt_of_lt_of_le (by have := World.block_lt_of_cell? _ _ hw340_0; first | rwa [add_block] at this | exact this) GW345.out)) | (show (Addr.add _ _).block ≠ _; rw [add_block]; exact Nat.ne_of_lt (Nat.lt_of_lt_of_le (by have := World.block_lt_of_cell? _ _ hw340_0; first | rwa [add_block] at this | exact this) GW345.out)) | (dsimp only; exact Nat.ne_of_lt (Nat.lt_of_lt_of_le (by have := World.block_lt_of_cell? _ _ hw340_0; first | rwa [add_block] at this | exact this) GW345.out))) _).trans (((cell_far (p := ⟨gb345, _, none⟩) (by first | exact Nat.ne_of_lt (Nat.lt_of_lt_of_le (by have := World.block_lt_of_cell? _ _ hw340_0; first | rwa [add_block] at this | exact this) GW345.out) | (rw [add_block]; exact Nat.ne_of_lt (Nat.lt_of_lt_of_le (by have := World.block_lt_of_cell? _ _ hw340_0; first | rwa [add_block] at this | exact this) GW345.out)) | (show (Addr.add _ _).block ≠ _; rw [add_block]; exact Nat.ne_of_lt (Nat.lt_of_lt_of_le (by have := World.block_lt_of_cell? _ _ hw340_0; first | rwa [add_block] at this | exact this) GW345.out)) | (dsimp only; exact Nat.ne_of_lt (Nat.lt_of_lt_of_le (by have := World.block_lt_of_cell? _ _ hw340_0; first | rwa [add_block] at this | exact this) GW345.out))) _).trans (hHeld.2.2.2.1)))))), ((cell_far (p := ⟨gb345, _, none⟩) (by first | exact Nat.ne_of_lt (Nat.lt_of_lt_of_le (by have := World.block_lt_of_cell? _ _ hw340_1; first | rwa [add_block] at this | exact this) GW345.out) | (rw [add_block]; exact Nat.ne_of_lt (Nat.lt_of_lt_of_le (by have := World.block_lt_of_cell? _ _ hw340_1; first | rwa [add_block] at this | exact this) GW345.out)) | (show (Addr.add _ _).block ≠ _; rw [add_block]; exact Nat.ne_of_lt (Nat.lt_of_lt_of_le (by have := World.block_lt_of_cell? _ _ hw340_1; first | rwa [add_block] at this | exact this) GW345.out)) | (dsimp only; exact Nat.ne_of_lt (Nat.lt_of_lt_of_le (by have := World.block_lt_of_cell? _ _ hw340_1; first | rwa [add_block] at this | exact this) GW345.out))) _).trans (((cell_far (p := ⟨gb345, _, none⟩) (by first | exact Nat.ne_of_lt (Nat.lt_of_lt_of_le (by have := World.block_lt_of_cell? _ _ hw340_1; first | rwa [add_block] at this | exact this) GW345.out) | (rw [add_block]; exact Nat.ne_of_lt (Nat.lt_of_lt_of_le (by have := World.block_lt_of_cell? _ _ hw340_1; first | rwa [add_block] at this | exact this) GW345.out)) | (show (Addr.add _ _).block ≠ _; rw [add_block]; exact Nat.ne_of_lt (Nat.lt_of_lt_of_le (by have := World.block_lt_of_cell? _ _ hw340_1; first | rwa [add_block] at this | exact this) GW345.out)) | (dsimp only; exact Nat.ne_of_lt (Nat.lt_of_lt_of_le (by have := World.block_lt_of_cell? _ _ hw340_1; first | rwa [add_block] at this | exact this) GW345.out))) _).trans (((cell_far (p := ⟨gb345, _, none⟩) (by first | exact Nat.ne_of_lt (Nat.lt_of_lt_of_le (by have := World.block_lt_of_cell? _ _ hw340_1; first | rwa [add_block] at this | exact this) GW345.out) | (rw [add_block]; exact Nat.ne_of_lt (Nat.lt_of_lt_of_le (by have := World.block_lt_of_cell? _ _ hw340_1; first | rwa [add_block] at this | exact this) GW345.out)) | (show (Addr.add _ _).block ≠ _; rw [add_block]; exact Nat.ne_of_lt (Nat.lt_of_lt_of_le (by have := World.block_lt_of_cell? _ _ hw340_1; first | rwa [add_block] at this | exact this) GW345.out)) | (dsimp only; exact Nat.ne_of_lt (Nat.lt_of_lt_of_le (by have := World.block_lt_of_cell? _ _ hw340_1; first | rwa [add_block] at this | exact this) GW345.out))) _).trans (hHeld.2.2.2.2))))))⟩ (fun hHeld => ?_)
                      clear hK K
                      refine pure_ (i := 13) (N := some 12) (v := ?_) (a' := ?_) #[true, true, true, true, true, true, true, true, true, true, true, true, true, true] rfl rfl (any_of HT_.out (by kernel_rfl)) (fun _ _ _ h => h) (Or.inl ⟨by rfl, ?_⟩) ?_ ?_
                      rotate_left
                      · intro w'
                        go_simp
                        with_reducible rfl
                      rotate_left
                      · simp only [Act.put, List.setIfInBounds_toArray, List.set_cons_zero, List.set_cons_succ, i64_w, i32_w]
                        rfl
                      refine done_ (done_of HT_.out (by kernel_rfl)) ?_
                      have hnb38 := NB345_329.out
                      have hnc38 := NB329_345.out
                      have hnb39 := NB345_328.out
                      have hnc39 := NB328_345.out
                      have hcz40_0 : w34.cell? ⟨gb345, 0, none⟩ = some (.string (⟨#[]⟩ : ByteArray)) := (blk_cell BK345.out 0).trans rfl
                      have hcz40_1 : w34.cell? ⟨gb345, 1, none⟩ = some (.int .i64 0) := (blk_cell BK345.out 1).trans rfl
                      have hcz40_2 : w34.cell? ⟨gb345, 2, none⟩ = some (.int .i64 0) := (blk_cell BK345.out 2).trans rfl
                      have hfz40_0 := blk_frozen BK345.out 0
                      have hfz40_1 := blk_frozen BK345.out 1
                      have hfz40_2 := blk_frozen BK345.out 2
                      have hnb41 := NB329_328.out
                      have hnc41 := NB328_329.out
                      have hcz42_0 : w34.cell? ⟨gb329, 0, none⟩ = some (.string x330000_2) := (blk_cell BK329.out 0).trans rfl
                      have hcz42_1 : w34.cell? ⟨gb329, 1, none⟩ = some (.int .i64 x330001_2) := (blk_cell BK329.out 1).trans rfl
                      have hcz42_2 : w34.cell? ⟨gb329, 2, none⟩ = some (.int .i64 x330002_2) := (blk_cell BK329.out 2).trans rfl
                      have hfz42_0 := blk_frozen BK329.out 0
                      have hfz42_1 := blk_frozen BK329.out 1
                      have hfz42_2 := blk_frozen BK329.out 2
                      have p346 : 0 ≤ (x7_2 : Int) := of_decide_eq_true (by first | (with_reducible assumption) | assumption)
                      have q346 : x7_2 < (l1.length : Int) := of_decide_eq_true (by first | (with_reducible assumption) | assumption)
                      obtain ⟨ad346, e346, hx346_0, hx346_1⟩ := at_T54 HR1.out x7_2 p346 q346
                      obtain rfl : ad330 = ad346 := (by injection e346)
                      have hn346_0 : ad330.block ≠ gb345 := Nat.ne_of_lt (Nat.lt_of_lt_of_le (by have := World.block_lt_of_cell? _ _ hx346_0; first | rwa [add_block] at this | exact this) GW345.out)
                      have hn346_1 : ad330.block ≠ gb345 := Nat.ne_of_lt (Nat.lt_of_lt_of_le (by have := World.block_lt_of_cell? _ _ hx346_0; first | rwa [add_block] at this | exact this) GW345.out)
                      have hn346_2 : ad330.block ≠ gb345 := Nat.ne_of_lt (Nat.lt_of_lt_of_le (by have := World.block_lt_of_cell? _ _ hx346_0; first | rwa [add_block] at this | exact this) GW345.out)
                      have hn346_3 : ad330.block ≠ gb329 := Nat.ne_of_lt (Nat.lt_of_lt_of_le (by have := World.block_lt_of_cell? _ _ hx346_0; first | rwa [add_block] at this | exact this) GW329.out)
                      have hn346_4 : ad330.block ≠ gb329 := Nat.ne_of_lt (Nat.lt_of_lt_of_le (by have := World.block_lt_of_cell? _ _ hx346_0; first | rwa [add_block] at this | exact this) GW329.out)
                      have hn346_5 : ad330.block ≠ gb329 := Nat.ne_of_lt (Nat.lt_of_lt_of_le (by have := World.block_lt_of_cell? _ _ hx346_0; first | rwa [add_block] at this | exact this) GW329.out)
                      replace hx346_0 := (HB.out.cell (World.block_lt_of_cell? w _ hx346_0)).trans hx346_0
                      replace hx346_1 := (HB.out.cell (World.block_lt_of_cell? w _ hx346_1)).trans hx346_1
                      replace hx346_0 := (cell_far (p := ⟨gb345, 0, none⟩) (by first | (rw [add_block]; exact hn346_0) | (show (Addr.add _ _).block ≠ _; rw [add_block]; exact hn346_0) | exact hn346_0) (.string t341)).trans hx346_0
                      replace hx346_1 := (cell_far (p := ⟨gb345, 0, none⟩) (by first | (rw [add_block]; exact hn346_0) | (show (Addr.add _ _).block ≠ _; rw [add_block]; exact hn346_0) | exact hn346_0) (.string t341)).trans hx346_1
                      replace hx346_0 := (cell_far (p := ⟨gb345, 1, none⟩) (by first | (rw [add_block]; exact hn346_1) | (show (Addr.add _ _).block ≠ _; rw [add_block]; exact hn346_1) | exact hn346_1) (.int .i64 t342)).trans hx346_0
                      replace hx346_1 := (cell_far (p := ⟨gb345, 1, none⟩) (by first | (rw [add_block]; exact hn346_1) | (show (Addr.add _ _).block ≠ _; rw [add_block]; exact hn346_1) | exact hn346_1) (.int .i64 t342)).trans hx346_1
                      replace hx346_0 := (cell_far (p := ⟨gb345, 2, none⟩) (by first | (rw [add_block]; exact hn346_2) | (show (Addr.add _ _).block ≠ _; rw [add_block]; exact hn346_2) | exact hn346_2) (.int .i64 t343)).trans hx346_0
                      replace hx346_1 := (cell_far (p := ⟨gb345, 2, none⟩) (by first | (rw [add_block]; exact hn346_2) | (show (Addr.add _ _).block ≠ _; rw [add_block]; exact hn346_2) | exact hn346_2) (.int .i64 t343)).trans hx346_1
                      replace hx346_0 := (cell_far (p := ⟨gb329, 0, none⟩) (by first | (rw [add_block]; exact hn346_3) | (show (Addr.add _ _).block ≠ _; rw [add_block]; exact hn346_3) | exact hn346_3) (.string t341)).trans hx346_0
                      replace hx346_1 := (cell_far (p := ⟨gb329, 0, none⟩) (by first | (rw [add_block]; exact hn346_3) | (show (Addr.add _ _).block ≠ _; rw [add_block]; exact hn346_3) | exact hn346_3) (.string t341)).trans hx346_1
                      replace hx346_0 := (cell_far (p := ⟨gb329, 1, none⟩) (by first | (rw [add_block]; exact hn346_4) | (show (Addr.add _ _).block ≠ _; rw [add_block]; exact hn346_4) | exact hn346_4) (.int .i64 t342)).trans hx346_0
                      replace hx346_1 := (cell_far (p := ⟨gb329, 1, none⟩) (by first | (rw [add_block]; exact hn346_4) | (show (Addr.add _ _).block ≠ _; rw [add_block]; exact hn346_4) | exact hn346_4) (.int .i64 t342)).trans hx346_1
                      replace hx346_0 := (cell_far (p := ⟨gb329, 2, none⟩) (by first | (rw [add_block]; exact hn346_5) | (show (Addr.add _ _).block ≠ _; rw [add_block]; exact hn346_5) | exact hn346_5) (.int .i64 t343)).trans hx346_0
                      replace hx346_1 := (cell_far (p := ⟨gb329, 2, none⟩) (by first | (rw [add_block]; exact hn346_5) | (show (Addr.add _ _).block ≠ _; rw [add_block]; exact hn346_5) | exact hn346_5) (.int .i64 t343)).trans hx346_1
                      clear hn346_0
                      clear hn346_1
                      clear hn346_2
                      clear hn346_3
                      clear hn346_4
                      clear hn346_5
                      replace p346 := eq_true p346
                      replace q346 := eq_true q346
                      try go_wp2_with (first | ((with_reducible refine gate_callee (f := 35) rfl ?_); refine goesL_ (some 96) rfl rfl Try.func35 (by kernel_rfl) rfl #[.pointer (some ⟨g328, 0, none⟩), .int .u64 (IntKind.u64.wrap ((rd_T54 l1 x7_2).f1))] rfl (by (try simp only [List.map_toArray, List.map_cons, List.map_nil]); first | done | rfl | (simp only [List.length_drop, List.length_take]; rfl)) ?_; (with_reducible refine (vint_Reader_Most.calls k2 g328 x329000_2 x329001_2 x329002_2 (IntKind.u64.wrap ((rd_T54 l1 x7_2).f1)) t347 t348 t349 t350 w _ ?side1 ?side2 A30.out).mono ?_); (case side1 => repeat (first | (with_reducible first | exact HI328.out | apply IsS88.alloc | apply IsS88.drewN | apply IsS88.drew | apply IsS88.set_0 | apply IsS88.set_1 | apply IsS88.set_2 | refine IsS88.far ?_ NB328_329.out _ | refine IsS88.far ?_ NB328_345.out _) | exact HI328.out)); (case side2 => repeat (first | (with_reducible first | exact HB.out | apply below_alloc | apply pw_below_drewN | apply below_drew1 | refine below_set ?_ (IsS88.ge HI328.out) | refine below_set ?_ GE329.out | refine below_set ?_ GE345.out) | exact HB.out)); rintro e w43 ⟨rfl, hi, hb, hk⟩; refine ⟨_, rfl, ?_⟩; have n0_ := Aside0.mk (KeepBut.blk hk (g' := gb329) (o := .cells #[.string t341, .int .i64 t342, .int .i64 t343] 52 (0, 0)) (by (with_reducible repeat (first | refine blk_drewN ?_ _ | refine blk_drew ?_ | refine blk_alloc ?_ _)); refine blk_put (cs := #[.string t341, .int .i64 t342, .int .i64 x330002_2]) ?_ 2 _ rfl; (with_reducible repeat (first | refine blk_drewN ?_ _ | refine blk_drew ?_ | refine blk_alloc ?_ _)); refine blk_put (cs := #[.string t341, .int .i64 x330001_2, .int .i64 x330002_2]) ?_ 1 _ rfl; (with_reducible repeat (first | refine blk_drewN ?_ _ | refine blk_drew ?_ | refine blk_alloc ?_ _)); refine blk_put (cs := #[.string x330000_2, .int .i64 x330001_2, .int .i64 x330002_2]) ?_ 0 _ rfl; (with_reducible repeat (first | refine blk_drewN ?_ _ | refine blk_drew ?_ | refine blk_alloc ?_ _)); refine blk_far ?_ NB329_345.out _; (with_reducible repeat (first | refine blk_drewN ?_ _ | refine blk_drew ?_ | refine blk_alloc ?_ _)); refine blk_far ?_ NB329_345.out _; (with_reducible repeat (first | refine blk_drewN ?_ _ | refine blk_drew ?_ | refine blk_alloc ?_ _)); refine blk_far ?_ NB329_345.out _; (with_reducible repeat (first | refine blk_drewN ?_ _ | refine blk_drew ?_ | refine blk_alloc ?_ _)); exact BK329.out) NB329_328.out (by simp)); have n1_ := Aside0.mk (KeepBut.blk hk (g' := gb345) (o := .cells #[.string t341, .int .i64 t342, .int .i64 t343] 52 (0, 0)) (by (with_reducible repeat (first | refine blk_drewN ?_ _ | refine blk_drew ?_ | refine blk_alloc ?_ _)); refine blk_far ?_ NB345_329.out _; (with_reducible repeat (first | refine blk_drewN ?_ _ | refine blk_drew ?_ | refine blk_alloc ?_ _)); refine blk_far ?_ NB345_329.out _; (with_reducible repeat (first | refine blk_drewN ?_ _ | refine blk_drew ?_ | refine blk_alloc ?_ _)); refine blk_far ?_ NB345_329.out _; (with_reducible repeat (first | refine blk_drewN ?_ _ | refine blk_drew ?_ | refine blk_alloc ?_ _)); refine blk_put (cs := #[.string t341, .int .i64 t342, .int .i64 0]) ?_ 2 _ rfl; (with_reducible repeat (first | refine blk_drewN ?_ _ | refine blk_drew ?_ | refine blk_alloc ?_ _)); refine blk_put (cs := #[.string t341, .int .i64 0, .int .i64 0]) ?_ 1 _ rfl; (with_reducible repeat (first | refine blk_drewN ?_ _ | refine blk_drew ?_ | refine blk_alloc ?_ _)); refine blk_put (cs := #[.string (⟨#[]⟩ : ByteArray), .int .i64 0, .int .i64 0]) ?_ 0 _ rfl; (with_reducible repeat (first | refine blk_drewN ?_ _ | refine blk_drew ?_ | refine blk_alloc ?_ _)); exact BK345.out) NB345_328.out (by simp)); have n2_ := Aside0.mk (hb); have n3_ := Aside0.mk (hi); clear BK329; clear BK345; clear HB; clear HI328; have BK329 := n0_; have BK345 := n1_; have HB := n2_; have HI328 := n3_; clear n0_ n1_ n2_ n3_; (try clear hb); (try clear hb2); (try clear hk); (try clear hi)))
                      go_meet
                      case rel => exact ⟨_, ((t347 == t344)), (t348), (t349), (t350), (t341), (t342), (t343), (by first | rfl | (simp; done) | (simp [*]; done)), H', ⟨by have := HJ2.out; have := HK2.out; first | omega | exact Nat.le_refl _⟩, ⟨by (with_reducible repeat (first | refine blk_drewN ?_ _ | refine blk_drew ?_ | refine blk_alloc ?_ _)); exact BK329.out⟩, ⟨by repeat (first | (with_reducible first | exact HI328.out | apply IsS88.alloc | apply IsS88.drewN | apply IsS88.drew | apply IsS88.set_0 | apply IsS88.set_1 | apply IsS88.set_2 | refine IsS88.far ?_ NB328_329.out _ | refine IsS88.far ?_ NB328_345.out _) | exact HI328.out)⟩, ⟨by repeat (first | (with_reducible first | exact HB.out | apply below_alloc | apply pw_below_drewN | apply below_drew1 | refine below_set ?_ (IsS88.ge HI328.out) | refine below_set ?_ GE329.out | refine below_set ?_ GE345.out) | exact HB.out)⟩⟩
                    · rw [if_neg c28] at H
                      have c28b0 : ((Go.bits .and .u8 ((rd_T54 l1 x7_2).f0) 3) == 1) = false := beq_eq_false_iff_ne.mpr c28
                      have c28b1 : ((Go.bits .and .u8 ((rd_T54 l1 x7_2).f0) 3) != 1) = true := bne_iff_ne.mpr c28
                      by_cases c44 : (Go.bits .and .u8 ((rd_T54 l1 x7_2).f0) 3) = 2
                      · rw [if_pos c44] at H
                        have c44b0 : ((Go.bits .and .u8 ((rd_T54 l1 x7_2).f0) 3) == 2) = true := beq_iff_eq.mpr c44
                        have c44b1 : ((Go.bits .and .u8 ((rd_T54 l1 x7_2).f0) 3) != 2) = false := bne_eq_false_iff_eq.mpr c44
                        clear c44
                        replace H := Option.bind_eq_some_iff.mp H
                        obtain ⟨⟨t351, t352, t353, t354⟩, A450, H⟩ := H
                        replace H : ((vint_Reader_GetInt.f k2 x329000_2 x329001_2 x329002_2).bind fun bt356 => (treillagelaw03_VintReads.j2 k2 a0 l1 x7_2 (bt356.1 == t354) bt356.2.1 bt356.2.2.1 bt356.2.2.2 t351 t352 t353)) = some r := H
                        have A45 := Aside0.mk A450
                        clear A450
                        replace H := Option.bind_eq_some_iff.mp H
                        obtain ⟨⟨t356, t357, t358, t359⟩, A460, H⟩ := H
                        replace H : (treillagelaw03_VintReads.j2 k2 a0 l1 x7_2 (t356 == t354) t357 t358 t359 t351 t352 t353) = some r := H
                        have A46 := Aside0.mk A460
                        clear A460
                        have H' := Aside0.mk H
                        clear H
                        have hnb47 := NB329_328.out
                        have hnc47 := NB328_329.out
                        have hcz48_0 : wr.cell? ⟨gb329, 0, none⟩ = some (.string x330000_2) := (blk_cell BK329.out 0).trans rfl
                        have hcz48_1 : wr.cell? ⟨gb329, 1, none⟩ = some (.int .i64 x330001_2) := (blk_cell BK329.out 1).trans rfl
                        have hcz48_2 : wr.cell? ⟨gb329, 2, none⟩ = some (.int .i64 x330002_2) := (blk_cell BK329.out 2).trans rfl
                        have hfz48_0 := blk_frozen BK329.out 0
                        have hfz48_1 := blk_frozen BK329.out 1
                        have hfz48_2 := blk_frozen BK329.out 2
                        go_wp2_with (first | ((with_reducible refine gate_callee (f := 36) rfl ?_); refine goesL_ (some 103) rfl rfl Try.func36 (by kernel_rfl) rfl #[.agg #[.string x330000_2, .int .i64 x330001_2, .int .i64 x330002_2]] rfl (by (try simp only [List.map_toArray, List.map_cons, List.map_nil]); first | done | rfl | (simp only [List.length_drop, List.length_take]; rfl)) ?_; (with_reducible refine (treillageref03_GetInt.calls x330000_2 x330001_2 x330002_2 t351 t352 t353 t354 _ A45.out).mono ?_); rintro e w49 ⟨rfl, hb⟩; refine ⟨_, rfl, ?_⟩; have n0_ := Aside0.mk (blk_below (g := gb329) (o := .cells #[.string x330000_2, .int .i64 x330001_2, .int .i64 x330002_2] 52 (0, 0)) (by (with_reducible repeat (first | refine blk_drewN ?_ _ | refine blk_drew ?_ | refine blk_alloc ?_ _)); exact BK329.out) hb); have n1_ := Aside0.mk (IsS88.below (by repeat (first | (with_reducible first | exact HI328.out | apply IsS88.alloc | apply IsS88.drewN | apply IsS88.drew | apply IsS88.set_0 | apply IsS88.set_1 | apply IsS88.set_2 | refine IsS88.far ?_ NB328_329.out _) | exact HI328.out)) hb); have n2_ := Aside0.mk (below_step (by repeat (first | (with_reducible first | exact HB.out | apply below_alloc | apply pw_below_drewN | apply below_drew1 | refine below_set ?_ (IsS88.ge HI328.out) | refine below_set ?_ GE329.out) | exact HB.out)) hb); clear BK329; clear HI328; clear HB; have BK329 := n0_; have HI328 := n1_; have HB := n2_; clear n0_ n1_ n2_; (try clear hb); (try clear hb2); (try clear hk); (try clear hi)) | ((with_reducible refine gate_dst (N := 13) rfl ?_); (try (refine gate_guard (by rfl) ?_; dsimp only)); refine box_event ?hg (N := 13) ?hd (cs := #[.string (⟨#[]⟩ : ByteArray), .int .i64 0, .int .i64 0]) (t := 52) ?hr ?_; (case hd => rfl); (case hg => rfl); (case hr => first | (go_simp; done) | (go_simp; rfl)); intro gb355 hg w50 hbox hb; have n0_ := Aside0.mk (blk_below (g := gb329) (o := .cells #[.string x330000_2, .int .i64 x330001_2, .int .i64 x330002_2] 52 (0, 0)) (by (with_reducible repeat (first | refine blk_drewN ?_ _ | refine blk_drew ?_ | refine blk_alloc ?_ _)); exact BK329.out) hb); have n1_ := Aside0.mk (IsS88.below (by repeat (first | (with_reducible first | exact HI328.out | apply IsS88.alloc | apply IsS88.drewN | apply IsS88.drew | apply IsS88.set_0 | apply IsS88.set_1 | apply IsS88.set_2 | refine IsS88.far ?_ NB328_329.out _) | exact HI328.out)) hb); have n2_ := Aside0.mk (below_step (by repeat (first | (with_reducible first | exact HB.out | apply below_alloc | apply pw_below_drewN | apply below_drew1 | refine below_set ?_ (IsS88.ge HI328.out) | refine below_set ?_ GE329.out) | exact HB.out)) hb); have n3_ := Aside0.mk (hbox); have n4_ := Aside0.mk ((by rw [hg]; exact (below_size (by repeat (first | (with_reducible first | exact HB.out | apply below_alloc | apply pw_below_drewN | apply below_drew1 | refine below_set ?_ (IsS88.ge HI328.out) | refine below_set ?_ GE329.out) | exact HB.out))) : w.heap.size ≤ gb355)); have n5_ := Aside0.mk ((by rw [hg]; exact (below_size (by repeat (first | (with_reducible first | exact HB.out | apply below_alloc | apply pw_below_drewN | apply below_drew1 | refine below_set ?_ (IsS88.ge HI328.out) | refine below_set ?_ GE329.out) | exact HB.out))) : w.heap.size ≤ gb355)); have n6_ := Aside0.mk ((by rw [hg]; exact Nat.ne_of_lt (blk_lt (g := gb329) (o := .cells #[.string x330000_2, .int .i64 x330001_2, .int .i64 x330002_2] 52 (0, 0)) (by (with_reducible repeat (first | refine blk_drewN ?_ _ | refine blk_drew ?_ | refine blk_alloc ?_ _)); exact BK329.out)) : gb329 ≠ gb355)); have n7_ := Aside0.mk ((by rw [hg]; exact Nat.ne_of_gt (blk_lt (g := gb329) (o := .cells #[.string x330000_2, .int .i64 x330001_2, .int .i64 x330002_2] 52 (0, 0)) (by (with_reducible repeat (first | refine blk_drewN ?_ _ | refine blk_drew ?_ | refine blk_alloc ?_ _)); exact BK329.out)) : gb355 ≠ gb329)); have n8_ := Aside0.mk ((by rw [hg]; exact Nat.ne_of_lt (IsS88.lt (show IsS88 w _ g328 x329000_2 x329001_2 x329002_2 from by repeat (first | (with_reducible first | exact HI328.out | apply IsS88.alloc | apply IsS88.drewN | apply IsS88.drew | apply IsS88.set_0 | apply IsS88.set_1 | apply IsS88.set_2 | refine IsS88.far ?_ NB328_329.out _) | exact HI328.out))) : g328 ≠ gb355)); have n9_ := Aside0.mk ((by rw [hg]; exact Nat.ne_of_gt (IsS88.lt (show IsS88 w _ g328 x329000_2 x329001_2 x329002_2 from by repeat (first | (with_reducible first | exact HI328.out | apply IsS88.alloc | apply IsS88.drewN | apply IsS88.drew | apply IsS88.set_0 | apply IsS88.set_1 | apply IsS88.set_2 | refine IsS88.far ?_ NB328_329.out _) | exact HI328.out))) : gb355 ≠ g328)); clear BK329; clear HI328; clear HB; have BK329 := n0_; have HI328 := n1_; have HB := n2_; have BK355 := n3_; have GW355 := n4_; have GE355 := n5_; have NB329_355 := n6_; have NB355_329 := n7_; have NB328_355 := n8_; have NB355_328 := n9_; clear n0_ n1_ n2_ n3_ n4_ n5_ n6_ n7_ n8_ n9_; clear hb hbox hg; have hnb51 := NB355_329.out; have hnc51 := NB329_355.out; have hnb52 := NB355_328.out; have hnc52 := NB328_355.out; have hcz53_0 : w50.cell? ⟨gb355, 0, none⟩ = some (.string (⟨#[]⟩ : ByteArray)) := (blk_cell BK355.out 0).trans rfl; have hcz53_1 : w50.cell? ⟨gb355, 1, none⟩ = some (.int .i64 0) := (blk_cell BK355.out 1).trans rfl; have hcz53_2 : w50.cell? ⟨gb355, 2, none⟩ = some (.int .i64 0) := (blk_cell BK355.out 2).trans rfl; have hfz53_0 := blk_frozen BK355.out 0; have hfz53_1 := blk_frozen BK355.out 1; have hfz53_2 := blk_frozen BK355.out 2; have hcz54_0 : w50.cell? ⟨gb329, 0, none⟩ = some (.string x330000_2) := (blk_cell BK329.out 0).trans rfl; have hcz54_1 : w50.cell? ⟨gb329, 1, none⟩ = some (.int .i64 x330001_2) := (blk_cell BK329.out 1).trans rfl; have hcz54_2 : w50.cell? ⟨gb329, 2, none⟩ = some (.int .i64 x330002_2) := (blk_cell BK329.out 2).trans rfl; have hfz54_0 := blk_frozen BK329.out 0; have hfz54_1 := blk_frozen BK329.out 1; have hfz54_2 := blk_frozen BK329.out 2) | ((with_reducible refine gate_callee (f := 29) rfl ?_); refine goesL_ (some 108) rfl rfl Try.func29 (by kernel_rfl) rfl #[.pointer (some ⟨g328, 0, none⟩)] rfl (by (try simp only [List.map_toArray, List.map_cons, List.map_nil]); first | done | rfl | (simp only [List.length_drop, List.length_take]; rfl)) ?_; (with_reducible refine (vint_Reader_GetInt.calls k2 g328 x329000_2 x329001_2 x329002_2 t356 t357 t358 t359 w _ ?side1 ?side2 A46.out).mono ?_); (case side1 => repeat (first | (with_reducible first | exact HI328.out | apply IsS88.alloc | apply IsS88.drewN | apply IsS88.drew | apply IsS88.set_0 | apply IsS88.set_1 | apply IsS88.set_2 | refine IsS88.far ?_ NB328_329.out _ | refine IsS88.far ?_ NB328_355.out _) | exact HI328.out)); (case side2 => repeat (first | (with_reducible first | exact HB.out | apply below_alloc | apply pw_below_drewN | apply below_drew1 | refine below_set ?_ (IsS88.ge HI328.out) | refine below_set ?_ GE329.out | refine below_set ?_ GE355.out) | exact HB.out)); rintro e w55 ⟨rfl, hi, hb, hk⟩; refine ⟨_, rfl, ?_⟩; have n0_ := Aside0.mk (KeepBut.blk hk (g' := gb329) (o := .cells #[.string t351, .int .i64 t352, .int .i64 t353] 52 (0, 0)) (by (with_reducible repeat (first | refine blk_drewN ?_ _ | refine blk_drew ?_ | refine blk_alloc ?_ _)); refine blk_put (cs := #[.string t351, .int .i64 t352, .int .i64 x330002_2]) ?_ 2 _ rfl; (with_reducible repeat (first | refine blk_drewN ?_ _ | refine blk_drew ?_ | refine blk_alloc ?_ _)); refine blk_put (cs := #[.string t351, .int .i64 x330001_2, .int .i64 x330002_2]) ?_ 1 _ rfl; (with_reducible repeat (first | refine blk_drewN ?_ _ | refine blk_drew ?_ | refine blk_alloc ?_ _)); refine blk_put (cs := #[.string x330000_2, .int .i64 x330001_2, .int .i64 x330002_2]) ?_ 0 _ rfl; (with_reducible repeat (first | refine blk_drewN ?_ _ | refine blk_drew ?_ | refine blk_alloc ?_ _)); refine blk_far ?_ NB329_355.out _; (with_reducible repeat (first | refine blk_drewN ?_ _ | refine blk_drew ?_ | refine blk_alloc ?_ _)); refine blk_far ?_ NB329_355.out _; (with_reducible repeat (first | refine blk_drewN ?_ _ | refine blk_drew ?_ | refine blk_alloc ?_ _)); refine blk_far ?_ NB329_355.out _; (with_reducible repeat (first | refine blk_drewN ?_ _ | refine blk_drew ?_ | refine blk_alloc ?_ _)); exact BK329.out) NB329_328.out (by simp)); have n1_ := Aside0.mk (KeepBut.blk hk (g' := gb355) (o := .cells #[.string t351, .int .i64 t352, .int .i64 t353] 52 (0, 0)) (by (with_reducible repeat (first | refine blk_drewN ?_ _ | refine blk_drew ?_ | refine blk_alloc ?_ _)); refine blk_far ?_ NB355_329.out _; (with_reducible repeat (first | refine blk_drewN ?_ _ | refine blk_drew ?_ | refine blk_alloc ?_ _)); refine blk_far ?_ NB355_329.out _; (with_reducible repeat (first | refine blk_drewN ?_ _ | refine blk_drew ?_ | refine blk_alloc ?_ _)); refine blk_far ?_ NB355_329.out _; (with_reducible repeat (first | refine blk_drewN ?_ _ | refine blk_drew ?_ | refine blk_alloc ?_ _)); refine blk_put (cs := #[.string t351, .int .i64 t352, .int .i64 0]) ?_ 2 _ rfl; (with_reducible repeat (first | refine blk_drewN ?_ _ | refine blk_drew ?_ | refine blk_alloc ?_ _)); refine blk_put (cs := #[.string t351, .int .i64 0, .int .i64 0]) ?_ 1 _ rfl; (with_reducible repeat (first | refine blk_drewN ?_ _ | refine blk_drew ?_ | refine blk_alloc ?_ _)); refine blk_put (cs := #[.string (⟨#[]⟩ : ByteArray), .int .i64 0, .int .i64 0]) ?_ 0 _ rfl; (with_reducible repeat (first | refine blk_drewN ?_ _ | refine blk_drew ?_ | refine blk_alloc ?_ _)); exact BK355.out) NB355_328.out (by simp)); have n2_ := Aside0.mk (hb); have n3_ := Aside0.mk (hi); clear BK329; clear BK355; clear HB; clear HI328; have BK329 := n0_; have BK355 := n1_; have HB := n2_; have HI328 := n3_; clear n0_ n1_ n2_ n3_; (try clear hb); (try clear hb2); (try clear hk); (try clear hi)))
                        go_meet
                        case rel => exact ⟨_, ((t356 == t354)), (t357), (t358), (t359), (t351), (t352), (t353), (by first | rfl | (simp; done) | (simp [*]; done)), H', ⟨by have := HJ2.out; have := HK2.out; first | omega | exact Nat.le_refl _⟩, ⟨by (with_reducible repeat (first | refine blk_drewN ?_ _ | refine blk_drew ?_ | refine blk_alloc ?_ _)); exact BK329.out⟩, ⟨by repeat (first | (with_reducible first | exact HI328.out | apply IsS88.alloc | apply IsS88.drewN | apply IsS88.drew | apply IsS88.set_0 | apply IsS88.set_1 | apply IsS88.set_2 | refine IsS88.far ?_ NB328_329.out _ | refine IsS88.far ?_ NB328_355.out _) | exact HI328.out)⟩, ⟨by repeat (first | (with_reducible first | exact HB.out | apply below_alloc | apply pw_below_drewN | apply below_drew1 | refine below_set ?_ (IsS88.ge HI328.out) | refine below_set ?_ GE329.out | refine below_set ?_ GE355.out) | exact HB.out)⟩⟩
                      · rw [if_neg c44] at H
                        have c44b0 : ((Go.bits .and .u8 ((rd_T54 l1 x7_2).f0) 3) == 2) = false := beq_eq_false_iff_ne.mpr c44
                        have c44b1 : ((Go.bits .and .u8 ((rd_T54 l1 x7_2).f0) 3) != 2) = true := bne_iff_ne.mpr c44
                        replace H := Option.bind_eq_some_iff.mp H
                        obtain ⟨⟨t361, t362, t363, t364⟩, A560, H⟩ := H
                        replace H : ((vint_Reader_GetText.f k2 x329000_2 x329001_2 x329002_2 ((rd_T54 l1 x7_2).f1)).bind fun bt367 => (treillagelaw03_VintReads.j2 k2 a0 l1 x7_2 (bt367.1.toList == t364.toList) bt367.2.1 bt367.2.2.1 bt367.2.2.2 t361 t362 t363)) = some r := H
                        have A56 := Aside0.mk A560
                        clear A560
                        replace H := Option.bind_eq_some_iff.mp H
                        obtain ⟨⟨t367, t368, t369, t370⟩, A570, H⟩ := H
                        replace H : (treillagelaw03_VintReads.j2 k2 a0 l1 x7_2 (t367.toList == t364.toList) t368 t369 t370 t361 t362 t363) = some r := H
                        have A57 := Aside0.mk A570
                        clear A570
                        have H' := Aside0.mk H
                        clear H
                        try go_wp2
                        have n0_ := Aside0.mk (blk_drew BK329.out)
                        have n1_ := Aside0.mk (IsS88.drew HI328.out)
                        have n2_ := Aside0.mk (below_drew1 HB.out)
                        clear BK329
                        clear HI328
                        clear HB
                        have BK329 := n0_
                        have HI328 := n1_
                        have HB := n2_
                        clear n0_ n1_ n2_
                        have p360 : 0 ≤ (x7_2 : Int) := of_decide_eq_true (by first | (with_reducible assumption) | assumption)
                        have q360 : x7_2 < (l1.length : Int) := of_decide_eq_true (by first | (with_reducible assumption) | assumption)
                        obtain ⟨ad360, e360, hx360_0, hx360_1⟩ := at_T54 HR1.out x7_2 p360 q360
                        have hw360_1 := hx360_1
                        have hw360_0 := hx360_0
                        obtain rfl : ad330 = ad360 := (by injection e360)
                        replace hx360_0 := (HB.out.cell (World.block_lt_of_cell? w _ hx360_0)).trans hx360_0
                        replace hx360_1 := (HB.out.cell (World.block_lt_of_cell? w _ hx360_1)).trans hx360_1
                        replace p360 := eq_true p360
                        replace q360 := eq_true q360
                        refine start_ (n := 13) (S := fun w' => w'.cell? ⟨gb329, 0, none⟩ = some (.string x330000_2) ∧ w'.cell? ⟨gb329, 1, none⟩ = some (.int .i64 x330001_2) ∧ w'.cell? ⟨gb329, 2, none⟩ = some (.int .i64 x330002_2) ∧ w'.cell? (ad330.add ((x7_2).toNat * 2)) = some (.int .u8 ((rd_T54 l1 x7_2).f0)) ∧ w'.cell? ⟨(ad330.add ((x7_2).toNat * 2)).block, (ad330.add ((x7_2).toNat * 2)).off + 1, none⟩ = some (.int .i64 ((rd_T54 l1 x7_2).f1))) (ds := []) #[false, false, false, false, false, false, false, false, false, false, false, false, false] (by kernel_rfl) rfl rfl ⟨(blk_cell BK329.out 0).trans rfl, (blk_cell BK329.out 1).trans rfl, (blk_cell BK329.out 2).trans rfl, ((HB.out.cell (World.block_lt_of_cell? w _ hw360_0)).trans hw360_0), ((HB.out.cell (World.block_lt_of_cell? w _ hw360_1)).trans hw360_1)⟩ (fun hHeld => ?_); refine with_tabW treillagelaw03_VintReads.tab10 treillagelaw03_VintReads.bits10 (fun HT_ HW_ => ?_)
                        generalize wr.drew = w58 at BK329 HI328 HB hx360_0 hx360_1 hHeld ⊢
                        refine pure_ (i := 1) (N := some 45) (v := ?_) (a' := ?_) #[false, true, false, false, false, false, false, false, false, false, false, false, false] rfl rfl (any_of HT_.out (by kernel_rfl)) (fun _ _ _ h => h) (Or.inl ⟨by rfl, ?_⟩) ?_ ?_
                        rotate_left
                        · intro w'
                          go_simp
                          with_reducible rfl
                        rotate_left
                        · simp only [Act.put, List.setIfInBounds_toArray, List.set_cons_zero, List.set_cons_succ, i64_w, i32_w]
                          rfl
                        refine pure_ (i := 2) (N := some 46) (v := ?_) (a' := ?_) #[false, true, true, false, false, false, false, false, false, false, false, false, false] rfl rfl (any_of HT_.out (by kernel_rfl)) (fun _ _ _ h => h) (Or.inl ⟨by rfl, ?_⟩) ?_ ?_
                        rotate_left
                        · intro w'
                          go_simp
                          with_reducible rfl
                        rotate_left
                        · simp only [Act.put, List.setIfInBounds_toArray, List.set_cons_zero, List.set_cons_succ, i64_w, i32_w]
                          rfl
                        refine pure_ (i := 3) (N := some 47) (v := ?_) (a' := ?_) #[false, true, true, true, false, false, false, false, false, false, false, false, false] rfl rfl (any_of HT_.out (by kernel_rfl)) (fun _ _ _ h => h) (Or.inl ⟨by rfl, ?_⟩) ?_ ?_
                        rotate_left
                        · intro w'
                          go_simp
                          with_reducible rfl
                        rotate_left
                        · simp only [Act.put, List.setIfInBounds_toArray, List.set_cons_zero, List.set_cons_succ, i64_w, i32_w]
                          rfl
                        refine pure_ (i := 4) (N := some 48) (v := ?_) (a' := ?_) #[false, true, true, true, true, false, false, false, false, false, false, false, false] rfl rfl (any_of HT_.out (by kernel_rfl)) (fun _ _ _ h => h) (Or.inl ⟨by rfl, ?_⟩) ?_ ?_
                        rotate_left
                        · intro w'
                          go_simp
                          with_reducible rfl
                        rotate_left
                        · simp only [Act.put, List.setIfInBounds_toArray, List.set_cons_zero, List.set_cons_succ, i64_w, i32_w]
                          rfl
                        refine take_ (i := 0) (N := some 44) (v := ?_) (a' := ?_) #[true, true, true, true, true, false, false, false, false, false, false, false, false] rfl rfl (take_ofW HT_.out HW_.out (by kernel_rfl)) (fun _ _ _ h => h) (Or.inl ⟨by rfl, ?_⟩) hHeld ?_ ?_
                        rotate_left
                        · rintro w' ⟨s0, s1, s2, s3, s4⟩
                          go_simp
                          with_reducible rfl
                        rotate_left
                        · simp only [Act.put, List.setIfInBounds_toArray, List.set_cons_zero, List.set_cons_succ, i64_w, i32_w]
                          rfl
                        refine take_ (i := 5) (N := some 49) (v := ?_) (a' := ?_) #[true, true, true, true, true, true, false, false, false, false, false, false, false] rfl rfl (take_ofW HT_.out HW_.out (by kernel_rfl)) (fun _ _ _ h => h) (Or.inl ⟨by rfl, ?_⟩) hHeld ?_ ?_
                        rotate_left
                        · rintro w' ⟨s0, s1, s2, s3, s4⟩
                          go_simp
                          with_reducible rfl
                        rotate_left
                        · simp only [Act.put, List.setIfInBounds_toArray, List.set_cons_zero, List.set_cons_succ, i64_w, i32_w]
                          rfl
                        refine join_ (σ := Nat) 2 #[true, true, true, true, true, true, true, true, true, true, true, false, false] (fun s_ => [(50, .tuple #[.agg #[.string t361, .int .i64 t362, .int .i64 t363], .string t364]), (15, .pointer (some ⟨s_, 0, none⟩)), (43, .tuple #[.agg #[.string t361, .int .i64 t362, .int .i64 t363], .string t364]), (51, .agg #[.string t361, .int .i64 t362, .int .i64 t363]), (52, .string t364)]) (fun s_ w' => (w'.cell? ⟨gb329, 0, none⟩ = some (.string x330000_2) ∧ w'.cell? ⟨gb329, 1, none⟩ = some (.int .i64 x330001_2) ∧ w'.cell? ⟨gb329, 2, none⟩ = some (.int .i64 x330002_2) ∧ w'.cell? (ad330.add ((x7_2).toNat * 2)) = some (.int .u8 ((rd_T54 l1 x7_2).f0)) ∧ w'.cell? ⟨(ad330.add ((x7_2).toNat * 2)).block, (ad330.add ((x7_2).toNat * 2)).off + 1, none⟩ = some (.int .i64 ((rd_T54 l1 x7_2).f1))) ∧ (w'.heap[gb329]? = some (.cells #[.string x330000_2, .int .i64 x330001_2, .int .i64 x330002_2] 52 (0, 0))) ∧ (w'.heap[s_]? = some (.cells #[.string (⟨#[]⟩ : ByteArray), .int .i64 0, .int .i64 0] 52 (0, 0))) ∧ (w.heap.size ≤ s_) ∧ (w.heap.size ≤ s_) ∧ (g328 ≠ s_) ∧ (s_ ≠ g328) ∧ (gb329 ≠ s_) ∧ (s_ ≠ gb329) ∧ (IsS88 w w' g328 x329000_2 x329001_2 x329002_2) ∧ (Below w.heap.size w w')) ?_ ?_
                        rotate_left
                        · intro hCont
                          refine two_ (i := 6) (j := 10) (Ni := some 50) (Nj := some 15) #[true, true, true, true, true, true, true, false, false, false, false, false, false] #[true, true, true, true, true, true, false, false, false, false, true, false, false] rfl rfl rfl rfl (two_of HT_.out (by kernel_rfl)) (by decide) (by decide) (fun K hK => ?_) (fun K hK => ?_)
                          · skip
                            refine goes_ Try.func37 (by kernel_rfl) rfl #[.agg #[.string x330000_2, .int .i64 x330001_2, .int .i64 x330002_2], .int .i64 ((rd_T54 l1 x7_2).f1)] (by rfl) rfl rfl (by (try simp only [List.map_toArray, List.map_cons, List.map_nil]); first | done | rfl | (simp only [List.length_drop, List.length_take]; rfl)) ?_
                            with_reducible refine (treillageref03_GetText.calls k2 x330000_2 x330001_2 x330002_2 ((rd_T54 l1 x7_2).f1) t361 t362 t363 t364 _ A56.out).mono ?_
                            rintro e w59 ⟨rfl, hb⟩
                            refine ⟨_, rfl, ?_⟩
                            have n0_ := Aside0.mk (blk_below (g := gb329) (o := .cells #[.string x330000_2, .int .i64 x330001_2, .int .i64 x330002_2] 52 (0, 0)) (by (with_reducible repeat (first | refine blk_drewN ?_ _ | refine blk_drew ?_ | refine blk_alloc ?_ _)); exact BK329.out) hb)
                            have n1_ := Aside0.mk (IsS88.below (by repeat (first | (with_reducible first | exact HI328.out | apply IsS88.alloc | apply IsS88.drewN | apply IsS88.drew | apply IsS88.set_0 | apply IsS88.set_1 | apply IsS88.set_2 | refine IsS88.far ?_ NB328_329.out _) | exact HI328.out)) hb)
                            have n2_ := Aside0.mk (below_step (by repeat (first | (with_reducible first | exact HB.out | apply below_alloc | apply pw_below_drewN | apply below_drew1 | refine below_set ?_ (IsS88.ge HI328.out) | refine below_set ?_ GE329.out) | exact HB.out)) hb)
                            clear BK329
                            clear HI328
                            clear HB
                            have BK329 := n0_
                            have HI328 := n1_
                            have HB := n2_
                            clear n0_ n1_ n2_
                            (try clear hb)
                            (try clear hb2)
                            (try clear hk)
                            (try clear hi)
                            refine hK.out _ _ ⟨(blk_cell BK329.out 0).trans rfl, (blk_cell BK329.out 1).trans rfl, (blk_cell BK329.out 2).trans rfl, ((HB.out.cell (World.block_lt_of_cell? w _ hw360_0)).trans hw360_0), ((HB.out.cell (World.block_lt_of_cell? w _ hw360_1)).trans hw360_1)⟩ (fun hHeld => ?_)
                            clear hK K
                            refine norm_ (a' := ?_) ?_ ?_
                            rotate_left
                            · show Act.put _ (some 50) _ = _
                              simp only [Act.put, List.setIfInBounds_toArray, List.set_cons_zero, List.set_cons_succ, i64_w, i32_w]
                              rfl
                            refine pure_ (i := 7) (N := some 43) (v := ?_) (a' := ?_) #[true, true, true, true, true, true, true, true, false, false, false, false, false] rfl rfl (any_of HT_.out (by kernel_rfl)) (fun _ _ _ h => h) (Or.inl ⟨by rfl, ?_⟩) ?_ ?_
                            rotate_left
                            · intro w'
                              go_simp
                              with_reducible rfl
                            rotate_left
                            · simp only [Act.put, List.setIfInBounds_toArray, List.set_cons_zero, List.set_cons_succ, i64_w, i32_w]
                              rfl
                            refine pure_ (i := 8) (N := some 51) (v := ?_) (a' := ?_) #[true, true, true, true, true, true, true, true, true, false, false, false, false] rfl rfl (any_of HT_.out (by kernel_rfl)) (fun _ _ _ h => h) (Or.inl ⟨by rfl, ?_⟩) ?_ ?_
                            rotate_left
                            · intro w'
                              go_simp
                              with_reducible rfl
                            rotate_left
                            · simp only [Act.put, List.setIfInBounds_toArray, List.set_cons_zero, List.set_cons_succ, i64_w, i32_w]
                              rfl
                            refine pure_ (i := 9) (N := some 52) (v := ?_) (a' := ?_) #[true, true, true, true, true, true, true, true, true, true, false, false, false] rfl rfl (any_of HT_.out (by kernel_rfl)) (fun _ _ _ h => h) (Or.inl ⟨by rfl, ?_⟩) ?_ ?_
                            rotate_left
                            · intro w'
                              go_simp
                              with_reducible rfl
                            rotate_left
                            · simp only [Act.put, List.setIfInBounds_toArray, List.set_cons_zero, List.set_cons_succ, i64_w, i32_w]
                              rfl
                            refine one_ (i := 10) (N := some 15) #[true, true, true, true, true, true, true, true, true, true, true, false, false] rfl rfl (one_of HT_.out (by kernel_rfl)) (by decide) (fun K hK => ?_)
                            refine box_step ?hg (N := 15) ?hd (cs := #[.string (⟨#[]⟩ : ByteArray), .int .i64 0, .int .i64 0]) (t := 52) ?hr ?_; (case hd => rfl); (case hg => rfl); (case hr => first | (go_simp; done) | (go_simp; rfl))
                            intro gb365 hg w60 hbox hb
                            have n0_ := Aside0.mk (blk_below (g := gb329) (o := .cells #[.string x330000_2, .int .i64 x330001_2, .int .i64 x330002_2] 52 (0, 0)) (by (with_reducible repeat (first | refine blk_drewN ?_ _ | refine blk_drew ?_ | refine blk_alloc ?_ _)); exact BK329.out) hb)
                            have n1_ := Aside0.mk (IsS88.below (by repeat (first | (with_reducible first | exact HI328.out | apply IsS88.alloc | apply IsS88.drewN | apply IsS88.drew | apply IsS88.set_0 | apply IsS88.set_1 | apply IsS88.set_2 | refine IsS88.far ?_ NB328_329.out _) | exact HI328.out)) hb)
                            have n2_ := Aside0.mk (below_step (by repeat (first | (with_reducible first | exact HB.out | apply below_alloc | apply pw_below_drewN | apply below_drew1 | refine below_set ?_ (IsS88.ge HI328.out) | refine below_set ?_ GE329.out) | exact HB.out)) hb)
                            have n3_ := Aside0.mk (hbox)
                            have n4_ := Aside0.mk ((by rw [hg]; exact (below_size (by repeat (first | (with_reducible first | exact HB.out | apply below_alloc | apply pw_below_drewN | apply below_drew1 | refine below_set ?_ (IsS88.ge HI328.out) | refine below_set ?_ GE329.out) | exact HB.out))) : w.heap.size ≤ gb365))
                            have n5_ := Aside0.mk ((by rw [hg]; exact (below_size (by repeat (first | (with_reducible first | exact HB.out | apply below_alloc | apply pw_below_drewN | apply below_drew1 | refine below_set ?_ (IsS88.ge HI328.out) | refine below_set ?_ GE329.out) | exact HB.out))) : w.heap.size ≤ gb365))
                            have n6_ := Aside0.mk ((by rw [hg]; exact Nat.ne_of_lt (blk_lt (g := gb329) (o := .cells #[.string x330000_2, .int .i64 x330001_2, .int .i64 x330002_2] 52 (0, 0)) (by (with_reducible repeat (first | refine blk_drewN ?_ _ | refine blk_drew ?_ | refine blk_alloc ?_ _)); exact BK329.out)) : gb329 ≠ gb365))
                            have n7_ := Aside0.mk ((by rw [hg]; exact Nat.ne_of_gt (blk_lt (g := gb329) (o := .cells #[.string x330000_2, .int .i64 x330001_2, .int .i64 x330002_2] 52 (0, 0)) (by (with_reducible repeat (first | refine blk_drewN ?_ _ | refine blk_drew ?_ | refine blk_alloc ?_ _)); exact BK329.out)) : gb365 ≠ gb329))
                            have n8_ := Aside0.mk ((by rw [hg]; exact Nat.ne_of_lt (IsS88.lt (show IsS88 w _ g328 x329000_2 x329001_2 x329002_2 from by repeat (first | (with_reducible first | exact HI328.out | apply IsS88.alloc | apply IsS88.drewN | apply IsS88.drew | apply IsS88.set_0 | apply IsS88.set_1 | apply IsS88.set_2 | refine IsS88.far ?_ NB328_329.out _) | exact HI328.out))) : g328 ≠ gb365))
                            have n9_ := Aside0.mk ((by rw [hg]; exact Nat.ne_of_gt (IsS88.lt (show IsS88 w _ g328 x329000_2 x329001_2 x329002_2 from by repeat (first | (with_reducible first | exact HI328.out | apply IsS88.alloc | apply IsS88.drewN | apply IsS88.drew | apply IsS88.set_0 | apply IsS88.set_1 | apply IsS88.set_2 | refine IsS88.far ?_ NB328_329.out _) | exact HI328.out))) : gb365 ≠ g328))
                            clear BK329
                            clear HI328
                            clear HB
                            have BK329 := n0_
                            have HI328 := n1_
                            have HB := n2_
                            have BK365 := n3_
                            have GW365 := n4_
                            have GE365 := n5_
                            have NB329_365 := n6_
                            have NB365_329 := n7_
                            have NB328_365 := n8_
                            have NB365_328 := n9_
                            clear n0_ n1_ n2_ n3_ n4_ n5_ n6_ n7_ n8_ n9_
                            clear hb hbox hg
                            refine hK.out _ _ ⟨(blk_cell BK329.out 0).trans rfl, (blk_cell BK329.out 1).trans rfl, (blk_cell BK329.out 2).trans rfl, ((HB.out.cell (World.block_lt_of_cell? w _ hw360_0)).trans hw360_0), ((HB.out.cell (World.block_lt_of_cell? w _ hw360_1)).trans hw360_1)⟩ (fun hHeld => ?_)
                            clear hK K
                            refine norm_ (a' := ?_) ?_ ?_
                            rotate_left
                            · show Act.put _ (some 15) _ = _
                              simp only [Act.put, List.setIfInBounds_toArray, List.set_cons_zero, List.set_cons_succ, i64_w, i32_w]
                              rfl
                            exact norm_ (by simp only [putAll, Act.put, List.setIfInBounds_toArray, List.set_cons_zero, List.set_cons_succ]) (hCont (gb365) _ ⟨hHeld, (by (with_reducible repeat (first | refine blk_drewN ?_ _ | refine blk_drew ?_ | refine blk_alloc ?_ _)); exact BK329.out), (by (with_reducible repeat (first | refine blk_drewN ?_ _ | refine blk_drew ?_ | refine blk_alloc ?_ _)); exact BK365.out), GW365.out, GE365.out, NB328_365.out, NB365_328.out, NB329_365.out, NB365_329.out, (by repeat (first | (with_reducible first | exact HI328.out | apply IsS88.alloc | apply IsS88.drewN | apply IsS88.drew | apply IsS88.set_0 | apply IsS88.set_1 | apply IsS88.set_2 | refine IsS88.far ?_ NB328_329.out _ | refine IsS88.far ?_ NB328_365.out _) | exact HI328.out)), (by repeat (first | (with_reducible first | exact HB.out | apply below_alloc | apply pw_below_drewN | apply below_drew1 | refine below_set ?_ (IsS88.ge HI328.out) | refine below_set ?_ GE329.out | refine below_set ?_ GE365.out) | exact HB.out))⟩)
                          · skip
                            refine box_step ?hg (N := 15) ?hd (cs := #[.string (⟨#[]⟩ : ByteArray), .int .i64 0, .int .i64 0]) (t := 52) ?hr ?_; (case hd => rfl); (case hg => rfl); (case hr => first | (go_simp; done) | (go_simp; rfl))
                            intro gb365 hg w59 hbox hb
                            have n0_ := Aside0.mk (blk_below (g := gb329) (o := .cells #[.string x330000_2, .int .i64 x330001_2, .int .i64 x330002_2] 52 (0, 0)) (by (with_reducible repeat (first | refine blk_drewN ?_ _ | refine blk_drew ?_ | refine blk_alloc ?_ _)); exact BK329.out) hb)
                            have n1_ := Aside0.mk (IsS88.below (by repeat (first | (with_reducible first | exact HI328.out | apply IsS88.alloc | apply IsS88.drewN | apply IsS88.drew | apply IsS88.set_0 | apply IsS88.set_1 | apply IsS88.set_2 | refine IsS88.far ?_ NB328_329.out _) | exact HI328.out)) hb)
                            have n2_ := Aside0.mk (below_step (by repeat (first | (with_reducible first | exact HB.out | apply below_alloc | apply pw_below_drewN | apply below_drew1 | refine below_set ?_ (IsS88.ge HI328.out) | refine below_set ?_ GE329.out) | exact HB.out)) hb)
                            have n3_ := Aside0.mk (hbox)
                            have n4_ := Aside0.mk ((by rw [hg]; exact (below_size (by repeat (first | (with_reducible first | exact HB.out | apply below_alloc | apply pw_below_drewN | apply below_drew1 | refine below_set ?_ (IsS88.ge HI328.out) | refine below_set ?_ GE329.out) | exact HB.out))) : w.heap.size ≤ gb365))
                            have n5_ := Aside0.mk ((by rw [hg]; exact (below_size (by repeat (first | (with_reducible first | exact HB.out | apply below_alloc | apply pw_below_drewN | apply below_drew1 | refine below_set ?_ (IsS88.ge HI328.out) | refine below_set ?_ GE329.out) | exact HB.out))) : w.heap.size ≤ gb365))
                            have n6_ := Aside0.mk ((by rw [hg]; exact Nat.ne_of_lt (blk_lt (g := gb329) (o := .cells #[.string x330000_2, .int .i64 x330001_2, .int .i64 x330002_2] 52 (0, 0)) (by (with_reducible repeat (first | refine blk_drewN ?_ _ | refine blk_drew ?_ | refine blk_alloc ?_ _)); exact BK329.out)) : gb329 ≠ gb365))
                            have n7_ := Aside0.mk ((by rw [hg]; exact Nat.ne_of_gt (blk_lt (g := gb329) (o := .cells #[.string x330000_2, .int .i64 x330001_2, .int .i64 x330002_2] 52 (0, 0)) (by (with_reducible repeat (first | refine blk_drewN ?_ _ | refine blk_drew ?_ | refine blk_alloc ?_ _)); exact BK329.out)) : gb365 ≠ gb329))
                            have n8_ := Aside0.mk ((by rw [hg]; exact Nat.ne_of_lt (IsS88.lt (show IsS88 w _ g328 x329000_2 x329001_2 x329002_2 from by repeat (first | (with_reducible first | exact HI328.out | apply IsS88.alloc | apply IsS88.drewN | apply IsS88.drew | apply IsS88.set_0 | apply IsS88.set_1 | apply IsS88.set_2 | refine IsS88.far ?_ NB328_329.out _) | exact HI328.out))) : g328 ≠ gb365))
                            have n9_ := Aside0.mk ((by rw [hg]; exact Nat.ne_of_gt (IsS88.lt (show IsS88 w _ g328 x329000_2 x329001_2 x329002_2 from by repeat (first | (with_reducible first | exact HI328.out | apply IsS88.alloc | apply IsS88.drewN | apply IsS88.drew | apply IsS88.set_0 | apply IsS88.set_1 | apply IsS88.set_2 | refine IsS88.far ?_ NB328_329.out _) | exact HI328.out))) : gb365 ≠ g328))
                            clear BK329
                            clear HI328
                            clear HB
                            have BK329 := n0_
                            have HI328 := n1_
                            have HB := n2_
                            have BK365 := n3_
                            have GW365 := n4_
                            have GE365 := n5_
                            have NB329_365 := n6_
                            have NB365_329 := n7_
                            have NB328_365 := n8_
                            have NB365_328 := n9_
                            clear n0_ n1_ n2_ n3_ n4_ n5_ n6_ n7_ n8_ n9_
                            clear hb hbox hg
                            refine hK.out _ _ ⟨(blk_cell BK329.out 0).trans rfl, (blk_cell BK329.out 1).trans rfl, (blk_cell BK329.out 2).trans rfl, ((HB.out.cell (World.block_lt_of_cell? w _ hw360_0)).trans hw360_0), ((HB.out.cell (World.block_lt_of_cell? w _ hw360_1)).trans hw360_1)⟩ (fun hHeld => ?_)
                            clear hK K
                            refine norm_ (a' := ?_) ?_ ?_
                            rotate_left
                            · show Act.put _ (some 15) _ = _
                              simp only [Act.put, List.setIfInBounds_toArray, List.set_cons_zero, List.set_cons_succ, i64_w, i32_w]
                              rfl
                            refine one_ (i := 6) (N := some 50) #[true, true, true, true, true, true, true, false, false, false, true, false, false] rfl rfl (one_of HT_.out (by kernel_rfl)) (by decide) (fun K hK => ?_)
                            refine goes_ Try.func37 (by kernel_rfl) rfl #[.agg #[.string x330000_2, .int .i64 x330001_2, .int .i64 x330002_2], .int .i64 ((rd_T54 l1 x7_2).f1)] (by rfl) rfl rfl (by (try simp only [List.map_toArray, List.map_cons, List.map_nil]); first | done | rfl | (simp only [List.length_drop, List.length_take]; rfl)) ?_
                            with_reducible refine (treillageref03_GetText.calls k2 x330000_2 x330001_2 x330002_2 ((rd_T54 l1 x7_2).f1) t361 t362 t363 t364 _ A56.out).mono ?_
                            rintro e w60 ⟨rfl, hb⟩
                            refine ⟨_, rfl, ?_⟩
                            have n0_ := Aside0.mk (blk_below (g := gb329) (o := .cells #[.string x330000_2, .int .i64 x330001_2, .int .i64 x330002_2] 52 (0, 0)) (by (with_reducible repeat (first | refine blk_drewN ?_ _ | refine blk_drew ?_ | refine blk_alloc ?_ _)); exact BK329.out) hb)
                            have n1_ := Aside0.mk (IsS88.below (by repeat (first | (with_reducible first | exact HI328.out | apply IsS88.alloc | apply IsS88.drewN | apply IsS88.drew | apply IsS88.set_0 | apply IsS88.set_1 | apply IsS88.set_2 | refine IsS88.far ?_ NB328_329.out _ | refine IsS88.far ?_ NB328_365.out _) | exact HI328.out)) hb)
                            have n2_ := Aside0.mk (blk_below (g := gb365) (o := .cells #[.string (⟨#[]⟩ : ByteArray), .int .i64 0, .int .i64 0] 52 (0, 0)) (by (with_reducible repeat (first | refine blk_drewN ?_ _ | refine blk_drew ?_ | refine blk_alloc ?_ _)); exact BK365.out) hb)
                            have n3_ := Aside0.mk (below_step (by repeat (first | (with_reducible first | exact HB.out | apply below_alloc | apply pw_below_drewN | apply below_drew1 | refine below_set ?_ (IsS88.ge HI328.out) | refine below_set ?_ GE329.out | refine below_set ?_ GE365.out) | exact HB.out)) hb)
                            clear BK329
                            clear HI328
                            clear BK365
                            clear HB
                            have BK329 := n0_
                            have HI328 := n1_
                            have BK365 := n2_
                            have HB := n3_
                            clear n0_ n1_ n2_ n3_
                            (try clear hb)
                            (try clear hb2)
                            (try clear hk)
                            (try clear hi)
                            refine hK.out _ _ ⟨(blk_cell BK329.out 0).trans rfl, (blk_cell BK329.out 1).trans rfl, (blk_cell BK329.out 2).trans rfl, ((HB.out.cell (World.block_lt_of_cell? w _ hw360_0)).trans hw360_0), ((HB.out.cell (World.block_lt_of_cell? w _ hw360_1)).trans hw360_1)⟩ (fun hHeld => ?_)
                            clear hK K
                            refine norm_ (a' := ?_) ?_ ?_
                            rotate_left
                            · show Act.put _ (some 50) _ = _
                              simp only [Act.put, List.setIfInBounds_toArray, List.set_cons_zero, List.set_cons_succ, i64_w, i32_w]
                              rfl
                            refine pure_ (i := 7) (N := some 43) (v := ?_) (a' := ?_) #[true, true, true, true, true, true, true, true, false, false, true, false, false] rfl rfl (any_of HT_.out (by kernel_rfl)) (fun _ _ _ h => h) (Or.inl ⟨by rfl, ?_⟩) ?_ ?_
                            rotate_left
                            · intro w'
                              go_simp
                              with_reducible rfl
                            rotate_left
                            · simp only [Act.put, List.setIfInBounds_toArray, List.set_cons_zero, List.set_cons_succ, i64_w, i32_w]
                              rfl
                            refine pure_ (i := 8) (N := some 51) (v := ?_) (a' := ?_) #[true, true, true, true, true, true, true, true, true, false, true, false, false] rfl rfl (any_of HT_.out (by kernel_rfl)) (fun _ _ _ h => h) (Or.inl ⟨by rfl, ?_⟩) ?_ ?_
                            rotate_left
                            · intro w'
                              go_simp
                              with_reducible rfl
                            rotate_left
                            · simp only [Act.put, List.setIfInBounds_toArray, List.set_cons_zero, List.set_cons_succ, i64_w, i32_w]
                              rfl
                            refine pure_ (i := 9) (N := some 52) (v := ?_) (a' := ?_) #[true, true, true, true, true, true, true, true, true, true, true, false, false] rfl rfl (any_of HT_.out (by kernel_rfl)) (fun _ _ _ h => h) (Or.inl ⟨by rfl, ?_⟩) ?_ ?_
                            rotate_left
                            · intro w'
                              go_simp
                              with_reducible rfl
                            rotate_left
                            · simp only [Act.put, List.setIfInBounds_toArray, List.set_cons_zero, List.set_cons_succ, i64_w, i32_w]
                              rfl
                            exact norm_ (by simp only [putAll, Act.put, List.setIfInBounds_toArray, List.set_cons_zero, List.set_cons_succ]) (hCont (gb365) _ ⟨hHeld, (by (with_reducible repeat (first | refine blk_drewN ?_ _ | refine blk_drew ?_ | refine blk_alloc ?_ _)); exact BK329.out), (by (with_reducible repeat (first | refine blk_drewN ?_ _ | refine blk_drew ?_ | refine blk_alloc ?_ _)); exact BK365.out), GW365.out, GE365.out, NB328_365.out, NB365_328.out, NB329_365.out, NB365_329.out, (by repeat (first | (with_reducible first | exact HI328.out | apply IsS88.alloc | apply IsS88.drewN | apply IsS88.drew | apply IsS88.set_0 | apply IsS88.set_1 | apply IsS88.set_2 | refine IsS88.far ?_ NB328_329.out _ | refine IsS88.far ?_ NB328_365.out _) | exact HI328.out)), (by repeat (first | (with_reducible first | exact HB.out | apply below_alloc | apply pw_below_drewN | apply below_drew1 | refine below_set ?_ (IsS88.ge HI328.out) | refine below_set ?_ GE329.out | refine below_set ?_ GE365.out) | exact HB.out))⟩)
                        rintro gb365 w61 ⟨hS_, h0_, h1_, h2_, h3_, h4_, h5_, h6_, h7_, h8_, h9_⟩
                        have n0_ : Aside0 (w61.heap[gb329]? = some (.cells #[.string x330000_2, .int .i64 x330001_2, .int .i64 x330002_2] 52 (0, 0))) := ⟨h0_⟩
                        have n1_ : Aside0 (w61.heap[gb365]? = some (.cells #[.string (⟨#[]⟩ : ByteArray), .int .i64 0, .int .i64 0] 52 (0, 0))) := ⟨h1_⟩
                        have n2_ : Aside0 (w.heap.size ≤ gb365) := ⟨h2_⟩
                        have n3_ : Aside0 (w.heap.size ≤ gb365) := ⟨h3_⟩
                        have n4_ : Aside0 (g328 ≠ gb365) := ⟨h4_⟩
                        have n5_ : Aside0 (gb365 ≠ g328) := ⟨h5_⟩
                        have n6_ : Aside0 (gb329 ≠ gb365) := ⟨h6_⟩
                        have n7_ : Aside0 (gb365 ≠ gb329) := ⟨h7_⟩
                        have n8_ : Aside0 (IsS88 w w61 g328 x329000_2 x329001_2 x329002_2) := ⟨h8_⟩
                        have n9_ : Aside0 (Below w.heap.size w w61) := ⟨h9_⟩
                        clear BK329
                        clear HI328
                        clear HB
                        clear h0_ h1_ h2_ h3_ h4_ h5_ h6_ h7_ h8_ h9_
                        have BK329 := n0_
                        have BK365 := n1_
                        have GW365 := n2_
                        have GE365 := n3_
                        have NB328_365 := n4_
                        have NB365_328 := n5_
                        have NB329_365 := n6_
                        have NB365_329 := n7_
                        have HI328 := n8_
                        have HB := n9_
                        clear n0_ n1_ n2_ n3_ n4_ n5_ n6_ n7_ n8_ n9_
                        have hHeld : w61.cell? ⟨gb329, 0, none⟩ = some (.string x330000_2) ∧ w61.cell? ⟨gb329, 1, none⟩ = some (.int .i64 x330001_2) ∧ w61.cell? ⟨gb329, 2, none⟩ = some (.int .i64 x330002_2) ∧ w61.cell? (ad330.add ((x7_2).toNat * 2)) = some (.int .u8 ((rd_T54 l1 x7_2).f0)) ∧ w61.cell? ⟨(ad330.add ((x7_2).toNat * 2)).block, (ad330.add ((x7_2).toNat * 2)).off + 1, none⟩ = some (.int .i64 ((rd_T54 l1 x7_2).f1)) := hS_
                        refine norm_ (a' := ?_) ?_ ?_
                        rotate_left
                        · simp only [putAll, Act.put, List.setIfInBounds_toArray, List.set_cons_zero, List.set_cons_succ]
                          rfl
                        refine one_ (i := 11) (N := none) #[true, true, true, true, true, true, true, true, true, true, true, true, false] rfl rfl (one_of HT_.out (by kernel_rfl)) (by decide) (fun K hK => ?_)
                        have hs62 : w61.cell? ⟨gb365, 0, none⟩ = some (.string (⟨#[]⟩ : ByteArray)) := (blk_cell BK365.out 0).trans rfl
                        have hfs62 := blk_frozen BK365.out 0
                        have hns62_0 := NB329_365.out
                        have hms62_0 := NB365_329.out
                        have hs63 : w61.cell? ⟨gb365, 1, none⟩ = some (.int .i64 0) := (blk_cell BK365.out 1).trans rfl
                        have hfs63 := blk_frozen BK365.out 1
                        have hns63_0 := NB329_365.out
                        have hms63_0 := NB365_329.out
                        have hs64 : w61.cell? ⟨gb365, 2, none⟩ = some (.int .i64 0) := (blk_cell BK365.out 2).trans rfl
                        have hfs64 := blk_frozen BK365.out 2
                        have hns64_0 := NB329_365.out
                        have hms64_0 := NB365_329.out
                        refine skip_ (w1 := ?_) (by rfl) rfl ?_ ?_
                        rotate_left
                        · go_simp
                          rfl
                        refine hK.out _ _ ⟨((cell_far (p := ⟨gb365, _, none⟩) NB329_365.out _).trans (((cell_far (p := ⟨gb365, _, none⟩) NB329_365.out _).trans (((cell_far (p := ⟨gb365, _, none⟩) NB329_365.out _).trans (hHeld.1)))))), ((cell_far (p := ⟨gb365, _, none⟩) NB329_365.out _).trans (((cell_far (p := ⟨gb365, _, none⟩) NB329_365.out _).trans (((cell_far (p := ⟨gb365, _, none⟩) NB329_365.out _).trans (hHeld.2.1)))))), ((cell_far (p := ⟨gb365, _, none⟩) NB329_365.out _).trans (((cell_far (p := ⟨gb365, _, none⟩) NB329_365.out _).trans (((cell_far (p := ⟨gb365, _, none⟩) NB329_365.out _).trans (hHeld.2.2.1)))))), ((cell_far (p := ⟨gb365, _, none⟩) (by first | exact Nat.ne_of_lt (Nat.lt_of_lt_of_le (by have := World.block_lt_of_cell? _ _ hw360_0; first | rwa [add_block] at this | exact this) GW365.out) | (rw [add_block]; exact Nat.ne_of_lt (Nat.lt_of_lt_of_le (by have := World.block_lt_of_cell? _ _ hw360_0; first | rwa [add_block] at this | exact this) GW365.out)) | (show (Addr.add _ _).block ≠ _; rw [add_block]; exact Nat.ne_of_lt (Nat.lt_of_lt_of_le (by have := World.block_lt_of_cell? _ _ hw360_0; first | rwa [add_block] at this | exact this) GW365.out)) | (dsimp only; exact Nat.ne_of_lt (Nat.lt_of_lt_of_le (by have := World.block_lt_of_cell? _ _ hw360_0; first | rwa [add_block] at this | exact this) GW365.out))) _).trans (((cell_far (p := ⟨gb365, _, none⟩) (by first | exact Nat.ne_of_lt (Nat.lt_of_lt_of_le (by have := World.block_lt_of_cell? _ _ hw360_0; first | rwa [add_block] at this | exact this) GW365.out) | (rw [add_block]; exact Nat.ne_of_lt (Nat.lt_of_lt_of_le (by have := World.block_lt_of_cell? _ _ hw360_0; first | rwa [add_block] at this | exact this) GW365.out)) | (show (Addr.add _ _).block ≠ _; rw [add_block]; exact Nat.ne_of_lt (Nat.lt_of_lt_of_le (by have := World.block_lt_of_cell? _ _ hw360_0; first | rwa [add_block] at this | exact this) GW365.out)) | (dsimp only; exact Nat.ne_of_lt (Nat.lt_of_lt_of_le (by have := World.block_lt_of_cell? _ _ hw360_0; first | rwa [add_block] at this | exact this) GW365.out))) _).trans (((cell_far (p := ⟨gb365, _, none⟩) (by first | exact Nat.ne_of_lt (Nat.lt_of_lt_of_le (by have := World.block_lt_of_cell? _ _ hw360_0; first | rwa [add_block] at this | exact this) GW365.out) | (rw [add_block]; exact Nat.ne_of_lt (Nat.lt_of_lt_of_le (by have := World.block_lt_of_cell? _ _ hw360_0; first | rwa [add_block] at this | exact this) GW365.out)) | (show (Addr.add _ _).block ≠ _; rw [add_block]; exact Nat.ne_of_lt (Nat.lt_of_lt_of_le (by have := World.block_lt_of_cell? _ _ hw360_0; first | rwa [add_block] at this | exact this) GW365.out)) | (dsimp only; exact Nat.ne_of_lt (Nat.lt_of_lt_of_le (by have := World.block_lt_of_cell? _ _ hw360_0; first | rwa [add_block] at this | exact this) GW365.out))) _).trans (hHeld.2.2.2.1)))))), ((cell_far (p := ⟨gb365, _, none⟩) (by first | exact Nat.ne_of_lt (Nat.lt_of_lt_of_le (by have := World.block_lt_of_cell? _ _ hw360_1; first | rwa [add_block] at this | exact this) GW365.out) | (rw [add_block]; exact Nat.ne_of_lt (Nat.lt_of_lt_of_le (by have := World.block_lt_of_cell? _ _ hw360_1; first | rwa [add_block] at this | exact this) GW365.out)) | (show (Addr.add _ _).block ≠ _; rw [add_block]; exact Nat.ne_of_lt (Nat.lt_of_lt_of_le (by have := World.block_lt_of_cell? _ _ hw360_1; first | rwa [add_block] at this | exact this) GW365.out)) | (dsimp only; exact Nat.ne_of_lt (Nat.lt_of_lt_of_le (by have := World.block_lt_of_cell? _ _ hw360_1; first | rwa [add_block] at this | exact this) GW365.out))) _).trans (((cell_far (p := ⟨gb365, _, none⟩) (by first | exact Nat.ne_of_lt (Nat.lt_of_lt_of_le (by have := World.block_lt_of_cell? _ _ hw360_1; first | rwa [add_block] at this | exact this) GW365.out) | (rw [add_block]; exact Nat.ne_of_lt (Nat.lt_of_lt_of_le (by have := World.block_lt_of_cell? _ _ hw360_1; first | rwa [add_block] at this | exact this) GW365.out)) | (show (Addr.add _ _).block ≠ _; rw [add_block]; exact Nat.ne_of_lt (Nat.lt_of_lt_of_le (by have := World.block_lt_of_cell? _ _ hw360_1; first | rwa [add_block] at this | exact this) GW365.out)) | (dsimp only; exact Nat.ne_of_lt (Nat.lt_of_lt_of_le (by have := World.block_lt_of_cell? _ _ hw360_1; first | rwa [add_block] at this | exact this) GW365.out))) _).trans (((cell_far (p := ⟨gb365, _, none⟩) (by first | exact Nat.ne_of_lt (Nat.lt_of_lt_of_le (by have := World.block_lt_of_cell? _ _ hw360_1; first | rwa [add_block] at this | exact this) GW365.out) | (rw [add_block]; exact Nat.ne_of_lt (Nat.lt_of_lt_of_le (by have := World.block_lt_of_cell? _ _ hw360_1; first | rwa [add_block] at this | exact this) GW365.out)) | (show (Addr.add _ _).block ≠ _; rw [add_block]; exact Nat.ne_of_lt (Nat.lt_of_lt_of_le (by have := World.block_lt_of_cell? _ _ hw360_1; first | rwa [add_block] at this | exact this) GW365.out)) | (dsimp only; exact Nat.ne_of_lt (Nat.lt_of_lt_of_le (by have := World.block_lt_of_cell? _ _ hw360_1; first | rwa [add_block] at this | exact this) GW365.out))) _).trans (hHeld.2.2.2.2))))))⟩ (fun hHeld => ?_)
                        clear hK K
                        refine pure_ (i := 12) (N := some 16) (v := ?_) (a' := ?_) #[true, true, true, true, true, true, true, true, true, true, true, true, true] rfl rfl (any_of HT_.out (by kernel_rfl)) (fun _ _ _ h => h) (Or.inl ⟨by rfl, ?_⟩) ?_ ?_
                        rotate_left
                        · intro w'
                          go_simp
                          with_reducible rfl
                        rotate_left
                        · simp only [Act.put, List.setIfInBounds_toArray, List.set_cons_zero, List.set_cons_succ, i64_w, i32_w]
                          rfl
                        refine done_ (done_of HT_.out (by kernel_rfl)) ?_
                        have hnb65 := NB365_329.out
                        have hnc65 := NB329_365.out
                        have hnb66 := NB365_328.out
                        have hnc66 := NB328_365.out
                        have hcz67_0 : w61.cell? ⟨gb365, 0, none⟩ = some (.string (⟨#[]⟩ : ByteArray)) := (blk_cell BK365.out 0).trans rfl
                        have hcz67_1 : w61.cell? ⟨gb365, 1, none⟩ = some (.int .i64 0) := (blk_cell BK365.out 1).trans rfl
                        have hcz67_2 : w61.cell? ⟨gb365, 2, none⟩ = some (.int .i64 0) := (blk_cell BK365.out 2).trans rfl
                        have hfz67_0 := blk_frozen BK365.out 0
                        have hfz67_1 := blk_frozen BK365.out 1
                        have hfz67_2 := blk_frozen BK365.out 2
                        have hnb68 := NB329_328.out
                        have hnc68 := NB328_329.out
                        have hcz69_0 : w61.cell? ⟨gb329, 0, none⟩ = some (.string x330000_2) := (blk_cell BK329.out 0).trans rfl
                        have hcz69_1 : w61.cell? ⟨gb329, 1, none⟩ = some (.int .i64 x330001_2) := (blk_cell BK329.out 1).trans rfl
                        have hcz69_2 : w61.cell? ⟨gb329, 2, none⟩ = some (.int .i64 x330002_2) := (blk_cell BK329.out 2).trans rfl
                        have hfz69_0 := blk_frozen BK329.out 0
                        have hfz69_1 := blk_frozen BK329.out 1
                        have hfz69_2 := blk_frozen BK329.out 2
                        have p366 : 0 ≤ (x7_2 : Int) := of_decide_eq_true (by first | (with_reducible assumption) | assumption)
                        have q366 : x7_2 < (l1.length : Int) := of_decide_eq_true (by first | (with_reducible assumption) | assumption)
                        obtain ⟨ad366, e366, hx366_0, hx366_1⟩ := at_T54 HR1.out x7_2 p366 q366
                        obtain rfl : ad330 = ad366 := (by injection e366)
                        have hn366_0 : ad330.block ≠ gb365 := Nat.ne_of_lt (Nat.lt_of_lt_of_le (by have := World.block_lt_of_cell? _ _ hx366_0; first | rwa [add_block] at this | exact this) GW365.out)
                        have hn366_1 : ad330.block ≠ gb365 := Nat.ne_of_lt (Nat.lt_of_lt_of_le (by have := World.block_lt_of_cell? _ _ hx366_0; first | rwa [add_block] at this | exact this) GW365.out)
                        have hn366_2 : ad330.block ≠ gb365 := Nat.ne_of_lt (Nat.lt_of_lt_of_le (by have := World.block_lt_of_cell? _ _ hx366_0; first | rwa [add_block] at this | exact this) GW365.out)
                        have hn366_3 : ad330.block ≠ gb329 := Nat.ne_of_lt (Nat.lt_of_lt_of_le (by have := World.block_lt_of_cell? _ _ hx366_0; first | rwa [add_block] at this | exact this) GW329.out)
                        have hn366_4 : ad330.block ≠ gb329 := Nat.ne_of_lt (Nat.lt_of_lt_of_le (by have := World.block_lt_of_cell? _ _ hx366_0; first | rwa [add_block] at this | exact this) GW329.out)
                        have hn366_5 : ad330.block ≠ gb329 := Nat.ne_of_lt (Nat.lt_of_lt_of_le (by have := World.block_lt_of_cell? _ _ hx366_0; first | rwa [add_block] at this | exact this) GW329.out)
                        replace hx366_0 := (HB.out.cell (World.block_lt_of_cell? w _ hx366_0)).trans hx366_0
                        replace hx366_1 := (HB.out.cell (World.block_lt_of_cell? w _ hx366_1)).trans hx366_1
                        replace hx366_0 := (cell_far (p := ⟨gb365, 0, none⟩) (by first | (rw [add_block]; exact hn366_0) | (show (Addr.add _ _).block ≠ _; rw [add_block]; exact hn366_0) | exact hn366_0) (.string t361)).trans hx366_0
                        replace hx366_1 := (cell_far (p := ⟨gb365, 0, none⟩) (by first | (rw [add_block]; exact hn366_0) | (show (Addr.add _ _).block ≠ _; rw [add_block]; exact hn366_0) | exact hn366_0) (.string t361)).trans hx366_1
                        replace hx366_0 := (cell_far (p := ⟨gb365, 1, none⟩) (by first | (rw [add_block]; exact hn366_1) | (show (Addr.add _ _).block ≠ _; rw [add_block]; exact hn366_1) | exact hn366_1) (.int .i64 t362)).trans hx366_0
                        replace hx366_1 := (cell_far (p := ⟨gb365, 1, none⟩) (by first | (rw [add_block]; exact hn366_1) | (show (Addr.add _ _).block ≠ _; rw [add_block]; exact hn366_1) | exact hn366_1) (.int .i64 t362)).trans hx366_1
                        replace hx366_0 := (cell_far (p := ⟨gb365, 2, none⟩) (by first | (rw [add_block]; exact hn366_2) | (show (Addr.add _ _).block ≠ _; rw [add_block]; exact hn366_2) | exact hn366_2) (.int .i64 t363)).trans hx366_0
                        replace hx366_1 := (cell_far (p := ⟨gb365, 2, none⟩) (by first | (rw [add_block]; exact hn366_2) | (show (Addr.add _ _).block ≠ _; rw [add_block]; exact hn366_2) | exact hn366_2) (.int .i64 t363)).trans hx366_1
                        replace hx366_0 := (cell_far (p := ⟨gb329, 0, none⟩) (by first | (rw [add_block]; exact hn366_3) | (show (Addr.add _ _).block ≠ _; rw [add_block]; exact hn366_3) | exact hn366_3) (.string t361)).trans hx366_0
                        replace hx366_1 := (cell_far (p := ⟨gb329, 0, none⟩) (by first | (rw [add_block]; exact hn366_3) | (show (Addr.add _ _).block ≠ _; rw [add_block]; exact hn366_3) | exact hn366_3) (.string t361)).trans hx366_1
                        replace hx366_0 := (cell_far (p := ⟨gb329, 1, none⟩) (by first | (rw [add_block]; exact hn366_4) | (show (Addr.add _ _).block ≠ _; rw [add_block]; exact hn366_4) | exact hn366_4) (.int .i64 t362)).trans hx366_0
                        replace hx366_1 := (cell_far (p := ⟨gb329, 1, none⟩) (by first | (rw [add_block]; exact hn366_4) | (show (Addr.add _ _).block ≠ _; rw [add_block]; exact hn366_4) | exact hn366_4) (.int .i64 t362)).trans hx366_1
                        replace hx366_0 := (cell_far (p := ⟨gb329, 2, none⟩) (by first | (rw [add_block]; exact hn366_5) | (show (Addr.add _ _).block ≠ _; rw [add_block]; exact hn366_5) | exact hn366_5) (.int .i64 t363)).trans hx366_0
                        replace hx366_1 := (cell_far (p := ⟨gb329, 2, none⟩) (by first | (rw [add_block]; exact hn366_5) | (show (Addr.add _ _).block ≠ _; rw [add_block]; exact hn366_5) | exact hn366_5) (.int .i64 t363)).trans hx366_1
                        clear hn366_0
                        clear hn366_1
                        clear hn366_2
                        clear hn366_3
                        clear hn366_4
                        clear hn366_5
                        replace p366 := eq_true p366
                        replace q366 := eq_true q366
                        try go_wp2_with (first | ((with_reducible refine gate_callee (f := 30) rfl ?_); refine goesL_ (some 60) rfl rfl Try.func30 (by kernel_rfl) rfl #[.pointer (some ⟨g328, 0, none⟩), .int .i64 ((rd_T54 l1 x7_2).f1)] rfl (by (try simp only [List.map_toArray, List.map_cons, List.map_nil]); first | done | rfl | (simp only [List.length_drop, List.length_take]; rfl)) ?_; (with_reducible refine (vint_Reader_GetText.calls k2 g328 x329000_2 x329001_2 x329002_2 ((rd_T54 l1 x7_2).f1) t367 t368 t369 t370 w _ ?side1 ?side2 A57.out).mono ?_); (case side1 => repeat (first | (with_reducible first | exact HI328.out | apply IsS88.alloc | apply IsS88.drewN | apply IsS88.drew | apply IsS88.set_0 | apply IsS88.set_1 | apply IsS88.set_2 | refine IsS88.far ?_ NB328_329.out _ | refine IsS88.far ?_ NB328_365.out _) | exact HI328.out)); (case side2 => repeat (first | (with_reducible first | exact HB.out | apply below_alloc | apply pw_below_drewN | apply below_drew1 | refine below_set ?_ (IsS88.ge HI328.out) | refine below_set ?_ GE329.out | refine below_set ?_ GE365.out) | exact HB.out)); rintro e w70 ⟨rfl, hi, hb, hk⟩; refine ⟨_, rfl, ?_⟩; have n0_ := Aside0.mk (KeepBut.blk hk (g' := gb329) (o := .cells #[.string t361, .int .i64 t362, .int .i64 t363] 52 (0, 0)) (by (with_reducible repeat (first | refine blk_drewN ?_ _ | refine blk_drew ?_ | refine blk_alloc ?_ _)); refine blk_put (cs := #[.string t361, .int .i64 t362, .int .i64 x330002_2]) ?_ 2 _ rfl; (with_reducible repeat (first | refine blk_drewN ?_ _ | refine blk_drew ?_ | refine blk_alloc ?_ _)); refine blk_put (cs := #[.string t361, .int .i64 x330001_2, .int .i64 x330002_2]) ?_ 1 _ rfl; (with_reducible repeat (first | refine blk_drewN ?_ _ | refine blk_drew ?_ | refine blk_alloc ?_ _)); refine blk_put (cs := #[.string x330000_2, .int .i64 x330001_2, .int .i64 x330002_2]) ?_ 0 _ rfl; (with_reducible repeat (first | refine blk_drewN ?_ _ | refine blk_drew ?_ | refine blk_alloc ?_ _)); refine blk_far ?_ NB329_365.out _; (with_reducible repeat (first | refine blk_drewN ?_ _ | refine blk_drew ?_ | refine blk_alloc ?_ _)); refine blk_far ?_ NB329_365.out _; (with_reducible repeat (first | refine blk_drewN ?_ _ | refine blk_drew ?_ | refine blk_alloc ?_ _)); refine blk_far ?_ NB329_365.out _; (with_reducible repeat (first | refine blk_drewN ?_ _ | refine blk_drew ?_ | refine blk_alloc ?_ _)); exact BK329.out) NB329_328.out (by simp)); have n1_ := Aside0.mk (KeepBut.blk hk (g' := gb365) (o := .cells #[.string t361, .int .i64 t362, .int .i64 t363] 52 (0, 0)) (by (with_reducible repeat (first | refine blk_drewN ?_ _ | refine blk_drew ?_ | refine blk_alloc ?_ _)); refine blk_far ?_ NB365_329.out _; (with_reducible repeat (first | refine blk_drewN ?_ _ | refine blk_drew ?_ | refine blk_alloc ?_ _)); refine blk_far ?_ NB365_329.out _; (with_reducible repeat (first | refine blk_drewN ?_ _ | refine blk_drew ?_ | refine blk_alloc ?_ _)); refine blk_far ?_ NB365_329.out _; (with_reducible repeat (first | refine blk_drewN ?_ _ | refine blk_drew ?_ | refine blk_alloc ?_ _)); refine blk_put (cs := #[.string t361, .int .i64 t362, .int .i64 0]) ?_ 2 _ rfl; (with_reducible repeat (first | refine blk_drewN ?_ _ | refine blk_drew ?_ | refine blk_alloc ?_ _)); refine blk_put (cs := #[.string t361, .int .i64 0, .int .i64 0]) ?_ 1 _ rfl; (with_reducible repeat (first | refine blk_drewN ?_ _ | refine blk_drew ?_ | refine blk_alloc ?_ _)); refine blk_put (cs := #[.string (⟨#[]⟩ : ByteArray), .int .i64 0, .int .i64 0]) ?_ 0 _ rfl; (with_reducible repeat (first | refine blk_drewN ?_ _ | refine blk_drew ?_ | refine blk_alloc ?_ _)); exact BK365.out) NB365_328.out (by simp)); have n2_ := Aside0.mk (hb); have n3_ := Aside0.mk (hi); clear BK329; clear BK365; clear HB; clear HI328; have BK329 := n0_; have BK365 := n1_; have HB := n2_; have HI328 := n3_; clear n0_ n1_ n2_ n3_; (try clear hb); (try clear hb2); (try clear hk); (try clear hi)))
                        go_meet
                        case rel => exact ⟨_, ((t367.toList == t364.toList)), (t368), (t369), (t370), (t361), (t362), (t363), (by first | rfl | (simp; done) | (simp [*]; done)), H', ⟨by have := HJ2.out; have := HK2.out; first | omega | exact Nat.le_refl _⟩, ⟨by (with_reducible repeat (first | refine blk_drewN ?_ _ | refine blk_drew ?_ | refine blk_alloc ?_ _)); exact BK329.out⟩, ⟨by repeat (first | (with_reducible first | exact HI328.out | apply IsS88.alloc | apply IsS88.drewN | apply IsS88.drew | apply IsS88.set_0 | apply IsS88.set_1 | apply IsS88.set_2 | refine IsS88.far ?_ NB328_329.out _ | refine IsS88.far ?_ NB328_365.out _) | exact HI328.out)⟩, ⟨by repeat (first | (with_reducible first | exact HB.out | apply below_alloc | apply pw_below_drewN | apply below_drew1 | refine below_set ?_ (IsS88.ge HI328.out) | refine below_set ?_ GE329.out | refine below_set ?_ GE365.out) | exact HB.out)⟩⟩
                case rest =>
                  clear HC15
                  try clear c2
                  try clear p2
                  try clear c3
                  try clear p3
                  try clear q3
                  try clear hx3
                  try clear c4
                  try clear c5
                  try clear c6
                  try clear c28
                  try clear c28b0
                  try clear c28b1
                  try clear c29
                  try clear c30
                  try clear c34
                  try clear p34
                  try clear q34
                  try clear hx34
                  try clear c35
                  try clear c36
                  try clear p36
                  try clear q36
                  try clear hx36
                  try clear c37
                  try clear c38
                  try clear c39
                  try clear c41
                  try clear c44
                  try clear c44b0
                  try clear c44b1
                  try clear c47
                  try clear c51
                  try clear c52
                  try clear c65
                  try clear c66
                  try clear c68
                  try clear hcz40_0
                  try clear hcz40_1
                  try clear hcz40_2
                  try clear hcz42_0
                  try clear hcz42_1
                  try clear hcz42_2
                  try clear hcz48_0
                  try clear hcz48_1
                  try clear hcz48_2
                  try clear hcz53_0
                  try clear hcz53_1
                  try clear hcz53_2
                  try clear hcz54_0
                  try clear hcz54_1
                  try clear hcz54_2
                  try clear hcz67_0
                  try clear hcz67_1
                  try clear hcz67_2
                  try clear hcz69_0
                  try clear hcz69_1
                  try clear hcz69_2
                  try clear hfz40_0
                  try clear hfz40_1
                  try clear hfz40_2
                  try clear hfz42_0
                  try clear hfz42_1
                  try clear hfz42_2
                  try clear hfz48_0
                  try clear hfz48_1
                  try clear hfz48_2
                  try clear hfz53_0
                  try clear hfz53_1
                  try clear hfz53_2
                  try clear hfz54_0
                  try clear hfz54_1
                  try clear hfz54_2
                  try clear hfz67_0
                  try clear hfz67_1
                  try clear hfz67_2
                  try clear hfz69_0
                  try clear hfz69_1
                  try clear hfz69_2
                  try clear hx346_0
                  try clear hx346_1
                  try clear hx360_0
                  try clear hx360_1
                  try clear hx366_0
                  try clear hx366_1
                  try clear p346
                  try clear p360
                  try clear p366
                  try clear q346
                  try clear q360
                  try clear q366
                  obtain ⟨kq, x8_14, x329000_14, x329001_14, x329002_14, x330000_14, x330001_14, x330002_14, rfl, HA, HJ14, BK329, HI328, HB⟩ := hcut
                  cases kq with
                  | zero => exact absurd HA.out (by simp [treillagelaw03_VintReads.j2])
                  | succ kj14 =>
                    have H := HA.out
                    clear HA
                    simp only [treillagelaw03_VintReads.j2] at H
                    by_cases c71 : x8_14 = true
                    · subst c71
                      have H1 : ((vint_Reader_Err.f x329000_14 x329001_14 x329002_14).bind fun bt371 => (if bt371.1 = x330002_14 then ((vint_Reader_Left.f bt371.2.1 bt371.2.2.1 bt371.2.2.2).bind fun bt375 => (if bt375.1 = (wrap64 ((a0.size : Int) - x330001_14)) then ((vint_Reader_End.f bt375.2.1 bt375.2.2.1 bt375.2.2.2).bind fun bt379 => ((treillageref03_End.f x330000_14 x330001_14 x330002_14).bind fun t383 => (if bt379.1 = t383 then (treillagelaw03_VintReads.l0 kj14 a0 l1 (wrap64 (x7_2 + 1)) bt379.2.1 bt379.2.2.1 bt379.2.2.2 x330000_14 x330001_14 x330002_14) else (none)))) else (none))) else (none))) = some r := by rw [if_pos rfl] at H; exact H
                      clear H
                      have H := H1
                      clear H1
                      replace H := Option.bind_eq_some_iff.mp H
                      obtain ⟨⟨t371, t372, t373, t374⟩, A720, H⟩ := H
                      replace H : (if t371 = x330002_14 then ((vint_Reader_Left.f t372 t373 t374).bind fun bt375 => (if bt375.1 = (wrap64 ((a0.size : Int) - x330001_14)) then ((vint_Reader_End.f bt375.2.1 bt375.2.2.1 bt375.2.2.2).bind fun bt379 => ((treillageref03_End.f x330000_14 x330001_14 x330002_14).bind fun t383 => (if bt379.1 = t383 then (treillagelaw03_VintReads.l0 kj14 a0 l1 (wrap64 (x7_2 + 1)) bt379.2.1 bt379.2.2.1 bt379.2.2.2 x330000_14 x330001_14 x330002_14) else (none)))) else (none))) else (none)) = some r := H
                      have A72 := Aside0.mk A720
                      clear A720
                      by_cases c73 : t371 = x330002_14
                      · rw [if_pos c73] at H
                        have c73b0 : (t371 == x330002_14) = true := beq_iff_eq.mpr c73
                        have c73b1 : (t371 != x330002_14) = false := bne_eq_false_iff_eq.mpr c73
                        clear c73
                        replace H := Option.bind_eq_some_iff.mp H
                        obtain ⟨⟨t375, t376, t377, t378⟩, A740, H⟩ := H
                        replace H : (if t375 = (wrap64 ((a0.size : Int) - x330001_14)) then ((vint_Reader_End.f t376 t377 t378).bind fun bt379 => ((treillageref03_End.f x330000_14 x330001_14 x330002_14).bind fun t383 => (if bt379.1 = t383 then (treillagelaw03_VintReads.l0 kj14 a0 l1 (wrap64 (x7_2 + 1)) bt379.2.1 bt379.2.2.1 bt379.2.2.2 x330000_14 x330001_14 x330002_14) else (none)))) else (none)) = some r := H
                        have A74 := Aside0.mk A740
                        clear A740
                        by_cases c75 : t375 = (wrap64 ((a0.size : Int) - x330001_14))
                        · rw [if_pos c75] at H
                          have c75b0 : (t375 == (wrap64 ((a0.size : Int) - x330001_14))) = true := beq_iff_eq.mpr c75
                          have c75b1 : (t375 != (wrap64 ((a0.size : Int) - x330001_14))) = false := bne_eq_false_iff_eq.mpr c75
                          clear c75
                          replace H := Option.bind_eq_some_iff.mp H
                          obtain ⟨⟨t379, t380, t381, t382⟩, A760, H⟩ := H
                          replace H : ((treillageref03_End.f x330000_14 x330001_14 x330002_14).bind fun t383 => (if t379 = t383 then (treillagelaw03_VintReads.l0 kj14 a0 l1 (wrap64 (x7_2 + 1)) t380 t381 t382 x330000_14 x330001_14 x330002_14) else (none))) = some r := H
                          have A76 := Aside0.mk A760
                          clear A760
                          replace H := Option.bind_eq_some_iff.mp H
                          obtain ⟨t383, A770, H⟩ := H
                          replace H : (if t379 = t383 then (treillagelaw03_VintReads.l0 kj14 a0 l1 (wrap64 (x7_2 + 1)) t380 t381 t382 x330000_14 x330001_14 x330002_14) else (none)) = some r := H
                          have A77 := Aside0.mk A770
                          clear A770
                          by_cases c78 : t379 = t383
                          · rw [if_pos c78] at H
                            have c78b0 : (t379 == t383) = true := beq_iff_eq.mpr c78
                            have c78b1 : (t379 != t383) = false := bne_eq_false_iff_eq.mpr c78
                            clear c78
                            have H' := Aside0.mk H
                            clear H
                            try go_wp2
                            have n0_ := Aside0.mk (blk_drew BK329.out)
                            have n1_ := Aside0.mk (IsS88.drew HI328.out)
                            have n2_ := Aside0.mk (below_drew1 HB.out)
                            clear BK329
                            clear HI328
                            clear HB
                            have BK329 := n0_
                            have HI328 := n1_
                            have HB := n2_
                            clear n0_ n1_ n2_
                            refine start_ (n := 26) (S := fun w' => w'.cell? ⟨gb329, 0, none⟩ = some (.string x330000_14) ∧ w'.cell? ⟨gb329, 1, none⟩ = some (.int .i64 x330001_14) ∧ w'.cell? ⟨gb329, 2, none⟩ = some (.int .i64 x330002_14)) (ds := []) #[false, false, false, false, false, false, false, false, false, false, false, false, false, false, false, false, false, false, false, false, false, false, false, false, false, false] (by kernel_rfl) rfl rfl ⟨(blk_cell BK329.out 0).trans rfl, (blk_cell BK329.out 1).trans rfl, (blk_cell BK329.out 2).trans rfl⟩ (fun hHeld => ?_); refine with_tabW treillagelaw03_VintReads.tab25 treillagelaw03_VintReads.bits25 (fun HT_ HW_ => ?_)
                            generalize wc.drew = w79 at BK329 HI328 HB hHeld ⊢
                            refine pure_ (i := 0) (N := some 111) (v := ?_) (a' := ?_) #[true, false, false, false, false, false, false, false, false, false, false, false, false, false, false, false, false, false, false, false, false, false, false, false, false, false] rfl rfl (any_of HT_.out (by kernel_rfl)) (fun _ _ _ h => h) (Or.inl ⟨by rfl, ?_⟩) ?_ ?_
                            rotate_left
                            · intro w'
                              go_simp
                              with_reducible rfl
                            rotate_left
                            · simp only [Act.put, List.setIfInBounds_toArray, List.set_cons_zero, List.set_cons_succ, i64_w, i32_w]
                              rfl
                            refine pure_ (i := 1) (N := some 112) (v := ?_) (a' := ?_) #[true, true, false, false, false, false, false, false, false, false, false, false, false, false, false, false, false, false, false, false, false, false, false, false, false, false] rfl rfl (any_of HT_.out (by kernel_rfl)) (fun _ _ _ h => h) (Or.inl ⟨by rfl, ?_⟩) ?_ ?_
                            rotate_left
                            · intro w'
                              go_simp
                              with_reducible rfl
                            rotate_left
                            · simp only [Act.put, List.setIfInBounds_toArray, List.set_cons_zero, List.set_cons_succ, i64_w, i32_w]
                              rfl
                            refine pure_ (i := 2) (N := some 113) (v := ?_) (a' := ?_) #[true, true, true, false, false, false, false, false, false, false, false, false, false, false, false, false, false, false, false, false, false, false, false, false, false, false] rfl rfl (any_of HT_.out (by kernel_rfl)) (fun _ _ _ h => h) (Or.inl ⟨by rfl, ?_⟩) ?_ ?_
                            rotate_left
                            · intro w'
                              go_simp
                              with_reducible rfl
                            rotate_left
                            · simp only [Act.put, List.setIfInBounds_toArray, List.set_cons_zero, List.set_cons_succ, i64_w, i32_w]
                              rfl
                            refine pure_ (i := 3) (N := some 114) (v := ?_) (a' := ?_) #[true, true, true, true, false, false, false, false, false, false, false, false, false, false, false, false, false, false, false, false, false, false, false, false, false, false] rfl rfl (any_of HT_.out (by kernel_rfl)) (fun _ _ _ h => h) (Or.inl ⟨by rfl, ?_⟩) ?_ ?_
                            rotate_left
                            · intro w'
                              go_simp
                              with_reducible rfl
                            rotate_left
                            · simp only [Act.put, List.setIfInBounds_toArray, List.set_cons_zero, List.set_cons_succ, i64_w, i32_w]
                              rfl
                            refine pure_ (i := 5) (N := some 116) (v := ?_) (a' := ?_) #[true, true, true, true, false, true, false, false, false, false, false, false, false, false, false, false, false, false, false, false, false, false, false, false, false, false] rfl rfl (any_of HT_.out (by kernel_rfl)) (fun _ _ _ h => h) (Or.inl ⟨by rfl, ?_⟩) ?_ ?_
                            rotate_left
                            · intro w'
                              go_simp
                              with_reducible rfl
                            rotate_left
                            · simp only [Act.put, List.setIfInBounds_toArray, List.set_cons_zero, List.set_cons_succ, i64_w, i32_w]
                              rfl
                            refine take_ (i := 6) (N := some 117) (v := ?_) (a' := ?_) #[true, true, true, true, false, true, true, false, false, false, false, false, false, false, false, false, false, false, false, false, false, false, false, false, false, false] rfl rfl (take_ofW HT_.out HW_.out (by kernel_rfl)) (fun _ _ _ h => h) (Or.inl ⟨by rfl, ?_⟩) hHeld ?_ ?_
                            rotate_left
                            · rintro w' ⟨s0, s1, s2⟩
                              go_simp
                              with_reducible rfl
                            rotate_left
                            · simp only [Act.put, List.setIfInBounds_toArray, List.set_cons_zero, List.set_cons_succ, i64_w, i32_w]
                              rfl
                            refine one_ (i := 4) (N := some 115) #[true, true, true, true, true, true, true, false, false, false, false, false, false, false, false, false, false, false, false, false, false, false, false, false, false, false] rfl rfl (one_of HT_.out (by kernel_rfl)) (by decide) (fun K hK => ?_)
                            refine goes_ Try.func31 (by kernel_rfl) rfl #[.pointer (some ⟨g328, 0, none⟩)] (by rfl) rfl rfl (by (try simp only [List.map_toArray, List.map_cons, List.map_nil]); first | done | rfl | (simp only [List.length_drop, List.length_take]; rfl)) ?_
                            with_reducible refine (vint_Reader_Err.calls g328 x329000_14 x329001_14 x329002_14 t371 t372 t373 t374 w _ ?side1 ?side2 A72.out).mono ?_
                            (case side1 => repeat (first | (with_reducible first | exact HI328.out | apply IsS88.alloc | apply IsS88.drewN | apply IsS88.drew | apply IsS88.set_0 | apply IsS88.set_1 | apply IsS88.set_2 | refine IsS88.far ?_ NB328_329.out _) | exact HI328.out))
                            (case side2 => repeat (first | (with_reducible first | exact HB.out | apply below_alloc | apply pw_below_drewN | apply below_drew1 | refine below_set ?_ (IsS88.ge HI328.out) | refine below_set ?_ GE329.out) | exact HB.out))
                            rintro e w80 ⟨rfl, hi, hb, hk⟩
                            refine ⟨_, rfl, ?_⟩
                            have n0_ := Aside0.mk (KeepBut.blk hk (g' := gb329) (o := .cells #[.string x330000_14, .int .i64 x330001_14, .int .i64 x330002_14] 52 (0, 0)) (by (with_reducible repeat (first | refine blk_drewN ?_ _ | refine blk_drew ?_ | refine blk_alloc ?_ _)); exact BK329.out) NB329_328.out (by simp))
                            have n1_ := Aside0.mk (hb)
                            have n2_ := Aside0.mk (hi)
                            clear BK329
                            clear HB
                            clear HI328
                            have BK329 := n0_
                            have HB := n1_
                            have HI328 := n2_
                            clear n0_ n1_ n2_
                            (try clear hb)
                            (try clear hb2)
                            (try clear hk)
                            (try clear hi)
                            refine hK.out _ _ ⟨(blk_cell BK329.out 0).trans rfl, (blk_cell BK329.out 1).trans rfl, (blk_cell BK329.out 2).trans rfl⟩ (fun hHeld => ?_)
                            clear hK K
                            refine norm_ (a' := ?_) ?_ ?_
                            rotate_left
                            · show Act.put _ (some 115) _ = _
                              simp only [Act.put, List.setIfInBounds_toArray, List.set_cons_zero, List.set_cons_succ, i64_w, i32_w]
                              rfl
                            refine pure_ (i := 7) (N := some 118) (v := ?_) (a' := ?_) #[true, true, true, true, true, true, true, true, false, false, false, false, false, false, false, false, false, false, false, false, false, false, false, false, false, false] rfl rfl (any_of HT_.out (by kernel_rfl)) (fun _ _ _ h => h) (Or.inl ⟨by rfl, ?_⟩) ?_ ?_
                            rotate_left
                            · intro w'
                              go_simp
                              with_reducible rfl
                            rotate_left
                            · simp only [Act.put, List.setIfInBounds_toArray, List.set_cons_zero, List.set_cons_succ, i64_w, i32_w]
                              rfl
                            refine pure_ (i := 8) (N := some 119) (v := ?_) (a' := ?_) #[true, true, true, true, true, true, true, true, true, false, false, false, false, false, false, false, false, false, false, false, false, false, false, false, false, false] rfl rfl (any_of HT_.out (by kernel_rfl)) (fun _ _ _ h => h) (Or.inl ⟨by rfl, ?_⟩) ?_ ?_
                            rotate_left
                            · intro w'
                              go_simp
                              with_reducible rfl
                            rotate_left
                            · simp only [Act.put, List.setIfInBounds_toArray, List.set_cons_zero, List.set_cons_succ, i64_w, i32_w]
                              rfl
                            refine pure_ (i := 9) (N := some 120) (v := ?_) (a' := ?_) #[true, true, true, true, true, true, true, true, true, true, false, false, false, false, false, false, false, false, false, false, false, false, false, false, false, false] rfl rfl (any_of HT_.out (by kernel_rfl)) (fun _ _ _ h => h) (Or.inl ⟨by rfl, ?_⟩) ?_ ?_
                            rotate_left
                            · intro w'
                              go_simp
                              with_reducible rfl
                            rotate_left
                            · simp only [Act.put, List.setIfInBounds_toArray, List.set_cons_zero, List.set_cons_succ, i64_w, i32_w]
                              rfl
                            refine pure_ (i := 10) (N := some 121) (v := ?_) (a' := ?_) #[true, true, true, true, true, true, true, true, true, true, true, false, false, false, false, false, false, false, false, false, false, false, false, false, false, false] rfl rfl (any_of HT_.out (by kernel_rfl)) (fun _ _ _ h => h) (Or.inl ⟨by rfl, ?_⟩) ?_ ?_
                            rotate_left
                            · intro w'
                              go_simp
                              with_reducible rfl
                            rotate_left
                            · simp only [Act.put, List.setIfInBounds_toArray, List.set_cons_zero, List.set_cons_succ, i64_w, i32_w]
                              rfl
                            refine pure_ (i := 12) (N := some 123) (v := ?_) (a' := ?_) #[true, true, true, true, true, true, true, true, true, true, true, false, true, false, false, false, false, false, false, false, false, false, false, false, false, false] rfl rfl (any_of HT_.out (by kernel_rfl)) (fun _ _ _ h => h) (Or.inl ⟨by rfl, ?_⟩) ?_ ?_
                            rotate_left
                            · intro w'
                              go_simp
                              with_reducible rfl
                            rotate_left
                            · simp only [Act.put, List.setIfInBounds_toArray, List.set_cons_zero, List.set_cons_succ, i64_w, i32_w]
                              rfl
                            refine pure_ (i := 13) (N := some 124) (v := ?_) (a' := ?_) #[true, true, true, true, true, true, true, true, true, true, true, false, true, true, false, false, false, false, false, false, false, false, false, false, false, false] rfl rfl (any_of HT_.out (by kernel_rfl)) (fun _ _ _ h => h) (Or.inl ⟨by rfl, ?_⟩) ?_ ?_
                            rotate_left
                            · intro w'
                              go_simp
                              with_reducible rfl
                            rotate_left
                            · simp only [Act.put, List.setIfInBounds_toArray, List.set_cons_zero, List.set_cons_succ, i64_w, i32_w]
                              rfl
                            refine pure_ (i := 14) (N := some 125) (v := ?_) (a' := ?_) #[true, true, true, true, true, true, true, true, true, true, true, false, true, true, true, false, false, false, false, false, false, false, false, false, false, false] rfl rfl (any_of HT_.out (by kernel_rfl)) (fun _ _ _ h => h) (Or.inl ⟨by rfl, ?_⟩) ?_ ?_
                            rotate_left
                            · intro w'
                              go_simp
                              with_reducible rfl
                            rotate_left
                            · simp only [Act.put, List.setIfInBounds_toArray, List.set_cons_zero, List.set_cons_succ, i64_w, i32_w]
                              rfl
                            refine take_ (i := 15) (N := some 126) (v := ?_) (a' := ?_) #[true, true, true, true, true, true, true, true, true, true, true, false, true, true, true, true, false, false, false, false, false, false, false, false, false, false] rfl rfl (take_ofW HT_.out HW_.out (by kernel_rfl)) (fun _ _ _ h => h) (Or.inl ⟨by rfl, ?_⟩) hHeld ?_ ?_
                            rotate_left
                            · rintro w' ⟨s0, s1, s2⟩
                              go_simp
                              with_reducible rfl
                            rotate_left
                            · simp only [Act.put, List.setIfInBounds_toArray, List.set_cons_zero, List.set_cons_succ, i64_w, i32_w]
                              rfl
                            refine pure_ (i := 16) (N := some 127) (v := ?_) (a' := ?_) #[true, true, true, true, true, true, true, true, true, true, true, false, true, true, true, true, true, false, false, false, false, false, false, false, false, false] rfl rfl (any_of HT_.out (by kernel_rfl)) (fun _ _ _ h => h) (Or.inl ⟨by rfl, ?_⟩) ?_ ?_
                            rotate_left
                            · intro w'
                              go_simp
                              with_reducible rfl
                            rotate_left
                            · simp only [Act.put, List.setIfInBounds_toArray, List.set_cons_zero, List.set_cons_succ, i64_w, i32_w]
                              rfl
                            refine one_ (i := 11) (N := some 122) #[true, true, true, true, true, true, true, true, true, true, true, true, true, true, true, true, true, false, false, false, false, false, false, false, false, false] rfl rfl (one_of HT_.out (by kernel_rfl)) (by decide) (fun K hK => ?_)
                            refine goes_ Try.func32 (by kernel_rfl) rfl #[.pointer (some ⟨g328, 0, none⟩)] (by rfl) rfl rfl (by (try simp only [List.map_toArray, List.map_cons, List.map_nil]); first | done | rfl | (simp only [List.length_drop, List.length_take]; rfl)) ?_
                            with_reducible refine (vint_Reader_Left.calls g328 t372 t373 t374 t375 t376 t377 t378 w _ ?side1 ?side2 A74.out).mono ?_
                            (case side1 => repeat (first | (with_reducible first | exact HI328.out | apply IsS88.alloc | apply IsS88.drewN | apply IsS88.drew | apply IsS88.set_0 | apply IsS88.set_1 | apply IsS88.set_2 | refine IsS88.far ?_ NB328_329.out _) | exact HI328.out))
                            (case side2 => repeat (first | (with_reducible first | exact HB.out | apply below_alloc | apply pw_below_drewN | apply below_drew1 | refine below_set ?_ (IsS88.ge HI328.out) | refine below_set ?_ GE329.out) | exact HB.out))
                            rintro e w81 ⟨rfl, hi, hb, hk⟩
                            refine ⟨_, rfl, ?_⟩
                            have n0_ := Aside0.mk (KeepBut.blk hk (g' := gb329) (o := .cells #[.string x330000_14, .int .i64 x330001_14, .int .i64 x330002_14] 52 (0, 0)) (by (with_reducible repeat (first | refine blk_drewN ?_ _ | refine blk_drew ?_ | refine blk_alloc ?_ _)); exact BK329.out) NB329_328.out (by simp))
                            have n1_ := Aside0.mk (hb)
                            have n2_ := Aside0.mk (hi)
                            clear BK329
                            clear HB
                            clear HI328
                            have BK329 := n0_
                            have HB := n1_
                            have HI328 := n2_
                            clear n0_ n1_ n2_
                            (try clear hb)
                            (try clear hb2)
                            (try clear hk)
                            (try clear hi)
                            refine hK.out _ _ ⟨(blk_cell BK329.out 0).trans rfl, (blk_cell BK329.out 1).trans rfl, (blk_cell BK329.out 2).trans rfl⟩ (fun hHeld => ?_)
                            clear hK K
                            refine norm_ (a' := ?_) ?_ ?_
                            rotate_left
                            · show Act.put _ (some 122) _ = _
                              simp only [Act.put, List.setIfInBounds_toArray, List.set_cons_zero, List.set_cons_succ, i64_w, i32_w]
                              rfl
                            refine pure_ (i := 17) (N := some 128) (v := ?_) (a' := ?_) #[true, true, true, true, true, true, true, true, true, true, true, true, true, true, true, true, true, true, false, false, false, false, false, false, false, false] rfl rfl (any_of HT_.out (by kernel_rfl)) (fun _ _ _ h => h) (Or.inl ⟨by rfl, ?_⟩) ?_ ?_
                            rotate_left
                            · intro w'
                              go_simp
                              with_reducible rfl
                            rotate_left
                            · simp only [Act.put, List.setIfInBounds_toArray, List.set_cons_zero, List.set_cons_succ, i64_w, i32_w]
                              rfl
                            refine pure_ (i := 18) (N := some 129) (v := ?_) (a' := ?_) #[true, true, true, true, true, true, true, true, true, true, true, true, true, true, true, true, true, true, true, false, false, false, false, false, false, false] rfl rfl (any_of HT_.out (by kernel_rfl)) (fun _ _ _ h => h) (Or.inl ⟨by rfl, ?_⟩) ?_ ?_
                            rotate_left
                            · intro w'
                              go_simp
                              with_reducible rfl
                            rotate_left
                            · simp only [Act.put, List.setIfInBounds_toArray, List.set_cons_zero, List.set_cons_succ, i64_w, i32_w]
                              rfl
                            refine pure_ (i := 19) (N := some 130) (v := ?_) (a' := ?_) #[true, true, true, true, true, true, true, true, true, true, true, true, true, true, true, true, true, true, true, true, false, false, false, false, false, false] rfl rfl (any_of HT_.out (by kernel_rfl)) (fun _ _ _ h => h) (Or.inl ⟨by rfl, ?_⟩) ?_ ?_
                            rotate_left
                            · intro w'
                              go_simp
                              with_reducible rfl
                            rotate_left
                            · simp only [Act.put, List.setIfInBounds_toArray, List.set_cons_zero, List.set_cons_succ, i64_w, i32_w]
                              rfl
                            refine pure_ (i := 20) (N := some 131) (v := ?_) (a' := ?_) #[true, true, true, true, true, true, true, true, true, true, true, true, true, true, true, true, true, true, true, true, true, false, false, false, false, false] rfl rfl (any_of HT_.out (by kernel_rfl)) (fun _ _ _ h => h) (Or.inl ⟨by rfl, ?_⟩) ?_ ?_
                            rotate_left
                            · intro w'
                              go_simp
                              with_reducible rfl
                            rotate_left
                            · simp only [Act.put, List.setIfInBounds_toArray, List.set_cons_zero, List.set_cons_succ, i64_w, i32_w]
                              rfl
                            refine take_ (i := 22) (N := some 133) (v := ?_) (a' := ?_) #[true, true, true, true, true, true, true, true, true, true, true, true, true, true, true, true, true, true, true, true, true, false, true, false, false, false] rfl rfl (take_ofW HT_.out HW_.out (by kernel_rfl)) (fun _ _ _ h => h) (Or.inl ⟨by rfl, ?_⟩) hHeld ?_ ?_
                            rotate_left
                            · rintro w' ⟨s0, s1, s2⟩
                              go_simp
                              with_reducible rfl
                            rotate_left
                            · simp only [Act.put, List.setIfInBounds_toArray, List.set_cons_zero, List.set_cons_succ, i64_w, i32_w]
                              rfl
                            refine one_ (i := 21) (N := some 132) #[true, true, true, true, true, true, true, true, true, true, true, true, true, true, true, true, true, true, true, true, true, true, true, false, false, false] rfl rfl (one_of HT_.out (by kernel_rfl)) (by decide) (fun K hK => ?_)
                            refine goes_ Try.func38 (by kernel_rfl) rfl #[.pointer (some ⟨g328, 0, none⟩)] (by rfl) rfl rfl (by (try simp only [List.map_toArray, List.map_cons, List.map_nil]); first | done | rfl | (simp only [List.length_drop, List.length_take]; rfl)) ?_
                            with_reducible refine (vint_Reader_End.calls g328 t376 t377 t378 t379 t380 t381 t382 w _ ?side1 ?side2 A76.out).mono ?_
                            (case side1 => repeat (first | (with_reducible first | exact HI328.out | apply IsS88.alloc | apply IsS88.drewN | apply IsS88.drew | apply IsS88.set_0 | apply IsS88.set_1 | apply IsS88.set_2 | refine IsS88.far ?_ NB328_329.out _) | exact HI328.out))
                            (case side2 => repeat (first | (with_reducible first | exact HB.out | apply below_alloc | apply pw_below_drewN | apply below_drew1 | refine below_set ?_ (IsS88.ge HI328.out) | refine below_set ?_ GE329.out) | exact HB.out))
                            rintro e w82 ⟨rfl, hi, hb, hk⟩
                            refine ⟨_, rfl, ?_⟩
                            have n0_ := Aside0.mk (KeepBut.blk hk (g' := gb329) (o := .cells #[.string x330000_14, .int .i64 x330001_14, .int .i64 x330002_14] 52 (0, 0)) (by (with_reducible repeat (first | refine blk_drewN ?_ _ | refine blk_drew ?_ | refine blk_alloc ?_ _)); exact BK329.out) NB329_328.out (by simp))
                            have n1_ := Aside0.mk (hb)
                            have n2_ := Aside0.mk (hi)
                            clear BK329
                            clear HB
                            clear HI328
                            have BK329 := n0_
                            have HB := n1_
                            have HI328 := n2_
                            clear n0_ n1_ n2_
                            (try clear hb)
                            (try clear hb2)
                            (try clear hk)
                            (try clear hi)
                            refine hK.out _ _ ⟨(blk_cell BK329.out 0).trans rfl, (blk_cell BK329.out 1).trans rfl, (blk_cell BK329.out 2).trans rfl⟩ (fun hHeld => ?_)
                            clear hK K
                            refine norm_ (a' := ?_) ?_ ?_
                            rotate_left
                            · show Act.put _ (some 132) _ = _
                              simp only [Act.put, List.setIfInBounds_toArray, List.set_cons_zero, List.set_cons_succ, i64_w, i32_w]
                              rfl
                            refine one_ (i := 23) (N := some 134) #[true, true, true, true, true, true, true, true, true, true, true, true, true, true, true, true, true, true, true, true, true, true, true, true, false, false] rfl rfl (one_of HT_.out (by kernel_rfl)) (by decide) (fun K hK => ?_)
                            refine goes_ Try.func39 (by kernel_rfl) rfl #[.agg #[.string x330000_14, .int .i64 x330001_14, .int .i64 x330002_14]] (by rfl) rfl rfl (by (try simp only [List.map_toArray, List.map_cons, List.map_nil]); first | done | rfl | (simp only [List.length_drop, List.length_take]; rfl)) ?_
                            with_reducible refine (treillageref03_End.calls x330000_14 x330001_14 x330002_14 t383 _ A77.out).mono ?_
                            rintro e w83 ⟨rfl, hb⟩
                            refine ⟨_, rfl, ?_⟩
                            have n0_ := Aside0.mk (blk_below (g := gb329) (o := .cells #[.string x330000_14, .int .i64 x330001_14, .int .i64 x330002_14] 52 (0, 0)) (by (with_reducible repeat (first | refine blk_drewN ?_ _ | refine blk_drew ?_ | refine blk_alloc ?_ _)); exact BK329.out) hb)
                            have n1_ := Aside0.mk (IsS88.below (by repeat (first | (with_reducible first | exact HI328.out | apply IsS88.alloc | apply IsS88.drewN | apply IsS88.drew | apply IsS88.set_0 | apply IsS88.set_1 | apply IsS88.set_2 | refine IsS88.far ?_ NB328_329.out _) | exact HI328.out)) hb)
                            have n2_ := Aside0.mk (below_step (by repeat (first | (with_reducible first | exact HB.out | apply below_alloc | apply pw_below_drewN | apply below_drew1 | refine below_set ?_ (IsS88.ge HI328.out) | refine below_set ?_ GE329.out) | exact HB.out)) hb)
                            clear BK329
                            clear HI328
                            clear HB
                            have BK329 := n0_
                            have HI328 := n1_
                            have HB := n2_
                            clear n0_ n1_ n2_
                            (try clear hb)
                            (try clear hb2)
                            (try clear hk)
                            (try clear hi)
                            refine hK.out _ _ ⟨(blk_cell BK329.out 0).trans rfl, (blk_cell BK329.out 1).trans rfl, (blk_cell BK329.out 2).trans rfl⟩ (fun hHeld => ?_)
                            clear hK K
                            refine norm_ (a' := ?_) ?_ ?_
                            rotate_left
                            · show Act.put _ (some 134) _ = _
                              simp only [Act.put, List.setIfInBounds_toArray, List.set_cons_zero, List.set_cons_succ, i64_w, i32_w]
                              rfl
                            refine pure_ (i := 24) (N := some 135) (v := ?_) (a' := ?_) #[true, true, true, true, true, true, true, true, true, true, true, true, true, true, true, true, true, true, true, true, true, true, true, true, true, false] rfl rfl (any_of HT_.out (by kernel_rfl)) (fun _ _ _ h => h) (Or.inl ⟨by rfl, ?_⟩) ?_ ?_
                            rotate_left
                            · intro w'
                              go_simp
                              with_reducible rfl
                            rotate_left
                            · simp only [Act.put, List.setIfInBounds_toArray, List.set_cons_zero, List.set_cons_succ, i64_w, i32_w]
                              rfl
                            refine pure_ (i := 25) (N := some 136) (v := ?_) (a' := ?_) #[true, true, true, true, true, true, true, true, true, true, true, true, true, true, true, true, true, true, true, true, true, true, true, true, true, true] rfl rfl (any_of HT_.out (by kernel_rfl)) (fun _ _ _ h => h) (Or.inl ⟨by rfl, ?_⟩) ?_ ?_
                            rotate_left
                            · intro w'
                              go_simp
                              with_reducible rfl
                            rotate_left
                            · simp only [Act.put, List.setIfInBounds_toArray, List.set_cons_zero, List.set_cons_succ, i64_w, i32_w]
                              rfl
                            refine done_ (done_of HT_.out (by kernel_rfl)) ?_
                            try go_wp2
                            go_roundg kj14
                            case measure => have := HJ2.out; have := HK2.out; have := HJ14.out; omega
                            case rel => exact ⟨(wrap64 (x7_2 + 1)), (t380), (t381), (t382), (x330000_14), (x330001_14), (x330002_14), (by first | rfl | (simp; done) | (simp [*]; done)), H', ⟨by have := HJ2.out; have := HK2.out; have := HJ14.out; omega⟩, ⟨by (with_reducible repeat (first | refine blk_drewN ?_ _ | refine blk_drew ?_ | refine blk_alloc ?_ _)); exact BK329.out⟩, ⟨by repeat (first | (with_reducible first | exact HI328.out | apply IsS88.alloc | apply IsS88.drewN | apply IsS88.drew | apply IsS88.set_0 | apply IsS88.set_1 | apply IsS88.set_2 | refine IsS88.far ?_ NB328_329.out _) | exact HI328.out)⟩, ⟨by repeat (first | (with_reducible first | exact HB.out | apply below_alloc | apply pw_below_drewN | apply below_drew1 | refine below_set ?_ (IsS88.ge HI328.out) | refine below_set ?_ GE329.out) | exact HB.out)⟩⟩
                          · rw [if_neg c78] at H
                            exact absurd H (by simp)
                        · rw [if_neg c75] at H
                          exact absurd H (by simp)
                      · rw [if_neg c73] at H
                        exact absurd H (by simp)
                    · replace c71 := Bool.eq_false_iff.mpr c71
                      subst c71
                      have H1 : (none) = some r := by rw [if_neg (show ¬ (false = true) by decide)] at H; exact H
                      clear H
                      have H := H1
                      clear H1
                      exact absurd H (by simp)
              · rw [if_neg c14] at H
                exact absurd H (by simp)
            · rw [if_neg c13] at H
              have c13b0 : decide (x7_2 < (l1.length : Int)) = false := decide_eq_false c13
              clear c13
              replace H := Option.bind_eq_some_iff.mp H
              obtain ⟨t384, A840, H⟩ := H
              replace H : (if t384 = true then ((vint_Reader_Get_nil.f).bind fun t385 => (if t385 = 0 then ((vint_Reader_Most_nil.f 5).bind fun t386 => (if t386 = 0 then ((vint_Reader_GetInt_nil.f).bind fun t387 => (if t387 = 0 then ((vint_Reader_GetText_nil.f 5).bind fun t388 => (if t388.toList = ([] : List UInt8) then ((vint_Reader_Left_nil.f).bind fun t389 => (if t389 = 0 then ((vint_Reader_Err_nil.f).bind fun t390 => (if t390 = 1 then ((vint_Reader_End_nil.f).bind fun t391 => (some (t391 == 1))) else (none))) else (none))) else (none))) else (none))) else (none))) else (none))) else (none)) = some r := H
              have A84 := Aside0.mk A840
              clear A840
              by_cases c85 : t384 = true
              · subst c85
                have H1 : ((vint_Reader_Get_nil.f).bind fun t385 => (if t385 = 0 then ((vint_Reader_Most_nil.f 5).bind fun t386 => (if t386 = 0 then ((vint_Reader_GetInt_nil.f).bind fun t387 => (if t387 = 0 then ((vint_Reader_GetText_nil.f 5).bind fun t388 => (if t388.toList = ([] : List UInt8) then ((vint_Reader_Left_nil.f).bind fun t389 => (if t389 = 0 then ((vint_Reader_Err_nil.f).bind fun t390 => (if t390 = 1 then ((vint_Reader_End_nil.f).bind fun t391 => (some (t391 == 1))) else (none))) else (none))) else (none))) else (none))) else (none))) else (none))) = some r := by rw [if_pos rfl] at H; exact H
                clear H
                have H := H1
                clear H1
                replace H := Option.bind_eq_some_iff.mp H
                obtain ⟨t385, A860, H⟩ := H
                replace H : (if t385 = 0 then ((vint_Reader_Most_nil.f 5).bind fun t386 => (if t386 = 0 then ((vint_Reader_GetInt_nil.f).bind fun t387 => (if t387 = 0 then ((vint_Reader_GetText_nil.f 5).bind fun t388 => (if t388.toList = ([] : List UInt8) then ((vint_Reader_Left_nil.f).bind fun t389 => (if t389 = 0 then ((vint_Reader_Err_nil.f).bind fun t390 => (if t390 = 1 then ((vint_Reader_End_nil.f).bind fun t391 => (some (t391 == 1))) else (none))) else (none))) else (none))) else (none))) else (none))) else (none)) = some r := H
                have A86 := Aside0.mk A860
                clear A860
                by_cases c87 : t385 = 0
                · rw [if_pos c87] at H
                  have c87b0 : (t385 == 0) = true := beq_iff_eq.mpr c87
                  have c87b1 : (t385 != 0) = false := bne_eq_false_iff_eq.mpr c87
                  clear c87
                  replace H := Option.bind_eq_some_iff.mp H
                  obtain ⟨t386, A880, H⟩ := H
                  replace H : (if t386 = 0 then ((vint_Reader_GetInt_nil.f).bind fun t387 => (if t387 = 0 then ((vint_Reader_GetText_nil.f 5).bind fun t388 => (if t388.toList = ([] : List UInt8) then ((vint_Reader_Left_nil.f).bind fun t389 => (if t389 = 0 then ((vint_Reader_Err_nil.f).bind fun t390 => (if t390 = 1 then ((vint_Reader_End_nil.f).bind fun t391 => (some (t391 == 1))) else (none))) else (none))) else (none))) else (none))) else (none)) = some r := H
                  have A88 := Aside0.mk A880
                  clear A880
                  by_cases c89 : t386 = 0
                  · rw [if_pos c89] at H
                    have c89b0 : (t386 == 0) = true := beq_iff_eq.mpr c89
                    have c89b1 : (t386 != 0) = false := bne_eq_false_iff_eq.mpr c89
                    clear c89
                    replace H := Option.bind_eq_some_iff.mp H
                    obtain ⟨t387, A900, H⟩ := H
                    replace H : (if t387 = 0 then ((vint_Reader_GetText_nil.f 5).bind fun t388 => (if t388.toList = ([] : List UInt8) then ((vint_Reader_Left_nil.f).bind fun t389 => (if t389 = 0 then ((vint_Reader_Err_nil.f).bind fun t390 => (if t390 = 1 then ((vint_Reader_End_nil.f).bind fun t391 => (some (t391 == 1))) else (none))) else (none))) else (none))) else (none)) = some r := H
                    have A90 := Aside0.mk A900
                    clear A900
                    by_cases c91 : t387 = 0
                    · rw [if_pos c91] at H
                      have c91b0 : (t387 == 0) = true := beq_iff_eq.mpr c91
                      have c91b1 : (t387 != 0) = false := bne_eq_false_iff_eq.mpr c91
                      clear c91
                      replace H := Option.bind_eq_some_iff.mp H
                      obtain ⟨t388, A920, H⟩ := H
                      replace H : (if t388.toList = ([] : List UInt8) then ((vint_Reader_Left_nil.f).bind fun t389 => (if t389 = 0 then ((vint_Reader_Err_nil.f).bind fun t390 => (if t390 = 1 then ((vint_Reader_End_nil.f).bind fun t391 => (some (t391 == 1))) else (none))) else (none))) else (none)) = some r := H
                      have A92 := Aside0.mk A920
                      clear A920
                      by_cases c93 : t388.toList = ([] : List UInt8)
                      · rw [if_pos c93] at H
                        have c93b0 : (t388.toList == ([] : List UInt8)) = true := beq_iff_eq.mpr c93
                        have c93b1 : (t388.toList != ([] : List UInt8)) = false := bne_eq_false_iff_eq.mpr c93
                        clear c93
                        replace H := Option.bind_eq_some_iff.mp H
                        obtain ⟨t389, A940, H⟩ := H
                        replace H : (if t389 = 0 then ((vint_Reader_Err_nil.f).bind fun t390 => (if t390 = 1 then ((vint_Reader_End_nil.f).bind fun t391 => (some (t391 == 1))) else (none))) else (none)) = some r := H
                        have A94 := Aside0.mk A940
                        clear A940
                        by_cases c95 : t389 = 0
                        · rw [if_pos c95] at H
                          have c95b0 : (t389 == 0) = true := beq_iff_eq.mpr c95
                          have c95b1 : (t389 != 0) = false := bne_eq_false_iff_eq.mpr c95
                          clear c95
                          replace H := Option.bind_eq_some_iff.mp H
                          obtain ⟨t390, A960, H⟩ := H
                          replace H : (if t390 = 1 then ((vint_Reader_End_nil.f).bind fun t391 => (some (t391 == 1))) else (none)) = some r := H
                          have A96 := Aside0.mk A960
                          clear A960
                          by_cases c97 : t390 = 1
                          · rw [if_pos c97] at H
                            have c97b0 : (t390 == 1) = true := beq_iff_eq.mpr c97
                            have c97b1 : (t390 != 1) = false := bne_eq_false_iff_eq.mpr c97
                            clear c97
                            replace H := Option.bind_eq_some_iff.mp H
                            obtain ⟨t391, A980, H⟩ := H
                            replace H : (some (t391 == 1)) = some r := H
                            have A98 := Aside0.mk A980
                            clear A980
                            obtain rfl := Option.some.inj H
                            go_wp2_with (first | ((with_reducible refine gate_callee (f := 20) rfl ?_); refine goesL_ (some 137) rfl rfl Try.func20 (by kernel_rfl) rfl #[] rfl (by (try simp only [List.map_toArray, List.map_cons, List.map_nil]); first | done | rfl | (simp only [List.length_drop, List.length_take]; rfl)) ?_; (with_reducible refine (treillagelaw03_awake.calls  true _ A84.out).mono ?_); rintro e w99 ⟨rfl, hb⟩; refine ⟨_, rfl, ?_⟩; have n0_ := Aside0.mk (blk_below (g := gb329) (o := .cells #[.string x330000_2, .int .i64 x330001_2, .int .i64 x330002_2] 52 (0, 0)) (by (with_reducible repeat (first | refine blk_drewN ?_ _ | refine blk_drew ?_ | refine blk_alloc ?_ _)); exact BK329.out) hb); have n1_ := Aside0.mk (IsS88.below (by repeat (first | (with_reducible first | exact HI328.out | apply IsS88.alloc | apply IsS88.drewN | apply IsS88.drew | apply IsS88.set_0 | apply IsS88.set_1 | apply IsS88.set_2 | refine IsS88.far ?_ NB328_329.out _) | exact HI328.out)) hb); have n2_ := Aside0.mk (below_step (by repeat (first | (with_reducible first | exact HB.out | apply below_alloc | apply pw_below_drewN | apply below_drew1 | refine below_set ?_ (IsS88.ge HI328.out) | refine below_set ?_ GE329.out) | exact HB.out)) hb); clear BK329; clear HI328; clear HB; have BK329 := n0_; have HI328 := n1_; have HB := n2_; clear n0_ n1_ n2_; (try clear hb); (try clear hb2); (try clear hk); (try clear hi)) | (go_at_call 28; (with_reducible refine (vint_Reader_Get_nil.calls  t385 _ A86.out).mono ?_); rintro e w' ⟨rfl, ⟨nd, rfl⟩⟩) | (go_at_call 35; (with_reducible refine (vint_Reader_Most_nil.calls  5 t386 _ A88.out).mono ?_); rintro e w' ⟨rfl, ⟨nd, rfl⟩⟩) | (go_at_call 29; (with_reducible refine (vint_Reader_GetInt_nil.calls  t387 _ A90.out).mono ?_); rintro e w' ⟨rfl, ⟨nd, rfl⟩⟩) | (go_at_call 30; (with_reducible refine (vint_Reader_GetText_nil.calls  5 t388 _ A92.out).mono ?_); rintro e w' ⟨rfl, ⟨nd, rfl⟩⟩) | (go_at_call 32; (with_reducible refine (vint_Reader_Left_nil.calls  t389 _ A94.out).mono ?_); rintro e w' ⟨rfl, ⟨nd, rfl⟩⟩) | (go_at_call 31; (with_reducible refine (vint_Reader_Err_nil.calls  t390 _ A96.out).mono ?_); rintro e w' ⟨rfl, ⟨nd, rfl⟩⟩) | (go_at_call 38; (with_reducible refine (vint_Reader_End_nil.calls  t391 _ A98.out).mono ?_); rintro e w' ⟨rfl, ⟨nd, rfl⟩⟩))
                            go_ret
                            exact ⟨by first | rfl | (simp [errW_none, errW_some] <;> rfl) | (simp [*, errW_none, errW_some] <;> rfl), by repeat (first | (with_reducible first | exact HB.out | apply below_alloc | apply pw_below_drewN | apply below_drew1 | refine below_set ?_ (IsS88.ge HI328.out) | refine below_set ?_ GE329.out) | exact HB.out)⟩
                          · rw [if_neg c97] at H
                            exact absurd H (by simp)
                        · rw [if_neg c95] at H
                          exact absurd H (by simp)
                      · rw [if_neg c93] at H
                        exact absurd H (by simp)
                    · rw [if_neg c91] at H
                      exact absurd H (by simp)
                  · rw [if_neg c89] at H
                    exact absurd H (by simp)
                · rw [if_neg c87] at H
                  exact absurd H (by simp)
              · replace c85 := Bool.eq_false_iff.mpr c85
                subst c85
                have H1 : (none) = some r := by rw [if_neg (show ¬ (false = true) by decide)] at H; exact H
                clear H
                have H := H1
                clear H1
                exact absurd H (by simp)

end Go.Proofs.Ytpfglhjgjfhkjaa.XP

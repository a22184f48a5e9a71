-- Written by wip/tools/xprint.py of this work, over the kit's printer.
import Derived.Test.YtpfglhjgjfhkjaaXP0
import Derived.Test.YtpfglhjgjfhkjaaXP2
namespace Go.Proofs.Ytpfglhjgjfhkjaa.XP
open Go.RowKit Go.Proofs.YtpfglhjgjfhkjaaW.PrintWords Go.Proofs.YtpfglhjgjfhkjaaW.PrintLast Go.Proofs.YtpfglhjgjfhkjaaW.PrintMore
attribute [local go_sem] max2_int min2_int max_two min_two max_three min_three max_four min_four   -- for this text's walks alone
set_option linter.unusedVariables false
set_option linter.unusedSimpArgs false

/-! ### treillagelaw03_VintPuts: function 6 -/
def treillagelaw03_VintPuts.j0 : Nat → List Int → Int → ByteArray → Bool → Option (Bool)
  | 0, _, _, _, _ => none
  | k + 1, x0, x1, x2, x19 => if x19 = true then ((treillagelaw03_awake.f).bind fun t173 => (some t173)) else ((some (([] : List Int) : List Int)).bind fun y174 => (if y174.length + x0.length < 140737488355328 then ((some (y174 ++ x0 : List Int)).bind fun y177 => (if y177.length < 140737488355328 then ((some (y177 ++ [7] : List Int)).bind fun y180 => (if 0 ≤ (x0.length : Int) then (if (x0.length : Int) ≤ (y180.length : Int) then ((vint_Put.f (y180.take ((x0.length : Int) : Int).toNat) x1).bind fun t187 => ((vint_PutInt.f (y180.take ((x0.length : Int) : Int).toNat) (wrap64 (x1))).bind fun t194 => ((vint_PutText.f (y180.take ((x0.length : Int) : Int).toNat) x2).bind fun t201 => ((treillageref03_Num.f k x1).bind fun t204 => (if (strOfNums x0).size + t204.size ≤ 9223372036854775807 then (if (strOfNums t187).toList = ((strOfNums x0) ++ t204).toList then ((treillageref03_Sign.f (wrap64 (x1))).bind fun t205 => ((treillageref03_Num.f k t205).bind fun t206 => (if (strOfNums x0).size + t206.size ≤ 9223372036854775807 then (if (strOfNums t194).toList = ((strOfNums x0) ++ t206).toList then ((treillageref03_Text.f k x2).bind fun t207 => (if (strOfNums x0).size + t207.size ≤ 9223372036854775807 then (if (strOfNums t201).toList = ((strOfNums x0) ++ t207).toList then ((treillagelaw03_awake.f).bind fun t208 => (if t208 = true then (if (strOfNums (y180.take ((x0.length : Int) : Int).toNat)).toList = (strOfNums x0).toList then (if (x0.length : Int) < (y180.length : Int) then (some ((rd y180 (x0.length : Int)) == 7)) else (none)) else (none)) else (none))) else (none)) else (none))) else (none)) else (none)))) else (none)) else (none)))))) else (none)) else (none))) else (none))) else (none)))
def treillagelaw03_VintPuts.f (k : Nat) (l0 : List Int) (a1 : Int) (a2 : ByteArray) : Option (Bool) := if (l0.length : Int) > 300 then (treillagelaw03_VintPuts.j0 k l0 a1 a2 true) else (treillagelaw03_VintPuts.j0 k l0 a1 a2 (decide ((a2.size : Int) > 300)))
theorem treillagelaw03_VintPuts.mono_l : ∀ k, (∀ y0 y1 y2 y3, LeO (treillagelaw03_VintPuts.j0 k y0 y1 y2 y3) (treillagelaw03_VintPuts.j0 (k + 1) y0 y1 y2 y3))
  | 0 => fun _ _ _ _ r h => by simp [treillagelaw03_VintPuts.j0] at h
  | k + 1 => by
    have ih0 := treillagelaw03_VintPuts.mono_l k
    · intro y0 y1 y2 y3
      unfold treillagelaw03_VintPuts.j0
      repeat' first
      | (with_reducible exact ih0 _ _ _ _)
      | (with_reducible exact treillageref03_Num.mono _ _)
      | (with_reducible exact treillageref03_Text.mono _ _)
      | (with_reducible exact LeO.refl _)
      | (with_reducible exact LeO.none _)
      | (with_reducible refine LeO.ite ?_ ?_)
      | (with_reducible refine LeO.bind ?_ (fun _ => ?_))
      | exact ih0 _ _ _ _
      | exact treillageref03_Num.mono _ _
      | exact treillageref03_Text.mono _ _
      | exact LeO.none _
      | refine LeO.ite ?_ ?_
      | refine LeO.bind ?_ (fun _ => ?_)
theorem treillagelaw03_VintPuts.mono : ∀ a0 a1 a2 k, LeO (treillagelaw03_VintPuts.f k a0 a1 a2) (treillagelaw03_VintPuts.f (k + 1) a0 a1 a2) := by
  intro a0 a1 a2 k
  have ih0 := treillagelaw03_VintPuts.mono_l k
  unfold treillagelaw03_VintPuts.f
  repeat' first
      | (with_reducible exact ih0 _ _ _ _)
      | (with_reducible exact treillageref03_Num.mono _ _)
      | (with_reducible exact treillageref03_Text.mono _ _)
      | (with_reducible exact LeO.refl _)
      | (with_reducible exact LeO.none _)
      | (with_reducible refine LeO.ite ?_ ?_)
      | (with_reducible refine LeO.bind ?_ (fun _ => ?_))
      | exact ih0 _ _ _ _
      | exact treillageref03_Num.mono _ _
      | exact treillageref03_Text.mono _ _
      | exact LeO.none _
      | refine LeO.ite ?_ ?_
      | refine LeO.bind ?_ (fun _ => ?_)
def treillagelaw03_VintPuts.T6 : Bool × List (List Nat × List Nat) := (true, [([], []), ([], []), ([1], [1]), ([0, 2], [0, 2]), ([], []), ([3, 4], [3, 4]), ([], []), ([], []), ([7], [7]), ([6, 8], [6, 8]), ([], []), ([10], [10]), ([9, 11, 5], [9, 11]), ([], []), ([], []), ([14], [14]), ([13, 15], [13, 15]), ([], []), ([16, 17, 12], [16, 17]), ([5, 18, 0, 1, 2, 3, 4, 5], [5]), ([12, 19, 0, 1, 2, 3, 4, 5, 6, 7, 8, 9, 10, 11, 12, 19], [12]), ([18, 20, 0, 1, 2, 3, 4, 5, 6, 7, 8, 9, 10, 11, 12, 13, 14, 15, 16, 17, 18, 19, 20], [18])])
def treillagelaw03_VintPuts.B6 : List Nat := [0, 0, 2, 7, 0, 31, 0, 0, 128, 448, 0, 1024, 4095, 0, 0, 16384, 57344, 0, 262143, 524287, 1048575, 2097151]
theorem treillagelaw03_VintPuts.tab6 : rtab .any (opsOf Try.f6 6) = treillagelaw03_VintPuts.T6 := by kernel_rfl
theorem treillagelaw03_VintPuts.bits6 : waitsOk treillagelaw03_VintPuts.T6.2 treillagelaw03_VintPuts.B6 = true := by kernel_rfl
def treillagelaw03_VintPuts.T7 : Bool × List (List Nat × List Nat) := (true, [([], []), ([0], [0]), ([], []), ([], []), ([3], [3]), ([2, 4], [2, 4]), ([1, 5], [1, 5]), ([6, 4], [6]), ([7], [7]), ([8, 7], [7, 8]), ([7], [7]), ([7], [7]), ([11, 7], [7, 11]), ([12, 7, 7], [7, 12]), ([13, 13, 7], [7, 13]), ([10, 14, 7], [7, 10, 14]), ([9, 15, 7], [7, 9, 15]), ([7, 16], [7, 16]), ([17, 14], [17]), ([18], [18]), ([19, 18], [18, 19]), ([18], [18]), ([18], [18]), ([22, 18, 18], [18, 22]), ([21, 23, 18], [18, 21, 23]), ([20, 24, 18], [18, 20, 24]), ([18, 25], [18, 25])])
def treillagelaw03_VintPuts.B7 : List Nat := [0, 1, 0, 0, 8, 28, 63, 127, 255, 511, 255, 255, 2303, 6399, 14591, 31999, 65535, 131071, 262143, 524287, 1048575, 524287, 524287, 4718591, 15204351, 33554431, 67108863]
theorem treillagelaw03_VintPuts.tab7 : rtab .any (opsOf Try.f6 7) = treillagelaw03_VintPuts.T7 := by kernel_rfl
theorem treillagelaw03_VintPuts.bits7 : waitsOk treillagelaw03_VintPuts.T7.2 treillagelaw03_VintPuts.B7 = true := by kernel_rfl
set_option maxHeartbeats 8000000 in
set_option maxRecDepth 100000 in
theorem treillagelaw03_VintPuts.calls (k : Nat) (A0 : Option Addr) (c0 : Nat) (l0 : List Int) (a1 : Int) (a2 : ByteArray) (r : Bool) (w : World) (hr0 : Kd.C (Kd.int .u8) w A0 l0.length l0) (hc0 : l0.length ≤ c0) (h : treillagelaw03_VintPuts.f k l0 a1 a2 = some r) :
    Calls Try.prog 6 #[.slice A0 l0.length c0, .int .u64 a1, .string a2] w fun e w' => e = .returned (.bool r) ∧ Below w.heap.size w w' := by
  have HR0 := Aside0.mk hr0
  have HC0 := Aside0.mk hc0
  clear hr0 hc0
  have HB := Aside0.mk (Below.refl w.heap.size w)
  have H : (if (l0.length : Int) > 300 then (treillagelaw03_VintPuts.j0 k l0 a1 a2 true) else (treillagelaw03_VintPuts.j0 k l0 a1 a2 (decide ((a2.size : Int) > 300)))) = some r := h
  clear h
  have HC4 := Aside0.mk H
  clear H
  go_enter Try.func6, Try.ntmps6
  go_upto_region 1 with (fail)
  go_cut [19] (fun v19 wc => ∃ (kq : Nat) (x19_3 : Bool), v19 = .bool x19_3 ∧ Aside0 (treillagelaw03_VintPuts.j0 kq l0 a1 a2 x19_3 = some r) ∧ Aside0 (kq ≤ k) ∧ Aside0 (Below w.heap.size w wc))
  case first =>
    have H := HC4.out
    clear HC4
    by_cases c5 : (l0.length : Int) > 300
    · rw [if_pos c5] at H
      have c5b0 : decide (300 < (l0.length : Int)) = true := decide_eq_true c5
      have c5b1 : decide (300 < l0.length) = true := decide_eq_true (by omega)
      clear c5
      (first | rw [c5b0] | (simp only [i64_w, i32_w]; rw [c5b0]) | skip)
      have H' := Aside0.mk H
      clear H
      go_wp2
      go_meet
      case rel => exact ⟨_, (true), (by first | rfl | (simp; done) | (simp [*]; done)), H', ⟨by first | omega | exact Nat.le_refl _⟩, ⟨by repeat (first | (with_reducible first | exact HB.out | apply below_alloc | apply pw_below_drewN | apply below_drew1) | exact HB.out)⟩⟩
    · rw [if_neg c5] at H
      have c5b0 : decide (300 < (l0.length : Int)) = false := decide_eq_false c5
      have c5b1 : decide (300 < l0.length) = false := decide_eq_false (by omega)
      clear c5
      (first | rw [c5b0] | (simp only [i64_w, i32_w]; rw [c5b0]) | skip)
      have H' := Aside0.mk H
      clear H
      go_wp2
      go_meet
      case rel => exact ⟨_, (decide ((a2.size : Int) > 300)), (by first | rfl | (simp; done) | (simp [*]; done)), H', ⟨by first | omega | exact Nat.le_refl _⟩, ⟨by repeat (first | (with_reducible first | exact HB.out | apply below_alloc | apply pw_below_drewN | apply below_drew1) | exact HB.out)⟩⟩
  case rest =>
    clear HC4
    try clear p2
    try clear c5
    try clear c5b0
    try clear c5b1
    obtain ⟨kq, x19_3, rfl, HA, HJ3, HB⟩ := hcut
    cases kq with
    | zero => exact absurd HA.out (by simp [treillagelaw03_VintPuts.j0])
    | succ kj3 =>
      have H := HA.out
      clear HA
      simp only [treillagelaw03_VintPuts.j0] at H
      by_cases c6 : x19_3 = true
      · subst c6
        have H1 : ((treillagelaw03_awake.f).bind fun t173 => (some t173)) = some r := by rw [if_pos rfl] at H; exact H
        clear H
        have H := H1
        clear H1
        replace H := Option.bind_eq_some_iff.mp H
        obtain ⟨t173, A70, H⟩ := H
        replace H : (some t173) = some r := H
        have A7 := Aside0.mk A70
        clear A70
        obtain rfl := Option.some.inj H
        go_wp2_with (first | ((with_reducible refine gate_callee (f := 20) rfl ?_); refine goesL_ (some 20) rfl rfl Try.func20 (by kernel_rfl) rfl #[] rfl (by (try simp only [List.map_toArray, List.map_cons, List.map_nil]); first | done | rfl | (simp only [List.length_drop, List.length_take]; rfl)) ?_; (with_reducible refine (treillagelaw03_awake.calls  t173 _ A7.out).mono ?_); rintro e w8 ⟨rfl, hb⟩; refine ⟨_, rfl, ?_⟩; have n0_ := Aside0.mk (below_step (by repeat (first | (with_reducible first | exact HB.out | apply below_alloc | apply pw_below_drewN | apply below_drew1) | exact HB.out)) hb); clear HB; have HB := n0_; clear n0_; (try clear hb); (try clear hb2); (try clear hk); (try clear hi)))
        go_ret
        exact ⟨by first | rfl | (simp [errW_none, errW_some] <;> rfl) | (simp [*, errW_none, errW_some] <;> rfl), by repeat (first | (with_reducible first | exact HB.out | apply below_alloc | apply pw_below_drewN | apply below_drew1) | exact HB.out)⟩
      · replace c6 := Bool.eq_false_iff.mpr c6
        subst c6
        have H1 : ((some (([] : List Int) : List Int)).bind fun y174 => (if y174.length + l0.length < 140737488355328 then ((some (y174 ++ l0 : List Int)).bind fun y177 => (if y177.length < 140737488355328 then ((some (y177 ++ [7] : List Int)).bind fun y180 => (if 0 ≤ (l0.length : Int) then (if (l0.length : Int) ≤ (y180.length : Int) then ((vint_Put.f (y180.take ((l0.length : Int) : Int).toNat) a1).bind fun t187 => ((vint_PutInt.f (y180.take ((l0.length : Int) : Int).toNat) (wrap64 (a1))).bind fun t194 => ((vint_PutText.f (y180.take ((l0.length : Int) : Int).toNat) a2).bind fun t201 => ((treillageref03_Num.f kj3 a1).bind fun t204 => (if (strOfNums l0).size + t204.size ≤ 9223372036854775807 then (if (strOfNums t187).toList = ((strOfNums l0) ++ t204).toList then ((treillageref03_Sign.f (wrap64 (a1))).bind fun t205 => ((treillageref03_Num.f kj3 t205).bind fun t206 => (if (strOfNums l0).size + t206.size ≤ 9223372036854775807 then (if (strOfNums t194).toList = ((strOfNums l0) ++ t206).toList then ((treillageref03_Text.f kj3 a2).bind fun t207 => (if (strOfNums l0).size + t207.size ≤ 9223372036854775807 then (if (strOfNums t201).toList = ((strOfNums l0) ++ t207).toList then ((treillagelaw03_awake.f).bind fun t208 => (if t208 = true then (if (strOfNums (y180.take ((l0.length : Int) : Int).toNat)).toList = (strOfNums l0).toList then (if (l0.length : Int) < (y180.length : Int) then (some ((rd y180 (l0.length : Int)) == 7)) else (none)) else (none)) else (none))) else (none)) else (none))) else (none)) else (none)))) else (none)) else (none)))))) else (none)) else (none))) else (none))) else (none))) = some r := by rw [if_neg (show ¬ (false = true) by decide)] at H; exact H
        clear H
        have H := H1
        clear H1
        obtain ⟨y174, hy174⟩ : ∃ y_ : List Int, y_ = (([] : List Int)) := ⟨_, rfl⟩
        replace H : (if y174.length + l0.length < 140737488355328 then ((some (y174 ++ l0 : List Int)).bind fun y177 => (if y177.length < 140737488355328 then ((some (y177 ++ [7] : List Int)).bind fun y180 => (if 0 ≤ (l0.length : Int) then (if (l0.length : Int) ≤ (y180.length : Int) then ((vint_Put.f (y180.take ((l0.length : Int) : Int).toNat) a1).bind fun t187 => ((vint_PutInt.f (y180.take ((l0.length : Int) : Int).toNat) (wrap64 (a1))).bind fun t194 => ((vint_PutText.f (y180.take ((l0.length : Int) : Int).toNat) a2).bind fun t201 => ((treillageref03_Num.f kj3 a1).bind fun t204 => (if (strOfNums l0).size + t204.size ≤ 9223372036854775807 then (if (strOfNums t187).toList = ((strOfNums l0) ++ t204).toList then ((treillageref03_Sign.f (wrap64 (a1))).bind fun t205 => ((treillageref03_Num.f kj3 t205).bind fun t206 => (if (strOfNums l0).size + t206.size ≤ 9223372036854775807 then (if (strOfNums t194).toList = ((strOfNums l0) ++ t206).toList then ((treillageref03_Text.f kj3 a2).bind fun t207 => (if (strOfNums l0).size + t207.size ≤ 9223372036854775807 then (if (strOfNums t201).toList = ((strOfNums l0) ++ t207).toList then ((treillagelaw03_awake.f).bind fun t208 => (if t208 = true then (if (strOfNums (y180.take ((l0.length : Int) : Int).toNat)).toList = (strOfNums l0).toList then (if (l0.length : Int) < (y180.length : Int) then (some ((rd y180 (l0.length : Int)) == 7)) else (none)) else (none)) else (none))) else (none)) else (none))) else (none)) else (none)))) else (none)) else (none)))))) else (none)) else (none))) else (none))) else (none)) = some r := by first | (rw [hy174]; with_reducible exact H) | (have H2_ := (Option.bind_some _ _).symm.trans H; rw [hy174]; with_reducible exact H2_) | (have H2_ := (Option.bind_some _ _).symm.trans H; with_reducible exact H2_) | with_reducible exact H | (rw [hy174]; exact H) | exact H
        have Ny174 := Aside0.mk hy174
        clear hy174
        by_cases c9 : y174.length + l0.length < 140737488355328
        · rw [if_pos c9] at H
          have LMc9 := Aside0.mk c9
          clear c9
          obtain ⟨y177, hy177⟩ : ∃ y_ : List Int, y_ = (y174 ++ l0) := ⟨_, rfl⟩
          replace H : (if y177.length < 140737488355328 then ((some (y177 ++ [7] : List Int)).bind fun y180 => (if 0 ≤ (l0.length : Int) then (if (l0.length : Int) ≤ (y180.length : Int) then ((vint_Put.f (y180.take ((l0.length : Int) : Int).toNat) a1).bind fun t187 => ((vint_PutInt.f (y180.take ((l0.length : Int) : Int).toNat) (wrap64 (a1))).bind fun t194 => ((vint_PutText.f (y180.take ((l0.length : Int) : Int).toNat) a2).bind fun t201 => ((treillageref03_Num.f kj3 a1).bind fun t204 => (if (strOfNums l0).size + t204.size ≤ 9223372036854775807 then (if (strOfNums t187).toList = ((strOfNums l0) ++ t204).toList then ((treillageref03_Sign.f (wrap64 (a1))).bind fun t205 => ((treillageref03_Num.f kj3 t205).bind fun t206 => (if (strOfNums l0).size + t206.size ≤ 9223372036854775807 then (if (strOfNums t194).toList = ((strOfNums l0) ++ t206).toList then ((treillageref03_Text.f kj3 a2).bind fun t207 => (if (strOfNums l0).size + t207.size ≤ 9223372036854775807 then (if (strOfNums t201).toList = ((strOfNums l0) ++ t207).toList then ((treillagelaw03_awake.f).bind fun t208 => (if t208 = true then (if (strOfNums (y180.take ((l0.length : Int) : Int).toNat)).toList = (strOfNums l0).toList then (if (l0.length : Int) < (y180.length : Int) then (some ((rd y180 (l0.length : Int)) == 7)) else (none)) else (none)) else (none))) else (none)) else (none))) else (none)) else (none)))) else (none)) else (none)))))) else (none)) else (none))) else (none)) = some r := by first | (rw [hy177]; with_reducible exact H) | (have H2_ := (Option.bind_some _ _).symm.trans H; rw [hy177]; with_reducible exact H2_) | (have H2_ := (Option.bind_some _ _).symm.trans H; with_reducible exact H2_) | with_reducible exact H | (rw [hy177]; exact H) | exact H
          have Ny177 := Aside0.mk hy177
          clear hy177
          by_cases c10 : y177.length < 140737488355328
          · rw [if_pos c10] at H
            have LMc10 := Aside0.mk c10
            clear c10
            obtain ⟨y180, hy180⟩ : ∃ y_ : List Int, y_ = (y177 ++ [7]) := ⟨_, rfl⟩
            replace H : (if 0 ≤ (l0.length : Int) then (if (l0.length : Int) ≤ (y180.length : Int) then ((vint_Put.f (y180.take ((l0.length : Int) : Int).toNat) a1).bind fun t187 => ((vint_PutInt.f (y180.take ((l0.length : Int) : Int).toNat) (wrap64 (a1))).bind fun t194 => ((vint_PutText.f (y180.take ((l0.length : Int) : Int).toNat) a2).bind fun t201 => ((treillageref03_Num.f kj3 a1).bind fun t204 => (if (strOfNums l0).size + t204.size ≤ 9223372036854775807 then (if (strOfNums t187).toList = ((strOfNums l0) ++ t204).toList then ((treillageref03_Sign.f (wrap64 (a1))).bind fun t205 => ((treillageref03_Num.f kj3 t205).bind fun t206 => (if (strOfNums l0).size + t206.size ≤ 9223372036854775807 then (if (strOfNums t194).toList = ((strOfNums l0) ++ t206).toList then ((treillageref03_Text.f kj3 a2).bind fun t207 => (if (strOfNums l0).size + t207.size ≤ 9223372036854775807 then (if (strOfNums t201).toList = ((strOfNums l0) ++ t207).toList then ((treillagelaw03_awake.f).bind fun t208 => (if t208 = true then (if (strOfNums (y180.take ((l0.length : Int) : Int).toNat)).toList = (strOfNums l0).toList then (if (l0.length : Int) < (y180.length : Int) then (some ((rd y180 (l0.length : Int)) == 7)) else (none)) else (none)) else (none))) else (none)) else (none))) else (none)) else (none)))) else (none)) else (none)))))) else (none)) else (none)) = some r := by first | (rw [hy180]; with_reducible exact H) | (have H2_ := (Option.bind_some _ _).symm.trans H; rw [hy180]; with_reducible exact H2_) | (have H2_ := (Option.bind_some _ _).symm.trans H; with_reducible exact H2_) | with_reducible exact H | (rw [hy180]; exact H) | exact H
            have Ny180 := Aside0.mk hy180
            clear hy180
            by_cases c11 : 0 ≤ (l0.length : Int)
            · rw [if_pos c11] at H
              have c11b0 := eq_true c11
              have c11b1 : decide (0 ≤ (l0.length : Int)) = true := decide_eq_true c11
              clear c11
              by_cases c12 : (l0.length : Int) ≤ (y180.length : Int)
              · rw [if_pos c12] at H
                have c12b0 := eq_true c12
                have c12b1 : decide ((l0.length : Int) ≤ (y180.length : Int)) = true := decide_eq_true c12
                clear c12
                obtain ⟨y183, hy183⟩ : ∃ y_ : List Int, y_ = (y180.take ((l0.length : Int) : Int).toNat) := ⟨_, rfl⟩
                replace H : ((vint_Put.f y183 a1).bind fun t187 => ((vint_PutInt.f (y180.take ((l0.length : Int) : Int).toNat) (wrap64 (a1))).bind fun t194 => ((vint_PutText.f (y180.take ((l0.length : Int) : Int).toNat) a2).bind fun t201 => ((treillageref03_Num.f kj3 a1).bind fun t204 => (if (strOfNums l0).size + t204.size ≤ 9223372036854775807 then (if (strOfNums t187).toList = ((strOfNums l0) ++ t204).toList then ((treillageref03_Sign.f (wrap64 (a1))).bind fun t205 => ((treillageref03_Num.f kj3 t205).bind fun t206 => (if (strOfNums l0).size + t206.size ≤ 9223372036854775807 then (if (strOfNums t194).toList = ((strOfNums l0) ++ t206).toList then ((treillageref03_Text.f kj3 a2).bind fun t207 => (if (strOfNums l0).size + t207.size ≤ 9223372036854775807 then (if (strOfNums t201).toList = ((strOfNums l0) ++ t207).toList then ((treillagelaw03_awake.f).bind fun t208 => (if t208 = true then (if (strOfNums (y180.take ((l0.length : Int) : Int).toNat)).toList = (strOfNums l0).toList then (if (l0.length : Int) < (y180.length : Int) then (some ((rd y180 (l0.length : Int)) == 7)) else (none)) else (none)) else (none))) else (none)) else (none))) else (none)) else (none)))) else (none)) else (none)))))) = some r := by first | (rw [hy183]; with_reducible exact H) | (have H2_ := (Option.bind_some _ _).symm.trans H; rw [hy183]; with_reducible exact H2_) | (have H2_ := (Option.bind_some _ _).symm.trans H; with_reducible exact H2_) | with_reducible exact H | (rw [hy183]; exact H) | exact H
                have Ny183 := Aside0.mk hy183
                clear hy183
                replace H := Option.bind_eq_some_iff.mp H
                obtain ⟨t187, A130, H⟩ := H
                replace H : ((vint_PutInt.f (y180.take ((l0.length : Int) : Int).toNat) (wrap64 (a1))).bind fun t194 => ((vint_PutText.f (y180.take ((l0.length : Int) : Int).toNat) a2).bind fun t201 => ((treillageref03_Num.f kj3 a1).bind fun t204 => (if (strOfNums l0).size + t204.size ≤ 9223372036854775807 then (if (strOfNums t187).toList = ((strOfNums l0) ++ t204).toList then ((treillageref03_Sign.f (wrap64 (a1))).bind fun t205 => ((treillageref03_Num.f kj3 t205).bind fun t206 => (if (strOfNums l0).size + t206.size ≤ 9223372036854775807 then (if (strOfNums t194).toList = ((strOfNums l0) ++ t206).toList then ((treillageref03_Text.f kj3 a2).bind fun t207 => (if (strOfNums l0).size + t207.size ≤ 9223372036854775807 then (if (strOfNums t201).toList = ((strOfNums l0) ++ t207).toList then ((treillagelaw03_awake.f).bind fun t208 => (if t208 = true then (if (strOfNums (y180.take ((l0.length : Int) : Int).toNat)).toList = (strOfNums l0).toList then (if (l0.length : Int) < (y180.length : Int) then (some ((rd y180 (l0.length : Int)) == 7)) else (none)) else (none)) else (none))) else (none)) else (none))) else (none)) else (none)))) else (none)) else (none))))) = some r := H
                have A13 := Aside0.mk A130
                clear A130
                have c14b0 := eq_true (of_decide_eq_true (by first | (with_reducible assumption) | assumption) : 0 ≤ (l0.length : Int))
                have c15b0 := eq_true (of_decide_eq_true (by first | (with_reducible assumption) | assumption) : (l0.length : Int) ≤ (y180.length : Int))
                have hy183 : y183 = (y180.take ((l0.length : Int) : Int).toNat) := Ny183.out
                replace H : ((vint_PutInt.f y183 (wrap64 (a1))).bind fun t194 => ((vint_PutText.f (y180.take ((l0.length : Int) : Int).toNat) a2).bind fun t201 => ((treillageref03_Num.f kj3 a1).bind fun t204 => (if (strOfNums l0).size + t204.size ≤ 9223372036854775807 then (if (strOfNums t187).toList = ((strOfNums l0) ++ t204).toList then ((treillageref03_Sign.f (wrap64 (a1))).bind fun t205 => ((treillageref03_Num.f kj3 t205).bind fun t206 => (if (strOfNums l0).size + t206.size ≤ 9223372036854775807 then (if (strOfNums t194).toList = ((strOfNums l0) ++ t206).toList then ((treillageref03_Text.f kj3 a2).bind fun t207 => (if (strOfNums l0).size + t207.size ≤ 9223372036854775807 then (if (strOfNums t201).toList = ((strOfNums l0) ++ t207).toList then ((treillagelaw03_awake.f).bind fun t208 => (if t208 = true then (if (strOfNums (y180.take ((l0.length : Int) : Int).toNat)).toList = (strOfNums l0).toList then (if (l0.length : Int) < (y180.length : Int) then (some ((rd y180 (l0.length : Int)) == 7)) else (none)) else (none)) else (none))) else (none)) else (none))) else (none)) else (none)))) else (none)) else (none))))) = some r := by first | (rw [hy183]; with_reducible exact H) | (have H2_ := (Option.bind_some _ _).symm.trans H; rw [hy183]; with_reducible exact H2_) | (have H2_ := (Option.bind_some _ _).symm.trans H; with_reducible exact H2_) | with_reducible exact H | (rw [hy183]; exact H) | exact H
                have Ny183 := Aside0.mk hy183
                clear hy183
                replace H := Option.bind_eq_some_iff.mp H
                obtain ⟨t194, A160, H⟩ := H
                replace H : ((vint_PutText.f (y180.take ((l0.length : Int) : Int).toNat) a2).bind fun t201 => ((treillageref03_Num.f kj3 a1).bind fun t204 => (if (strOfNums l0).size + t204.size ≤ 9223372036854775807 then (if (strOfNums t187).toList = ((strOfNums l0) ++ t204).toList then ((treillageref03_Sign.f (wrap64 (a1))).bind fun t205 => ((treillageref03_Num.f kj3 t205).bind fun t206 => (if (strOfNums l0).size + t206.size ≤ 9223372036854775807 then (if (strOfNums t194).toList = ((strOfNums l0) ++ t206).toList then ((treillageref03_Text.f kj3 a2).bind fun t207 => (if (strOfNums l0).size + t207.size ≤ 9223372036854775807 then (if (strOfNums t201).toList = ((strOfNums l0) ++ t207).toList then ((treillagelaw03_awake.f).bind fun t208 => (if t208 = true then (if (strOfNums (y180.take ((l0.length : Int) : Int).toNat)).toList = (strOfNums l0).toList then (if (l0.length : Int) < (y180.length : Int) then (some ((rd y180 (l0.length : Int)) == 7)) else (none)) else (none)) else (none))) else (none)) else (none))) else (none)) else (none)))) else (none)) else (none)))) = some r := H
                have A16 := Aside0.mk A160
                clear A160
                have c17b0 := eq_true (of_decide_eq_true (by first | (with_reducible assumption) | assumption) : 0 ≤ (l0.length : Int))
                have c18b0 := eq_true (of_decide_eq_true (by first | (with_reducible assumption) | assumption) : (l0.length : Int) ≤ (y180.length : Int))
                have hy183 : y183 = (y180.take ((l0.length : Int) : Int).toNat) := Ny183.out
                replace H : ((vint_PutText.f y183 a2).bind fun t201 => ((treillageref03_Num.f kj3 a1).bind fun t204 => (if (strOfNums l0).size + t204.size ≤ 9223372036854775807 then (if (strOfNums t187).toList = ((strOfNums l0) ++ t204).toList then ((treillageref03_Sign.f (wrap64 (a1))).bind fun t205 => ((treillageref03_Num.f kj3 t205).bind fun t206 => (if (strOfNums l0).size + t206.size ≤ 9223372036854775807 then (if (strOfNums t194).toList = ((strOfNums l0) ++ t206).toList then ((treillageref03_Text.f kj3 a2).bind fun t207 => (if (strOfNums l0).size + t207.size ≤ 9223372036854775807 then (if (strOfNums t201).toList = ((strOfNums l0) ++ t207).toList then ((treillagelaw03_awake.f).bind fun t208 => (if t208 = true then (if (strOfNums (y180.take ((l0.length : Int) : Int).toNat)).toList = (strOfNums l0).toList then (if (l0.length : Int) < (y180.length : Int) then (some ((rd y180 (l0.length : Int)) == 7)) else (none)) else (none)) else (none))) else (none)) else (none))) else (none)) else (none)))) else (none)) else (none)))) = some r := by first | (rw [hy183]; with_reducible exact H) | (have H2_ := (Option.bind_some _ _).symm.trans H; rw [hy183]; with_reducible exact H2_) | (have H2_ := (Option.bind_some _ _).symm.trans H; with_reducible exact H2_) | with_reducible exact H | (rw [hy183]; exact H) | exact H
                have Ny183 := Aside0.mk hy183
                clear hy183
                replace H := Option.bind_eq_some_iff.mp H
                obtain ⟨t201, A190, H⟩ := H
                replace H : ((treillageref03_Num.f kj3 a1).bind fun t204 => (if (strOfNums l0).size + t204.size ≤ 9223372036854775807 then (if (strOfNums t187).toList = ((strOfNums l0) ++ t204).toList then ((treillageref03_Sign.f (wrap64 (a1))).bind fun t205 => ((treillageref03_Num.f kj3 t205).bind fun t206 => (if (strOfNums l0).size + t206.size ≤ 9223372036854775807 then (if (strOfNums t194).toList = ((strOfNums l0) ++ t206).toList then ((treillageref03_Text.f kj3 a2).bind fun t207 => (if (strOfNums l0).size + t207.size ≤ 9223372036854775807 then (if (strOfNums t201).toList = ((strOfNums l0) ++ t207).toList then ((treillagelaw03_awake.f).bind fun t208 => (if t208 = true then (if (strOfNums (y180.take ((l0.length : Int) : Int).toNat)).toList = (strOfNums l0).toList then (if (l0.length : Int) < (y180.length : Int) then (some ((rd y180 (l0.length : Int)) == 7)) else (none)) else (none)) else (none))) else (none)) else (none))) else (none)) else (none)))) else (none)) else (none))) = some r := H
                have A19 := Aside0.mk A190
                clear A190
                replace H := Option.bind_eq_some_iff.mp H
                obtain ⟨t204, A200, H⟩ := H
                replace H : (if (strOfNums l0).size + t204.size ≤ 9223372036854775807 then (if (strOfNums t187).toList = ((strOfNums l0) ++ t204).toList then ((treillageref03_Sign.f (wrap64 (a1))).bind fun t205 => ((treillageref03_Num.f kj3 t205).bind fun t206 => (if (strOfNums l0).size + t206.size ≤ 9223372036854775807 then (if (strOfNums t194).toList = ((strOfNums l0) ++ t206).toList then ((treillageref03_Text.f kj3 a2).bind fun t207 => (if (strOfNums l0).size + t207.size ≤ 9223372036854775807 then (if (strOfNums t201).toList = ((strOfNums l0) ++ t207).toList then ((treillagelaw03_awake.f).bind fun t208 => (if t208 = true then (if (strOfNums (y180.take ((l0.length : Int) : Int).toNat)).toList = (strOfNums l0).toList then (if (l0.length : Int) < (y180.length : Int) then (some ((rd y180 (l0.length : Int)) == 7)) else (none)) else (none)) else (none))) else (none)) else (none))) else (none)) else (none)))) else (none)) else (none)) = some r := H
                have A20 := Aside0.mk A200
                clear A200
                by_cases c21 : (strOfNums l0).size + t204.size ≤ 9223372036854775807
                · rw [if_pos c21] at H
                  have c21b0 := eq_true c21
                  have c21b1 : decide ((strOfNums l0).size + t204.size ≤ 9223372036854775807) = true := decide_eq_true c21
                  try have c21b2 : (9223372036854775807 < (strOfNums l0).size + t204.size) = False := eq_false (Nat.not_lt.2 c21)
                  by_cases c22 : (strOfNums t187).toList = ((strOfNums l0) ++ t204).toList
                  · rw [if_pos c22] at H
                    have c22b0 : ((strOfNums t187).toList == ((strOfNums l0) ++ t204).toList) = true := beq_iff_eq.mpr c22
                    have c22b1 : ((strOfNums t187).toList != ((strOfNums l0) ++ t204).toList) = false := bne_eq_false_iff_eq.mpr c22
                    clear c22
                    replace H := Option.bind_eq_some_iff.mp H
                    obtain ⟨t205, A230, H⟩ := H
                    replace H : ((treillageref03_Num.f kj3 t205).bind fun t206 => (if (strOfNums l0).size + t206.size ≤ 9223372036854775807 then (if (strOfNums t194).toList = ((strOfNums l0) ++ t206).toList then ((treillageref03_Text.f kj3 a2).bind fun t207 => (if (strOfNums l0).size + t207.size ≤ 9223372036854775807 then (if (strOfNums t201).toList = ((strOfNums l0) ++ t207).toList then ((treillagelaw03_awake.f).bind fun t208 => (if t208 = true then (if (strOfNums (y180.take ((l0.length : Int) : Int).toNat)).toList = (strOfNums l0).toList then (if (l0.length : Int) < (y180.length : Int) then (some ((rd y180 (l0.length : Int)) == 7)) else (none)) else (none)) else (none))) else (none)) else (none))) else (none)) else (none))) = some r := H
                    have A23 := Aside0.mk A230
                    clear A230
                    replace H := Option.bind_eq_some_iff.mp H
                    obtain ⟨t206, A240, H⟩ := H
                    replace H : (if (strOfNums l0).size + t206.size ≤ 9223372036854775807 then (if (strOfNums t194).toList = ((strOfNums l0) ++ t206).toList then ((treillageref03_Text.f kj3 a2).bind fun t207 => (if (strOfNums l0).size + t207.size ≤ 9223372036854775807 then (if (strOfNums t201).toList = ((strOfNums l0) ++ t207).toList then ((treillagelaw03_awake.f).bind fun t208 => (if t208 = true then (if (strOfNums (y180.take ((l0.length : Int) : Int).toNat)).toList = (strOfNums l0).toList then (if (l0.length : Int) < (y180.length : Int) then (some ((rd y180 (l0.length : Int)) == 7)) else (none)) else (none)) else (none))) else (none)) else (none))) else (none)) else (none)) = some r := H
                    have A24 := Aside0.mk A240
                    clear A240
                    by_cases c25 : (strOfNums l0).size + t206.size ≤ 9223372036854775807
                    · rw [if_pos c25] at H
                      have c25b0 := eq_true c25
                      have c25b1 : decide ((strOfNums l0).size + t206.size ≤ 9223372036854775807) = true := decide_eq_true c25
                      try have c25b2 : (9223372036854775807 < (strOfNums l0).size + t206.size) = False := eq_false (Nat.not_lt.2 c25)
                      by_cases c26 : (strOfNums t194).toList = ((strOfNums l0) ++ t206).toList
                      · rw [if_pos c26] at H
                        have c26b0 : ((strOfNums t194).toList == ((strOfNums l0) ++ t206).toList) = true := beq_iff_eq.mpr c26
                        have c26b1 : ((strOfNums t194).toList != ((strOfNums l0) ++ t206).toList) = false := bne_eq_false_iff_eq.mpr c26
                        clear c26
                        replace H := Option.bind_eq_some_iff.mp H
                        obtain ⟨t207, A270, H⟩ := H
                        replace H : (if (strOfNums l0).size + t207.size ≤ 9223372036854775807 then (if (strOfNums t201).toList = ((strOfNums l0) ++ t207).toList then ((treillagelaw03_awake.f).bind fun t208 => (if t208 = true then (if (strOfNums (y180.take ((l0.length : Int) : Int).toNat)).toList = (strOfNums l0).toList then (if (l0.length : Int) < (y180.length : Int) then (some ((rd y180 (l0.length : Int)) == 7)) else (none)) else (none)) else (none))) else (none)) else (none)) = some r := H
                        have A27 := Aside0.mk A270
                        clear A270
                        by_cases c28 : (strOfNums l0).size + t207.size ≤ 9223372036854775807
                        · rw [if_pos c28] at H
                          have c28b0 := eq_true c28
                          have c28b1 : decide ((strOfNums l0).size + t207.size ≤ 9223372036854775807) = true := decide_eq_true c28
                          try have c28b2 : (9223372036854775807 < (strOfNums l0).size + t207.size) = False := eq_false (Nat.not_lt.2 c28)
                          by_cases c29 : (strOfNums t201).toList = ((strOfNums l0) ++ t207).toList
                          · rw [if_pos c29] at H
                            have c29b0 : ((strOfNums t201).toList == ((strOfNums l0) ++ t207).toList) = true := beq_iff_eq.mpr c29
                            have c29b1 : ((strOfNums t201).toList != ((strOfNums l0) ++ t207).toList) = false := bne_eq_false_iff_eq.mpr c29
                            clear c29
                            replace H := Option.bind_eq_some_iff.mp H
                            obtain ⟨t208, A300, H⟩ := H
                            replace H : (if t208 = true then (if (strOfNums (y180.take ((l0.length : Int) : Int).toNat)).toList = (strOfNums l0).toList then (if (l0.length : Int) < (y180.length : Int) then (some ((rd y180 (l0.length : Int)) == 7)) else (none)) else (none)) else (none)) = some r := H
                            have A30 := Aside0.mk A300
                            clear A300
                            by_cases c31 : t208 = true
                            · subst c31
                              have H1 : (if (strOfNums (y180.take ((l0.length : Int) : Int).toNat)).toList = (strOfNums l0).toList then (if (l0.length : Int) < (y180.length : Int) then (some ((rd y180 (l0.length : Int)) == 7)) else (none)) else (none)) = some r := by rw [if_pos rfl] at H; exact H
                              clear H
                              have H := H1
                              clear H1
                              have c32b0 := eq_true (of_decide_eq_true (by first | (with_reducible assumption) | assumption) : 0 ≤ (l0.length : Int))
                              have c33b0 := eq_true (of_decide_eq_true (by first | (with_reducible assumption) | assumption) : (l0.length : Int) ≤ (y180.length : Int))
                              have hy183 : y183 = (y180.take ((l0.length : Int) : Int).toNat) := Ny183.out
                              replace H : (if (strOfNums y183).toList = (strOfNums l0).toList then (if (l0.length : Int) < (y180.length : Int) then (some ((rd y180 (l0.length : Int)) == 7)) else (none)) else (none)) = some r := by first | (rw [hy183]; with_reducible exact H) | (have H2_ := (Option.bind_some _ _).symm.trans H; rw [hy183]; with_reducible exact H2_) | (have H2_ := (Option.bind_some _ _).symm.trans H; with_reducible exact H2_) | with_reducible exact H | (rw [hy183]; exact H) | exact H
                              have Ny183 := Aside0.mk hy183
                              clear hy183
                              by_cases c34 : (strOfNums y183).toList = (strOfNums l0).toList
                              · rw [if_pos c34] at H
                                have c34b0 : ((strOfNums y183).toList == (strOfNums l0).toList) = true := beq_iff_eq.mpr c34
                                have c34b1 : ((strOfNums y183).toList != (strOfNums l0).toList) = false := bne_eq_false_iff_eq.mpr c34
                                clear c34
                                by_cases c35 : (l0.length : Int) < (y180.length : Int)
                                · rw [if_pos c35] at H
                                  have c35b0 : decide ((l0.length : Int) < (y180.length : Int)) = true := decide_eq_true c35
                                  have c35b1 : decide (l0.length < y180.length) = true := decide_eq_true (Int.ofNat_lt.mp c35)
                                  clear c35
                                  obtain rfl := Option.some.inj H
                                  have hcv36 := Kd.C_string (P := Try.prog) (A := A0) (c := c0) Try.underlying34 Try.underlying5 Try.underlying9 (Kd.C_below HR0.out HB.out)
                                  try go_wp2_with (first | ((with_reducible refine gate_dst (N := 23) rfl ?_); (try (refine gate_guard (by rfl) ?_; dsimp only)); refine Kd.R_lit (Kd.int .u8) _ 5 ?hg (N := 23) ?hd (xs := ([] : List Int)) (inner := []) (ok := fun _ => True) (okp := fun _ => True) ?hr ?hp (fun _ hk => hk) trivial (Below.refl _ _) (Nat.le_refl _) (by simp) ?_; (case hd => rfl); (case hg => rfl); (case hr => first | (go_simp; done) | (go_simp; rfl)); (case hp => exact (Reps.none _ _)); intro v175 w37 ho38 hb hg_ hnew_; clear hg_ hnew_; (first | rw [← Ny174.out] at ho38 | (simp only [Int.reduceToNat] at ho38; rw [← Ny174.out] at ho38)); have n0_ := Aside0.mk (Kd.R_lower ho38 (below_size (by repeat (first | (with_reducible first | exact HB.out | apply below_alloc | apply pw_below_drewN | apply below_drew1) | exact HB.out)))); have n1_ := Aside0.mk (below_step (by repeat (first | (with_reducible first | exact HB.out | apply below_alloc | apply pw_below_drewN | apply below_drew1) | exact HB.out)) hb); clear HB; have HO176 := n0_; have HB := n1_; clear n0_ n1_; clear hb ho38) | ((with_reducible refine gate_builtin (b := .append) (xs := #[.tmp 23, .tmp 24]) rfl ?_); (try (refine gate_guard (by rfl) ?_; dsimp only)); at_builtin; refine Kd.R_append_rows (Kd.int .u8) (w0 := w) w.heap.size rfl (.tmp 23) (.tmp 24) 34 5 (.int .u8 0) 1 rfl Try.underlying34 info5 rfl (by decide) (by omega) v175 y174 l0 _ _ _ (fun _ => True) (fun _ => False) rfl rfl ?aO ?aR (fun _ _ h => h) (fun _ h => h.elim) ?aF ?aB ?aS ?aL ?_; (case aR => repeat (first | exact (Kd.C_below HR0.out HB.out) | (with_reducible refine Kd.C_alloc ?_ _) | (with_reducible refine Kd.C_drewN ?_ _) | (with_reducible refine Kd.C_drew ?_))); (case aB => exact (by repeat (first | (with_reducible first | exact HB.out | apply below_alloc | apply pw_below_drewN | apply below_drew1) | exact HB.out))); (case aF => exact (fun _ _ => trivial)); (case aO => exact (by (with_reducible repeat (first | apply Kd.R_alloc | apply Kd.R_drewN | apply Kd.R_drew)); exact HO176.out)); (case aS => exact (below_size (by repeat (first | (with_reducible first | exact HB.out | apply below_alloc | apply pw_below_drewN | apply below_drew1) | exact HB.out)))); (case aL => have := LMc9.out; omega); intro v178 w39 ho hb hg hat; rw [← Ny177.out] at ho; have n0_ := Aside0.mk (hb); have n1_ := Aside0.mk (ho); clear HB; clear HO176; have HB := n0_; have HO179 := n1_; clear n0_ n1_; clear ho hb hg hat) | ((with_reducible refine gate_builtin (b := .append) (xs := #[.tmp 26, .tmp 27]) rfl ?_); (try (refine gate_guard (by rfl) ?_; dsimp only)); at_builtin; refine Kd.R_append (Kd.int .u8) (w0 := w) w.heap.size rfl (.tmp 26) (.tmp 27) 34 5 (.int .u8 0) 1 rfl Try.underlying34 info5 rfl (by decide) (by omega) v178 y177 7 [.int .u8 7] (fun _ => True) (fun _ => False) rfl rfl ?aP (fun _ hk => hk.elim) ?aF ?aO ?aB ?aS ?aL ?_; (case aP => exact rfl); (case aB => exact (by repeat (first | (with_reducible first | exact HB.out | apply below_alloc | apply pw_below_drewN | apply below_drew1) | exact HB.out))); (case aF => exact (fun _ _ => trivial)); (case aO => exact (by (with_reducible repeat (first | apply Kd.R_alloc | apply Kd.R_drewN | apply Kd.R_drew)); exact HO179.out)); (case aS => exact (below_size (by repeat (first | (with_reducible first | exact HB.out | apply below_alloc | apply pw_below_drewN | apply below_drew1) | exact HB.out)))); (case aL => have := LMc10.out; omega); intro v181 w40 ho hb hg hat; rw [← Ny180.out] at ho; have n0_ := Aside0.mk (hb); have n1_ := Aside0.mk (ho); clear HB; clear HO179; have HB := n0_; have HO182 := n1_; clear n0_ n1_; clear ho hb hg hat))
                                  have n0_ := Aside0.mk (Kd.R_drew HO182.out)
                                  have n1_ := Aside0.mk (below_drew1 HB.out)
                                  clear HO182
                                  clear HB
                                  have HO182 := n0_
                                  have HB := n1_
                                  clear n0_ n1_
                                  obtain ⟨Ao43, co43, eo43⟩ := Kd.R_slice HO182.out
                                  (first | subst eo43 | (injection eo43 with f1_ f2_ f3_; have f4_ := f1_.symm; have f5_ := f3_.symm; clear f1_ f2_ f3_; subst f4_; subst f5_))
                                  have q42 : ((l0.length : Int) : Int) ≤ ((y180.length : Int) : Int) := of_decide_eq_true (by first | (with_reducible assumption) | assumption)
                                  obtain ⟨i042, hi042, _, hsz42, _⟩ := info_parts info5
                                  have hroom42 : y180.length ≤ co43 := (Kd.R_reads' HO182.out).2.1
                                  have hC42 : Kd.C (Kd.int .u8) _ Ao43 y180.length y180 := (Kd.R_reads' HO182.out).2.2
                                  have hcut42 := cut_to (P := Try.prog) 34 5 .i64 Try.underlying34 hi042 Ao43 y180.length co43 (l0.length : Int) (of_decide_eq_true (by first | (with_reducible assumption) | assumption)) q42 hroom42
                                  have hr42 := Kd.C_take (m := ((l0.length : Int) : Int).toNat) hC42 (by omega)
                                  have hy42 : y183.length = ((l0.length : Int) : Int).toNat := (by rw [Ny183.out, List.length_take]; omega)
                                  rw [← Ny183.out] at hr42
                                  rw [← hy42] at hcut42
                                  have HR186 := Aside0.mk hr42
                                  have HC186 := Aside0.mk (show y183.length ≤ co43 from by omega)
                                  clear hr42 hC42 hroom42 hi042 hsz42
                                  have KY42 := Aside0.mk hy42
                                  clear hy42
                                  have KL42 := Aside0.mk (show ((l0.length : Int) : Int).toNat ≤ y180.length from by omega)
                                  replace q42 := eq_true q42
                                  have q44 : ((l0.length : Int) : Int) ≤ ((y180.length : Int) : Int) := of_decide_eq_true (by first | (with_reducible assumption) | assumption)
                                  obtain ⟨i044, hi044, _, hsz44, _⟩ := info_parts info5
                                  have hroom44 : y180.length ≤ co43 := (Kd.R_reads' HO182.out).2.1
                                  have hC44 : Kd.C (Kd.int .u8) _ Ao43 y180.length y180 := (Kd.R_reads' HO182.out).2.2
                                  have hcut44 := cut_to (P := Try.prog) 34 5 .i64 Try.underlying34 hi044 Ao43 y180.length co43 (l0.length : Int) (of_decide_eq_true (by first | (with_reducible assumption) | assumption)) q44 hroom44
                                  have hr44 := Kd.C_take (m := ((l0.length : Int) : Int).toNat) hC44 (by omega)
                                  have hy44 : y183.length = ((l0.length : Int) : Int).toNat := (by rw [Ny183.out, List.length_take]; omega)
                                  rw [← Ny183.out] at hr44
                                  rw [← hy44] at hcut44
                                  have HR193 := Aside0.mk hr44
                                  have HC193 := Aside0.mk (show y183.length ≤ co43 from by omega)
                                  clear hr44 hC44 hroom44 hi044 hsz44
                                  have KY44 := Aside0.mk hy44
                                  clear hy44
                                  have KL44 := Aside0.mk (show ((l0.length : Int) : Int).toNat ≤ y180.length from by omega)
                                  replace q44 := eq_true q44
                                  have q45 : ((l0.length : Int) : Int) ≤ ((y180.length : Int) : Int) := of_decide_eq_true (by first | (with_reducible assumption) | assumption)
                                  obtain ⟨i045, hi045, _, hsz45, _⟩ := info_parts info5
                                  have hroom45 : y180.length ≤ co43 := (Kd.R_reads' HO182.out).2.1
                                  have hC45 : Kd.C (Kd.int .u8) _ Ao43 y180.length y180 := (Kd.R_reads' HO182.out).2.2
                                  have hcut45 := cut_to (P := Try.prog) 34 5 .i64 Try.underlying34 hi045 Ao43 y180.length co43 (l0.length : Int) (of_decide_eq_true (by first | (with_reducible assumption) | assumption)) q45 hroom45
                                  have hr45 := Kd.C_take (m := ((l0.length : Int) : Int).toNat) hC45 (by omega)
                                  have hy45 : y183.length = ((l0.length : Int) : Int).toNat := (by rw [Ny183.out, List.length_take]; omega)
                                  rw [← Ny183.out] at hr45
                                  rw [← hy45] at hcut45
                                  have HR200 := Aside0.mk hr45
                                  have HC200 := Aside0.mk (show y183.length ≤ co43 from by omega)
                                  clear hr45 hC45 hroom45 hi045 hsz45
                                  have KY45 := Aside0.mk hy45
                                  clear hy45
                                  have KL45 := Aside0.mk (show ((l0.length : Int) : Int).toNat ≤ y180.length from by omega)
                                  replace q45 := eq_true q45
                                  refine start_ (n := 22) (S := fun w' => True) (ds := []) #[false, false, false, false, false, false, false, false, false, false, false, false, false, false, false, false, false, false, false, false, false, false] (by kernel_rfl) rfl rfl trivial (fun hHeld => ?_); refine with_tabW treillagelaw03_VintPuts.tab6 treillagelaw03_VintPuts.bits6 (fun HT_ HW_ => ?_)
                                  generalize w40.drew = w41 at HO182 HB HR186 HR193 HR200 hHeld ⊢
                                  refine pure_ (i := 0) (N := some 29) (v := ?_) (a' := ?_) #[true, false, false, false, false, false, false, false, false, false, false, false, false, false, false, false, false, false, false, false, false, false] rfl rfl (any_of HT_.out (by kernel_rfl)) (fun _ _ _ h => h) (Or.inl ⟨by rfl, ?_⟩) ?_ ?_
                                  rotate_left
                                  · intro w'
                                    go_simp
                                    with_reducible rfl
                                  rotate_left
                                  · simp only [Act.put, List.setIfInBounds_toArray, List.set_cons_zero, List.set_cons_succ, i64_w, i32_w]
                                    rfl
                                  refine pure_ (i := 1) (N := some 30) (v := ?_) (a' := ?_) #[true, true, false, false, false, false, false, false, false, false, false, false, false, false, false, false, false, false, false, false, false, false] rfl rfl (any_of HT_.out (by kernel_rfl)) (fun _ _ _ h => h) (Or.inl ⟨by rfl, ?_⟩) ?_ ?_
                                  rotate_left
                                  · intro w'
                                    go_simp
                                    with_reducible rfl
                                  rotate_left
                                  · simp only [Act.put, List.setIfInBounds_toArray, List.set_cons_zero, List.set_cons_succ, i64_w, i32_w]
                                    rfl
                                  refine pure_ (i := 2) (N := some 31) (v := ?_) (a' := ?_) #[true, true, true, false, false, false, false, false, false, false, false, false, false, false, false, false, false, false, false, false, false, false] rfl rfl (any_of HT_.out (by kernel_rfl)) (fun _ _ _ h => h) (Or.inl ⟨by rfl, ?_⟩) ?_ ?_
                                  rotate_left
                                  · intro w'
                                    go_simp
                                    with_reducible rfl
                                  rotate_left
                                  · simp only [Act.put, List.setIfInBounds_toArray, List.set_cons_zero, List.set_cons_succ, i64_w, i32_w]
                                    rfl
                                  refine pure_ (i := 3) (N := some 32) (v := ?_) (a' := ?_) #[true, true, true, true, false, false, false, false, false, false, false, false, false, false, false, false, false, false, false, false, false, false] rfl rfl (any_of HT_.out (by kernel_rfl)) (fun _ _ _ h => h) (Or.inl ⟨by rfl, ?_⟩) ?_ ?_
                                  rotate_left
                                  · intro w'
                                    go_simp
                                    with_reducible rfl
                                  rotate_left
                                  · simp only [Act.put, List.setIfInBounds_toArray, List.set_cons_zero, List.set_cons_succ, i64_w, i32_w]
                                    rfl
                                  refine pure_ (i := 4) (N := some 33) (v := ?_) (a' := ?_) #[true, true, true, true, true, false, false, false, false, false, false, false, false, false, false, false, false, false, false, false, false, false] rfl rfl (any_of HT_.out (by kernel_rfl)) (fun _ _ _ h => h) (Or.inl ⟨by rfl, ?_⟩) ?_ ?_
                                  rotate_left
                                  · intro w'
                                    go_simp
                                    with_reducible rfl
                                  rotate_left
                                  · simp only [Act.put, List.setIfInBounds_toArray, List.set_cons_zero, List.set_cons_succ, i64_w, i32_w]
                                    rfl
                                  refine pure_ (i := 6) (N := some 35) (v := ?_) (a' := ?_) #[true, true, true, true, true, false, true, false, false, false, false, false, false, false, false, false, false, false, false, false, false, false] rfl rfl (any_of HT_.out (by kernel_rfl)) (fun _ _ _ h => h) (Or.inl ⟨by rfl, ?_⟩) ?_ ?_
                                  rotate_left
                                  · intro w'
                                    go_simp
                                    with_reducible rfl
                                  rotate_left
                                  · simp only [Act.put, List.setIfInBounds_toArray, List.set_cons_zero, List.set_cons_succ, i64_w, i32_w]
                                    rfl
                                  refine pure_ (i := 7) (N := some 36) (v := ?_) (a' := ?_) #[true, true, true, true, true, false, true, true, false, false, false, false, false, false, false, false, false, false, false, false, false, false] rfl rfl (any_of HT_.out (by kernel_rfl)) (fun _ _ _ h => h) (Or.inl ⟨by rfl, ?_⟩) ?_ ?_
                                  rotate_left
                                  · intro w'
                                    go_simp
                                    with_reducible rfl
                                  rotate_left
                                  · simp only [Act.put, List.setIfInBounds_toArray, List.set_cons_zero, List.set_cons_succ, i64_w, i32_w]
                                    rfl
                                  refine pure_ (i := 8) (N := some 37) (v := ?_) (a' := ?_) #[true, true, true, true, true, false, true, true, true, false, false, false, false, false, false, false, false, false, false, false, false, false] rfl rfl (any_of HT_.out (by kernel_rfl)) (fun _ _ _ h => h) (Or.inl ⟨by rfl, ?_⟩) ?_ ?_
                                  rotate_left
                                  · intro w'
                                    go_simp
                                    with_reducible rfl
                                  rotate_left
                                  · simp only [Act.put, List.setIfInBounds_toArray, List.set_cons_zero, List.set_cons_succ, i64_w, i32_w]
                                    rfl
                                  refine pure_ (i := 9) (N := some 38) (v := ?_) (a' := ?_) #[true, true, true, true, true, false, true, true, true, true, false, false, false, false, false, false, false, false, false, false, false, false] rfl rfl (any_of HT_.out (by kernel_rfl)) (fun _ _ _ h => h) (Or.inl ⟨by rfl, ?_⟩) ?_ ?_
                                  rotate_left
                                  · intro w'
                                    go_simp
                                    with_reducible rfl
                                  rotate_left
                                  · simp only [Act.put, List.setIfInBounds_toArray, List.set_cons_zero, List.set_cons_succ, i64_w, i32_w]
                                    rfl
                                  refine pure_ (i := 10) (N := some 39) (v := ?_) (a' := ?_) #[true, true, true, true, true, false, true, true, true, true, true, false, false, false, false, false, false, false, false, false, false, false] rfl rfl (any_of HT_.out (by kernel_rfl)) (fun _ _ _ h => h) (Or.inl ⟨by rfl, ?_⟩) ?_ ?_
                                  rotate_left
                                  · intro w'
                                    go_simp
                                    with_reducible rfl
                                  rotate_left
                                  · simp only [Act.put, List.setIfInBounds_toArray, List.set_cons_zero, List.set_cons_succ, i64_w, i32_w]
                                    rfl
                                  refine pure_ (i := 11) (N := some 40) (v := ?_) (a' := ?_) #[true, true, true, true, true, false, true, true, true, true, true, true, false, false, false, false, false, false, false, false, false, false] rfl rfl (any_of HT_.out (by kernel_rfl)) (fun _ _ _ h => h) (Or.inl ⟨by rfl, ?_⟩) ?_ ?_
                                  rotate_left
                                  · intro w'
                                    go_simp
                                    with_reducible rfl
                                  rotate_left
                                  · simp only [Act.put, List.setIfInBounds_toArray, List.set_cons_zero, List.set_cons_succ, i64_w, i32_w]
                                    rfl
                                  refine pure_ (i := 13) (N := some 42) (v := ?_) (a' := ?_) #[true, true, true, true, true, false, true, true, true, true, true, true, false, true, false, false, false, false, false, false, false, false] rfl rfl (any_of HT_.out (by kernel_rfl)) (fun _ _ _ h => h) (Or.inl ⟨by rfl, ?_⟩) ?_ ?_
                                  rotate_left
                                  · intro w'
                                    go_simp
                                    with_reducible rfl
                                  rotate_left
                                  · simp only [Act.put, List.setIfInBounds_toArray, List.set_cons_zero, List.set_cons_succ, i64_w, i32_w]
                                    rfl
                                  refine pure_ (i := 14) (N := some 43) (v := ?_) (a' := ?_) #[true, true, true, true, true, false, true, true, true, true, true, true, false, true, true, false, false, false, false, false, false, false] rfl rfl (any_of HT_.out (by kernel_rfl)) (fun _ _ _ h => h) (Or.inl ⟨by rfl, ?_⟩) ?_ ?_
                                  rotate_left
                                  · intro w'
                                    go_simp
                                    with_reducible rfl
                                  rotate_left
                                  · simp only [Act.put, List.setIfInBounds_toArray, List.set_cons_zero, List.set_cons_succ, i64_w, i32_w]
                                    rfl
                                  refine pure_ (i := 15) (N := some 44) (v := ?_) (a' := ?_) #[true, true, true, true, true, false, true, true, true, true, true, true, false, true, true, true, false, false, false, false, false, false] rfl rfl (any_of HT_.out (by kernel_rfl)) (fun _ _ _ h => h) (Or.inl ⟨by rfl, ?_⟩) ?_ ?_
                                  rotate_left
                                  · intro w'
                                    go_simp
                                    with_reducible rfl
                                  rotate_left
                                  · simp only [Act.put, List.setIfInBounds_toArray, List.set_cons_zero, List.set_cons_succ, i64_w, i32_w]
                                    rfl
                                  refine pure_ (i := 16) (N := some 45) (v := ?_) (a' := ?_) #[true, true, true, true, true, false, true, true, true, true, true, true, false, true, true, true, true, false, false, false, false, false] rfl rfl (any_of HT_.out (by kernel_rfl)) (fun _ _ _ h => h) (Or.inl ⟨by rfl, ?_⟩) ?_ ?_
                                  rotate_left
                                  · intro w'
                                    go_simp
                                    with_reducible rfl
                                  rotate_left
                                  · simp only [Act.put, List.setIfInBounds_toArray, List.set_cons_zero, List.set_cons_succ, i64_w, i32_w]
                                    rfl
                                  refine pure_ (i := 17) (N := some 46) (v := ?_) (a' := ?_) #[true, true, true, true, true, false, true, true, true, true, true, true, false, true, true, true, true, true, false, false, false, false] rfl rfl (any_of HT_.out (by kernel_rfl)) (fun _ _ _ h => h) (Or.inl ⟨by rfl, ?_⟩) ?_ ?_
                                  rotate_left
                                  · intro w'
                                    go_simp
                                    with_reducible rfl
                                  rotate_left
                                  · simp only [Act.put, List.setIfInBounds_toArray, List.set_cons_zero, List.set_cons_succ, i64_w, i32_w]
                                    rfl
                                  refine one_ (i := 5) (N := some 34) #[true, true, true, true, true, true, true, true, true, true, true, true, false, true, true, true, true, true, false, false, false, false] rfl rfl (one_of HT_.out (by kernel_rfl)) (by decide) (fun K hK => ?_)
                                  refine goes_ Try.func21 (by kernel_rfl) rfl #[.slice Ao43 y183.length co43, .int .u64 a1] (by rfl) rfl rfl (by (try simp only [List.map_toArray, List.map_cons, List.map_nil]); first | done | rfl | (simp only [List.length_drop, List.length_take]; rfl)) ?_
                                  with_reducible refine (vint_Put.calls _ _ y183 a1 t187 _ ?side1 ?side2 A13.out).mono ?_
                                  (case side1 => repeat (first | exact (by repeat (first | (with_reducible exact HR186.out) | (with_reducible refine Kd.C_alloc ?_ _) | (with_reducible refine Kd.C_drewN ?_ _) | (with_reducible refine Kd.C_drew ?_) | exact HR186.out)) | (with_reducible refine Kd.C_alloc ?_ _) | (with_reducible refine Kd.C_drewN ?_ _) | (with_reducible refine Kd.C_drew ?_)))
                                  (case side2 => exact HC186.out)
                                  rintro e w46 ⟨v188, rfl, ho0, hb⟩
                                  refine ⟨_, rfl, ?_⟩
                                  have n0_ := Aside0.mk (Kd.R_elder' (by (with_reducible repeat (first | apply Kd.R_alloc | apply Kd.R_drewN | apply Kd.R_drew)); exact HO182.out) (Kd.R_base ho0) hb)
                                  have n1_ := Aside0.mk (Kd.R_lower (Kd.R_new' ho0 (Kd.R_lt (by (with_reducible repeat (first | apply Kd.R_alloc | apply Kd.R_drewN | apply Kd.R_drew)); exact HO182.out))) (below_size (by repeat (first | (with_reducible first | exact HB.out | apply below_alloc | apply pw_below_drewN | apply below_drew1) | exact HB.out))))
                                  have n2_ := Aside0.mk (Kd.C_below (by repeat (first | (with_reducible exact HR186.out) | (with_reducible refine Kd.C_alloc ?_ _) | (with_reducible refine Kd.C_drewN ?_ _) | (with_reducible refine Kd.C_drew ?_) | exact HR186.out)) hb)
                                  have n3_ := Aside0.mk (Kd.C_below (by repeat (first | (with_reducible exact HR193.out) | (with_reducible refine Kd.C_alloc ?_ _) | (with_reducible refine Kd.C_drewN ?_ _) | (with_reducible refine Kd.C_drew ?_) | exact HR193.out)) hb)
                                  have n4_ := Aside0.mk (Kd.C_below (by repeat (first | (with_reducible exact HR200.out) | (with_reducible refine Kd.C_alloc ?_ _) | (with_reducible refine Kd.C_drewN ?_ _) | (with_reducible refine Kd.C_drew ?_) | exact HR200.out)) hb)
                                  have n5_ := Aside0.mk (below_step (by repeat (first | (with_reducible first | exact HB.out | apply below_alloc | apply pw_below_drewN | apply below_drew1) | exact HB.out)) hb)
                                  clear HO182
                                  clear HR186
                                  clear HR193
                                  clear HR200
                                  clear HB
                                  have HO182 := n0_
                                  have HO189 := n1_
                                  have HR186 := n2_
                                  have HR193 := n3_
                                  have HR200 := n4_
                                  have HB := n5_
                                  clear n0_ n1_ n2_ n3_ n4_ n5_
                                  (try clear hb)
                                  (try clear hb2)
                                  (try clear hk)
                                  (try clear hi)
                                  (try clear ho0)
                                  refine hK.out _ _ trivial (fun hHeld => ?_)
                                  clear hK K
                                  refine norm_ (a' := ?_) ?_ ?_
                                  rotate_left
                                  · show Act.put _ (some 34) _ = _
                                    simp only [Act.put, List.setIfInBounds_toArray, List.set_cons_zero, List.set_cons_succ, i64_w, i32_w]
                                    rfl
                                  refine one_ (i := 12) (N := some 41) #[true, true, true, true, true, true, true, true, true, true, true, true, true, true, true, true, true, true, false, false, false, false] rfl rfl (one_of HT_.out (by kernel_rfl)) (by decide) (fun K hK => ?_)
                                  refine goes_ Try.func22 (by kernel_rfl) rfl #[.slice Ao43 y183.length co43, .int .i64 (wrap64 (a1))] (by rfl) rfl rfl (by (try simp only [List.map_toArray, List.map_cons, List.map_nil]); first | done | rfl | (simp only [List.length_drop, List.length_take]; rfl)) ?_
                                  with_reducible refine (vint_PutInt.calls _ _ y183 (wrap64 (a1)) t194 _ ?side1 ?side2 A16.out).mono ?_
                                  (case side1 => repeat (first | exact (by repeat (first | (with_reducible exact HR193.out) | (with_reducible refine Kd.C_alloc ?_ _) | (with_reducible refine Kd.C_drewN ?_ _) | (with_reducible refine Kd.C_drew ?_) | exact HR193.out)) | (with_reducible refine Kd.C_alloc ?_ _) | (with_reducible refine Kd.C_drewN ?_ _) | (with_reducible refine Kd.C_drew ?_)))
                                  (case side2 => exact HC193.out)
                                  rintro e w47 ⟨v195, rfl, ho0, hb⟩
                                  refine ⟨_, rfl, ?_⟩
                                  have n0_ := Aside0.mk (Kd.R_elder' (by (with_reducible repeat (first | apply Kd.R_alloc | apply Kd.R_drewN | apply Kd.R_drew)); exact HO182.out) (Kd.R_base ho0) hb)
                                  have n1_ := Aside0.mk (Kd.R_elder' (by (with_reducible repeat (first | apply Kd.R_alloc | apply Kd.R_drewN | apply Kd.R_drew)); exact HO189.out) (Kd.R_base ho0) hb)
                                  have n2_ := Aside0.mk (Kd.R_lower (Kd.R_new' (Kd.R_new' ho0 (Kd.R_lt (by (with_reducible repeat (first | apply Kd.R_alloc | apply Kd.R_drewN | apply Kd.R_drew)); exact HO182.out))) (Kd.R_lt (by (with_reducible repeat (first | apply Kd.R_alloc | apply Kd.R_drewN | apply Kd.R_drew)); exact HO189.out))) (below_size (by repeat (first | (with_reducible first | exact HB.out | apply below_alloc | apply pw_below_drewN | apply below_drew1) | exact HB.out))))
                                  have n3_ := Aside0.mk (Kd.C_below (by repeat (first | (with_reducible exact HR186.out) | (with_reducible refine Kd.C_alloc ?_ _) | (with_reducible refine Kd.C_drewN ?_ _) | (with_reducible refine Kd.C_drew ?_) | exact HR186.out)) hb)
                                  have n4_ := Aside0.mk (Kd.C_below (by repeat (first | (with_reducible exact HR193.out) | (with_reducible refine Kd.C_alloc ?_ _) | (with_reducible refine Kd.C_drewN ?_ _) | (with_reducible refine Kd.C_drew ?_) | exact HR193.out)) hb)
                                  have n5_ := Aside0.mk (Kd.C_below (by repeat (first | (with_reducible exact HR200.out) | (with_reducible refine Kd.C_alloc ?_ _) | (with_reducible refine Kd.C_drewN ?_ _) | (with_reducible refine Kd.C_drew ?_) | exact HR200.out)) hb)
                                  have n6_ := Aside0.mk (below_step (by repeat (first | (with_reducible first | exact HB.out | apply below_alloc | apply pw_below_drewN | apply below_drew1) | exact HB.out)) hb)
                                  clear HO182
                                  clear HO189
                                  clear HR186
                                  clear HR193
                                  clear HR200
                                  clear HB
                                  have HO182 := n0_
                                  have HO189 := n1_
                                  have HO196 := n2_
                                  have HR186 := n3_
                                  have HR193 := n4_
                                  have HR200 := n5_
                                  have HB := n6_
                                  clear n0_ n1_ n2_ n3_ n4_ n5_ n6_
                                  (try clear hb)
                                  (try clear hb2)
                                  (try clear hk)
                                  (try clear hi)
                                  (try clear ho0)
                                  refine hK.out _ _ trivial (fun hHeld => ?_)
                                  clear hK K
                                  refine norm_ (a' := ?_) ?_ ?_
                                  rotate_left
                                  · show Act.put _ (some 41) _ = _
                                    simp only [Act.put, List.setIfInBounds_toArray, List.set_cons_zero, List.set_cons_succ, i64_w, i32_w]
                                    rfl
                                  refine one_ (i := 18) (N := some 47) #[true, true, true, true, true, true, true, true, true, true, true, true, true, true, true, true, true, true, true, false, false, false] rfl rfl (one_of HT_.out (by kernel_rfl)) (by decide) (fun K hK => ?_)
                                  refine goes_ Try.func23 (by kernel_rfl) rfl #[.slice Ao43 y183.length co43, .string a2] (by rfl) rfl rfl (by (try simp only [List.map_toArray, List.map_cons, List.map_nil]); first | done | rfl | (simp only [List.length_drop, List.length_take]; rfl)) ?_
                                  with_reducible refine (vint_PutText.calls _ _ y183 a2 t201 _ ?side1 ?side2 A19.out).mono ?_
                                  (case side1 => repeat (first | exact (by repeat (first | (with_reducible exact HR200.out) | (with_reducible refine Kd.C_alloc ?_ _) | (with_reducible refine Kd.C_drewN ?_ _) | (with_reducible refine Kd.C_drew ?_) | exact HR200.out)) | (with_reducible refine Kd.C_alloc ?_ _) | (with_reducible refine Kd.C_drewN ?_ _) | (with_reducible refine Kd.C_drew ?_)))
                                  (case side2 => exact HC200.out)
                                  rintro e w48 ⟨v202, rfl, ho0, hb⟩
                                  refine ⟨_, rfl, ?_⟩
                                  have n0_ := Aside0.mk (Kd.R_elder' (by (with_reducible repeat (first | apply Kd.R_alloc | apply Kd.R_drewN | apply Kd.R_drew)); exact HO182.out) (Kd.R_base ho0) hb)
                                  have n1_ := Aside0.mk (Kd.R_elder' (by (with_reducible repeat (first | apply Kd.R_alloc | apply Kd.R_drewN | apply Kd.R_drew)); exact HO189.out) (Kd.R_base ho0) hb)
                                  have n2_ := Aside0.mk (Kd.R_elder' (by (with_reducible repeat (first | apply Kd.R_alloc | apply Kd.R_drewN | apply Kd.R_drew)); exact HO196.out) (Kd.R_base ho0) hb)
                                  have n3_ := Aside0.mk (Kd.R_lower (Kd.R_new' (Kd.R_new' (Kd.R_new' ho0 (Kd.R_lt (by (with_reducible repeat (first | apply Kd.R_alloc | apply Kd.R_drewN | apply Kd.R_drew)); exact HO182.out))) (Kd.R_lt (by (with_reducible repeat (first | apply Kd.R_alloc | apply Kd.R_drewN | apply Kd.R_drew)); exact HO189.out))) (Kd.R_lt (by (with_reducible repeat (first | apply Kd.R_alloc | apply Kd.R_drewN | apply Kd.R_drew)); exact HO196.out))) (below_size (by repeat (first | (with_reducible first | exact HB.out | apply below_alloc | apply pw_below_drewN | apply below_drew1) | exact HB.out))))
                                  have n4_ := Aside0.mk (Kd.C_below (by repeat (first | (with_reducible exact HR186.out) | (with_reducible refine Kd.C_alloc ?_ _) | (with_reducible refine Kd.C_drewN ?_ _) | (with_reducible refine Kd.C_drew ?_) | exact HR186.out)) hb)
                                  have n5_ := Aside0.mk (Kd.C_below (by repeat (first | (with_reducible exact HR193.out) | (with_reducible refine Kd.C_alloc ?_ _) | (with_reducible refine Kd.C_drewN ?_ _) | (with_reducible refine Kd.C_drew ?_) | exact HR193.out)) hb)
                                  have n6_ := Aside0.mk (Kd.C_below (by repeat (first | (with_reducible exact HR200.out) | (with_reducible refine Kd.C_alloc ?_ _) | (with_reducible refine Kd.C_drewN ?_ _) | (with_reducible refine Kd.C_drew ?_) | exact HR200.out)) hb)
                                  have n7_ := Aside0.mk (below_step (by repeat (first | (with_reducible first | exact HB.out | apply below_alloc | apply pw_below_drewN | apply below_drew1) | exact HB.out)) hb)
                                  clear HO182
                                  clear HO189
                                  clear HO196
                                  clear HR186
                                  clear HR193
                                  clear HR200
                                  clear HB
                                  have HO182 := n0_
                                  have HO189 := n1_
                                  have HO196 := n2_
                                  have HO203 := n3_
                                  have HR186 := n4_
                                  have HR193 := n5_
                                  have HR200 := n6_
                                  have HB := n7_
                                  clear n0_ n1_ n2_ n3_ n4_ n5_ n6_ n7_
                                  (try clear hb)
                                  (try clear hb2)
                                  (try clear hk)
                                  (try clear hi)
                                  (try clear ho0)
                                  refine hK.out _ _ trivial (fun hHeld => ?_)
                                  clear hK K
                                  refine norm_ (a' := ?_) ?_ ?_
                                  rotate_left
                                  · show Act.put _ (some 47) _ = _
                                    simp only [Act.put, List.setIfInBounds_toArray, List.set_cons_zero, List.set_cons_succ, i64_w, i32_w]
                                    rfl
                                  refine pure_ (i := 19) (N := some 9) (v := ?_) (a' := ?_) #[true, true, true, true, true, true, true, true, true, true, true, true, true, true, true, true, true, true, true, true, false, false] rfl rfl (any_of HT_.out (by kernel_rfl)) (fun _ _ _ h => h) (Or.inl ⟨by rfl, ?_⟩) ?_ ?_
                                  rotate_left
                                  · intro w'
                                    go_simp
                                    with_reducible rfl
                                  rotate_left
                                  · simp only [Act.put, List.setIfInBounds_toArray, List.set_cons_zero, List.set_cons_succ, i64_w, i32_w]
                                    rfl
                                  refine pure_ (i := 20) (N := some 10) (v := ?_) (a' := ?_) #[true, true, true, true, true, true, true, true, true, true, true, true, true, true, true, true, true, true, true, true, true, false] rfl rfl (any_of HT_.out (by kernel_rfl)) (fun _ _ _ h => h) (Or.inl ⟨by rfl, ?_⟩) ?_ ?_
                                  rotate_left
                                  · intro w'
                                    go_simp
                                    with_reducible rfl
                                  rotate_left
                                  · simp only [Act.put, List.setIfInBounds_toArray, List.set_cons_zero, List.set_cons_succ, i64_w, i32_w]
                                    rfl
                                  refine pure_ (i := 21) (N := some 11) (v := ?_) (a' := ?_) #[true, true, true, true, true, true, true, true, true, true, true, true, true, true, true, true, true, true, true, true, true, true] rfl rfl (any_of HT_.out (by kernel_rfl)) (fun _ _ _ h => h) (Or.inl ⟨by rfl, ?_⟩) ?_ ?_
                                  rotate_left
                                  · intro w'
                                    go_simp
                                    with_reducible rfl
                                  rotate_left
                                  · simp only [Act.put, List.setIfInBounds_toArray, List.set_cons_zero, List.set_cons_succ, i64_w, i32_w]
                                    rfl
                                  refine done_ (done_of HT_.out (by kernel_rfl)) ?_
                                  try go_wp2
                                  have n0_ := Aside0.mk (Kd.R_drew HO182.out)
                                  have n1_ := Aside0.mk (Kd.R_drew HO189.out)
                                  have n2_ := Aside0.mk (Kd.R_drew HO196.out)
                                  have n3_ := Aside0.mk (Kd.R_drew HO203.out)
                                  have n4_ := Aside0.mk (Kd.C_drew HR186.out)
                                  have n5_ := Aside0.mk (Kd.C_drew HR193.out)
                                  have n6_ := Aside0.mk (Kd.C_drew HR200.out)
                                  have n7_ := Aside0.mk (below_drew1 HB.out)
                                  clear HO182
                                  clear HO189
                                  clear HO196
                                  clear HO203
                                  clear HR186
                                  clear HR193
                                  clear HR200
                                  clear HB
                                  have HO182 := n0_
                                  have HO189 := n1_
                                  have HO196 := n2_
                                  have HO203 := n3_
                                  have HR186 := n4_
                                  have HR193 := n5_
                                  have HR200 := n6_
                                  have HB := n7_
                                  clear n0_ n1_ n2_ n3_ n4_ n5_ n6_ n7_
                                  refine start_ (n := 27) (S := fun w' => (convert 34 9 v188).run Try.prog w' = .ok (.string (strOfNums t187)) w' ∧ (convert 34 9 v195).run Try.prog w' = .ok (.string (strOfNums t194)) w' ∧ (convert 34 9 v202).run Try.prog w' = .ok (.string (strOfNums t201)) w') (ds := []) #[false, false, false, false, false, false, false, false, false, false, false, false, false, false, false, false, false, false, false, false, false, false, false, false, false, false, false] (by kernel_rfl) rfl rfl ⟨own_string (P := Try.prog) Try.underlying34 Try.underlying5 Try.underlying9 (Kd.own_of_R (by first | exact HO189.out | exact Kd.R_drew HO189.out | exact Kd.R_drewN HO189.out _)), own_string (P := Try.prog) Try.underlying34 Try.underlying5 Try.underlying9 (Kd.own_of_R (by first | exact HO196.out | exact Kd.R_drew HO196.out | exact Kd.R_drewN HO196.out _)), own_string (P := Try.prog) Try.underlying34 Try.underlying5 Try.underlying9 (Kd.own_of_R (by first | exact HO203.out | exact Kd.R_drew HO203.out | exact Kd.R_drewN HO203.out _))⟩ (fun hHeld => ?_); refine with_tabW treillagelaw03_VintPuts.tab7 treillagelaw03_VintPuts.bits7 (fun HT_ HW_ => ?_)
                                  generalize w48.drew = w49 at HO182 HO189 HO196 HO203 HR186 HR193 HR200 HB hHeld ⊢
                                  refine pure_ (i := 0) (N := some 48) (v := ?_) (a' := ?_) #[true, false, false, false, false, false, false, false, false, false, false, false, false, false, false, false, false, false, false, false, false, false, false, false, false, false, false] rfl rfl (any_of HT_.out (by kernel_rfl)) (fun _ _ _ h => h) (Or.inl ⟨by rfl, ?_⟩) ?_ ?_
                                  rotate_left
                                  · intro w'
                                    go_simp
                                    with_reducible rfl
                                  rotate_left
                                  · simp only [Act.put, List.setIfInBounds_toArray, List.set_cons_zero, List.set_cons_succ, i64_w, i32_w]
                                    rfl
                                  refine pure_ (i := 2) (N := some 50) (v := ?_) (a' := ?_) #[true, false, true, false, false, false, false, false, false, false, false, false, false, false, false, false, false, false, false, false, false, false, false, false, false, false, false] rfl rfl (any_of HT_.out (by kernel_rfl)) (fun _ _ _ h => h) (Or.inl ⟨by rfl, ?_⟩) ?_ ?_
                                  rotate_left
                                  · intro w'
                                    go_simp
                                    with_reducible rfl
                                  rotate_left
                                  · simp only [Act.put, List.setIfInBounds_toArray, List.set_cons_zero, List.set_cons_succ, i64_w, i32_w]
                                    rfl
                                  refine pure_ (i := 3) (N := some 51) (v := ?_) (a' := ?_) #[true, false, true, true, false, false, false, false, false, false, false, false, false, false, false, false, false, false, false, false, false, false, false, false, false, false, false] rfl rfl (any_of HT_.out (by kernel_rfl)) (fun _ _ _ h => h) (Or.inl ⟨by rfl, ?_⟩) ?_ ?_
                                  rotate_left
                                  · intro w'
                                    go_simp
                                    with_reducible rfl
                                  rotate_left
                                  · simp only [Act.put, List.setIfInBounds_toArray, List.set_cons_zero, List.set_cons_succ, i64_w, i32_w]
                                    rfl
                                  refine take_ (i := 1) (N := some 49) (v := ?_) (a' := ?_) #[true, true, true, true, false, false, false, false, false, false, false, false, false, false, false, false, false, false, false, false, false, false, false, false, false, false, false] rfl rfl (take_ofW HT_.out HW_.out (by kernel_rfl)) (fun _ _ _ h => h) (Or.inl ⟨by rfl, ?_⟩) hHeld ?_ ?_
                                  rotate_left
                                  · rintro w' ⟨s0, s1, s2⟩
                                    go_simp
                                    with_reducible rfl
                                  rotate_left
                                  · simp only [Act.put, List.setIfInBounds_toArray, List.set_cons_zero, List.set_cons_succ, i64_w, i32_w]
                                    rfl
                                  refine one_ (i := 4) (N := some 52) #[true, true, true, true, true, false, false, false, false, false, false, false, false, false, false, false, false, false, false, false, false, false, false, false, false, false, false] rfl rfl (one_of HT_.out (by kernel_rfl)) (by decide) (fun K hK => ?_)
                                  refine goes_ Try.func24 (by kernel_rfl) rfl #[.int .u64 a1] (by rfl) rfl rfl (by (try simp only [List.map_toArray, List.map_cons, List.map_nil]); first | done | rfl | (simp only [List.length_drop, List.length_take]; rfl)) ?_
                                  with_reducible refine (treillageref03_Num.calls kj3 a1 t204 _ A20.out).mono ?_
                                  rintro e w50 ⟨rfl, hb⟩
                                  refine ⟨_, rfl, ?_⟩
                                  have n0_ := Aside0.mk (Kd.R_below (by (with_reducible repeat (first | apply Kd.R_alloc | apply Kd.R_drewN | apply Kd.R_drew)); exact HO182.out) hb)
                                  have n1_ := Aside0.mk (Kd.R_below (by (with_reducible repeat (first | apply Kd.R_alloc | apply Kd.R_drewN | apply Kd.R_drew)); exact HO189.out) hb)
                                  have n2_ := Aside0.mk (Kd.R_below (by (with_reducible repeat (first | apply Kd.R_alloc | apply Kd.R_drewN | apply Kd.R_drew)); exact HO196.out) hb)
                                  have n3_ := Aside0.mk (Kd.R_below (by (with_reducible repeat (first | apply Kd.R_alloc | apply Kd.R_drewN | apply Kd.R_drew)); exact HO203.out) hb)
                                  have n4_ := Aside0.mk (Kd.C_below (by repeat (first | (with_reducible exact HR186.out) | (with_reducible refine Kd.C_alloc ?_ _) | (with_reducible refine Kd.C_drewN ?_ _) | (with_reducible refine Kd.C_drew ?_) | exact HR186.out)) hb)
                                  have n5_ := Aside0.mk (Kd.C_below (by repeat (first | (with_reducible exact HR193.out) | (with_reducible refine Kd.C_alloc ?_ _) | (with_reducible refine Kd.C_drewN ?_ _) | (with_reducible refine Kd.C_drew ?_) | exact HR193.out)) hb)
                                  have n6_ := Aside0.mk (Kd.C_below (by repeat (first | (with_reducible exact HR200.out) | (with_reducible refine Kd.C_alloc ?_ _) | (with_reducible refine Kd.C_drewN ?_ _) | (with_reducible refine Kd.C_drew ?_) | exact HR200.out)) hb)
                                  have n7_ := Aside0.mk (below_step (by repeat (first | (with_reducible first | exact HB.out | apply below_alloc | apply pw_below_drewN | apply below_drew1) | exact HB.out)) hb)
                                  clear HO182
                                  clear HO189
                                  clear HO196
                                  clear HO203
                                  clear HR186
                                  clear HR193
                                  clear HR200
                                  clear HB
                                  have HO182 := n0_
                                  have HO189 := n1_
                                  have HO196 := n2_
                                  have HO203 := n3_
                                  have HR186 := n4_
                                  have HR193 := n5_
                                  have HR200 := n6_
                                  have HB := n7_
                                  clear n0_ n1_ n2_ n3_ n4_ n5_ n6_ n7_
                                  (try clear hb)
                                  (try clear hb2)
                                  (try clear hk)
                                  (try clear hi)
                                  refine hK.out _ _ ⟨own_string (P := Try.prog) Try.underlying34 Try.underlying5 Try.underlying9 (Kd.own_of_R (by first | exact HO189.out | exact Kd.R_drew HO189.out | exact Kd.R_drewN HO189.out _)), own_string (P := Try.prog) Try.underlying34 Try.underlying5 Try.underlying9 (Kd.own_of_R (by first | exact HO196.out | exact Kd.R_drew HO196.out | exact Kd.R_drewN HO196.out _)), own_string (P := Try.prog) Try.underlying34 Try.underlying5 Try.underlying9 (Kd.own_of_R (by first | exact HO203.out | exact Kd.R_drew HO203.out | exact Kd.R_drewN HO203.out _))⟩ (fun hHeld => ?_)
                                  clear hK K
                                  refine norm_ (a' := ?_) ?_ ?_
                                  rotate_left
                                  · show Act.put _ (some 52) _ = _
                                    simp only [Act.put, List.setIfInBounds_toArray, List.set_cons_zero, List.set_cons_succ, i64_w, i32_w]
                                    rfl
                                  refine pure_ (i := 5) (N := some 53) (v := ?_) (a' := ?_) #[true, true, true, true, true, true, false, false, false, false, false, false, false, false, false, false, false, false, false, false, false, false, false, false, false, false, false] rfl rfl (any_of HT_.out (by kernel_rfl)) (fun _ _ _ h => h) (Or.inl ⟨by rfl, ?_⟩) ?_ ?_
                                  rotate_left
                                  · intro w'
                                    go_simp
                                    with_reducible rfl
                                  rotate_left
                                  · simp only [Act.put, List.setIfInBounds_toArray, List.set_cons_zero, List.set_cons_succ, i64_w, i32_w]
                                    rfl
                                  refine pure_ (i := 6) (N := some 54) (v := ?_) (a' := ?_) #[true, true, true, true, true, true, true, false, false, false, false, false, false, false, false, false, false, false, false, false, false, false, false, false, false, false, false] rfl rfl (any_of HT_.out (by kernel_rfl)) (fun _ _ _ h => h) (Or.inl ⟨by rfl, ?_⟩) ?_ ?_
                                  rotate_left
                                  · intro w'
                                    go_simp
                                    with_reducible rfl
                                  rotate_left
                                  · simp only [Act.put, List.setIfInBounds_toArray, List.set_cons_zero, List.set_cons_succ, i64_w, i32_w]
                                    rfl
                                  refine pure_ (i := 7) (N := some 55) (v := ?_) (a' := ?_) #[true, true, true, true, true, true, true, true, false, false, false, false, false, false, false, false, false, false, false, false, false, false, false, false, false, false, false] rfl rfl (any_of HT_.out (by kernel_rfl)) (fun _ _ _ h => h) (Or.inl ⟨by rfl, ?_⟩) ?_ ?_
                                  rotate_left
                                  · intro w'
                                    go_simp
                                    with_reducible rfl
                                  rotate_left
                                  · simp only [Act.put, List.setIfInBounds_toArray, List.set_cons_zero, List.set_cons_succ, i64_w, i32_w]
                                    rfl
                                  refine pure_ (i := 8) (N := some 56) (v := ?_) (a' := ?_) #[true, true, true, true, true, true, true, true, true, false, false, false, false, false, false, false, false, false, false, false, false, false, false, false, false, false, false] rfl rfl (any_of HT_.out (by kernel_rfl)) (fun _ _ _ h => h) (Or.inl ⟨by rfl, ?_⟩) ?_ ?_
                                  rotate_left
                                  · intro w'
                                    go_simp
                                    with_reducible rfl
                                  rotate_left
                                  · simp only [Act.put, List.setIfInBounds_toArray, List.set_cons_zero, List.set_cons_succ, i64_w, i32_w]
                                    rfl
                                  refine pure_ (i := 10) (N := some 58) (v := ?_) (a' := ?_) #[true, true, true, true, true, true, true, true, true, false, true, false, false, false, false, false, false, false, false, false, false, false, false, false, false, false, false] rfl rfl (any_of HT_.out (by kernel_rfl)) (fun _ _ _ h => h) (Or.inl ⟨by rfl, ?_⟩) ?_ ?_
                                  rotate_left
                                  · intro w'
                                    go_simp
                                    with_reducible rfl
                                  rotate_left
                                  · simp only [Act.put, List.setIfInBounds_toArray, List.set_cons_zero, List.set_cons_succ, i64_w, i32_w]
                                    rfl
                                  refine pure_ (i := 11) (N := some 59) (v := ?_) (a' := ?_) #[true, true, true, true, true, true, true, true, true, false, true, true, false, false, false, false, false, false, false, false, false, false, false, false, false, false, false] rfl rfl (any_of HT_.out (by kernel_rfl)) (fun _ _ _ h => h) (Or.inl ⟨by rfl, ?_⟩) ?_ ?_
                                  rotate_left
                                  · intro w'
                                    go_simp
                                    with_reducible rfl
                                  rotate_left
                                  · simp only [Act.put, List.setIfInBounds_toArray, List.set_cons_zero, List.set_cons_succ, i64_w, i32_w]
                                    rfl
                                  refine pure_ (i := 12) (N := some 60) (v := ?_) (a' := ?_) #[true, true, true, true, true, true, true, true, true, false, true, true, true, false, false, false, false, false, false, false, false, false, false, false, false, false, false] rfl rfl (any_of HT_.out (by kernel_rfl)) (fun _ _ _ h => h) (Or.inl ⟨by rfl, ?_⟩) ?_ ?_
                                  rotate_left
                                  · intro w'
                                    go_simp
                                    with_reducible rfl
                                  rotate_left
                                  · simp only [Act.put, List.setIfInBounds_toArray, List.set_cons_zero, List.set_cons_succ, i64_w, i32_w]
                                    rfl
                                  refine take_ (i := 9) (N := some 57) (v := ?_) (a' := ?_) #[true, true, true, true, true, true, true, true, true, true, true, true, true, false, false, false, false, false, false, false, false, false, false, false, false, false, false] rfl rfl (take_ofW HT_.out HW_.out (by kernel_rfl)) (fun _ _ _ h => h) (Or.inl ⟨by rfl, ?_⟩) hHeld ?_ ?_
                                  rotate_left
                                  · rintro w' ⟨s0, s1, s2⟩
                                    go_simp
                                    with_reducible rfl
                                  rotate_left
                                  · simp only [Act.put, List.setIfInBounds_toArray, List.set_cons_zero, List.set_cons_succ, i64_w, i32_w]
                                    rfl
                                  refine one_ (i := 13) (N := some 61) #[true, true, true, true, true, true, true, true, true, true, true, true, true, true, false, false, false, false, false, false, false, false, false, false, false, false, false] rfl rfl (one_of HT_.out (by kernel_rfl)) (by decide) (fun K hK => ?_)
                                  refine goes_ Try.func25 (by kernel_rfl) rfl #[.int .i64 (wrap64 (a1))] (by rfl) rfl rfl (by (try simp only [List.map_toArray, List.map_cons, List.map_nil]); first | done | rfl | (simp only [List.length_drop, List.length_take]; rfl)) ?_
                                  with_reducible refine (treillageref03_Sign.calls (wrap64 (a1)) t205 _ A23.out).mono ?_
                                  rintro e w' ⟨rfl, ⟨nd, rfl⟩⟩
                                  refine ⟨_, rfl, ?_⟩
                                  refine hK.out _ _ ⟨own_string (P := Try.prog) Try.underlying34 Try.underlying5 Try.underlying9 (Kd.own_of_R (by first | exact HO189.out | exact Kd.R_drew HO189.out | exact Kd.R_drewN HO189.out _)), own_string (P := Try.prog) Try.underlying34 Try.underlying5 Try.underlying9 (Kd.own_of_R (by first | exact HO196.out | exact Kd.R_drew HO196.out | exact Kd.R_drewN HO196.out _)), own_string (P := Try.prog) Try.underlying34 Try.underlying5 Try.underlying9 (Kd.own_of_R (by first | exact HO203.out | exact Kd.R_drew HO203.out | exact Kd.R_drewN HO203.out _))⟩ (fun hHeld => ?_)
                                  clear hK K
                                  refine norm_ (a' := ?_) ?_ ?_
                                  rotate_left
                                  · show Act.put _ (some 61) _ = _
                                    simp only [Act.put, List.setIfInBounds_toArray, List.set_cons_zero, List.set_cons_succ, i64_w, i32_w]
                                    rfl
                                  refine one_ (i := 14) (N := some 62) #[true, true, true, true, true, true, true, true, true, true, true, true, true, true, true, false, false, false, false, false, false, false, false, false, false, false, false] rfl rfl (one_of HT_.out (by kernel_rfl)) (by decide) (fun K hK => ?_)
                                  refine goes_ Try.func24 (by kernel_rfl) rfl #[.int .u64 t205] (by rfl) rfl rfl (by (try simp only [List.map_toArray, List.map_cons, List.map_nil]); first | done | rfl | (simp only [List.length_drop, List.length_take]; rfl)) ?_
                                  with_reducible refine (treillageref03_Num.calls kj3 t205 t206 _ A24.out).mono ?_
                                  rintro e w51 ⟨rfl, hb⟩
                                  refine ⟨_, rfl, ?_⟩
                                  have n0_ := Aside0.mk (Kd.R_below (by (with_reducible repeat (first | apply Kd.R_alloc | apply Kd.R_drewN | apply Kd.R_drew)); exact HO182.out) hb)
                                  have n1_ := Aside0.mk (Kd.R_below (by (with_reducible repeat (first | apply Kd.R_alloc | apply Kd.R_drewN | apply Kd.R_drew)); exact HO189.out) hb)
                                  have n2_ := Aside0.mk (Kd.R_below (by (with_reducible repeat (first | apply Kd.R_alloc | apply Kd.R_drewN | apply Kd.R_drew)); exact HO196.out) hb)
                                  have n3_ := Aside0.mk (Kd.R_below (by (with_reducible repeat (first | apply Kd.R_alloc | apply Kd.R_drewN | apply Kd.R_drew)); exact HO203.out) hb)
                                  have n4_ := Aside0.mk (Kd.C_below (by repeat (first | (with_reducible exact HR186.out) | (with_reducible refine Kd.C_alloc ?_ _) | (with_reducible refine Kd.C_drewN ?_ _) | (with_reducible refine Kd.C_drew ?_) | exact HR186.out)) hb)
                                  have n5_ := Aside0.mk (Kd.C_below (by repeat (first | (with_reducible exact HR193.out) | (with_reducible refine Kd.C_alloc ?_ _) | (with_reducible refine Kd.C_drewN ?_ _) | (with_reducible refine Kd.C_drew ?_) | exact HR193.out)) hb)
                                  have n6_ := Aside0.mk (Kd.C_below (by repeat (first | (with_reducible exact HR200.out) | (with_reducible refine Kd.C_alloc ?_ _) | (with_reducible refine Kd.C_drewN ?_ _) | (with_reducible refine Kd.C_drew ?_) | exact HR200.out)) hb)
                                  have n7_ := Aside0.mk (below_step (by repeat (first | (with_reducible first | exact HB.out | apply below_alloc | apply pw_below_drewN | apply below_drew1) | exact HB.out)) hb)
                                  clear HO182
                                  clear HO189
                                  clear HO196
                                  clear HO203
                                  clear HR186
                                  clear HR193
                                  clear HR200
                                  clear HB
                                  have HO182 := n0_
                                  have HO189 := n1_
                                  have HO196 := n2_
                                  have HO203 := n3_
                                  have HR186 := n4_
                                  have HR193 := n5_
                                  have HR200 := n6_
                                  have HB := n7_
                                  clear n0_ n1_ n2_ n3_ n4_ n5_ n6_ n7_
                                  (try clear hb)
                                  (try clear hb2)
                                  (try clear hk)
                                  (try clear hi)
                                  refine hK.out _ _ ⟨own_string (P := Try.prog) Try.underlying34 Try.underlying5 Try.underlying9 (Kd.own_of_R (by first | exact HO189.out | exact Kd.R_drew HO189.out | exact Kd.R_drewN HO189.out _)), own_string (P := Try.prog) Try.underlying34 Try.underlying5 Try.underlying9 (Kd.own_of_R (by first | exact HO196.out | exact Kd.R_drew HO196.out | exact Kd.R_drewN HO196.out _)), own_string (P := Try.prog) Try.underlying34 Try.underlying5 Try.underlying9 (Kd.own_of_R (by first | exact HO203.out | exact Kd.R_drew HO203.out | exact Kd.R_drewN HO203.out _))⟩ (fun hHeld => ?_)
                                  clear hK K
                                  refine norm_ (a' := ?_) ?_ ?_
                                  rotate_left
                                  · show Act.put _ (some 62) _ = _
                                    simp only [Act.put, List.setIfInBounds_toArray, List.set_cons_zero, List.set_cons_succ, i64_w, i32_w]
                                    rfl
                                  refine pure_ (i := 15) (N := some 63) (v := ?_) (a' := ?_) #[true, true, true, true, true, true, true, true, true, true, true, true, true, true, true, true, false, false, false, false, false, false, false, false, false, false, false] rfl rfl (any_of HT_.out (by kernel_rfl)) (fun _ _ _ h => h) (Or.inl ⟨by rfl, ?_⟩) ?_ ?_
                                  rotate_left
                                  · intro w'
                                    go_simp
                                    with_reducible rfl
                                  rotate_left
                                  · simp only [Act.put, List.setIfInBounds_toArray, List.set_cons_zero, List.set_cons_succ, i64_w, i32_w]
                                    rfl
                                  refine pure_ (i := 16) (N := some 64) (v := ?_) (a' := ?_) #[true, true, true, true, true, true, true, true, true, true, true, true, true, true, true, true, true, false, false, false, false, false, false, false, false, false, false] rfl rfl (any_of HT_.out (by kernel_rfl)) (fun _ _ _ h => h) (Or.inl ⟨by rfl, ?_⟩) ?_ ?_
                                  rotate_left
                                  · intro w'
                                    go_simp
                                    with_reducible rfl
                                  rotate_left
                                  · simp only [Act.put, List.setIfInBounds_toArray, List.set_cons_zero, List.set_cons_succ, i64_w, i32_w]
                                    rfl
                                  refine pure_ (i := 17) (N := some 65) (v := ?_) (a' := ?_) #[true, true, true, true, true, true, true, true, true, true, true, true, true, true, true, true, true, true, false, false, false, false, false, false, false, false, false] rfl rfl (any_of HT_.out (by kernel_rfl)) (fun _ _ _ h => h) (Or.inl ⟨by rfl, ?_⟩) ?_ ?_
                                  rotate_left
                                  · intro w'
                                    go_simp
                                    with_reducible rfl
                                  rotate_left
                                  · simp only [Act.put, List.setIfInBounds_toArray, List.set_cons_zero, List.set_cons_succ, i64_w, i32_w]
                                    rfl
                                  refine pure_ (i := 18) (N := some 66) (v := ?_) (a' := ?_) #[true, true, true, true, true, true, true, true, true, true, true, true, true, true, true, true, true, true, true, false, false, false, false, false, false, false, false] rfl rfl (any_of HT_.out (by kernel_rfl)) (fun _ _ _ h => h) (Or.inl ⟨by rfl, ?_⟩) ?_ ?_
                                  rotate_left
                                  · intro w'
                                    go_simp
                                    with_reducible rfl
                                  rotate_left
                                  · simp only [Act.put, List.setIfInBounds_toArray, List.set_cons_zero, List.set_cons_succ, i64_w, i32_w]
                                    rfl
                                  refine pure_ (i := 19) (N := some 67) (v := ?_) (a' := ?_) #[true, true, true, true, true, true, true, true, true, true, true, true, true, true, true, true, true, true, true, true, false, false, false, false, false, false, false] rfl rfl (any_of HT_.out (by kernel_rfl)) (fun _ _ _ h => h) (Or.inl ⟨by rfl, ?_⟩) ?_ ?_
                                  rotate_left
                                  · intro w'
                                    go_simp
                                    with_reducible rfl
                                  rotate_left
                                  · simp only [Act.put, List.setIfInBounds_toArray, List.set_cons_zero, List.set_cons_succ, i64_w, i32_w]
                                    rfl
                                  refine pure_ (i := 21) (N := some 69) (v := ?_) (a' := ?_) #[true, true, true, true, true, true, true, true, true, true, true, true, true, true, true, true, true, true, true, true, false, true, false, false, false, false, false] rfl rfl (any_of HT_.out (by kernel_rfl)) (fun _ _ _ h => h) (Or.inl ⟨by rfl, ?_⟩) ?_ ?_
                                  rotate_left
                                  · intro w'
                                    go_simp
                                    with_reducible rfl
                                  rotate_left
                                  · simp only [Act.put, List.setIfInBounds_toArray, List.set_cons_zero, List.set_cons_succ, i64_w, i32_w]
                                    rfl
                                  refine pure_ (i := 22) (N := some 70) (v := ?_) (a' := ?_) #[true, true, true, true, true, true, true, true, true, true, true, true, true, true, true, true, true, true, true, true, false, true, true, false, false, false, false] rfl rfl (any_of HT_.out (by kernel_rfl)) (fun _ _ _ h => h) (Or.inl ⟨by rfl, ?_⟩) ?_ ?_
                                  rotate_left
                                  · intro w'
                                    go_simp
                                    with_reducible rfl
                                  rotate_left
                                  · simp only [Act.put, List.setIfInBounds_toArray, List.set_cons_zero, List.set_cons_succ, i64_w, i32_w]
                                    rfl
                                  refine take_ (i := 20) (N := some 68) (v := ?_) (a' := ?_) #[true, true, true, true, true, true, true, true, true, true, true, true, true, true, true, true, true, true, true, true, true, true, true, false, false, false, false] rfl rfl (take_ofW HT_.out HW_.out (by kernel_rfl)) (fun _ _ _ h => h) (Or.inl ⟨by rfl, ?_⟩) hHeld ?_ ?_
                                  rotate_left
                                  · rintro w' ⟨s0, s1, s2⟩
                                    go_simp
                                    with_reducible rfl
                                  rotate_left
                                  · simp only [Act.put, List.setIfInBounds_toArray, List.set_cons_zero, List.set_cons_succ, i64_w, i32_w]
                                    rfl
                                  refine one_ (i := 23) (N := some 71) #[true, true, true, true, true, true, true, true, true, true, true, true, true, true, true, true, true, true, true, true, true, true, true, true, false, false, false] rfl rfl (one_of HT_.out (by kernel_rfl)) (by decide) (fun K hK => ?_)
                                  refine goes_ Try.func26 (by kernel_rfl) rfl #[.string a2] (by rfl) rfl rfl (by (try simp only [List.map_toArray, List.map_cons, List.map_nil]); first | done | rfl | (simp only [List.length_drop, List.length_take]; rfl)) ?_
                                  with_reducible refine (treillageref03_Text.calls kj3 a2 t207 _ A27.out).mono ?_
                                  rintro e w52 ⟨rfl, hb⟩
                                  refine ⟨_, rfl, ?_⟩
                                  have n0_ := Aside0.mk (Kd.R_below (by (with_reducible repeat (first | apply Kd.R_alloc | apply Kd.R_drewN | apply Kd.R_drew)); exact HO182.out) hb)
                                  have n1_ := Aside0.mk (Kd.R_below (by (with_reducible repeat (first | apply Kd.R_alloc | apply Kd.R_drewN | apply Kd.R_drew)); exact HO189.out) hb)
                                  have n2_ := Aside0.mk (Kd.R_below (by (with_reducible repeat (first | apply Kd.R_alloc | apply Kd.R_drewN | apply Kd.R_drew)); exact HO196.out) hb)
                                  have n3_ := Aside0.mk (Kd.R_below (by (with_reducible repeat (first | apply Kd.R_alloc | apply Kd.R_drewN | apply Kd.R_drew)); exact HO203.out) hb)
                                  have n4_ := Aside0.mk (Kd.C_below (by repeat (first | (with_reducible exact HR186.out) | (with_reducible refine Kd.C_alloc ?_ _) | (with_reducible refine Kd.C_drewN ?_ _) | (with_reducible refine Kd.C_drew ?_) | exact HR186.out)) hb)
                                  have n5_ := Aside0.mk (Kd.C_below (by repeat (first | (with_reducible exact HR193.out) | (with_reducible refine Kd.C_alloc ?_ _) | (with_reducible refine Kd.C_drewN ?_ _) | (with_reducible refine Kd.C_drew ?_) | exact HR193.out)) hb)
                                  have n6_ := Aside0.mk (Kd.C_below (by repeat (first | (with_reducible exact HR200.out) | (with_reducible refine Kd.C_alloc ?_ _) | (with_reducible refine Kd.C_drewN ?_ _) | (with_reducible refine Kd.C_drew ?_) | exact HR200.out)) hb)
                                  have n7_ := Aside0.mk (below_step (by repeat (first | (with_reducible first | exact HB.out | apply below_alloc | apply pw_below_drewN | apply below_drew1) | exact HB.out)) hb)
                                  clear HO182
                                  clear HO189
                                  clear HO196
                                  clear HO203
                                  clear HR186
                                  clear HR193
                                  clear HR200
                                  clear HB
                                  have HO182 := n0_
                                  have HO189 := n1_
                                  have HO196 := n2_
                                  have HO203 := n3_
                                  have HR186 := n4_
                                  have HR193 := n5_
                                  have HR200 := n6_
                                  have HB := n7_
                                  clear n0_ n1_ n2_ n3_ n4_ n5_ n6_ n7_
                                  (try clear hb)
                                  (try clear hb2)
                                  (try clear hk)
                                  (try clear hi)
                                  refine hK.out _ _ ⟨own_string (P := Try.prog) Try.underlying34 Try.underlying5 Try.underlying9 (Kd.own_of_R (by first | exact HO189.out | exact Kd.R_drew HO189.out | exact Kd.R_drewN HO189.out _)), own_string (P := Try.prog) Try.underlying34 Try.underlying5 Try.underlying9 (Kd.own_of_R (by first | exact HO196.out | exact Kd.R_drew HO196.out | exact Kd.R_drewN HO196.out _)), own_string (P := Try.prog) Try.underlying34 Try.underlying5 Try.underlying9 (Kd.own_of_R (by first | exact HO203.out | exact Kd.R_drew HO203.out | exact Kd.R_drewN HO203.out _))⟩ (fun hHeld => ?_)
                                  clear hK K
                                  refine norm_ (a' := ?_) ?_ ?_
                                  rotate_left
                                  · show Act.put _ (some 71) _ = _
                                    simp only [Act.put, List.setIfInBounds_toArray, List.set_cons_zero, List.set_cons_succ, i64_w, i32_w]
                                    rfl
                                  refine pure_ (i := 24) (N := some 72) (v := ?_) (a' := ?_) #[true, true, true, true, true, true, true, true, true, true, true, true, true, true, true, true, true, true, true, true, true, true, true, true, true, false, false] rfl rfl (any_of HT_.out (by kernel_rfl)) (fun _ _ _ h => h) (Or.inl ⟨by rfl, ?_⟩) ?_ ?_
                                  rotate_left
                                  · intro w'
                                    go_simp
                                    with_reducible rfl
                                  rotate_left
                                  · simp only [Act.put, List.setIfInBounds_toArray, List.set_cons_zero, List.set_cons_succ, i64_w, i32_w]
                                    rfl
                                  refine pure_ (i := 25) (N := some 73) (v := ?_) (a' := ?_) #[true, true, true, true, true, true, true, true, true, true, true, true, true, true, true, true, true, true, true, true, true, true, true, true, true, true, false] rfl rfl (any_of HT_.out (by kernel_rfl)) (fun _ _ _ h => h) (Or.inl ⟨by rfl, ?_⟩) ?_ ?_
                                  rotate_left
                                  · intro w'
                                    go_simp
                                    with_reducible rfl
                                  rotate_left
                                  · simp only [Act.put, List.setIfInBounds_toArray, List.set_cons_zero, List.set_cons_succ, i64_w, i32_w]
                                    rfl
                                  refine pure_ (i := 26) (N := some 74) (v := ?_) (a' := ?_) #[true, true, true, true, true, true, true, true, true, true, true, true, true, true, true, true, true, true, true, true, true, true, true, true, true, true, true] rfl rfl (any_of HT_.out (by kernel_rfl)) (fun _ _ _ h => h) (Or.inl ⟨by rfl, ?_⟩) ?_ ?_
                                  rotate_left
                                  · intro w'
                                    go_simp
                                    with_reducible rfl
                                  rotate_left
                                  · simp only [Act.put, List.setIfInBounds_toArray, List.set_cons_zero, List.set_cons_succ, i64_w, i32_w]
                                    rfl
                                  refine done_ (done_of HT_.out (by kernel_rfl)) ?_
                                  try go_wp2_with (first | ((with_reducible refine gate_callee (f := 20) rfl ?_); refine goesL_ (some 75) rfl rfl Try.func20 (by kernel_rfl) rfl #[] rfl (by (try simp only [List.map_toArray, List.map_cons, List.map_nil]); first | done | rfl | (simp only [List.length_drop, List.length_take]; rfl)) ?_; (with_reducible refine (treillagelaw03_awake.calls  true _ A30.out).mono ?_); rintro e w54 ⟨rfl, hb⟩; refine ⟨_, rfl, ?_⟩; have n0_ := Aside0.mk (Kd.R_below (by (with_reducible repeat (first | apply Kd.R_alloc | apply Kd.R_drewN | apply Kd.R_drew)); exact HO182.out) hb); have n1_ := Aside0.mk (Kd.R_below (by (with_reducible repeat (first | apply Kd.R_alloc | apply Kd.R_drewN | apply Kd.R_drew)); exact HO189.out) hb); have n2_ := Aside0.mk (Kd.R_below (by (with_reducible repeat (first | apply Kd.R_alloc | apply Kd.R_drewN | apply Kd.R_drew)); exact HO196.out) hb); have n3_ := Aside0.mk (Kd.R_below (by (with_reducible repeat (first | apply Kd.R_alloc | apply Kd.R_drewN | apply Kd.R_drew)); exact HO203.out) hb); have n4_ := Aside0.mk (below_step (by repeat (first | (with_reducible first | exact HB.out | apply below_alloc | apply pw_below_drewN | apply below_drew1) | exact HB.out)) hb); clear HO182; clear HO189; clear HO196; clear HO203; clear HB; have HO182 := n0_; have HO189 := n1_; have HO196 := n2_; have HO203 := n3_; have HB := n4_; clear n0_ n1_ n2_ n3_ n4_; (try clear hb); (try clear hb2); (try clear hk); (try clear hi); have q55 : ((l0.length : Int) : Int) ≤ ((y180.length : Int) : Int) := of_decide_eq_true (by first | (with_reducible assumption) | assumption); obtain ⟨i055, hi055, _, hsz55, _⟩ := info_parts info5; have hroom55 : y180.length ≤ co43 := (Kd.R_reads' HO182.out).2.1; have hC55 : Kd.C (Kd.int .u8) _ Ao43 y180.length y180 := (Kd.R_reads' HO182.out).2.2; have hcut55 := cut_to (P := Try.prog) 34 5 .i64 Try.underlying34 hi055 Ao43 y180.length co43 (l0.length : Int) (of_decide_eq_true (by first | (with_reducible assumption) | assumption)) q55 hroom55; have hr55 := Kd.C_take (m := ((l0.length : Int) : Int).toNat) hC55 (by omega); have hy55 : y183.length = ((l0.length : Int) : Int).toNat := (by rw [Ny183.out, List.length_take]; omega); rw [← Ny183.out] at hr55; rw [← hy55] at hcut55; have HR212 := Aside0.mk hr55; have HC212 := Aside0.mk (show y183.length ≤ co43 from by omega); clear hr55 hC55 hroom55 hi055 hsz55; have KY55 := Aside0.mk hy55; clear hy55; have KL55 := Aside0.mk (show ((l0.length : Int) : Int).toNat ≤ y180.length from by omega); replace q55 := eq_true q55; have hcv56 := Kd.C_string (P := Try.prog) (A := Ao43) (c := co43) Try.underlying34 Try.underlying5 Try.underlying9 (by repeat (first | (with_reducible exact HR212.out) | (with_reducible refine Kd.C_alloc ?_ _) | (with_reducible refine Kd.C_drewN ?_ _) | (with_reducible refine Kd.C_drew ?_) | exact HR212.out)); have p213 : 0 ≤ ((l0.length : Int) : Int) := of_decide_eq_true (by first | (with_reducible assumption) | assumption); have q213 : (l0.length : Int) < (y180.length : Int) := of_decide_eq_true (by first | (with_reducible assumption) | assumption); obtain ⟨ad213, e213, hx213_0⟩ := Kd.at_int (Kd.R_reads' HO182.out).2.2 (l0.length : Int) p213 q213; cases e213; (try simp only [Go.IntWalk.toNatUp] at hx213_0); replace p213 := eq_true p213; replace q213 := eq_true q213))
                                  go_ret
                                  exact ⟨by first | rfl | (simp [errW_none, errW_some] <;> rfl) | (simp [*, errW_none, errW_some] <;> rfl), by repeat (first | (with_reducible first | exact HB.out | apply below_alloc | apply pw_below_drewN | apply below_drew1) | exact HB.out)⟩
                                · rw [if_neg c35] at H
                                  exact absurd H (by simp)
                              · rw [if_neg c34] at H
                                exact absurd H (by simp)
                            · replace c31 := Bool.eq_false_iff.mpr c31
                              subst c31
                              have H1 : (none) = some r := by rw [if_neg (show ¬ (false = true) by decide)] at H; exact H
                              clear H
                              have H := H1
                              clear H1
                              exact absurd H (by simp)
                          · rw [if_neg c29] at H
                            exact absurd H (by simp)
                        · rw [if_neg c28] at H
                          exact absurd H (by simp)
                      · rw [if_neg c26] at H
                        exact absurd H (by simp)
                    · rw [if_neg c25] at H
                      exact absurd H (by simp)
                  · rw [if_neg c22] at H
                    exact absurd H (by simp)
                · rw [if_neg c21] at H
                  exact absurd H (by simp)
              · rw [if_neg c12] at H
                exact absurd H (by simp)
            · rw [if_neg c11] at H
              exact absurd H (by simp)
          · rw [if_neg c10] at H
            exact absurd H (by simp)
        · rw [if_neg c9] at H
          exact absurd H (by simp)

/-- THE ONE PURE STATEMENT of treillagelaw03_VintPuts: yours. -/
def treillagelaw03_VintPuts.Pure : Prop := ∀ (l0 : List Int) (a1 : Int) (a2 : ByteArray), l0.length ≤ maxLen → l0.length * 1 ≤ 140737488351232 → (∀ x ∈ l0, (Lit.int .u8 x).wf = true) → (Lit.int .u64 a1).wf = true → a2.size ≤ 140737488351232 → ∃ k, treillagelaw03_VintPuts.f k l0 a1 a2 = some true
theorem treillagelaw03_VintPuts.walk (P : treillagelaw03_VintPuts.Pure) (a0 : Option Addr) (len0 cap0 : Nat) (z0 : List Int) (a1 : Int) (a2 : ByteArray) (w : World) (w0 : (a0 = none ∧ len0 = 0 ∧ cap0 = 0 ∧ z0 = []) ∨ ∃ x, a0 = some x ∧ len0 ≤ cap0 ∧ cap0 ≤ maxLen ∧ z0.length = cap0 ∧ (∀ i, i < z0.length → w.cell? (x.add i) = some (.int .u8 (z0.getD i 0))) ∧ ∀ n ∈ z0, (Lit.int .u8 n).wf = true) (y0 : len0 * 1 ≤ 140737488351232) (w1 : (Lit.int .u64 a1).wf = true) (w2 : a2.size ≤ 140737488351232) :
    Calls Try.prog 6 #[.slice a0 len0 cap0, .int .u64 a1, .string a2] w fun e w' => e = .returned (.bool true) ∧ Below w.heap.size w w' := by
  obtain ⟨l0, rfl, hr0, hm0, hw0, hc0⟩ := ReadsInt.ofRowC w0
  obtain ⟨k, h⟩ := P l0 a1 a2 hm0 y0 hw0 w1 w2
  refine (treillagelaw03_VintPuts.calls k _ _ l0 a1 a2 true w (Kd.C_of_reads (d := (0 : Int)) (h1 := fun _ => rfl) hr0) hc0 h).mono ?_
  rintro e w' ⟨rfl, hd⟩
  exact ⟨rfl, hd⟩

end Go.Proofs.Ytpfglhjgjfhkjaa.XP

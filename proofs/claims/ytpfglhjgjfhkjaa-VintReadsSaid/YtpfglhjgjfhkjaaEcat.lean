/- The walks of slices.Grow (from nil) and slices.Concat (of two parts) at []byte. Condition: what is made fits. -/
import Derived.Test.YtpfglhjgjfhkjaaProg
import Derived.WalkKit
import Derived.Below
import Derived.Deep.Draws
import Derived.Deep.LoopGhost
import Derived.Lib.Hide
import Derived.RowKit3
import Derived.Test.YtpfglhjgjfhkjaaWWords
import Derived.Test.YtpfglhjgjfhkjaaWZeros
import Derived.Test.YtpfglhjgjfhkjaaWMore
namespace Go.Proofs.Ytpfglhjgjfhkjaa.Ecat
set_option linter.unusedVariables false
set_option linter.unusedSimpArgs false
open Go.RowKit Go.Proofs.YtpfglhjgjfhkjaaW.PrintWords Go.Proofs.YtpfglhjgjfhkjaaW.PrintMore

theorem info8 : (Try.prog.info? 5).map (fun i => (i.zero, i.size, i.bytes)) = some (some (.int .u8 0), 1, 1) := by kernel_rfl

set_option maxRecDepth 100000 in
theorem grow_nil (n : Int) (h0 : 0 ≤ n) (hn : n ≤ 140737488355328) (w : World) :
    Calls Try.prog 59 #[.slice none 0 0, .int .i64 n] w fun e w' => ∃ v : Value, e = .returned v ∧ Kd.R (Kd.int .u8) 5 w' w.heap.size (fun _ => True) v [] ∧ Below w.heap.size w w' := by
  by_cases hp : 0 < n
  · go_enter Try.func59, Try.ntmps59
    go_wp2_with (at_builtin; refine Kd.R_append_zeros (Kd.int .u8) (w0 := w) w.heap.size rfl (.tmp 20) (.tmp 21) 34 3 5 (.int .u8 0) 1 rfl Try.underlying34 Try.underlying3 info8 rfl (by decide) (by decide) (.slice none 0 0) [] 0 n (fun _ => True) rfl rfl rfl (fun _ _ => trivial) (Kd.R_nil _ _ _ _ _) h0 (Below.refl _ _) (Nat.le_refl _) (by simp; omega) ?_; intro v1 w1 hR hB hg hat; obtain ⟨A1, c1, rfl⟩ := own_slice hR.2.choose_spec.1; have HR := Lib.hid hR; clear hR hg hat)
    go_ret
    exact ⟨_, rfl, by simpa using Kd.R_take HR.out (m := 0) (by omega), hB⟩
  · obtain rfl : n = 0 := by omega
    go_enter Try.func59, Try.ntmps59
    go_wp2
    go_ret
    exact ⟨_, rfl, Kd.R_nil _ _ _ _ _, Below.refl _ _⟩

set_option maxRecDepth 100000 in
theorem concat2 (g n1 c1 n2 c2 : Nat) (A1 A2 : Option Addr) (l1 l2 : List Int) (w : World) (h0 : w.cell? ⟨g, 0, none⟩ = some (.slice A1 n1 c1)) (h1 : w.cell? ⟨g, 1, none⟩ = some (.slice A2 n2 c2))
    (hr1 : Kd.C (Kd.int .u8) w A1 n1 l1) (hr2 : Kd.C (Kd.int .u8) w A2 n2 l2) (hn : n1 + n2 ≤ 140737488355328) :
    Calls Try.prog 51 #[.slice (some ⟨g, 0, none⟩) 2 2] w fun e w' => ∃ v : Value, e = .returned v ∧ Kd.R (Kd.int .u8) 5 w' w.heap.size (fun _ => True) v (l1 ++ l2) ∧ Below w.heap.size w w' := by
  have HR1 := Aside0.mk hr1
  have HR2 := Aside0.mk hr2
  clear hr1 hr2
  go_enter Try.func51, Try.ntmps51
  go_wp2
  go_loop [3, 11] (fun s i => (i = .int .i64 0 ∧ s = .int .i64 0) ∨ (i = .int .i64 1 ∧ s = .int .i64 n1) ∨ (i = .int .i64 2 ∧ s = .int .i64 ((n1 + n2 : Nat) : Int))) (fun _ i => 2 - (intOf i).toNat)
  case atStart => exact .inl ⟨rfl, rfl⟩
  case round =>
    rcases hrel with ⟨rfl, rfl⟩ | ⟨rfl, rfl⟩ | ⟨rfl, rfl⟩
    · go_wp2
      go_round
      case rel => exact .inr (.inl ⟨rfl, rfl⟩)
      case measure => simp [intOf]
    · go_wp2
      go_round
      case rel => exact .inr (.inr ⟨rfl, by go_num⟩)
      case measure => simp [intOf]
    · go_wp2_with (go_at_call 59; refine (grow_nil _ (by omega) (by omega) _).mono ?_; rintro e w1 ⟨v1, rfl, hR, hB⟩)
      have HB1 := Aside0.mk hB
      have HO1 := Aside0.mk hR
      have HA := Aside0.mk h0
      have HC := Aside0.mk h1
      clear hB hR h0 h1
      go_loopw [6, 27] (fun v i wr => Aside0 (Below w.heap.size w wr) ∧ ((i = .int .i64 0 ∧ Aside0 (Kd.R (Kd.int .u8) 5 wr w.heap.size (fun _ => True) v [])) ∨ (i = .int .i64 1 ∧ Aside0 (Kd.R (Kd.int .u8) 5 wr w.heap.size (fun _ => True) v l1)) ∨ (i = .int .i64 2 ∧ Aside0 (Kd.R (Kd.int .u8) 5 wr w.heap.size (fun _ => True) v (l1 ++ l2))))) (fun _ i _ => 2 - (intOf i).toNat)
      case atStart => exact ⟨HB1, .inl ⟨rfl, HO1⟩⟩
      case round =>
        obtain ⟨HB, hrel⟩ := hrel
        rcases hrel with ⟨rfl, HR⟩ | ⟨rfl, HR⟩ | ⟨rfl, HR⟩
        · have hc := pw_cell_below HB.out HA.out
          have HC1 := Aside0.mk (Kd.C_below HR1.out HB.out)
          have e1 := Kd.C_len HR1.out
          have HL := Aside0.mk e1
          have HZ := Aside0.mk HB.out.size
          clear e1
          go_wp2_with (at_builtin; refine Kd.R_append_rows (Kd.int .u8) (w0 := w) w.heap.size rfl (.tmp 31) (.tmp 32) 34 5 (.int .u8 0) 1 rfl Try.underlying34 info8 rfl (by decide) (by decide) _ [] l1 _ _ _ (fun _ => True) (fun _ => False) rfl rfl HR.out HC1.out (fun _ _ h => h) (fun _ h => h.elim) (fun _ _ => trivial) HB.out HZ.out (by simp; omega) ?_; intro v2 w2 hR2 hB2 hg hat; have HR2' := Aside0.mk hR2; have HB2 := Aside0.mk hB2; clear hR2 hB2 hg hat)
          go_roundw
          case rel => exact ⟨HB2, .inr (.inl ⟨rfl, ⟨by simpa using HR2'.out⟩⟩)⟩
          case measure => simp [intOf]
        · have hc := pw_cell_below HB.out HC.out
          have HC1 := Aside0.mk (Kd.C_below HR2.out HB.out)
          have e1 := Kd.C_len HR1.out
          have HL := Aside0.mk e1
          have HZ := Aside0.mk HB.out.size
          clear e1
          go_wp2_with (at_builtin; refine Kd.R_append_rows (Kd.int .u8) (w0 := w) w.heap.size rfl (.tmp 31) (.tmp 32) 34 5 (.int .u8 0) 1 rfl Try.underlying34 info8 rfl (by decide) (by decide) _ l1 l2 _ _ _ (fun _ => True) (fun _ => False) rfl rfl HR.out HC1.out (fun _ _ h => h) (fun _ h => h.elim) (fun _ _ => trivial) HB.out HZ.out (by rw [HL.out]; omega) ?_; intro v2 w2 hR2 hB2 hg hat; have HR2' := Aside0.mk hR2; have HB2 := Aside0.mk hB2; clear hR2 hB2 hg hat)
          go_roundw
          case rel => exact ⟨HB2, .inr (.inr ⟨rfl, HR2'⟩)⟩
          case measure => simp [intOf]
        · go_wp2
          go_ret
          exact ⟨_, rfl, HR.out, HB.out⟩

end Go.Proofs.Ytpfglhjgjfhkjaa.Ecat

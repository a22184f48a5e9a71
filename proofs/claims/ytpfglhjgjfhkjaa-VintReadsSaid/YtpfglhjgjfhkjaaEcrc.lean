/- The walk of crc.table and crc.Of: what the sum of some parts comes to. No condition but the parts' sizes. -/
import Derived.Test.YtpfglhjgjfhkjaaProg
import Derived.WalkKit
import Derived.Below
import Derived.Deep.Draws
import Derived.Deep.LoopGhost
import Derived.Lib.Hide
import Derived.RowKit3
import Derived.Test.YtpfglhjgjfhkjaaWWords
import Derived.Test.YtpfglhjgjfhkjaaMcrc
namespace Go.Proofs.Ytpfglhjgjfhkjaa.Ecrc
set_option linter.unusedVariables false
open Go.Proofs.Ytpfglhjgjfhkjaa.Mcrc Go.RowKit Go.Proofs.YtpfglhjgjfhkjaaW.PrintWords

def tz : Array Value := Array.replicate 256 (.int .u32 0)
theorem zeroT (w : World) : (zeroValue 82).run Try.prog w = .ok (.agg tz) w := by kernel_rfl

def tc : Nat → Array Value
  | 0 => tz
  | k + 1 => (tc k).setIfInBounds k (.int .u32 (st8 8 k))
theorem tc_size : ∀ k, (tc k).size = 256
  | 0 => by simp [tc, tz]
  | k + 1 => by simp [tc, tc_size k]
theorem tc_at : ∀ k i, i < 256 → (tc k)[i]? = some (.int .u32 (if i < k then st8 8 i else 0))
  | 0, i, h => by simp [tc, tz, h]
  | k + 1, i, h => by
    rw [tc, Array.getElem?_setIfInBounds, tc_at k i h, tc_size]
    by_cases hk : k = i
    · subst hk; simp [h]
    · rw [if_neg hk]
      by_cases h1 : i < k
      · rw [if_pos h1, if_pos (by omega)]
      · rw [if_neg h1, if_neg (by omega)]
theorem tc_one (k : Nat) : (tc k).all (·.oneCell') = true := by
  rw [Array.all_eq_true]
  intro i hi
  have h := tc_at k i (by rw [tc_size] at hi; exact hi)
  rw [Array.getElem?_eq_getElem hi] at h
  injection h with h
  rw [h]; rfl

theorem below_setRow {B : Nat} {a w : World} (h : Below B a w) (g : Nat) (hg : B ≤ g) (cs : Array Value) : Below B a (w.setRow g cs) :=
  ⟨h.os, h.tape, h.output, by simpa using h.size, fun i hi => (setRow_other w g i cs (by omega)).trans (h.block i hi)⟩
set_option maxRecDepth 100000 in
theorem table_any (w : World) : Calls Try.prog 49 #[] w fun e w' => e = .returned (.agg (tc 256)) ∧ Below w.heap.size w w' := by
  have hz := zeroT
  go_enter Try.func49, Try.ntmps49
  go_wp2
  go_loopw [5] (fun i wr => ∃ k : Nat, k ≤ 256 ∧ i = .int .i64 k ∧ Below w.heap.size w wr ∧ wr.heap[w.heap.size + 1]? = some (.cells (tc k) 82 (0, 0)) ∧ wr.heap[w.heap.size]? = some (.cells tz 82 (0, 0))) (fun i _ => 256 - (intOf i).toNat)
  case atStart => exact ⟨0, by omega, rfl, ((Below.refl _ _).alloc (Nat.le_refl _) _).alloc (by simp) _, heap_alloc2_new _ _ _, heap_alloc2_old _ _ _⟩
  case round =>
    clear hz
    obtain ⟨k, hk, rfl, hB, hT, hZ⟩ := hrel
    by_cases hlt : k < 256
    · have hfz : wr.frozen? ⟨w.heap.size + 1, k, none⟩ = false := frozen_of_row wr _ k (tc k) 82 hT
      have hcl : wr.cell? ⟨w.heap.size + 1, k, none⟩ = some (.int .u32 (if k < k then st8 8 k else 0)) := by rw [cell_of_row wr _ k (tc k) 82 _ hT]; exact tc_at k k hlt
      have HT := Lib.hid hT
      have HZ := Lib.hid hZ
      clear hT hZ
      go_wp2
      go_loop [3, 10] (fun x j => ∃ m : Nat, m ≤ 8 ∧ j = .int .i64 m ∧ 0 ≤ st8 m k ∧ st8 m k < 4294967296 ∧ x = .int .u32 (st8 m k)) (fun _ j => 8 - (intOf j).toNat)
      case atStart => exact ⟨0, by omega, rfl, by simp [st8], by simp [st8]; omega, rfl⟩
      case round =>
        obtain ⟨m, hm, rfl, hy0, hy1, rfl⟩ := hrel
        by_cases hlt : m < 8
        · have hs : st8 (m + 1) k = st (st8 m k) := rfl
          have HS := Lib.hid hs
          clear hs
          generalize st8 m k = y at *
          have hr := st_range y hy0 hy1
          by_cases ho : y % 2 = 1
          · have ho1 : (Go.bits .and .u32 y 1 == 1) = true := by rw [and1 y hy0 hy1]; exact beq_iff_eq.mpr ho
            have he : st y = Go.bits .xor .u32 (y / 2) 2197175160 := by unfold st; rw [if_pos ho]
            have HE := Lib.hid he
            clear he ho
            go_wp2
            go_round
            case rel => exact ⟨m + 1, by omega, by go_num, by rw [HS.out]; exact hr.1, by rw [HS.out]; exact hr.2, by rw [HS.out, HE.out]⟩
            case measure => simp [intOf]; omega
          · have ho1 : (Go.bits .and .u32 y 1 == 1) = false := by rw [and1 y hy0 hy1]; exact beq_eq_false_iff_ne.mpr ho
            have he : st y = y / 2 := by unfold st; rw [if_neg ho]
            have HE := Lib.hid he
            clear he ho
            go_wp2
            go_round
            case rel => exact ⟨m + 1, by omega, by go_num, by rw [HS.out]; exact hr.1, by rw [HS.out]; exact hr.2, by rw [HS.out, HE.out]⟩
            case measure => simp [intOf]; omega
        · obtain rfl : m = 8 := by omega
          go_wp2
          go_roundw
          case rel => exact ⟨k + 1, by omega, by go_num, hB.setCell (by simp) _, heap_setCell_same _ _ _ _ _ _ HT.out, by rw [heap_setCell_other _ _ _ _ (by simp)]; exact HZ.out⟩
          case measure => simp [intOf]; omega
    · obtain rfl : k = 256 := by omega
      go_wp2_with (first | (refine wpList_load_row rfl 82 (.tmp 1) rfl (w.heap.size + 1) rfl 82 (tc 256) (0, 0) (.array 256 23) hT (by kernel_rfl) rfl (by rw [tc_size]; kernel_rfl) ?_) | (refine wpList_store_row rfl 82 (.tmp 0) (.tmp 25) rfl w.heap.size (tc 256) rfl rfl 82 tz hZ (by rw [tc_size]; kernel_rfl) (by rw [tc_size]; simp [tz]) (tc_one _) ?_))
      exact bodyPost_ret (v := .agg (tc 256)) (results_cell_row (P := Try.prog) rfl _ _ w.heap.size 82 (tc 256) (0, 0) (.array 256 23) rfl (setRow_heap _ _ _ _ _ _ hZ) (by kernel_rfl) rfl (by rw [tc_size]; kernel_rfl)) rfl ⟨rfl, below_setRow hB _ (Nat.le_refl _) _⟩


theorem tab_cell {W : World} {g : Nat} (h : W.heap[g]? = some (.cells (tc 256) 82 (0, 0))) (q : Int) (h0 : 0 ≤ q) (h1 : q < 256) : W.cell? ⟨g, q.toNat, none⟩ = some (.int .u32 (st8 8 q)) := by
  rw [cell_of_row W g _ _ _ _ h, tc_at 256 _ (by omega), if_pos (by omega), Int.toNat_of_nonneg h0]
set_option maxRecDepth 100000 in
theorem of_any (A0 : Option Addr) (c0 : Nat) (l0 : List ByteArray) (w : World) (hr0 : Kd.C Kd.string w A0 l0.length l0) (hc0 : l0.length ≤ c0) (hsz : ∀ s ∈ l0, s.size ≤ 140737488351232) :
    Calls Try.prog 14 #[.slice A0 l0.length c0] w fun e w' => e = .returned (.int .u32 (sum l0)) ∧ Below w.heap.size w w' := by
  have HR := Aside0.mk hr0
  have hmax := Kd.C_max hr0
  clear hr0
  have HSZ := Aside0.mk hsz
  clear hsz
  have hz := zeroT
  go_enter Try.func14, Try.ntmps14
  go_wp2_with (first | (go_at_call 49; refine (table_any _).mono ?_; rintro e w1 ⟨rfl, hB⟩) | (refine wpList_store_row rfl 82 (.tmp 3) (.tmp 8) rfl w1.heap.size (tc 256) rfl rfl 82 tz (heap_alloc_new w1 (.cells tz 82)) (by rw [tc_size]; kernel_rfl) (by rw [tc_size]; simp [tz]) (tc_one _) ?_))
  clear hz
  have hB2 : Below w.heap.size w ((w1.alloc (.cells tz 82)).setRow w1.heap.size (tc 256)) := below_setRow (hB.alloc hB.size _) _ hB.size _
  have hT : ((w1.alloc (.cells tz 82)).setRow w1.heap.size (tc 256)).heap[w1.heap.size]? = some (.cells (tc 256) 82 (0, 0)) := setRow_heap _ _ _ _ _ _ (heap_alloc_new w1 (.cells tz 82))
  generalize (w1.alloc (.cells tz 82)).setRow w1.heap.size (tc 256) = W at *
  generalize w1.heap.size = g at *
  have HB := Aside0.mk hB2
  have HT := Aside0.mk hT
  clear hB hB2 hT
  go_loopw [4, 11] (fun x i wr => ∃ k : Nat, ∃ y : Int, k ≤ l0.length ∧ i = .int .i64 k ∧ x = .int .u32 y ∧ 0 ≤ y ∧ y < 4294967296 ∧ Aside0 (y = feeds 4294967295 (l0.take k)) ∧ Drawn0 W wr) (fun _ i _ => l0.length - (intOf i).toNat)
  case atStart => exact ⟨0, 4294967295, by omega, rfl, rfl, by omega, by omega, ⟨rfl⟩, Drawn0.refl _⟩
  case round =>
    obtain ⟨k, y, hk, rfl, rfl, hy0, hy1, HY, ⟨n, rfl⟩⟩ := hrel
    by_cases hlt : k < l0.length
    · have hbw := pw_below_drewN HB.out n
      have hR := Kd.C_below HR.out hbw
      obtain ⟨ad, hA, hc⟩ := Kd.at_string hR (k : Int) (by omega) (by omega)
      rw [Int.toNat_natCast] at hc
      subst hA
      have hs : rdOf ByteArray.empty l0 (k : Int) = l0[k] := by simp [rdOf, hlt]
      rw [hs] at hc
      have hsz := HSZ.out l0[k] (List.getElem_mem hlt)
      have hsn : feeds 4294967295 (l0.take (k + 1)) = feed (feeds 4294967295 (l0.take k)) l0[k].data.toList := by
        rw [List.take_succ_eq_append_getElem hlt, feeds, List.foldl_append]; rfl
      rw [← HY.out] at hsn
      have HS := Lib.hid hsn
      clear hsn hs hbw hR
      generalize l0[k] = s at *
      have HCell := Aside0.mk hc
      go_wp2
      clear hc
      go_loopw [4, 17] (fun x i wr => ∃ j : Nat, ∃ z : Int, j ≤ s.size ∧ i = .int .i64 j ∧ x = .int .u32 z ∧ 0 ≤ z ∧ z < 4294967296 ∧ Aside0 (z = feed y (s.data.toList.take j)) ∧ Drawn0 (W.drewN n) wr) (fun _ i _ => s.size - (intOf i).toNat)
      case atStart => exact ⟨0, y, by omega, rfl, rfl, hy0, hy1, ⟨rfl⟩, Drawn0.refl _⟩
      case round =>
        obtain ⟨j, z, hj, rfl, rfl, hz0, hz1, HZ, ⟨m, rfl⟩⟩ := hrel
        by_cases hlt2 : j < s.size
        · have hq := xor8_range z (s[j].toNat : Int) (by omega) (by have := s[j].toNat_lt; omega)
          have hcell := tab_cell HT.out _ hq.1 hq.2
          have hbr := by_range z (s[j].toNat : Int) hz0 hz1 (by omega) (by have := s[j].toNat_lt; omega)
          have hsn : feed y (s.data.toList.take (j + 1)) = by_ (feed y (s.data.toList.take j)) s[j].toNat := by
            rw [List.take_succ_eq_append_getElem (by simpa using hlt2), feed, List.foldl_append]; rfl
          rw [← HZ.out] at hsn
          have HS2 := Lib.hid hsn
          have hby : by_ z s[j].toNat = Go.bits .xor .u32 (z / 256) (st8 8 (Go.bits .xor .u8 (z % 256) s[j].toNat)) := rfl
          have HBY := Lib.hid hby
          clear hsn hby
          go_wp2
          go_roundw
          case rel => exact ⟨j + 1, by_ z s[j].toNat, by omega, by go_num, rfl, hbr.1, hbr.2, ⟨HS2.out.symm⟩, ⟨m, (World.drewN_drewN ..).symm⟩⟩
          case measure => simp [intOf]; omega
        · go_wp2
          go_roundw
          case rel => exact ⟨k + 1, z, by omega, by go_num, rfl, hz0, hz1, ⟨by rw [HS.out, HZ.out, List.take_of_length_le (by simp; omega)]⟩, ⟨n + m, rfl⟩⟩
          case measure => simp [intOf]; omega
    · go_wp2
      go_ret
      exact ⟨by rw [HY.out, List.take_of_length_le (by omega)]; rfl, pw_below_drewN HB.out n⟩

end Go.Proofs.Ytpfglhjgjfhkjaa.Ecrc

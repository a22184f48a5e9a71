/- The walk of vint.Put. Condition: what is made fits. -/
import Derived.Test.YtpfglhjgjfhkjaaEcat
import Derived.Test.YtpfglhjgjfhkjaaMvint
namespace Go.Proofs.Ytpfglhjgjfhkjaa.Evint
set_option linter.unusedVariables false
set_option linter.unusedSimpArgs false
open Go.RowKit Go.Proofs.YtpfglhjgjfhkjaaW.PrintWords Go.Proofs.YtpfglhjgjfhkjaaW.PrintMore Go.Proofs.Ytpfglhjgjfhkjaa.Mvint Go.Proofs.Ytpfglhjgjfhkjaa.Ecat

theorem zeroG (w : World) : (zeroValue 85).run Try.prog w = .ok (.agg (Array.replicate 10 (.int .u8 0))) w := by kernel_rfl

def arr (k : Nat) (acc : List Int) : Array Value := (List.replicate k (Value.int .u8 0) ++ nums .u8 acc).toArray
theorem arr_set (k : Nat) (acc : List Int) (x : Int) : (arr (k + 1) acc).setIfInBounds k (.int .u8 x) = arr k (x :: acc) := by
  unfold arr
  rw [List.setIfInBounds_toArray]
  congr 1
  rw [List.replicate_succ', List.append_assoc, List.set_append_right _ _ (by simp)]
  simp [nums]
theorem arr_size (k : Nat) (acc : List Int) : (arr k acc).size = k + acc.length := by simp [arr, nums_length]
theorem arr_get (k : Nat) (acc : List Int) (i : Nat) (h : i < acc.length) : (arr k acc)[k + i]? = some (.int .u8 (acc.getD i 0)) := by
  unfold arr
  simp [List.getElem?_append_right, nums, h]

theorem add_at (g k j : Nat) : (⟨g, k, none⟩ : Addr).add j = ⟨g, k + j, none⟩ := by unfold Addr.add; split <;> simp_all
theorem slice_arr (g k : Nat) (hk : k ≤ 9) (W : World) : (Instr.sliceAt 85 (.pointer (some ⟨g, 0, none⟩)) (some (.int .i64 (k : Int))) none none).run Try.prog W = .ok (.slice (some ⟨g, k, none⟩) (10 - k) (10 - k)) W := by
  have hl : Try.prog.arrayLen 85 = 10 := by kernel_rfl
  have he : Try.prog.elem 85 = 5 := by kernel_rfl
  have ht : Try.prog.underlying 85 = some (.array (Try.prog.arrayLen 85) (Try.prog.elem 85)) := by rw [hl, he]; kernel_rfl
  have hs : (sizeOf 5).run Try.prog W = .ok 1 W := by kernel_rfl
  rw [run_sliceAt_array_l W _ _ ht .i64 k (by omega) (by rw [hl]; omega), he, hs, hl]
  simp only [Result.andThen, slicedAt, Int.toNat_natCast, Nat.mul_one]
  rw [if_neg (by omega), add_plain]

set_option maxRecDepth 100000 in
theorem put_any (A0 : Option Addr) (c0 : Nat) (l0 : List Int) (n : Nat) (w : World) (hr0 : Kd.C (Kd.int .u8) w A0 l0.length l0) (hc0 : l0.length ≤ c0) (hl : l0.length ≤ 140737488355000) (hn : n < 2 ^ 64) :
    Calls Try.prog 21 #[.slice A0 l0.length c0, .int .u64 n] w fun e w' => ∃ v : Value, e = .returned v ∧ Kd.R (Kd.int .u8) 5 w' w.heap.size (fun _ => True) v (l0 ++ num n) ∧ Below w.heap.size w w' := by
  have HR0 := Aside0.mk hr0
  clear hr0
  have hz := zeroG
  have h1 := and127 n hn
  go_enter Try.func21, Try.ntmps21
  go_wp2
  clear hz h1
  have hT := heap_alloc_new w (.cells ((Array.replicate 10 (Value.int .u8 0)).setIfInBounds 9 (.int .u8 ((n : Int) % 128))) 85)
  rw [show (Array.replicate 10 (Value.int .u8 0)).setIfInBounds 9 (.int .u8 ((n : Int) % 128)) = arr 9 [((n % 128 : Nat) : Int)] from by rw [show ((n : Int) % 128) = ((n % 128 : Nat) : Int) by omega]; rfl] at hT ⊢
  have hB := (Below.refl w.heap.size w).alloc (Nat.le_refl _) (.cells (arr 9 [((n % 128 : Nat) : Int)]) 85)
  generalize w.alloc (.cells (arr 9 [((n % 128 : Nat) : Int)]) 85) = W at *
  have HT := Aside0.mk hT
  have HB := Aside0.mk hB
  clear hT hB
  go_loopw [1, 6] (fun nv at_ wr => ∃ (k m : Nat) (acc : List Int), k ≤ 9 ∧ nv = .int .u64 m ∧ at_ = .int .i64 k ∧ m < 2 ^ 64 ∧ Aside0 (m < 2 ^ (7 * k - 6)) ∧ Aside0 (acc.length = 10 - k) ∧ Aside0 (tailG k m acc = num n) ∧ Aside0 (wr.heap[w.heap.size]? = some (.cells (arr k acc) 85 (0, 0))) ∧ Aside0 (Below w.heap.size w wr)) (fun nv _ _ => (intOf nv).toNat)
  case atStart => exact ⟨9, n / 128, [((n % 128 : Nat) : Int)], by omega, by go_num, rfl, by omega, ⟨by simp; omega⟩, ⟨rfl⟩, ⟨rfl⟩, HT, HB⟩
  case round =>
    clear HT HB
    obtain ⟨k, m, acc, hk, rfl, rfl, hm, HM, HL, HN, HT, HB⟩ := hrel
    by_cases hp : 0 < m
    · obtain ⟨k, rfl⟩ : ∃ j, k = j + 1 := ⟨k - 1, by
        rcases Nat.eq_zero_or_pos k with h0 | h0
        · subst h0; have := bzero m HM.out; omega
        · omega⟩
      have h1 := and127 m hm
      have h2 := or128 (m % 128) (by omega)
      have hfz := frozen_of_row wr w.heap.size k _ _ HT.out
      have hcl : ∃ u, wr.cell? ⟨w.heap.size, k, none⟩ = some u := by
        rw [cell_of_row wr _ k _ _ _ HT.out]
        exact ⟨_, Array.getElem?_eq_getElem (by rw [arr_size]; omega)⟩
      obtain ⟨u, hcl⟩ := hcl
      have hs := bstep m k HM.out
      have HS := Aside0.mk hs
      have hn2 : tailG k (m / 128) (((m % 128 + 128 : Nat) : Int) :: acc) = num n := by
        have := HN.out
        rw [tailG, if_neg (by omega)] at this
        exact this
      have HN2 := Aside0.mk hn2
      clear hn2 hs
      have hset : (wr.setCell ⟨w.heap.size, k, none⟩ (.int .u8 (Go.bits .or .u8 ((m : Int) % 128) 128))).heap[w.heap.size]? = some (.cells (arr k (((m % 128 + 128 : Nat) : Int) :: acc)) 85 (0, 0)) := by
        rw [heap_setCell_same _ _ _ _ _ _ HT.out, show ((m : Int) % 128) = ((m % 128 : Nat) : Int) by omega, h2, arr_set]
      have HSET := Aside0.mk hset
      have HB2 := Aside0.mk (HB.out.setCell (p := ⟨w.heap.size, k, none⟩) (Nat.le_refl _) (.int .u8 (Go.bits .or .u8 ((m : Int) % 128) 128)))
      clear hset
      go_wp2
      go_roundw
      case rel => exact ⟨k, m / 128, ((m % 128 + 128 : Nat) : Int) :: acc, by omega, by go_num, rfl, by omega, HS, ⟨by have := HL.out; simp; omega⟩, HN2, HSET, HB2⟩
      case measure => simp [intOf]; omega
    · obtain rfl : m = 0 := by omega
      have hsl := slice_arr w.heap.size k hk
      have hn := HN.out
      rw [tailG_zero] at hn
      subst hn
      have hlen : (num n).length = 10 - k := HL.out
      have hread : Kd.C (Kd.int .u8) wr (some ⟨w.heap.size, k, none⟩) (10 - k) (num n) := by
        refine Kd.C_of_reads (d := 0) ⟨hlen, by omega, fun _ => ⟨_, rfl, fun j hj => ?_⟩⟩
        rw [add_at, cell_of_row wr _ _ _ _ _ HT.out, arr_get k (num n) j (by omega)]
      have hb0 := (Below.refl wr.heap.size wr).alloc (Nat.le_refl _) (.cells #[.slice A0 l0.length c0, .slice (some ⟨w.heap.size, k, none⟩) (10 - k) (10 - k)] 34)
      have HCC := Aside0.mk (concat2 wr.heap.size l0.length c0 (10 - k) (10 - k) A0 (some ⟨w.heap.size, k, none⟩) l0 (num n) _ (cell_of_row _ _ 0 _ _ _ (heap_alloc_new wr _)) (cell_of_row _ _ 1 _ _ _ (heap_alloc_new wr _)) (Kd.C_below (Kd.C_below HR0.out HB.out) hb0) (Kd.C_below hread hb0) (by omega))
      have HZ := Aside0.mk HB.out.size
      clear hread hb0 hlen
      go_wp2_with (go_at_call 51; refine (HCC.out).mono ?_; rintro e w2 ⟨v2, rfl, hR, hB2⟩; have HR2 := Aside0.mk hR; have HB2 := Aside0.mk hB2; clear hR hB2)
      go_ret
      exact ⟨_, rfl, Kd.R_lower HR2.out (by simp; exact Nat.le_trans HZ.out (Nat.le_succ _)), below_then (HB.out.alloc HZ.out _) (by simp; exact Nat.le_trans HZ.out (Nat.le_succ _)) HB2.out⟩

end Go.Proofs.Ytpfglhjgjfhkjaa.Evint

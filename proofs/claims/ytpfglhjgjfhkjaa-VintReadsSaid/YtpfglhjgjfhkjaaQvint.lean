/- Plain laws of numbers as bytes: what the program's writers and reader come to, held against the reference's. No program in sight. -/
import Derived.Test.YtpfglhjgjfhkjaaXP2
import Derived.Test.YtpfglhjgjfhkjaaXP2
import Derived.Test.YtpfglhjgjfhkjaaXP4
import Derived.Test.YtpfglhjgjfhkjaaXP2
import Derived.Test.YtpfglhjgjfhkjaaMget
import Derived.Test.YtpfglhjgjfhkjaaQcrc
namespace Go.Proofs.Ytpfglhjgjfhkjaa.Qvint
set_option linter.unusedVariables false
open Go.RowKit Go.Proofs.Ytpfglhjgjfhkjaa.XP Go.Proofs.YtpfglhjgjfhkjaaW.PrintWords Go.Proofs.YtpfglhjgjfhkjaaW.PrintLast Go.Proofs.Ytpfglhjgjfhkjaa.Mget Go.Proofs.Ytpfglhjgjfhkjaa.Mvint Go.Proofs.Ytpfglhjgjfhkjaa.Qcrc

theorem bt_drop (s : ByteArray) (f i : Nat) (h : i < (s.data.toList.drop f).length) : bt s ((f + i : Nat) : Int) = (((s.data.toList.drop f)[i]).toNat : Int) := by
  rw [List.length_drop] at h
  rw [bt_byte s (f + i) (by omega), List.getElem_drop]

theorem step_facts (l : List UInt8) (i : Nat) (hil : i < l.length) (h8 : i ≤ 8) :
    Go.bits .or .u64 (Go.IntKind.u64.wrap ((NN (l.take i) : Int) * 128)) (Go.IntKind.u64.wrap (Go.bits .and .u8 (l[i].toNat : Int) 127)) = (NN (l.take (i + 1)) : Int) ∧ decide ((NN (l.take i) : Int) / 144115188075855872 > 0) = false := by
  have hlt := NN_eight l i (Nat.le_of_lt hil) h8
  have h := or7 (NN (l.take i)) l[i].toNat hlt l[i].toNat_lt
  rw [h, NN_succ l i hil]
  exact ⟨rfl, decide_eq_false (by omega)⟩
set_option maxHeartbeats 2000000 in
/-- the loop from group i on -/
theorem l0_scan (s : ByteArray) (hs : s.size ≤ 140737488355328) (f : Nat) (hf : f ≤ s.size) (e0 : Int) (l : List UInt8) (hl : s.data.toList.drop f = l) (h128 : l.head? ≠ some 128) :
    ∀ (d i k : Nat) (n : Int) (ov : Bool) (a0 : Int), i + d = lastOf l → 3 * d + 4 < k → (i ≤ 9 → n = (NN (l.take i) : Int) ∧ ov = false) →
      vint_Reader_Get.l0 k f n ov i s a0 e0 = some ((scanE l).2.2, s, (if (scanE l).1 = 0 then ((f + (scanE l).2.1 : Nat) : Int) else f), if (scanE l).1 = 0 then e0 else (scanE l).1) := by
  intro d
  have hlen : l.length = s.size - f := by rw [← hl]; simp
  have hbt : ∀ i (h : i < l.length), bt s ((f + i : Nat) : Int) = (l[i].toNat : Int) := by subst hl; exact bt_drop s f
  clear hl
  have hle := lastOf_le l
  have hbe := fun j h => last_before l j h
  have hen := last_end l
  induction d with
  | zero =>
    intro i k n ov a0 hd hk hn
    obtain ⟨k, rfl⟩ : ∃ m, k = m + 1 + 1 + 1 := ⟨k - 3, by omega⟩
    have hiJ : i = lastOf l := by omega
    rw [vint_Reader_Get.l0]
    by_cases h10 : i = 10
    · have hE : scanE l = (2, 0, 0) := by unfold scanE; rw [if_neg h128, if_pos (by omega)]
      rw [if_neg (by omega), hE]
      rfl
    · have hi9 : i ≤ 9 := by omega
      obtain ⟨rfl, rfl⟩ := hn hi9
      have hw : wrap64 ((f : Int) + (i : Int)) = ((f + i : Nat) : Int) := by unfold wrap64; omega
      rw [if_pos (by omega), hw]
      by_cases hsz : i = l.length
      · have hE : scanE l = (3, 0, 0) := by unfold scanE; rw [if_neg h128, if_neg (by omega), if_pos (by omega)]
        rw [if_pos (by omega), hE]
        rfl
      · have hil : i < l.length := by omega
        have hc : l[i].toNat < 128 := by
          have h := hen (by omega) (by omega)
          simp only [← hiJ] at h
          exact h
        rw [if_neg (by omega), if_pos (by omega), if_pos (by omega), hbt i hil]
        have hj1 : (if (i : Int) = 0 then vint_Reader_Get.j1 (k + 1 + 1) f (NN (l.take i)) false i (l[i].toNat) i (((l[i].toNat : Nat) : Int) == 128) s a0 e0 else vint_Reader_Get.j1 (k + 1 + 1) f (NN (l.take i)) false i (l[i].toNat) i false s a0 e0) = vint_Reader_Get.j1 (k + 1 + 1) f (NN (l.take i)) false i (l[i].toNat) i false s a0 e0 := by
          have : (((l[i].toNat : Nat) : Int) == 128) = false := beq_eq_false_iff_ne.mpr (by omega)
          rw [this]; split <;> rfl
        rw [hj1, vint_Reader_Get.j1, if_neg (by simp), if_neg (by simp), vint_Reader_Get.j2, if_neg (by omega)]
        by_cases hov : 144115188075855872 ≤ NN (l.take i)
        · have h9 : i = 9 := by
            rcases Nat.lt_or_ge i 9 with h | h
            · have := NN_eight l i (by omega) (by omega); omega
            · omega
          subst h9
          have hm : 128 ≤ (l.getD 0 0).toNat := by
            obtain ⟨h1, h2, h3⟩ := hbe 0 (by omega)
            rw [List.getD_eq_getElem?_getD, List.getElem?_eq_getElem h1]; exact h3
          have hgt := (NN_nine l (by omega) h128 hm).1 hov
          have hE : scanE l = (2, 0, 0) := by unfold scanE; rw [if_neg h128, if_neg (by omega), if_neg (by omega), if_pos ⟨by omega, hgt⟩]
          rw [decide_eq_true (by omega), if_pos rfl, hE]
          rfl
        · have hE : scanE l = (0, i + 1, valG (l.take (i + 1))) := by
            unfold scanE
            rw [if_neg h128, if_neg (by omega), if_neg (by omega), if_neg, ← hiJ]
            rintro ⟨h9, hgt⟩
            have hm : 128 ≤ (l.getD 0 0).toNat := by omega
            have := (NN_nine l (by omega) h128 hm).2 hgt
            have : i = 9 := by omega
            subst this
            omega
          have hb : ∀ r, r < i + 1 → NN (l.take r) < 144115188075855872 := fun r hr => by
            rcases Nat.lt_or_ge r i with h | h
            · exact NN_eight l r (by omega) (by omega)
            · obtain rfl : r = i := by omega
              omega
          rw [decide_eq_false (by omega), if_neg (by simp), or7 _ _ (by omega) (by omega), hE, valG_NN l (i + 1) (by omega) hb, NN_succ l i hil]
          have hw2 : wrap64 (((f + i : Nat) : Int) + 1) = ((f + (i + 1) : Nat) : Int) := by unfold wrap64; omega
          rw [hw, hw2]
          rfl
  | succ d ih =>
    intro i k n ov a0 hd hk hn
    obtain ⟨k, rfl⟩ : ∃ m, k = m + 1 + 1 + 1 := ⟨k - 3, by omega⟩
    obtain ⟨hil, hi10, hc⟩ := hbe i (by omega)
    obtain ⟨rfl, rfl⟩ := hn (by omega)
    have hw : wrap64 ((f : Int) + (i : Int)) = ((f + i : Nat) : Int) := by unfold wrap64; omega
    rw [vint_Reader_Get.l0, if_pos (by omega), hw, if_neg (by omega), if_pos (by omega), if_pos (by omega), hbt i hil]
    have hj1 : (if (i : Int) = 0 then vint_Reader_Get.j1 (k + 1 + 1) f (NN (l.take i)) false i (l[i].toNat) i (((l[i].toNat : Nat) : Int) == 128) s a0 e0 else vint_Reader_Get.j1 (k + 1 + 1) f (NN (l.take i)) false i (l[i].toNat) i false s a0 e0) = vint_Reader_Get.j1 (k + 1 + 1) f (NN (l.take i)) false i (l[i].toNat) i false s a0 e0 := by
      by_cases h0 : i = 0
      · subst h0
        rw [not128 l hil h128]; split <;> rfl
      · rw [if_neg (by omega)]
    rw [hj1, vint_Reader_Get.j1, if_neg (by simp), if_neg (by simp), vint_Reader_Get.j2, if_pos (by omega)]
    have hw2 : wrap64 ((i : Int) + 1) = ((i + 1 : Nat) : Int) := by unfold wrap64; omega
    rw [hw2]
    refine ih (i + 1) k _ _ a0 (by omega) (by omega) (fun h9 => ?_)
    exact step_facts l i hil (Nat.le_of_succ_le_succ h9)

/-- what Get comes to -/
theorem get_some (s : ByteArray) (hs : s.size ≤ 140737488355328) (f : Nat) (hf : f ≤ s.size) (k : Nat) (hk : 40 ≤ k) :
    vint_Reader_Get.f k s f 0 = some ((scanE (s.data.toList.drop f)).2.2, s, (if (scanE (s.data.toList.drop f)).1 = 0 then ((f + (scanE (s.data.toList.drop f)).2.1 : Nat) : Int) else f), (scanE (s.data.toList.drop f)).1) := by
  unfold vint_Reader_Get.f
  rw [if_pos rfl]
  by_cases h128 : (s.data.toList.drop f).head? = some 128
  · have hE : scanE (s.data.toList.drop f) = (2, 0, 0) := by unfold scanE; rw [if_pos h128]
    have hil : 0 < (s.data.toList.drop f).length := by
      rcases hl : s.data.toList.drop f with _ | ⟨a, l⟩
      · rw [hl] at h128; simp at h128
      · simp
    have hb := bt_drop s f 0 hil
    have h0 : (s.data.toList.drop f)[0] = 128 := by
      rw [List.head?_eq_getElem?, List.getElem?_eq_getElem hil] at h128
      injection h128
    rw [h0] at hb
    simp only [Nat.add_zero] at hb
    have hlen : (s.data.toList.drop f).length = s.size - f := by simp
    obtain ⟨k, rfl⟩ : ∃ m, k = m + 1 + 1 := ⟨k - 2, by omega⟩
    have hw : wrap64 ((f : Int) + 0) = (f : Int) := by unfold wrap64; omega
    rw [hE, vint_Reader_Get.l0, if_pos (by omega), hw, if_neg (by omega), if_pos (by omega), if_pos (by omega), if_pos rfl, hb, vint_Reader_Get.j1, if_pos (by rfl)]
    rfl
  · have h := l0_scan s hs f hf 0 _ rfl h128 (lastOf (s.data.toList.drop f)) 0 k 0 false f (by omega) (by have := lastOf_le (s.data.toList.drop f); omega) (fun _ => ⟨by simp [NN], rfl⟩)
    rw [show ((0 : Nat) : Int) = 0 from rfl] at h
    rw [h]
    congr 4
    split
    · rename_i h; exact h.symm
    · rfl

end Go.Proofs.Ytpfglhjgjfhkjaa.Qvint

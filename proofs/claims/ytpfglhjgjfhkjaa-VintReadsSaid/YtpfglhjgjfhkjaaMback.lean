/- What is written as a number's bytes is read as that number, whatever stands behind. Plain lists, no program in sight. -/
import Derived.Test.YtpfglhjgjfhkjaaMget
import Derived.Test.YtpfglhjgjfhkjaaMvint
namespace Go.Proofs.Ytpfglhjgjfhkjaa.Mback
set_option linter.unusedVariables false
open Go.Proofs.Ytpfglhjgjfhkjaa.Mget Go.Proofs.Ytpfglhjgjfhkjaa.Mvint

def hb (m : Nat) : UInt8 := UInt8.ofNat (m % 128 + 128)
def lb (n : Nat) : UInt8 := UInt8.ofNat (n % 128)
/-- the groups ahead of the last one -/
def hiD : Nat → Nat → List UInt8
  | 0, _ => []
  | k + 1, m => if m = 0 then [] else hiD k (m / 128) ++ [hb m]
def toB (l : List Int) : List UInt8 := l.map fun n => UInt8.ofNat n.toNat
theorem tail_hi : ∀ (k m : Nat) (acc : List Int), toB (tailG k m acc) = hiD k m ++ toB acc
  | 0, m, acc => by simp [tailG, hiD]
  | k + 1, m, acc => by
    unfold tailG hiD
    by_cases h : m = 0
    · rw [if_pos h, if_pos h]; rfl
    · rw [if_neg h, if_neg h, tail_hi k (m / 128), List.append_assoc]
      congr 1
theorem hi_le : ∀ (k m : Nat), (hiD k m).length ≤ k
  | 0, m => by simp [hiD]
  | k + 1, m => by
    unfold hiD
    split
    · simp
    · have := hi_le k (m / 128)
      simp; omega
theorem byte_hi (m : Nat) : (hb m).toNat = m % 128 + 128 := by
  unfold hb; rw [UInt8.toNat_ofNat']; omega
theorem hi_big : ∀ (k m : Nat), ∀ c ∈ hiD k m, 128 ≤ c.toNat
  | 0, m, c, h => by simp [hiD] at h
  | k + 1, m, c, h => by
    unfold hiD at h
    split at h
    · simp at h
    · rw [List.mem_append] at h
      rcases h with h | h
      · exact hi_big k (m / 128) c h
      · simp at h; subst h; rw [byte_hi]; omega
theorem hi_val : ∀ (k m : Nat), m < 128 ^ k → NN (hiD k m) = m
  | 0, m, h => by simp at h; subst h; rfl
  | k + 1, m, h => by
    unfold hiD
    by_cases h0 : m = 0
    · rw [if_pos h0, h0]; rfl
    · rw [if_neg h0]
      have h1 : m / 128 < 128 ^ k := by rw [Nat.pow_succ] at h; exact Nat.div_lt_of_lt_mul (by rw [Nat.mul_comm]; exact h)
      have ih := hi_val k (m / 128) h1
      unfold NN at ih ⊢
      rw [List.foldl_append, ih]
      simp only [List.foldl_cons, List.foldl_nil, byte_hi]
      omega
theorem hi_head : ∀ (k m : Nat), m < 128 ^ k → (hiD k m).head? ≠ some 128
  | 0, m, h => by simp [hiD]
  | k + 1, m, h => by
    unfold hiD
    by_cases h0 : m = 0
    · rw [if_pos h0]; simp
    · rw [if_neg h0]
      have h1 : m / 128 < 128 ^ k := by rw [Nat.pow_succ] at h; exact Nat.div_lt_of_lt_mul (by rw [Nat.mul_comm]; exact h)
      have ih := hi_head k (m / 128) h1
      rcases hq : hiD k (m / 128) with _ | ⟨a, l⟩
      · have hz := hi_val k (m / 128) h1
        rw [hq] at hz
        have hz0 : m / 128 = 0 := by rw [← hz]; rfl
        intro hc
        simp at hc
        have hc2 := congrArg UInt8.toNat hc
        rw [byte_hi] at hc2
        have : (128 : UInt8).toNat = 128 := rfl
        omega
      · rw [hq] at ih
        simpa using ih
theorem hi_len : ∀ (k m : Nat), m < 128 ^ k → m ≠ 0 → 128 ^ ((hiD k m).length - 1) ≤ m ∧ 1 ≤ (hiD k m).length
  | 0, m, h, h0 => by simp at h; omega
  | k + 1, m, h, h0 => by
    unfold hiD
    rw [if_neg h0]
    have h1 : m / 128 < 128 ^ k := by rw [Nat.pow_succ] at h; exact Nat.div_lt_of_lt_mul (by rw [Nat.mul_comm]; exact h)
    simp only [List.length_append, List.length_cons, List.length_nil, Nat.zero_add, Nat.add_sub_cancel]
    by_cases hz : m / 128 = 0
    · have : hiD k (m / 128) = [] := by rw [hz]; cases k <;> simp [hiD]
      rw [this]
      simp
      omega
    · obtain ⟨i1, i2⟩ := hi_len k (m / 128) h1 hz
      obtain ⟨r, hr⟩ : ∃ r, (hiD k (m / 128)).length = r + 1 := ⟨(hiD k (m / 128)).length - 1, by omega⟩
      rw [hr] at i1 ⊢
      rw [Nat.pow_succ]
      simp only [Nat.add_sub_cancel] at i1
      omega
theorem last_cut (B : List UInt8) (d : UInt8) (rest : List UInt8) (hB : ∀ c ∈ B, 128 ≤ c.toNat) (hd : d.toNat < 128) (hl : B.length ≤ 9) : lastOf (B ++ d :: rest) = B.length := by
  unfold lastOf
  obtain ⟨j, hj⟩ : ∃ j, 10 - B.length = j + 1 := ⟨9 - B.length, by omega⟩
  have ht : (B ++ d :: rest).take 10 = B ++ d :: rest.take j := by
    rw [List.take_append, hj, List.take_of_length_le (by omega)]; rfl
  rw [ht, List.takeWhile_append_of_pos (fun c hc => by simpa using hB c hc), List.takeWhile_cons_of_neg (by simp; omega)]
  simp
theorem scan_num (n : Nat) (hn : n < 18446744073709551616) (rest : List UInt8) : scanE (toB (num n) ++ rest) = (0, (num n).length, (n : Int)) := by
  have he : toB (num n) = hiD 9 (n / 128) ++ [lb n] := by
    unfold num
    rw [tail_hi]
    rfl
  have hlen : (num n).length = (hiD 9 (n / 128)).length + 1 := by
    have : (toB (num n)).length = (num n).length := by simp [toB]
    rw [← this, he]; simp
  have e9 : (128 : Nat) ^ 9 = 9223372036854775808 := by decide
  have hm : n / 128 < 128 ^ 9 := by rw [e9]; omega
  have h1 := hi_le 9 (n / 128)
  have h2 := hi_big 9 (n / 128)
  have h3 := hi_val 9 (n / 128) hm
  have h4 := hi_head 9 (n / 128) hm
  have h5 := hi_len 9 (n / 128) hm
  have hd : (lb n).toNat = n % 128 := by unfold lb; rw [UInt8.toNat_ofNat']; omega
  generalize hiD 9 (n / 128) = B at *
  rw [he, hlen, List.append_assoc]
  simp only [List.singleton_append]
  have hL := last_cut B (lb n) rest h2 (by rw [hd]; omega) h1
  have htk : (B ++ lb n :: rest).take (B.length + 1) = B ++ [lb n] := by
    rw [List.take_append, List.take_of_length_le (by omega)]
    simp
  have hv : NN (B ++ [lb n]) = n := by
    unfold NN at h3 ⊢
    rw [List.foldl_append, h3]
    simp only [List.foldl_cons, List.foldl_nil, hd]
    omega
  unfold scanE
  rw [hL, if_neg, if_neg (by omega), if_neg (by simp), if_neg]
  · congr 2
    rw [htk]
    have hx := valG_NN (B ++ [lb n]) (B.length + 1) (by simp) (fun i hi => ?_)
    · rw [List.take_of_length_le (by simp)] at hx
      rw [hx, hv]
    · rcases Nat.lt_or_ge i 9 with h | h
      · exact NN_eight _ i (by simp; omega) (by omega)
      · obtain rfl : i = B.length := by omega
        rw [List.take_append, List.take_of_length_le (Nat.le_refl _)]
        simp only [Nat.sub_self, List.take_zero, List.append_nil]
        omega
  · rintro ⟨h9, hgt⟩
    have hB0 : 0 < B.length := by omega
    have hg : (B ++ lb n :: rest).getD 0 0 = B[0] := by
      rw [List.getD_eq_getElem?_getD, List.getElem?_append_left hB0, List.getElem?_eq_getElem hB0]; rfl
    rw [hg] at hgt
    have hf := NN_first B hB0 8 (by omega)
    rw [List.take_of_length_le (by omega), h3] at hf
    have := B[0].toNat_lt
    have e8 : (128 : Nat) ^ 8 = 72057594037927936 := by decide
    rw [e8] at hf
    have e2 : B[0].toNat % 128 = B[0].toNat - 128 := by omega
    rw [e2] at hf
    omega
  · rcases B with _ | ⟨b, B⟩
    · intro hc
      simp at hc
      have hc2 := congrArg UInt8.toNat hc
      rw [hd] at hc2
      have : (128 : UInt8).toNat = 128 := rfl
      omega
    · simpa using h4

end Go.Proofs.Ytpfglhjgjfhkjaa.Mback

/- What is read was written just so: the converse of scan_num. No program in sight. -/
import Derived.Test.YtpfglhjgjfhkjaaMback
namespace Go.Proofs.Ytpfglhjgjfhkjaa.Mback
set_option linter.unusedVariables false
open Go.Proofs.Ytpfglhjgjfhkjaa.Mget Go.Proofs.Ytpfglhjgjfhkjaa.Mvint

theorem NN_app (B : List UInt8) (c : UInt8) : NN (B ++ [c]) = NN B * 128 + c.toNat % 128 := by
  unfold NN; rw [List.foldl_append]; rfl
theorem NN_pos (B : List UInt8) (h0 : 0 < B.length) (hB : ∀ c ∈ B, 128 ≤ c.toNat) (hh : B.head? ≠ some 128) : 0 < NN B := by
  have h1 := (NN_first B h0 (B.length - 1) (by omega)).1
  rw [List.take_of_length_le (by omega)] at h1
  have hne : B[0].toNat ≠ 128 := fun hc => hh (by rw [List.head?_eq_getElem?, List.getElem?_eq_getElem h0]; congr 1; exact UInt8.toNat_inj.1 hc)
  have h2 := hB B[0] (List.getElem_mem h0)
  have h3 := B[0].toNat_lt
  have h4 : 1 * 128 ^ (B.length - 1) ≤ (B[0].toNat % 128) * 128 ^ (B.length - 1) := Nat.mul_le_mul_right _ (by omega)
  have h5 : 0 < 128 ^ (B.length - 1) := Nat.pow_pos (by decide)
  omega
theorem hi_of : ∀ (k : Nat) (B : List UInt8), B.length ≤ k → (∀ c ∈ B, 128 ≤ c.toNat) → B.head? ≠ some 128 → hiD k (NN B) = B
  | 0, B, h, _, _ => by
    obtain rfl : B = [] := List.length_eq_zero_iff.mp (by omega)
    rfl
  | k + 1, B, h, hB, hh => by
    rcases List.eq_nil_or_concat B with rfl | ⟨B', c, rfl⟩
    · simp [hiD, NN]
    · rw [List.concat_eq_append] at *
      have hp := NN_pos (B' ++ [c]) (by simp) hB hh
      have hc := hB c (by simp)
      have hc2 := c.toNat_lt
      unfold hiD
      rw [if_neg (by omega)]
      rw [NN_app]
      have h1 : (NN B' * 128 + c.toNat % 128) / 128 = NN B' := by omega
      have h2 : hb (NN B' * 128 + c.toNat % 128) = c := by
        unfold hb
        rw [show (NN B' * 128 + c.toNat % 128) % 128 + 128 = c.toNat by omega]
        simp
      rw [h1, h2]
      by_cases hn : B' = []
      · subst hn
        have : NN ([] : List UInt8) = 0 := rfl
        rw [this]; cases k <;> simp [hiD]
      · rw [hi_of k B' (by simp at h; omega) (fun x hx => hB x (by simp [hx])) (by cases B' with | nil => exact absurd rfl hn | cons a t => simpa using hh)]
theorem num_scan (l : List UInt8) (h : (scanE l).1 = 0) : toB (num (scanE l).2.2.toNat) = l.take (scanE l).2.1 := by
  have hle := lastOf_le l
  unfold scanE at h ⊢
  by_cases h1 : l.head? = some 128
  · rw [if_pos h1] at h; cases h
  rw [if_neg h1] at h ⊢
  by_cases h2 : lastOf l = 10
  · rw [if_pos h2] at h; cases h
  rw [if_neg h2] at h ⊢
  by_cases h3 : lastOf l = l.length
  · rw [if_pos h3] at h; cases h
  rw [if_neg h3] at h ⊢
  by_cases h4 : lastOf l = 9 ∧ 129 < (l.getD 0 0).toNat
  · rw [if_pos h4] at h; cases h
  rw [if_neg h4]
  simp only
  have hpl : lastOf l < l.length := by omega
  have hd := last_end l (by omega) hpl
  have hv : valG (l.take (lastOf l + 1)) = (NN (l.take (lastOf l + 1)) : Int) := by
    refine valG_NN l _ (by omega) (fun i hi => ?_)
    rcases Nat.lt_or_ge i 9 with h9 | h9
    · exact NN_eight l i (by omega) (by omega)
    · obtain rfl : i = 9 := by omega
      have hm : 128 ≤ (l.getD 0 0).toNat := by
        obtain ⟨ha, _, hb⟩ := last_before l 0 (by omega)
        rw [List.getD_eq_getElem?_getD, List.getElem?_eq_getElem ha]; exact hb
      have := NN_nine l (by omega) h1 hm
      omega
  rw [hv, Int.toNat_natCast]
  have hB : ∀ c ∈ l.take (lastOf l), 128 ≤ c.toNat := by
    intro c hc
    obtain ⟨j, hj, rfl⟩ := List.getElem_of_mem hc
    rw [List.length_take] at hj
    rw [List.getElem_take]
    exact (last_before l j (by omega)).2.2
  have hh : (l.take (lastOf l)).head? ≠ some 128 := by
    cases l with
    | nil => simp
    | cons a t =>
      cases hq : lastOf (a :: t) with
      | zero => simp
      | succ q => simpa using h1
  have hk := hi_of 9 (l.take (lastOf l)) (by rw [List.length_take]; omega) hB hh
  rw [NN_succ l _ hpl, List.take_succ_eq_append_getElem hpl]
  have he : ∀ n, toB (num n) = hiD 9 (n / 128) ++ [lb n] := fun n => by unfold num; rw [tail_hi]; rfl
  rw [he, show (NN (l.take (lastOf l)) * 128 + l[lastOf l].toNat % 128) / 128 = NN (l.take (lastOf l)) by omega, hk]
  congr 2
  unfold lb
  rw [show (NN (l.take (lastOf l)) * 128 + l[lastOf l].toNat % 128) % 128 = l[lastOf l].toNat by omega]
  simp

end Go.Proofs.Ytpfglhjgjfhkjaa.Mback

/- What a number's bytes are when they are read, over plain lists. No program in sight. -/
import Derived.Laws.BitsAllLaws
namespace Go.Proofs.Ytpfglhjgjfhkjaa.Mget
set_option linter.unusedVariables false

/-- how many bytes with a mark stand ahead, ten at most -/
def lastOf (l : List UInt8) : Nat := ((l.take 10).takeWhile (fun c => decide (128 ≤ c.toNat))).length
theorem lastOf_le (l : List UInt8) : lastOf l ≤ 10 ∧ lastOf l ≤ l.length := by
  unfold lastOf
  have h := (List.takeWhile_sublist (l := l.take 10) (fun c => decide (128 ≤ c.toNat))).length_le
  rw [List.length_take] at h
  omega
theorem takeWhile_at {α : Type} (p : α → Bool) : ∀ (l : List α) (j : Nat), j < (l.takeWhile p).length → ∃ h : j < l.length, p l[j] = true
  | [], j, h => by simp at h
  | a :: l, j, h => by
    by_cases ha : p a = true
    · rw [List.takeWhile_cons_of_pos ha] at h
      cases j with
      | zero => exact ⟨by simp, ha⟩
      | succ j =>
        obtain ⟨h1, h2⟩ := takeWhile_at p l j (by simpa using h)
        exact ⟨by simpa using h1, by simpa using h2⟩
    · rw [List.takeWhile_cons_of_neg ha] at h; simp at h
theorem takeWhile_end {α : Type} (p : α → Bool) : ∀ (l : List α) (h : (l.takeWhile p).length < l.length), p l[(l.takeWhile p).length] = false
  | [], h => by simp at h
  | a :: l, h => by
    by_cases ha : p a = true
    · have h' : (l.takeWhile p).length < l.length := by
        rw [List.takeWhile_cons_of_pos ha] at h; simpa using h
      have ih := takeWhile_end p l h'
      simp only [List.takeWhile_cons_of_pos ha, List.length_cons, List.getElem_cons_succ]
      exact ih
    · simp only [List.takeWhile_cons_of_neg ha, List.length_nil, List.getElem_cons_zero]
      simpa using ha
theorem last_before (l : List UInt8) (j : Nat) (h : j < lastOf l) : ∃ hj : j < l.length, j < 10 ∧ 128 ≤ l[j].toNat := by
  obtain ⟨h1, h2⟩ := takeWhile_at _ _ j h
  rw [List.length_take] at h1
  refine ⟨by omega, by omega, ?_⟩
  simpa using h2
theorem last_end (l : List UInt8) (h10 : lastOf l < 10) (h : lastOf l < l.length) : l[lastOf l].toNat < 128 := by
  have hl : lastOf l < (l.take 10).length := by rw [List.length_take]; omega
  have h2 : decide (128 ≤ ((l.take 10)[lastOf l]'hl).toNat) = false := takeWhile_end _ (l.take 10) hl
  simp only [List.getElem_take, decide_eq_false_iff_not] at h2
  omega
/-- one group more -/
def grp (x : Int) (c : UInt8) : Int := Go.IntKind.u64.wrap (Go.IntKind.u64.wrap (x * 128) + (c.toNat : Int) % 128)
theorem grp_walk (y : Int) (c : UInt8) : Go.IntKind.u64.wrap (Go.IntKind.u64.wrap (y * 128) + (Go.IntKind.u64.wrap (c.toNat : Int)).tmod 128) = grp y c := by
  have := c.toNat_lt
  have h : Go.IntKind.u64.wrap (c.toNat : Int) = (c.toNat : Int) := by simp [Go.IntKind.wrap, Go.IntKind.bits, Go.IntKind.signed]; omega
  rw [h, Int.tmod_eq_emod_of_nonneg (by omega)]; rfl
def valG (l : List UInt8) : Int := l.foldl grp 0
theorem valG_succ (l : List UInt8) (j : Nat) (h : j < l.length) : valG (l.take (j + 1)) = grp (valG (l.take j)) l[j] := by
  rw [List.take_succ_eq_append_getElem h, valG, List.foldl_append]; rfl
theorem grp_range (x : Int) (c : UInt8) : 0 ≤ grp x c ∧ grp x c < 18446744073709551616 := by
  unfold grp
  simp only [Go.IntKind.wrap, Go.IntKind.bits, Go.IntKind.signed]
  simp
  omega
theorem valG_range (l : List UInt8) : 0 ≤ valG l ∧ valG l < 18446744073709551616 := by
  rcases List.eq_nil_or_concat l with rfl | ⟨l', c, rfl⟩
  · simp [valG]
  · simp only [valG, List.concat_eq_append, List.foldl_append, List.foldl_cons, List.foldl_nil]
    exact grp_range _ _
/-- which error, or the number's bytes and the number -/
def scanE (l : List UInt8) : Int × Nat × Int :=
  if l.head? = some 128 then (2, 0, 0)
  else if lastOf l = 10 then (2, 0, 0)
  else if lastOf l = l.length then (3, 0, 0)
  else if lastOf l = 9 ∧ 129 < (l.getD 0 0).toNat then (2, 0, 0)
  else (0, lastOf l + 1, valG (l.take (lastOf l + 1)))

/-! ### the value without bounds -/
def NN (l : List UInt8) : Nat := l.foldl (fun n c => n * 128 + c.toNat % 128) 0
theorem NN_succ (l : List UInt8) (j : Nat) (h : j < l.length) : NN (l.take (j + 1)) = NN (l.take j) * 128 + l[j].toNat % 128 := by
  rw [List.take_succ_eq_append_getElem h, NN, List.foldl_append]; rfl
theorem NN_lt (l : List UInt8) : ∀ j, j ≤ l.length → NN (l.take j) < 128 ^ j
  | 0, _ => by simp [NN]
  | j + 1, h => by
    have ih := NN_lt l j (by omega)
    rw [NN_succ l j (by omega), Nat.pow_succ]
    have := Nat.mod_lt (l[j].toNat) (show 0 < 128 by decide)
    have : NN (l.take j) + 1 ≤ 128 ^ j := ih
    have := Nat.mul_le_mul_right 128 this
    omega
theorem NN_eight (l : List UInt8) (i : Nat) (h : i ≤ l.length) (h8 : i ≤ 8) : NN (l.take i) < 144115188075855872 := by
  have h1 := NN_lt l i h
  have h2 : (128 : Nat) ^ i ≤ 128 ^ 8 := Nat.pow_le_pow_right (by decide) h8
  have h3 : (128 : Nat) ^ 8 = 72057594037927936 := by decide
  omega
theorem not128 (l : List UInt8) (h0 : 0 < l.length) (h : l.head? ≠ some 128) : (((l[0].toNat : Nat) : Int) == 128) = false := by
  refine beq_eq_false_iff_ne.mpr (fun hq => h ?_)
  rw [List.head?_eq_getElem?, List.getElem?_eq_getElem h0]
  congr 1
  exact UInt8.toNat_inj.1 (by have : (128 : UInt8).toNat = 128 := rfl; omega)
/-- the first group tells the size -/
theorem NN_first (l : List UInt8) (h0 : 0 < l.length) : ∀ j, j + 1 ≤ l.length → (l[0].toNat % 128) * 128 ^ j ≤ NN (l.take (j + 1)) ∧ NN (l.take (j + 1)) < (l[0].toNat % 128 + 1) * 128 ^ j
  | 0, _ => by
    rw [NN_succ l 0 h0]
    simp [NN]
  | j + 1, h => by
    obtain ⟨h1, h2⟩ := NN_first l h0 j (by omega)
    rw [NN_succ l (j + 1) (by omega), Nat.pow_succ, ← Nat.mul_assoc, ← Nat.mul_assoc]
    have := Nat.mod_lt (l[j + 1].toNat) (show 0 < 128 by decide)
    have h3 : NN (l.take (j + 1)) + 1 ≤ (l[0].toNat % 128 + 1) * 128 ^ j := h2
    have h4 := Nat.mul_le_mul_right 128 h3
    have h5 := Nat.mul_le_mul_right 128 h1
    omega
/-- which numbers of ten bytes there are -/
theorem NN_nine (l : List UInt8) (h : 9 ≤ l.length) (h128 : l.head? ≠ some 128) (hm : 128 ≤ (l.getD 0 0).toNat) : 144115188075855872 ≤ NN (l.take 9) ↔ 129 < (l.getD 0 0).toNat := by
  have h0 : 0 < l.length := by omega
  have hf : (l[0].toNat % 128) * 128 ^ 8 ≤ NN (l.take 9) ∧ NN (l.take 9) < (l[0].toNat % 128 + 1) * 128 ^ 8 := NN_first l h0 8 (by omega)
  have hd : l.getD 0 0 = l[0] := by rw [List.getD_eq_getElem?_getD, List.getElem?_eq_getElem h0]; rfl
  have hne : l[0].toNat ≠ 128 := fun hc => h128 (by rw [List.head?_eq_getElem?, List.getElem?_eq_getElem h0]; congr 1; exact UInt8.toNat_inj.1 hc)
  have := l[0].toNat_lt
  rw [hd] at hm ⊢
  have e1 : (128 : Nat) ^ 8 = 72057594037927936 := by decide
  rw [e1] at hf
  have e2 : l[0].toNat % 128 = l[0].toNat - 128 := by omega
  rw [e2] at hf
  omega
theorem grp_exact (x : Nat) (c : UInt8) (h : x < 144115188075855872) : grp (x : Int) c = ((x * 128 + c.toNat % 128 : Nat) : Int) := by
  unfold grp
  simp only [Go.IntKind.wrap, Go.IntKind.bits, Go.IntKind.signed]
  simp
  omega
theorem valG_NN (l : List UInt8) : ∀ j, j ≤ l.length → (∀ i, i < j → NN (l.take i) < 144115188075855872) → valG (l.take j) = (NN (l.take j) : Int)
  | 0, _, _ => by simp [valG, NN]
  | j + 1, h, hb => by
    rw [valG_succ l j (by omega), valG_NN l j (by omega) (fun i hi => hb i (by omega)), grp_exact _ _ (hb j (by omega)), NN_succ l j (by omega)]
theorem or7 (n c : Nat) (h : n < 144115188075855872) (hc : c < 256) : Go.bits .or .u64 (Go.IntKind.u64.wrap ((n : Int) * 128)) (Go.IntKind.u64.wrap (Go.bits .and .u8 (c : Int) 127)) = ((n * 128 + c % 128 : Nat) : Int) := by
  have h1 : Go.bits .and .u8 (c : Int) 127 = ((c % 128 : Nat) : Int) := by
    rw [show (127 : Int) = ((127 : Nat) : Int) from rfl, u8_and_nat _ _ hc (by decide)]
    congr 1
    have := Nat.and_two_pow_sub_one_eq_mod c 7
    simpa using this
  have h2 : Go.IntKind.u64.wrap ((n : Int) * 128) = ((n * 128 : Nat) : Int) := by simp [Go.IntKind.wrap, Go.IntKind.bits, Go.IntKind.signed]; omega
  have h3 : Go.IntKind.u64.wrap ((c % 128 : Nat) : Int) = ((c % 128 : Nat) : Int) := by simp [Go.IntKind.wrap, Go.IntKind.bits, Go.IntKind.signed]; omega
  rw [h1, h2, h3, u64_or_nat _ _ (by omega) (by omega)]
  congr 1
  have := Nat.two_pow_add_eq_or_of_lt (i := 7) (b := c % 128) (by omega) n
  rw [Nat.mul_comm] at this
  simpa using this.symm

theorem scan_ok (l : List UInt8) (h : (scanE l).1 = 0) : (scanE l).2.1 ≤ l.length ∧ 1 ≤ (scanE l).2.1 ∧ (scanE l).2.1 ≤ 10 ∧ 0 ≤ (scanE l).2.2 ∧ (scanE l).2.2 < 18446744073709551616 := by
  have hle := lastOf_le l
  unfold scanE at h ⊢
  by_cases h1 : l.head? = some 128
  · rw [if_pos h1] at h; cases h
  rw [if_neg h1] at h ⊢
  by_cases h2 : lastOf l = 10
  · rw [if_pos h2] at h; cases h
  rw [if_neg h2] at h ⊢
  by_cases h3 : lastOf l = l.length
  · rw [if_pos h3] at h; cases h
  rw [if_neg h3] at h ⊢
  by_cases h4 : lastOf l = 9 ∧ 129 < (l.getD 0 0).toNat
  · rw [if_pos h4] at h; cases h
  rw [if_neg h4]
  have := valG_range (l.take (lastOf l + 1))
  exact ⟨by simp; omega, by simp, by simp; omega, this.1, this.2⟩

end Go.Proofs.Ytpfglhjgjfhkjaa.Mget

/- The bytes of a number: groups of seven bits, the highest first. Plain lists, no program in sight. -/
import Derived.Laws.BitsAllLaws
namespace Go.Proofs.Ytpfglhjgjfhkjaa.Mvint
set_option linter.unusedVariables false

/-- what stands ahead of the groups that are laid -/
def tailG : Nat → Nat → List Int → List Int
  | 0, _, acc => acc
  | k + 1, n, acc => if n = 0 then acc else tailG k (n / 128) (((n % 128 + 128 : Nat) : Int) :: acc)
/-- a number's bytes -/
def num (n : Nat) : List Int := tailG 9 (n / 128) [((n % 128 : Nat) : Int)]
theorem tailG_zero (k : Nat) (acc : List Int) : tailG k 0 acc = acc := by cases k <;> simp [tailG]
theorem tailG_len : ∀ (k n : Nat) (acc : List Int), (tailG k n acc).length ≤ k + acc.length
  | 0, n, acc => by simp [tailG]
  | k + 1, n, acc => by
    unfold tailG
    split
    · omega
    · have := tailG_len k (n / 128) (((n % 128 + 128 : Nat) : Int) :: acc)
      simp at this ⊢
      omega
theorem num_len (n : Nat) : (num n).length ≤ 10 := by
  have := tailG_len 9 (n / 128) [((n % 128 : Nat) : Int)]
  simpa [num] using this
theorem and127 (m : Nat) (h : m < 2 ^ 64) : Go.bits .and .u64 (m : Int) 127 = ((m % 128 : Nat) : Int) := by
  rw [show (127 : Int) = ((127 : Nat) : Int) from rfl, u64_and_nat _ _ (by omega) (by decide)]
  congr 1
  have := Nat.and_two_pow_sub_one_eq_mod m 7
  simpa using this
theorem or128 (m : Nat) (h : m < 128) : Go.bits .or .u8 (m : Int) 128 = ((m + 128 : Nat) : Int) := by
  rw [show (128 : Int) = ((128 : Nat) : Int) from rfl, u8_or_nat _ _ (by omega) (by decide)]
  congr 1
  have := Nat.two_pow_add_eq_or_of_lt (i := 7) (b := m) (by omega) 1
  rw [Nat.or_comm]
  simp at this
  omega

theorem bstep (m k : Nat) (h : m < 2 ^ (7 * (k + 1) - 6)) : m / 128 < 2 ^ (7 * k - 6) := by
  cases k with
  | zero =>
    simp at h ⊢
    omega
  | succ k =>
    rw [show 7 * (k + 1 + 1) - 6 = (7 * (k + 1) - 6) + 7 by omega, Nat.pow_add] at h
    exact Nat.div_lt_of_lt_mul (by omega)
theorem bzero (m : Nat) (h : m < 2 ^ (7 * 0 - 6)) : m = 0 := by simp at h; exact h
theorem btop (m k : Nat) (hk : k ≤ 9) (h : m < 2 ^ (7 * k - 6)) : m < 2 ^ 64 := Nat.lt_of_lt_of_le h (Nat.pow_le_pow_right (by decide) (by omega))

end Go.Proofs.Ytpfglhjgjfhkjaa.Mvint

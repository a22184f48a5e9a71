/- Plain laws of the writers of numbers, held against the reference's. No program in sight. -/
import Derived.Test.YtpfglhjgjfhkjaaXP2
import Derived.Test.YtpfglhjgjfhkjaaXP2
import Derived.Test.YtpfglhjgjfhkjaaXP2
import Derived.Test.YtpfglhjgjfhkjaaXP2
import Derived.Test.YtpfglhjgjfhkjaaXP2
import Derived.Test.YtpfglhjgjfhkjaaMback
import Derived.Test.YtpfglhjgjfhkjaaQcrc
namespace Go.Proofs.Ytpfglhjgjfhkjaa.Qvput
set_option linter.unusedVariables false
open Go.RowKit Go.Proofs.Ytpfglhjgjfhkjaa.XP Go.Proofs.YtpfglhjgjfhkjaaW.PrintWords Go.Proofs.YtpfglhjgjfhkjaaW.PrintLast Go.Proofs.Ytpfglhjgjfhkjaa.Mget Go.Proofs.Ytpfglhjgjfhkjaa.Mvint Go.Proofs.Ytpfglhjgjfhkjaa.Mback Go.Proofs.Ytpfglhjgjfhkjaa.Qcrc

theorem wn (n : Nat) (h : n < 9223372036854775808) : wrap64 (n : Int) = (n : Int) := by unfold wrap64; omega
theorem wr (x : Int) (n : Nat) (h : x = (n : Int)) (hn : n < 9223372036854775808) : wrap64 x = (n : Int) := by rw [h]; exact wn n hn
theorem u64_nat (n : Nat) (h : n < 18446744073709551616) : IntKind.u64.wrap (n : Int) = (n : Int) := by
  simp [IntKind.wrap, IntKind.bits, IntKind.signed]; omega
theorem str_bytesOf (l : List Int) (s : ByteArray) : strOfNums (l ++ bytesOf s) = strOfNums l ++ s := by
  apply bytes_ext
  have h : ∀ l : List UInt8, l.map ((fun n : Int => UInt8.ofNat n.toNat) ∘ fun b : UInt8 => (b.toNat : Int)) = l := fun l => by
    rw [List.map_congr_left (g := id) (fun c _ => by simp)]; simp
  simp [strOfNums_data, bytesOf, h]
theorem w64i (x : Int) (h : -9223372036854775808 ≤ x ∧ x < 9223372036854775808) : wrap64 x = x := by unfold wrap64; omega
theorem u64i (x : Int) (h : 0 ≤ x ∧ x < 18446744073709551616) : IntKind.u64.wrap x = x := by
  obtain ⟨n, rfl⟩ : ∃ n : Nat, x = (n : Int) := ⟨x.toNat, by omega⟩
  exact u64_nat n (by omega)
/-- the number that a number with a sign is written as -/
def zz (m : Int) : Int := if m < 0 then -(m + 1) * 2 + 1 else m * 2
theorem zz_range (m : Int) (h : -9223372036854775808 ≤ m ∧ m < 9223372036854775808) : 0 ≤ zz m ∧ zz m < 18446744073709551616 := by
  unfold zz; split <;> omega
theorem put_num (l : List Int) (n : Int) (hn : 0 ≤ n ∧ n < 18446744073709551616) (hl : l.length ≤ 140737488355000) : vint_Put.f l n = some (l ++ num n.toNat) := by
  unfold vint_Put.f; rw [if_pos ⟨hn.1, hn.2, hl⟩]
theorem putint_some (l : List Int) (m : Int) (h : -9223372036854775808 ≤ m ∧ m < 9223372036854775808) (hl : l.length ≤ 140737488355000) : vint_PutInt.f l m = some (l ++ num (zz m).toNat) := by
  have hz := zz_range m h
  unfold vint_PutInt.f
  unfold zz at hz ⊢
  by_cases hm : m < 0
  · rw [if_pos hm] at hz ⊢
    rw [if_pos hm, w64i (m + 1) (by omega), w64i _ (by omega), u64i (-(m + 1)) (by omega), u64i (-(m + 1) * 2) (by omega), u64i _ hz, put_num l _ hz hl]
    rfl
  · rw [if_neg hm] at hz ⊢
    rw [if_neg hm, u64i m (by omega), u64i _ hz, put_num l _ hz hl]
    rfl
theorem str_cons (a : Int) (l : List Int) : strOfNums [a] ++ strOfNums l = strOfNums (a :: l) := by
  apply bytes_ext; simp [strOfNums_data]
theorem num_l0 : ∀ (d k i x : Nat) (acc : List Int), i + d = 9 → d < k → x < 18446744073709551616 → acc.length ≤ 1000 + i → treillageref03_Num.l0 k (x : Int) (strOfNums acc) (i : Int) = some (strOfNums (tailG d (x / 128) acc))
  | 0, k, i, x, acc, hi, hk, hx, hl => by
    obtain ⟨k, rfl⟩ : ∃ m, k = m + 1 := ⟨k - 1, by omega⟩
    rw [treillageref03_Num.l0, if_neg (by omega)]
    rfl
  | d + 1, k, i, x, acc, hi, hk, hx, hl => by
    obtain ⟨k, rfl⟩ : ∃ m, k = m + 1 := ⟨k - 1, by omega⟩
    have hd : IntKind.u64.wrap (Int.tdiv (x : Int) 128) = ((x / 128 : Nat) : Int) := by
      rw [Int.tdiv_eq_ediv_of_nonneg (by omega), show (x : Int) / 128 = ((x / 128 : Nat) : Int) by omega, u64_nat _ (by omega)]
    have hw : wrap64 ((i : Int) + 1) = ((i + 1 : Nat) : Int) := by unfold wrap64; omega
    rw [treillageref03_Num.l0, if_pos (by omega), hd, hw]
    by_cases h0 : x / 128 = 0
    · rw [if_neg (by omega), num_l0 d k (i + 1) (x / 128) acc (by omega) (by omega) (by omega) (by omega), h0, tailG_zero, tailG_zero]
    · have hm : (IntKind.u64.wrap (Int.tmod ((x / 128 : Nat) : Int) 128 + 128)) % 256 = ((x / 128 % 128 + 128 : Nat) : Int) := by
        rw [Int.tmod_eq_emod_of_nonneg (by omega), show ((x / 128 : Nat) : Int) % 128 + 128 = ((x / 128 % 128 + 128 : Nat) : Int) by omega, u64_nat _ (by omega)]
        omega
      rw [if_pos (by omega), hm]
      simp only [Option.bind_some]
      rw [if_pos (by rw [strOfNums_size, strOfNums_size]; simp; omega), str_cons, num_l0 d k (i + 1) (x / 128) _ (by omega) (by omega) (by omega) (by simp; omega), tailG, if_neg h0]
theorem ref_num (n k : Nat) (h : n < 18446744073709551616) (hk : 10 ≤ k) : treillageref03_Num.f k (n : Int) = some (strOfNums (num n)) := by
  unfold treillageref03_Num.f num
  have ht : (Int.tmod (n : Int) 128) % 256 = ((n % 128 : Nat) : Int) := by rw [Int.tmod_eq_emod_of_nonneg (by omega)]; omega
  rw [ht]
  exact num_l0 9 k 0 n _ (by omega) (by omega) h (by simp)
theorem ref_text (s : ByteArray) (k : Nat) (h : s.size ≤ 140737488355328) (hk : 10 ≤ k) : treillageref03_Text.f k s = some (strOfNums (num s.size) ++ s) := by
  unfold treillageref03_Text.f
  have hn := num_len s.size
  rw [u64_nat _ (by omega), ref_num _ k (by omega) hk]
  simp only [Option.bind_some]
  rw [if_pos (by rw [strOfNums_size]; omega)]

/-! ### records -/
theorem toB_str (l : List Int) : (strOfNums l).data.toList = toB l := by rw [strOfNums_data]; rfl

theorem put_nat (l : List Int) (n : Nat) (hn : n < 18446744073709551616) (hl : l.length ≤ 140737488355000) : vint_Put.f l (n : Int) = some (l ++ num n) := put_num l n (by omega) hl
theorem puttext_some (l : List Int) (s : ByteArray) (hl : l.length ≤ 100) (hs : s.size ≤ 400) : vint_PutText.f l s = some (l ++ num s.size ++ bytesOf s) := by
  have := num_len s.size
  unfold vint_PutText.f
  rw [u64_nat _ (by omega), put_nat _ _ (by omega) (by omega), Option.bind_some, if_pos (by simp only [List.length_append]; omega)]
theorem awake3 : treillagelaw03_awake.f = some true := by
  have p1 : vint_Put.f ([] : List Int) 300 = some [130, 44] := by rw [put_num _ _ (by decide) (by simp)]; rfl
  have p2 : vint_PutInt.f ([] : List Int) (-1) = some [1] := by rw [putint_some _ _ (by decide) (by simp)]; rfl
  have p3 : vint_PutText.f ([] : List Int) (⟨#[97, 98]⟩ : ByteArray) = some [2, 97, 98] := by
    unfold vint_PutText.f
    rw [show ((⟨#[97, 98]⟩ : ByteArray).size : Int) = 2 from rfl, show IntKind.u64.wrap 2 = 2 from rfl, put_num _ _ (by decide) (by simp)]
    rfl
  unfold treillagelaw03_awake.f
  rw [p1, p2, p3]
  simp only [Option.bind_some, ByteArray.toList_eq, toB_str]
  rfl

theorem sign_some (m : Int) (h : -9223372036854775808 ≤ m ∧ m < 9223372036854775808) : treillageref03_Sign.f m = some (zz m) := by
  have hz := zz_range m h
  unfold treillageref03_Sign.f
  unfold zz at hz ⊢
  by_cases hm : m < 0
  · rw [if_pos hm] at hz ⊢
    rw [if_neg (by omega), w64i (m + 1) (by omega), w64i _ (by omega), u64i (-(m + 1)) (by omega), u64i (2 * -(m + 1)) (by omega), u64i _ (by omega)]
    congr 1
    omega
  · rw [if_neg hm] at hz ⊢
    rw [if_pos (by omega), u64i m (by omega), u64i _ (by omega)]
    congr 1
    omega

end Go.Proofs.Ytpfglhjgjfhkjaa.Qvput

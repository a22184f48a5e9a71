/- Plain laws of the sum: what the reference's sum and seal come to, and the page's example. No program in sight. -/
import Derived.Test.YtpfglhjgjfhkjaaXP1
import Derived.Test.YtpfglhjgjfhkjaaXP1
import Derived.Test.YtpfglhjgjfhkjaaXP1
import Derived.Test.YtpfglhjgjfhkjaaXP2
import Derived.Test.YtpfglhjgjfhkjaaXP1
import Derived.Test.YtpfglhjgjfhkjaaXP2
namespace Go.Proofs.Ytpfglhjgjfhkjaa.Qcrc
set_option linter.unusedVariables false
open Go.RowKit Go.Proofs.Ytpfglhjgjfhkjaa.XP Go.Proofs.YtpfglhjgjfhkjaaW.PrintWords Go.Proofs.YtpfglhjgjfhkjaaW.PrintLast Go.Proofs.Ytpfglhjgjfhkjaa.Mcrc

theorem of_some (l : List ByteArray) (h : ∀ s ∈ l, s.size ≤ 140737488351232) : crc_Of.f l = some (crcN (catB l) : Int) := by
  unfold crc_Of.f
  rw [if_pos h, sum_cast]

theorem awake_true : treillagelaw04_awake.f = some true := by
  unfold treillagelaw04_awake.f
  rw [of_some _ (by decide), of_some _ (by simp)]
  have h1 : crcN (catB [(⟨#[49, 50, 51, 52]⟩ : ByteArray), (⟨#[53, 54, 55, 56, 57]⟩ : ByteArray)]) = 3808858755 := by decide +kernel
  have h2 : crcN (catB []) = 0 := by decide +kernel
  rw [h1, h2]
  rfl

theorem bt_byte (s : ByteArray) (i : Nat) (h : i < s.data.toList.length) : bt s (i : Int) = ((s.data.toList[i]).toNat : Int) := by
  have h' : i < s.size := by simpa using h
  simp [bt, h']
  rfl

/-- the inner loop: eight steps -/
theorem l1_steps (s : ByteArray) (i : Nat) : ∀ (d k j x : Nat), x < 2 ^ 32 → j + d = 8 → treillageref04_Of.l1 (k + d + 1) s (x : Int) (i : Int) (j : Int) = treillageref04_Of.l0 k s (stNs d x : Int) (wrap64 ((i : Int) + 1))
  | 0, k, j, x, hx, hj => by
    simp only [treillageref04_Of.l1]
    rw [if_neg (by omega)]
    rfl
  | d + 1, k, j, x, hx, hj => by
    have hs := stN_lt hx
    have ih := l1_steps s i d k (j + 1) (stN x) hs (by omega)
    rw [stNs_succ, ← ih, show k + (d + 1) + 1 = (k + d + 1) + 1 from by omega, treillageref04_Of.l1, if_pos (by omega)]
    have hw : wrap64 ((j : Int) + 1) = ((j + 1 : Nat) : Int) := by unfold wrap64; omega
    have ht : Int.tmod (x : Int) 2 = ((x % 2 : Nat) : Int) := by rw [Int.tmod_eq_emod_of_nonneg (by omega)]; omega
    have hd : (Int.tdiv (x : Int) 2) % 4294967296 = ((x / 2 : Nat) : Int) := by rw [Int.tdiv_eq_ediv_of_nonneg (by omega)]; omega
    rw [hw, ht, hd]
    unfold stN
    by_cases ho : x % 2 = 1
    · rw [if_pos (by omega), if_pos ho, show (2197175160 : Int) = ((2197175160 : Nat) : Int) from rfl, u32_xor_nat _ _ (by omega) (by decide)]
    · rw [if_neg (by omega), if_neg ho]

/-- the outer loop: what is left of the text is fed -/
theorem l0_feeds (s : ByteArray) (hs : s.size ≤ 422212465053696) : ∀ (d i x k : Nat), x < 2 ^ 32 → i + d = s.size → 10 * d < k → treillageref04_Of.l0 k s (x : Int) (i : Int) = some ((feedN x (s.data.toList.drop i) ^^^ 4294967295 : Nat) : Int)
  | 0, i, x, k, hx, hi, hk => by
    obtain ⟨k, rfl⟩ : ∃ m, k = m + 1 := ⟨k - 1, by omega⟩
    rw [treillageref04_Of.l0, if_neg (by omega), show (4294967295 : Int) = ((4294967295 : Nat) : Int) from rfl, u32_xor_nat _ _ (by omega) (by decide), List.drop_of_length_le (by simp; omega)]
    rfl
  | d + 1, i, x, k, hx, hi, hk => by
    obtain ⟨k, rfl⟩ : ∃ m, k = m + 8 + 1 + 1 := ⟨k - 10, by omega⟩
    have hl : i < s.data.toList.length := by simp; omega
    have hb := (s.data.toList[i]).toNat_lt
    rw [treillageref04_Of.l0, if_pos (by omega), if_pos (by omega), bt_byte s i hl, show (((s.data.toList[i]).toNat : Int)) % 4294967296 = ((s.data.toList[i]).toNat : Int) by omega, u32_xor_nat _ _ (by omega) (by omega)]
    have hx2 : x ^^^ (s.data.toList[i]).toNat < 2 ^ 32 := Nat.xor_lt_two_pow hx (by omega)
    have hw : wrap64 ((i : Int) + 1) = ((i + 1 : Nat) : Int) := by unfold wrap64; omega
    have h1 := l1_steps s i 8 k 0 _ hx2 (by omega)
    rw [hw] at h1
    rw [show (0 : Int) = ((0 : Nat) : Int) from rfl, h1, l0_feeds s hs d (i + 1) _ k (stNs_lt hx2 8) (by omega) (by omega), List.drop_eq_getElem_cons hl]
    rfl

theorem ref_of (s : ByteArray) (hs : s.size ≤ 422212465053696) (k : Nat) (hk : 10 * s.size < k) : treillageref04_Of.f k s = some (crcN s.data.toList : Int) := by
  have h := l0_feeds s hs s.size 0 4294967295 k (by decide) (by omega) hk
  exact h

/-! ### Seals -/
/-- the four bytes of a number, the lowest first -/
def le4 (x : Nat) : ByteArray := strOfNums [((x % 256 : Nat) : Int), ((x / 256 % 256 : Nat) : Int), ((x / 65536 % 256 : Nat) : Int), ((x / 16777216 % 256 : Nat) : Int)]
theorem le4_size (x : Nat) : (le4 x).size = 4 := by simp [le4, strOfNums_size]

theorem seal_some (s : ByteArray) (h : s.size ≤ 140737488351232) : crc_seal.f s = some (le4 (crcN s.data.toList)) := by
  unfold crc_seal.f
  rw [of_some [s] (by simpa using h)]
  have hc : catB [s] = s.data.toList := by simp [catB]
  rw [hc]
  simp only [Option.bind_some, le4]
  congr 2
theorem bytes_ext {a b : ByteArray} (h : a.data.toList = b.data.toList) : a = b := by
  cases a; cases b; congr; exact Array.toList_inj.1 h
theorem app_data (a b : ByteArray) : (a ++ b).data.toList = a.data.toList ++ b.data.toList := by simp
theorem mark_l0 (x k : Nat) (hx : x < 2 ^ 32) (hk : 5 ≤ k) : treillageref04_Mark.l0 k (x : Int) ⟨#[]⟩ 0 = some (le4 x) := by
  obtain ⟨k, rfl⟩ : ∃ m, k = m + 1 + 1 + 1 + 1 + 1 := ⟨k - 5, by omega⟩
  have ht : ∀ n : Nat, (Int.tmod (n : Int) 256) % 256 = ((n % 256 : Nat) : Int) := fun n => by rw [Int.tmod_eq_emod_of_nonneg (by omega)]; omega
  have hd : ∀ n : Nat, n < 2 ^ 32 → (Int.tdiv (n : Int) 256) % 4294967296 = ((n / 256 : Nat) : Int) := fun n hn => by rw [Int.tdiv_eq_ediv_of_nonneg (by omega)]; omega
  have hs : ∀ (a : ByteArray) (n : Int), (a ++ strOfNums [n]).size = a.size + 1 := fun a n => by rw [ByteArray.size_append, strOfNums_size]; rfl
  have h1 : ∀ n : Int, (strOfNums [n]).size = 1 := fun n => by rw [strOfNums_size]; rfl
  have e0 : (⟨#[]⟩ : ByteArray).size = 0 := rfl
  have w1 : wrap64 1 = 1 := by unfold wrap64; omega
  have w2 : wrap64 2 = 2 := by unfold wrap64; omega
  have w3 : wrap64 3 = 3 := by unfold wrap64; omega
  have w4 : wrap64 4 = 4 := by unfold wrap64; omega
  simp only [treillageref04_Mark.l0, Option.bind_some, hs, h1, e0, ht, w1, w2, w3, w4, show (0 : Int) + 1 = 1 from rfl, show (1 : Int) + 1 = 2 from rfl, show (2 : Int) + 1 = 3 from rfl, show (3 : Int) + 1 = 4 from rfl, hd x hx, hd (x / 256) (by omega), hd (x / 256 / 256) (by omega), hd (x / 256 / 256 / 256) (by omega)]
  simp only [show ((0 : Int) < 4) = True by simp, show ((1 : Int) < 4) = True by simp, show ((2 : Int) < 4) = True by simp, show ((3 : Int) < 4) = True by simp, show ((4 : Int) < 4) = False by simp, if_true, if_false]
  rw [if_pos (by omega), if_pos (by omega), if_pos (by omega), if_pos (by omega)]
  congr 1
  apply bytes_ext
  simp only [app_data, strOfNums_data, le4, List.map_cons, List.map_nil, List.nil_append, List.cons_append]
  simp only [Nat.div_div_eq_div_mul]
theorem mark_some (s : ByteArray) (h : s.size ≤ 140737488351232) (k : Nat) (hk : 10 * s.size + 5 ≤ k) : treillageref04_Mark.f k s = some (le4 (crcN s.data.toList)) := by
  unfold treillageref04_Mark.f
  rw [ref_of s (by omega) k (by omega)]
  exact mark_l0 _ k (crcN_lt _) (by omega)

/-- what opening comes to -/
def openW (s : ByteArray) : ByteArray × Int :=
  if s.size < 4 then (⟨#[]⟩, 3)
  else if le4 (crcN (s.extract 0 (s.size - 4)).data.toList) = s.extract (s.size - 4) s.size then (s.extract 0 (s.size - 4), 0) else (⟨#[]⟩, 7)
theorem toList_inj {a b : ByteArray} : a.toList = b.toList ↔ a = b :=
  ⟨fun h => bytes_ext (by rwa [ByteArray.toList_eq, ByteArray.toList_eq] at h), fun h => by rw [h]⟩
theorem open_some (s : ByteArray) (h : s.size ≤ 140737488351232) : crc_Open.f s = some (openW s) := by
  unfold crc_Open.f openW
  have hw : wrap64 ((s.size : Int) - 4) = (s.size : Int) - 4 := by unfold wrap64; omega
  rw [hw]
  by_cases h4 : s.size < 4
  · rw [if_pos (by omega), if_pos h4]
  · rw [if_neg (by omega), if_pos (by omega), if_pos (by omega), if_neg h4, show ((s.size : Int) - 4).toNat = s.size - 4 by omega, seal_some _ (by simp; omega)]
    simp only [Option.bind_some]
    simp only [toList_inj]
    split <;> rfl
theorem ref_open (s : ByteArray) (h : s.size ≤ 140737488351232) (k : Nat) (hk : 10 * s.size + 5 ≤ k) : treillageref04_Open.f k s = some (openW s) := by
  unfold treillageref04_Open.f openW
  have hw : wrap64 ((s.size : Int) - 4) = (s.size : Int) - 4 := by unfold wrap64; omega
  rw [hw]
  by_cases h4 : s.size < 4
  · rw [if_pos (by omega), if_pos h4]
  · rw [if_neg (by omega), if_pos (by omega), if_pos (by omega), if_neg h4, show ((s.size : Int) - 4).toNat = s.size - 4 by omega, mark_some _ (by simp; omega) k (by simp; omega)]
    simp only [Option.bind_some]
    simp only [toList_inj]
    split <;> rfl
theorem seal_whole (s : ByteArray) (h : s.size ≤ 140737488351232) : crc_Seal.f s = some (s ++ le4 (crcN s.data.toList)) := by
  unfold crc_Seal.f
  rw [seal_some s h]
  simp only [Option.bind_some, le4_size]
  rw [if_pos (by omega)]
theorem open_seal (s : ByteArray) : openW (s ++ le4 (crcN s.data.toList)) = (s, 0) := by
  have hz : (s ++ le4 (crcN s.data.toList)).size - 4 = s.size := by rw [ByteArray.size_append, le4_size]; omega
  have h1 : (s ++ le4 (crcN s.data.toList)).extract 0 s.size = s := by apply bytes_ext; simp [List.take_of_length_le]
  have h2 : (s ++ le4 (crcN s.data.toList)).extract s.size (s ++ le4 (crcN s.data.toList)).size = le4 (crcN s.data.toList) := by apply bytes_ext; simp [List.take_of_length_le]
  unfold openW
  rw [if_neg (by rw [ByteArray.size_append, le4_size]; omega), hz, h1, h2, if_pos rfl]

end Go.Proofs.Ytpfglhjgjfhkjaa.Qcrc

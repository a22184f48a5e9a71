/- Plain laws of records: what the program's Put and Next come to, held against the reference's. No program in sight. -/
import Derived.Test.YtpfglhjgjfhkjaaXP6
import Derived.Test.YtpfglhjgjfhkjaaXP6
import Derived.Test.YtpfglhjgjfhkjaaXP5
import Derived.Test.YtpfglhjgjfhkjaaXP5
import Derived.Test.YtpfglhjgjfhkjaaXP6
import Derived.Test.YtpfglhjgjfhkjaaQvint
import Derived.Test.YtpfglhjgjfhkjaaMback
namespace Go.Proofs.Ytpfglhjgjfhkjaa.Qframe
set_option linter.unusedVariables false
open Go.RowKit Go.Proofs.Ytpfglhjgjfhkjaa.XP Go.Proofs.YtpfglhjgjfhkjaaW.PrintWords Go.Proofs.YtpfglhjgjfhkjaaW.PrintLast Go.Proofs.Ytpfglhjgjfhkjaa.Mget Go.Proofs.Ytpfglhjgjfhkjaa.Mvint Go.Proofs.Ytpfglhjgjfhkjaa.Mcrc Go.Proofs.Ytpfglhjgjfhkjaa.Qcrc Go.Proofs.Ytpfglhjgjfhkjaa.Qvint Go.Proofs.Ytpfglhjgjfhkjaa.Mback

theorem str_cons (a : Int) (l : List Int) : strOfNums [a] ++ strOfNums l = strOfNums (a :: l) := by
  apply bytes_ext; simp [strOfNums_data]
theorem u64_nat (n : Nat) (h : n < 18446744073709551616) : IntKind.u64.wrap (n : Int) = (n : Int) := by
  simp [IntKind.wrap, IntKind.bits, IntKind.signed]; omega
theorem num_l0 : ∀ (d k i x : Nat) (acc : List Int), i + d = 9 → d < k → x < 18446744073709551616 → acc.length ≤ 1000 + i → treillageref03_Num.l0 k (x : Int) (strOfNums acc) (i : Int) = some (strOfNums (tailG d (x / 128) acc))
  | 0, k, i, x, acc, hi, hk, hx, hl => by
    obtain ⟨k, rfl⟩ : ∃ m, k = m + 1 := ⟨k - 1, by omega⟩
    rw [treillageref03_Num.l0, if_neg (by omega)]
    rfl
  | d + 1, k, i, x, acc, hi, hk, hx, hl => by
    obtain ⟨k, rfl⟩ : ∃ m, k = m + 1 := ⟨k - 1, by omega⟩
    have hd : IntKind.u64.wrap (Int.tdiv (x : Int) 128) = ((x / 128 : Nat) : Int) := by
      rw [Int.tdiv_eq_ediv_of_nonneg (by omega), show (x : Int) / 128 = ((x / 128 : Nat) : Int) by omega, u64_nat _ (by omega)]
    have hw : wrap64 ((i : Int) + 1) = ((i + 1 : Nat) : Int) := by unfold wrap64; omega
    rw [treillageref03_Num.l0, if_pos (by omega), hd, hw]
    by_cases h0 : x / 128 = 0
    · rw [if_neg (by omega), num_l0 d k (i + 1) (x / 128) acc (by omega) (by omega) (by omega) (by omega), h0, tailG_zero, tailG_zero]
    · have hm : (IntKind.u64.wrap (Int.tmod ((x / 128 : Nat) : Int) 128 + 128)) % 256 = ((x / 128 % 128 + 128 : Nat) : Int) := by
        rw [Int.tmod_eq_emod_of_nonneg (by omega), show ((x / 128 : Nat) : Int) % 128 + 128 = ((x / 128 % 128 + 128 : Nat) : Int) by omega, u64_nat _ (by omega)]
        omega
      rw [if_pos (by omega), hm]
      simp only [Option.bind_some]
      rw [if_pos (by rw [strOfNums_size, strOfNums_size]; simp; omega), str_cons, num_l0 d k (i + 1) (x / 128) _ (by omega) (by omega) (by omega) (by simp; omega), tailG, if_neg h0]
theorem ref_num (n k : Nat) (h : n < 18446744073709551616) (hk : 10 ≤ k) : treillageref03_Num.f k (n : Int) = some (strOfNums (num n)) := by
  unfold treillageref03_Num.f num
  have ht : (Int.tmod (n : Int) 128) % 256 = ((n % 128 : Nat) : Int) := by rw [Int.tmod_eq_emod_of_nonneg (by omega)]; omega
  rw [ht]
  exact num_l0 9 k 0 n _ (by omega) (by omega) h (by simp)
theorem ref_text (s : ByteArray) (k : Nat) (h : s.size ≤ 140737488355328) (hk : 10 ≤ k) : treillageref03_Text.f k s = some (strOfNums (num s.size) ++ s) := by
  unfold treillageref03_Text.f
  have hn := num_len s.size
  rw [u64_nat _ (by omega), ref_num _ k (by omega) hk]
  simp only [Option.bind_some]
  rw [if_pos (by rw [strOfNums_size]; omega)]

/-! ### records -/
def body (s : ByteArray) : ByteArray := (⟨#[165]⟩ : ByteArray) ++ (strOfNums (num s.size) ++ s)
theorem body_size (s : ByteArray) : (body s).size = 1 + (num s.size).length + s.size := by
  unfold body
  rw [ByteArray.size_append, ByteArray.size_append, strOfNums_size]
  have : (⟨#[165]⟩ : ByteArray).size = 1 := rfl
  omega
theorem str_bytesOf (l : List Int) (s : ByteArray) : strOfNums (l ++ bytesOf s) = strOfNums l ++ s := by
  apply bytes_ext
  have h : ∀ l : List UInt8, l.map ((fun n : Int => UInt8.ofNat n.toNat) ∘ fun b : UInt8 => (b.toNat : Int)) = l := fun l => by
    rw [List.map_congr_left (g := id) (fun c _ => by simp)]; simp
  simp [strOfNums_data, bytesOf, h]
theorem put_some (s : ByteArray) (h : s.size ≤ 65536) : frame_Put.f s = some (body s ++ le4 (crcN (body s).data.toList), 0) := by
  have hn := num_len s.size
  have hb := body_size s
  unfold frame_Put.f vint_PutText.f vint_Put.f
  rw [if_neg (by omega), u64_nat _ (by omega), if_pos ⟨by omega, by omega, by simp⟩]
  simp only [Option.bind_some, Int.toNat_natCast]
  rw [if_pos (by simp; omega)]
  simp only [Option.bind_some]
  have he : strOfNums ([165] ++ num s.size ++ bytesOf s) = body s := by
    rw [str_bytesOf]
    unfold body
    apply bytes_ext
    simp [strOfNums_data]
  rw [he, seal_whole _ (by omega)]
  rfl
theorem put_long (s : ByteArray) (h : 65536 < s.size) : frame_Put.f s = some (⟨#[]⟩, 4) := by
  unfold frame_Put.f
  rw [if_pos (by omega)]
theorem ref_rec (s : ByteArray) (k : Nat) (h : s.size ≤ 65536) (hk : 10 * s.size + 200 ≤ k) : treillageref06_Of.f k s = some (body s ++ le4 (crcN (body s).data.toList)) := by
  have hn := num_len s.size
  have hb := body_size s
  unfold treillageref06_Of.f
  rw [ref_text s k (by omega) (by omega)]
  simp only [Option.bind_some]
  have hz : (strOfNums (num s.size) ++ s).size = (num s.size).length + s.size := by rw [ByteArray.size_append, strOfNums_size]
  rw [if_pos (by omega), show (⟨#[165]⟩ : ByteArray) ++ (strOfNums (num s.size) ++ s) = body s from rfl, mark_some _ (by omega) k (by omega)]
  simp only [Option.bind_some, le4_size]
  rw [if_pos (by omega)]

theorem wn (n : Nat) (h : n < 9223372036854775808) : wrap64 (n : Int) = (n : Int) := by unfold wrap64; omega
theorem wr (x : Int) (n : Nat) (h : x = (n : Int)) (hn : n < 9223372036854775808) : wrap64 x = (n : Int) := by rw [h]; exact wn n hn
/-! ### what stands at a place -/
def nextR (s : ByteArray) (at_ : Int) : ByteArray × Int × Int :=
  if at_ < 0 ∨ at_ > (s.size : Int) then (⟨#[]⟩, 0, 1)
  else if at_ = (s.size : Int) then (⟨#[]⟩, 0, 5)
  else if bt s at_ ≠ 165 then (⟨#[]⟩, 0, 2)
  else if (scanE (s.data.toList.drop (at_.toNat + 1))).1 ≠ 0 then (⟨#[]⟩, 0, (scanE (s.data.toList.drop (at_.toNat + 1))).1)
  else if (scanE (s.data.toList.drop (at_.toNat + 1))).2.2 > 65536 then (⟨#[]⟩, 0, 4)
  else if at_.toNat + 1 + (scanE (s.data.toList.drop (at_.toNat + 1))).2.1 + (scanE (s.data.toList.drop (at_.toNat + 1))).2.2.toNat + 4 > s.size then (⟨#[]⟩, 0, 3)
  else if le4 (crcN (s.extract at_.toNat (at_.toNat + 1 + (scanE (s.data.toList.drop (at_.toNat + 1))).2.1 + (scanE (s.data.toList.drop (at_.toNat + 1))).2.2.toNat)).data.toList) =
      s.extract (at_.toNat + 1 + (scanE (s.data.toList.drop (at_.toNat + 1))).2.1 + (scanE (s.data.toList.drop (at_.toNat + 1))).2.2.toNat) (at_.toNat + 1 + (scanE (s.data.toList.drop (at_.toNat + 1))).2.1 + (scanE (s.data.toList.drop (at_.toNat + 1))).2.2.toNat + 4) then
    (s.extract (at_.toNat + 1 + (scanE (s.data.toList.drop (at_.toNat + 1))).2.1) (at_.toNat + 1 + (scanE (s.data.toList.drop (at_.toNat + 1))).2.1 + (scanE (s.data.toList.drop (at_.toNat + 1))).2.2.toNat), ((at_.toNat + 1 + (scanE (s.data.toList.drop (at_.toNat + 1))).2.1 + (scanE (s.data.toList.drop (at_.toNat + 1))).2.2.toNat + 4 : Nat) : Int), 0)
  else (⟨#[]⟩, 0, 7)
theorem ext_ext (s : ByteArray) (a b i j : Nat) (h : a + j ≤ b) : (s.extract a b).extract i j = s.extract (a + i) (a + j) := by
  apply bytes_ext
  simp only [ByteArray.data_extract, Array.toList_extract, List.extract_eq_take_drop]
  rw [List.drop_take, List.take_take, List.drop_drop]
  congr 1
  omega
theorem open_cut (s : ByteArray) (a e : Nat) (h1 : a ≤ e) (h2 : e + 4 ≤ s.size) :
    openW (s.extract a (e + 4)) = if le4 (crcN (s.extract a e).data.toList) = s.extract e (e + 4) then (s.extract a e, 0) else (⟨#[]⟩, 7) := by
  have hz : (s.extract a (e + 4)).size = e + 4 - a := by simp; omega
  unfold openW
  rw [hz, if_neg (by omega), ext_ext _ _ _ _ _ (by omega), ext_ext _ _ _ _ _ (by omega)]
  rw [show a + 0 = a by omega, show a + (e + 4 - a - 4) = e by omega, show a + (e + 4 - a) = e + 4 by omega]
theorem drop_ext (s : ByteArray) (f : Nat) : (s.extract f s.size).data.toList = s.data.toList.drop f := by
  simp only [ByteArray.data_extract, Array.toList_extract, List.extract_eq_take_drop]
  rw [List.take_of_length_le]
  simp

theorem next_some (s : ByteArray) (at_ : Int) (hs : s.size ≤ 140737488351232) (k : Nat) (hk : 60 ≤ k) : frame_Next.f k s at_ = some (nextR s at_) := by
  obtain ⟨k, rfl⟩ : ∃ m, k = m + 1 := ⟨k - 1, by omega⟩
  have hj : frame_Next.f (k + 1) s at_ = frame_Next.j0 (k + 1) s at_ (decide (at_ < 0 ∨ at_ > (s.size : Int))) := by
    unfold frame_Next.f
    by_cases h : at_ < 0
    · rw [if_pos h, decide_eq_true (.inl h)]
    · rw [if_neg h]; congr 1; simp [h]
  rw [hj, frame_Next.j0]
  unfold nextR
  by_cases h1 : at_ < 0 ∨ at_ > (s.size : Int)
  · rw [decide_eq_true h1, if_pos rfl, if_pos h1]
  rw [decide_eq_false h1, if_neg (by simp), if_neg h1]
  by_cases h2 : at_ = (s.size : Int)
  · rw [if_pos h2, if_pos h2]
  rw [if_neg h2, if_neg h2, if_pos (by omega), if_pos (by omega)]
  by_cases h3 : bt s at_ ≠ 165
  · rw [if_neg h3, if_pos h3]
  have h3 : bt s at_ = 165 := by omega
  rw [if_pos h3, if_neg (fun h : bt s at_ ≠ 165 => h h3)]
  obtain ⟨a, rfl⟩ : ∃ a : Nat, at_ = (a : Int) := ⟨at_.toNat, by omega⟩
  have ha : a < s.size := by omega
  rw [wr ((a : Int) + 1) (a + 1) (by omega) (by omega), if_pos (by omega), if_pos (by omega)]
  simp only [Int.toNat_natCast]
  have hz : (s.extract (a + 1) s.size).size = s.size - (a + 1) := by simp
  have hget := get_some (s.extract (a + 1) s.size) (by omega) 0 (by omega) k (by omega)
  rw [List.drop_zero, drop_ext] at hget
  have hok := scan_ok (s.data.toList.drop (a + 1))
  have hll : (s.data.toList.drop (a + 1)).length = s.size - (a + 1) := by simp
  rw [hll] at hok
  clear hj h1 h2 h3 hll
  generalize scanE (s.data.toList.drop (a + 1)) = R at *
  obtain ⟨e0, m, v⟩ := R
  simp only at hok hget ⊢
  simp only [vint_New.f, Option.bind_some]
  rw [show ((0 : Nat) : Int) = 0 from rfl] at hget
  rw [hget]
  simp only [Option.bind_some, vint_Reader_Err.f, vint_Reader_Left.f]
  by_cases h4 : e0 ≠ 0
  · rw [if_neg h4, if_pos h4]
  obtain rfl : e0 = 0 := by omega
  obtain ⟨o1, o2, o3, o4, o5⟩ := hok rfl
  clear hok hget
  simp only [if_true]
  rw [if_neg (fun h : (0 : Int) ≠ 0 => h rfl)]
  by_cases h5 : v > 65536
  · rw [if_pos h5, if_pos h5]
  rw [if_neg h5, if_neg h5]
  obtain ⟨v, rfl⟩ := Int.eq_ofNat_of_zero_le o4
  simp only [Int.toNat_natCast, Nat.zero_add]
  rw [hz]
  clear hz o4 o5 hk
  rw [wr (((s.size - (a + 1) : Nat) : Int) - (m : Int)) (s.size - (a + 1) - m) (by omega) (by omega), wn v (by omega), wr ((v : Int) + 4) (v + 4) (by omega) (by omega)]
  by_cases h6 : a + 1 + m + v + 4 > s.size
  · have q1 : ((s.size - (a + 1) - m : Nat) : Int) < ((v + 4 : Nat) : Int) := by omega
    rw [if_pos q1, if_pos h6]
  have q1 : ¬ ((s.size - (a + 1) - m : Nat) : Int) < ((v + 4 : Nat) : Int) := by omega
  rw [if_neg q1, if_neg h6]
  clear q1
  have q2 : (a : Int) ≤ ((a + 1 + m + v + 4 : Nat) : Int) := by omega
  have q3 : ((a + 1 + m + v + 4 : Nat) : Int) ≤ (s.size : Int) := by omega
  have q4 : (0 : Int) ≤ ((a + 1 + m : Nat) : Int) := by omega
  have q5 : ((a + 1 + m : Nat) : Int) ≤ ((a + 1 + m + v : Nat) : Int) := by omega
  have q6 : ((a + 1 + m + v : Nat) : Int) ≤ (s.size : Int) := by omega
  rw [wr ((s.size : Int) - ((s.size - (a + 1) - m : Nat) : Int)) (a + 1 + m) (by omega) (by omega), wr (((a + 1 + m : Nat) : Int) + (v : Int)) (a + 1 + m + v) (by omega) (by omega), wr (((a + 1 + m + v : Nat) : Int) + 4) (a + 1 + m + v + 4) (by omega) (by omega),
    wr (((a + 1 + m + v + 4 : Nat) : Int) - 4) (a + 1 + m + v) (by omega) (by omega), if_pos q2, if_pos q3]
  simp only [Int.toNat_natCast]
  rw [open_some _ (by simp; omega), open_cut s a (a + 1 + m + v) (by omega) (by omega)]
  simp only [Option.bind_some]
  by_cases h7 : le4 (crcN (s.extract a (a + 1 + m + v)).data.toList) = s.extract (a + 1 + m + v) (a + 1 + m + v + 4)
  · rw [if_pos h7, if_pos h7]
    simp only [if_true]
    rw [if_pos q4, if_pos q5, if_pos q6]
  · rw [if_neg h7, if_neg h7]
    simp

theorem ref_get (s : ByteArray) (f : Nat) (hs : s.size ≤ 140737488355328) (hf : f ≤ s.size) : treillageref03_Get.f s (f : Int) 0 =
    some (s, (if (scanE (s.data.toList.drop f)).1 = 0 then (f : Int) + (scanE (s.data.toList.drop f)).2.1 else (f : Int)), (scanE (s.data.toList.drop f)).1, (scanE (s.data.toList.drop f)).2.2) := by
  unfold treillageref03_Get.f
  rw [if_neg (by simp), if_pos ⟨by omega, by omega, hs⟩, Int.toNat_natCast, drop_ext]

theorem ref_next (s : ByteArray) (at_ : Int) (hs : s.size ≤ 140737488351232) (k : Nat) (hk : 10 * s.size + 60 ≤ k) : treillageref06_Next.f k s at_ = some (nextR s at_) := by
  obtain ⟨k, rfl⟩ : ∃ m, k = m + 1 := ⟨k - 1, by omega⟩
  have hj : treillageref06_Next.f (k + 1) s at_ = treillageref06_Next.j0 (k + 1) s at_ (decide (at_ < 0 ∨ at_ > (s.size : Int))) := by
    unfold treillageref06_Next.f
    by_cases h : at_ < 0
    · rw [if_pos h, decide_eq_true (.inl h)]
    · rw [if_neg h]; congr 1; simp [h]
  rw [hj, treillageref06_Next.j0]
  unfold nextR
  by_cases h1 : at_ < 0 ∨ at_ > (s.size : Int)
  · rw [decide_eq_true h1, if_pos rfl, if_pos h1]
  rw [decide_eq_false h1, if_neg (by simp), if_neg h1]
  by_cases h2 : at_ = (s.size : Int)
  · rw [if_pos h2, if_pos h2]
  rw [if_neg h2, if_neg h2, if_pos (by omega), if_pos (by omega)]
  by_cases h3 : bt s at_ ≠ 165
  · rw [if_neg h3, if_pos h3]
  have h3 : bt s at_ = 165 := by omega
  rw [if_pos h3, if_neg (fun h : bt s at_ ≠ 165 => h h3)]
  obtain ⟨a, rfl⟩ : ∃ a : Nat, at_ = (a : Int) := ⟨at_.toNat, by omega⟩
  have ha : a < s.size := by omega
  rw [wr ((a : Int) + 1) (a + 1) (by omega) (by omega)]
  simp only [Int.toNat_natCast]
  rw [ref_get s (a + 1) (by omega) (by omega)]
  have hok := scan_ok (s.data.toList.drop (a + 1))
  have hll : (s.data.toList.drop (a + 1)).length = s.size - (a + 1) := by simp
  rw [hll] at hok
  clear hj h1 h2 h3 hll
  generalize scanE (s.data.toList.drop (a + 1)) = R at *
  obtain ⟨e0, m, v⟩ := R
  simp only at hok ⊢
  simp only [Option.bind_some]
  by_cases h4 : e0 ≠ 0
  · rw [if_neg h4, if_pos h4]
  obtain rfl : e0 = 0 := by omega
  obtain ⟨o1, o2, o3, o4, o5⟩ := hok rfl
  clear hok
  simp only [if_true]
  rw [if_neg (fun h : (0 : Int) ≠ 0 => h rfl)]
  by_cases h5 : v > 65536
  · rw [if_pos h5, if_pos h5]
  rw [if_neg h5, if_neg h5]
  obtain ⟨v, rfl⟩ := Int.eq_ofNat_of_zero_le o4
  simp only [Int.toNat_natCast]
  clear o4 o5
  rw [wn v (by omega), wr (((a + 1 : Nat) : Int) + (m : Int) + (v : Int)) (a + 1 + m + v) (by omega) (by omega), wr (((a + 1 + m + v : Nat) : Int) + 4) (a + 1 + m + v + 4) (by omega) (by omega)]
  by_cases h6 : a + 1 + m + v + 4 > s.size
  · have q1 : ((a + 1 + m + v + 4 : Nat) : Int) > (s.size : Int) := by omega
    rw [if_pos q1, if_pos h6]
  have q1 : ¬ ((a + 1 + m + v + 4 : Nat) : Int) > (s.size : Int) := by omega
  rw [if_neg q1, if_neg h6]
  clear q1
  have q2 : (a : Int) ≤ ((a + 1 + m + v : Nat) : Int) := by omega
  have q3 : ((a + 1 + m + v : Nat) : Int) ≤ (s.size : Int) := by omega
  have q4 : (0 : Int) ≤ ((a + 1 + m + v : Nat) : Int) := by omega
  have q5 : ((a + 1 + m + v : Nat) : Int) ≤ ((a + 1 + m + v + 4 : Nat) : Int) := by omega
  have q6 : ((a + 1 + m + v + 4 : Nat) : Int) ≤ (s.size : Int) := by omega
  have q7 : (0 : Int) ≤ ((a + 1 : Nat) : Int) + (m : Int) := by omega
  have q8 : ((a + 1 : Nat) : Int) + (m : Int) ≤ ((a + 1 + m + v : Nat) : Int) := by omega
  have q9 : (((a + 1 : Nat) : Int) + (m : Int)).toNat = a + 1 + m := by omega
  rw [if_pos q2, if_pos q3]
  simp only [Int.toNat_natCast]
  rw [mark_some _ (by simp; omega) k (by simp; omega)]
  simp only [Option.bind_some]
  rw [if_pos q4, if_pos q5, if_pos q6]
  simp only [toList_inj]
  by_cases h7 : le4 (crcN (s.extract a (a + 1 + m + v)).data.toList) = s.extract (a + 1 + m + v) (a + 1 + m + v + 4)
  · rw [if_pos h7, if_pos h7, if_pos q7, if_pos q8, q9]
  · rw [if_neg h7, if_neg h7]

theorem ext_mid (pre x post : ByteArray) (a b : Nat) (ha : a = pre.size) (hb : b = pre.size + x.size) : (pre ++ x ++ post).extract a b = x := by
  subst ha hb
  apply bytes_ext
  simp only [ByteArray.data_extract, Array.toList_extract, List.extract_eq_take_drop, app_data]
  have h1 : pre.data.toList.length = pre.size := by simp
  have h2 : x.data.toList.length = x.size := by simp
  rw [List.append_assoc, List.drop_append, h1, List.drop_of_length_le (by omega)]
  simp only [Nat.sub_self, List.drop_zero, List.nil_append]
  rw [List.take_append, List.take_of_length_le (by omega), h2]
  simp
theorem bt_at_app (pre post : ByteArray) (c : UInt8) (i : Int) (hi : i = (pre.size : Int)) : bt (pre ++ (⟨#[c]⟩ ++ post)) i = (c.toNat : Int) := by
  subst hi
  have hl : pre.size < (pre ++ (⟨#[c]⟩ ++ post)).data.toList.length := by
    simp only [app_data, List.length_append]
    have h1 : pre.data.toList.length = pre.size := by simp
    have h2 : [c].length = 1 := rfl
    omega
  rw [bt_byte _ _ hl]
  congr 2
  simp only [app_data]
  rw [List.getElem_append_right (by simp)]
  simp
/-- what was put is what stands there, whatever stands behind -/
theorem next_put (s pre behind : ByteArray) (h : s.size ≤ 65536) :
    nextR (pre ++ (body s ++ le4 (crcN (body s).data.toList)) ++ behind) (pre.size : Int) = (s, ((pre.size + (body s).size + 4 : Nat) : Int), 0) := by
  have hn := num_len s.size
  have hbs := body_size s
  have hz : (pre ++ (body s ++ le4 (crcN (body s).data.toList)) ++ behind).size = pre.size + (body s).size + 4 + behind.size := by
    rw [ByteArray.size_append, ByteArray.size_append, ByteArray.size_append, le4_size]; omega
  have h165 : bt (pre ++ (body s ++ le4 (crcN (body s).data.toList)) ++ behind) (pre.size : Int) = 165 := by
    have he : pre ++ (body s ++ le4 (crcN (body s).data.toList)) ++ behind = pre ++ (⟨#[165]⟩ ++ ((strOfNums (num s.size) ++ s) ++ le4 (crcN (body s).data.toList) ++ behind)) := by
      unfold body; apply bytes_ext; simp
    rw [he, bt_at_app pre _ 165 _ rfl]; rfl
  have hscan : scanE ((pre ++ (body s ++ le4 (crcN (body s).data.toList)) ++ behind).data.toList.drop (pre.size + 1)) = (0, (num s.size).length, (s.size : Int)) := by
    have he : (pre ++ (body s ++ le4 (crcN (body s).data.toList)) ++ behind).data.toList.drop (pre.size + 1) = toB (num s.size) ++ (s.data.toList ++ (le4 (crcN (body s).data.toList)).data.toList ++ behind.data.toList) := by
      have h1 : pre.data.toList.length = pre.size := by simp
      rw [← List.drop_drop, app_data, app_data, app_data, List.append_assoc, List.drop_left' h1]
      unfold body
      simp only [app_data, strOfNums_data, toB]
      simp
    rw [he]
    exact scan_num s.size (by omega) _
  have e1 : (pre ++ (body s ++ le4 (crcN (body s).data.toList)) ++ behind).extract pre.size (pre.size + 1 + (num s.size).length + s.size) = body s := by
    rw [show pre ++ (body s ++ le4 (crcN (body s).data.toList)) ++ behind = pre ++ body s ++ (le4 (crcN (body s).data.toList) ++ behind) from by apply bytes_ext; simp]
    exact ext_mid _ _ _ _ _ rfl (by omega)
  have e2 : (pre ++ (body s ++ le4 (crcN (body s).data.toList)) ++ behind).extract (pre.size + 1 + (num s.size).length + s.size) (pre.size + 1 + (num s.size).length + s.size + 4) = le4 (crcN (body s).data.toList) := by
    rw [show pre ++ (body s ++ le4 (crcN (body s).data.toList)) ++ behind = (pre ++ body s) ++ le4 (crcN (body s).data.toList) ++ behind from by apply bytes_ext; simp]
    exact ext_mid _ _ _ _ _ (by rw [ByteArray.size_append]; omega) (by rw [ByteArray.size_append, le4_size]; omega)
  have e3 : (pre ++ (body s ++ le4 (crcN (body s).data.toList)) ++ behind).extract (pre.size + 1 + (num s.size).length) (pre.size + 1 + (num s.size).length + s.size) = s := by
    rw [show pre ++ (body s ++ le4 (crcN (body s).data.toList)) ++ behind = (pre ++ (⟨#[165]⟩ ++ strOfNums (num s.size))) ++ s ++ (le4 (crcN (body s).data.toList) ++ behind) from by unfold body; apply bytes_ext; simp]
    have h1 : (⟨#[165]⟩ : ByteArray).size = 1 := rfl
    exact ext_mid _ _ _ _ _ (by rw [ByteArray.size_append, ByteArray.size_append, strOfNums_size]; omega) (by rw [ByteArray.size_append, ByteArray.size_append, strOfNums_size]; omega)
  generalize pre ++ (body s ++ le4 (crcN (body s).data.toList)) ++ behind = S at *
  unfold nextR
  simp only [Int.toNat_natCast]
  rw [hscan]
  simp only [Int.toNat_natCast]
  rw [e1, e2, e3, if_neg (by omega), if_neg (by omega), if_neg (by omega), if_neg (by simp), if_neg (by omega), if_neg (by omega), if_pos rfl]
  congr 2
  omega
theorem put_size (s : ByteArray) : (body s ++ le4 (crcN (body s).data.toList)).size = (body s).size + 4 := by rw [ByteArray.size_append, le4_size]

theorem awake_true (k : Nat) (hk : 60 ≤ k) : treillagelaw06_awake.f k = some true := by
  unfold treillagelaw06_awake.f
  have h0 : (⟨#[]⟩ : ByteArray).size = 0 := rfl
  have hn : num 0 = [0] := by decide +kernel
  have hz : (body ⟨#[]⟩).size = 2 := by rw [body_size, h0, hn]; rfl
  rw [put_some _ (by omega)]
  have hp := next_put ⟨#[]⟩ ⟨#[]⟩ ⟨#[]⟩ (by omega)
  have hs := put_size ⟨#[]⟩
  have he : (⟨#[]⟩ : ByteArray) ++ (body ⟨#[]⟩ ++ le4 (crcN (body ⟨#[]⟩).data.toList)) ++ ⟨#[]⟩ = body ⟨#[]⟩ ++ le4 (crcN (body ⟨#[]⟩).data.toList) := by apply bytes_ext; simp
  rw [he, h0, hz] at hp
  have hb0 : bt (body ⟨#[]⟩ ++ le4 (crcN (body ⟨#[]⟩).data.toList)) 0 = 165 := by decide +kernel
  have hb1 : bt (body ⟨#[]⟩ ++ le4 (crcN (body ⟨#[]⟩).data.toList)) 1 = 0 := by decide +kernel
  rw [hz] at hs
  simp only [Option.bind_some]
  generalize body ⟨#[]⟩ ++ le4 (crcN (body ⟨#[]⟩).data.toList) = S at *
  rw [show (0 : Int) = ((0 : Nat) : Int) from rfl] at hp
  have hnx := next_some S 0 (by omega) k hk
  rw [show (0 : Int) = ((0 : Nat) : Int) from rfl, hp] at hnx
  rw [show ((0 : Nat) : Int) = 0 from rfl] at hnx
  rw [hnx]
  simp only [Option.bind_some, hs, hb0, hb1]
  decide +kernel

end Go.Proofs.Ytpfglhjgjfhkjaa.Qframe

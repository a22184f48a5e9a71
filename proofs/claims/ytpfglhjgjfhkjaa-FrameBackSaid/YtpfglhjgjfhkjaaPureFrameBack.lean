/- What is put is found, one record behind the other, whatever stands behind; what is cut short is not. No condition. -/
import Derived.Test.YtpfglhjgjfhkjaaXP8
import Derived.Test.YtpfglhjgjfhkjaaQframe
namespace Go.Proofs.Ytpfglhjgjfhkjaa.Pure
set_option linter.unusedVariables false
open Go.RowKit Go.Proofs.Ytpfglhjgjfhkjaa.XP Go.Proofs.YtpfglhjgjfhkjaaW.PrintWords Go.Proofs.YtpfglhjgjfhkjaaW.PrintLast Go.Proofs.Ytpfglhjgjfhkjaa.Mget Go.Proofs.Ytpfglhjgjfhkjaa.Mvint Go.Proofs.Ytpfglhjgjfhkjaa.Mback Go.Proofs.Ytpfglhjgjfhkjaa.Mcrc Go.Proofs.Ytpfglhjgjfhkjaa.Qcrc Go.Proofs.Ytpfglhjgjfhkjaa.Qframe

def rc (s : ByteArray) : ByteArray := body s ++ le4 (crcN (body s).data.toList)
def cat (l : List ByteArray) : ByteArray := l.foldl (fun a s => a ++ rc s) ⟨#[]⟩
theorem rc_size (s : ByteArray) : (rc s).size = 1 + (num s.size).length + s.size + 4 := by
  unfold rc; rw [put_size, body_size]
theorem app_nil (a : ByteArray) : a ++ (⟨#[]⟩ : ByteArray) = a := by apply bytes_ext; simp
theorem nil_app (a : ByteArray) : (⟨#[]⟩ : ByteArray) ++ a = a := by apply bytes_ext; simp
theorem app_assoc (a b c : ByteArray) : a ++ b ++ c = a ++ (b ++ c) := by apply bytes_ext; simp
theorem fold_app (l : List ByteArray) (a : ByteArray) : l.foldl (fun a s => a ++ rc s) a = a ++ cat l := by
  induction l generalizing a with
  | nil => exact (app_nil a).symm
  | cons s l ih =>
    unfold cat
    simp only [List.foldl_cons]
    rw [ih, ih, nil_app, app_assoc]
theorem cat_app (l m : List ByteArray) : cat (l ++ m) = cat l ++ cat m := by
  unfold cat; rw [List.foldl_append, fold_app]; rfl
theorem cat_one (s : ByteArray) : cat [s] = rc s := nil_app _
theorem cat_step (l : List ByteArray) (i : Nat) (h : i < l.length) : cat (l.take (i + 1)) = cat (l.take i) ++ rc l[i] := by
  rw [List.take_succ_eq_append_getElem h, cat_app, cat_one]
theorem cat_split (l : List ByteArray) (i : Nat) (h : i < l.length) : cat l = cat (l.take i) ++ rc l[i] ++ cat (l.drop (i + 1)) := by
  rw [← cat_step l i h, ← cat_app, List.take_append_drop]
theorem cat_size (l : List ByteArray) (h : ∀ s ∈ l, s.size ≤ 100) : (cat l).size ≤ 115 * l.length := by
  induction l with
  | nil => simp [cat]; rfl
  | cons s l ih =>
    have h1 := ih (fun x hx => h x (by simp [hx]))
    have h2 := h s (by simp)
    have h3 := num_len s.size
    rw [show s :: l = [s] ++ l from rfl, cat_app, cat_one, ByteArray.size_append, rc_size]
    simp
    omega
/-- at each record's place it is found -/
theorem next_at (l : List ByteArray) (i : Nat) (h : i < l.length) (hs : l[i].size ≤ 100) (b : ByteArray) : nextR (cat l ++ b) ((cat (l.take i)).size : Int) = (l[i], ((cat (l.take (i + 1))).size : Int), 0) := by
  have hn := next_put l[i] (cat (l.take i)) (cat (l.drop (i + 1)) ++ b) (by omega)
  have he : cat (l.take i) ++ (body l[i] ++ le4 (crcN (body l[i]).data.toList)) ++ (cat (l.drop (i + 1)) ++ b) = cat l ++ b := by
    rw [cat_split l i h, ← app_assoc]; rfl
  rw [he] at hn
  rw [hn, cat_step l i h, ByteArray.size_append, rc_size, body_size]
  congr 3
theorem sget (l : List ByteArray) (i : Nat) (h : i < l.length) : rdOf ByteArray.empty l (i : Int) = l[i] := by simp [rdOf, h]
/-- lists that are the same -/
theorem same_l0 (l : List ByteArray) (hl : l.length ≤ 1000) : ∀ d i k, i + d = l.length → d < k → treillageref02_Same.l0 k l l (i : Int) = some true
  | 0, i, k, h, hk => by
    obtain ⟨k, rfl⟩ : ∃ m, k = m + 1 := ⟨k - 1, by omega⟩
    rw [treillageref02_Same.l0, if_neg (by omega)]
  | d + 1, i, k, h, hk => by
    obtain ⟨k, rfl⟩ : ∃ m, k = m + 1 := ⟨k - 1, by omega⟩
    rw [treillageref02_Same.l0, if_pos (by omega), if_pos (by omega), if_pos (by omega), if_pos rfl, wr ((i : Int) + 1) (i + 1) (by omega) (by omega)]
    exact same_l0 l hl d (i + 1) k (by omega) (by omega)
theorem same_self (l : List ByteArray) (hl : l.length ≤ 1000) (k : Nat) (hk : 1001 ≤ k) : treillageref02_Same.f k l l = some true := by
  unfold treillageref02_Same.f
  rw [if_pos rfl]
  exact same_l0 l hl l.length 0 k (by omega) (by omega)
/-- all records, up to a place where none is -/
theorem all_l0 (l : List ByteArray) (h100 : ∀ s ∈ l, s.size ≤ 100) (hl : l.length ≤ 10) (b : ByteArray) (hb : b.size ≤ 1000) (hend : (nextR (cat l ++ b) ((cat l).size : Int)).2.2 ≠ 0) :
    ∀ d i k, i + d = l.length → d + 100 < k → frame_All.l0 k (cat l ++ b) (l.take i) ((cat (l.take i)).size : Int) = some (l, ((cat l).size : Int))
  | 0, i, k, h, hk => by
    obtain ⟨k, rfl⟩ : ∃ m, k = m + 1 := ⟨k - 1, by omega⟩
    have hz := cat_size l h100
    have hi : l.take i = l := List.take_of_length_le (by omega)
    rw [hi, frame_All.l0, next_some _ _ (by rw [ByteArray.size_append]; omega) k (by omega)]
    simp only [Option.bind_some]
    rw [if_neg hend]
  | d + 1, i, k, h, hk => by
    obtain ⟨k, rfl⟩ : ∃ m, k = m + 1 := ⟨k - 1, by omega⟩
    have hz := cat_size l h100
    have hi : i < l.length := by omega
    rw [frame_All.l0, next_some _ _ (by rw [ByteArray.size_append]; omega) k (by omega), next_at l i hi (h100 _ (List.getElem_mem hi)) b]
    simp only [Option.bind_some, if_true]
    rw [if_pos (by rw [List.length_take]; omega), ← List.take_succ_eq_append_getElem hi]
    exact all_l0 l h100 hl b hb hend d (i + 1) k (by omega) (by omega)
theorem all_some (l : List ByteArray) (h100 : ∀ s ∈ l, s.size ≤ 100) (hl : l.length ≤ 10) (b : ByteArray) (hb : b.size ≤ 1000) (hend : (nextR (cat l ++ b) ((cat l).size : Int)).2.2 ≠ 0) (k : Nat) (hk : 200 ≤ k) :
    frame_All.f k (cat l ++ b) = some (l, ((cat l).size : Int)) := by
  unfold frame_All.f
  have h := all_l0 l h100 hl b hb hend l.length 0 k (by omega) (by omega)
  exact h
/-- a number's bytes that are cut short are none -/
theorem scan_short (n j : Nat) (hn : n < 18446744073709551616) (hj : j < (num n).length) : (scanE ((toB (num n)).take j)).1 ≠ 0 := by
  have he : toB (num n) = hiD 9 (n / 128) ++ [lb n] := by unfold num; rw [tail_hi]; rfl
  have hlen : (num n).length = (hiD 9 (n / 128)).length + 1 := by
    have : (toB (num n)).length = (num n).length := by simp [toB]
    rw [← this, he]; simp
  have h1 := hi_le 9 (n / 128)
  have hP : (toB (num n)).take j = (hiD 9 (n / 128)).take j := by
    rw [he, List.take_append_of_le_length (by omega)]
  have hbig : ∀ c ∈ (hiD 9 (n / 128)).take j, 128 ≤ c.toNat := fun c hc => hi_big 9 (n / 128) c (List.mem_of_mem_take hc)
  have hlp : ((hiD 9 (n / 128)).take j).length = j := by rw [List.length_take]; omega
  rw [hP]
  generalize (hiD 9 (n / 128)).take j = P at *
  have hJ : lastOf P = P.length := by
    unfold lastOf
    rw [List.take_of_length_le (by omega)]
    have h := List.takeWhile_append_of_pos (p := fun c : UInt8 => decide (128 ≤ c.toNat)) (l₁ := P) (l₂ := []) (fun c hc => by simpa using hbig c hc)
    rw [List.append_nil] at h
    rw [h]
    simp
  unfold scanE
  by_cases g1 : P.head? = some 128
  · rw [if_pos g1]; simp
  rw [if_neg g1]
  by_cases g2 : lastOf P = 10
  · rw [if_pos g2]; simp
  rw [if_neg g2, if_pos hJ]; simp

/-- a record that is cut short is none -/
theorem next_short (s pre : ByteArray) (q : Nat) (hs : s.size ≤ 100) (hq : q < (rc s).size) : (nextR (pre ++ (rc s).extract 0 q) (pre.size : Int)).2.2 ≠ 0 := by
  have hrs := rc_size s
  have hnl := num_len s.size
  have hz : (pre ++ (rc s).extract 0 q).size = pre.size + q := by rw [ByteArray.size_append]; simp; omega
  unfold nextR
  rw [if_neg (by omega)]
  by_cases h0 : q = 0
  · rw [if_pos (by omega)]; simp
  rw [if_neg (by omega)]
  by_cases h165 : bt (pre ++ (rc s).extract 0 q) (pre.size : Int) ≠ 165
  · rw [if_pos h165]; simp
  rw [if_neg h165]
  clear h165
  simp only [Int.toNat_natCast]
  have hd : (pre ++ (rc s).extract 0 q).data.toList.drop (pre.size + 1) = (toB (num s.size) ++ (s.data.toList ++ (le4 (crcN (body s).data.toList)).data.toList)).take (q - 1) := by
    have h1 : pre.data.toList.length = pre.size := by simp
    rw [← List.drop_drop, app_data, List.drop_left' h1]
    obtain ⟨p, rfl⟩ : ∃ p, q = p + 1 := ⟨q - 1, by omega⟩
    have he : (rc s).data.toList = 165 :: (toB (num s.size) ++ (s.data.toList ++ (le4 (crcN (body s).data.toList)).data.toList)) := by
      unfold rc body
      simp only [app_data, strOfNums_data, toB]
      simp
    simp only [ByteArray.data_extract, Array.toList_extract, List.extract_eq_take_drop, List.drop_zero, he]
    simp
  rw [hd]
  by_cases hj : q - 1 < (num s.size).length
  · have ht : (toB (num s.size) ++ (s.data.toList ++ (le4 (crcN (body s).data.toList)).data.toList)).take (q - 1) = (toB (num s.size)).take (q - 1) := by
      rw [List.take_append_of_le_length (by simp [toB]; omega)]
    have hne := scan_short s.size (q - 1) (by omega) hj
    rw [ht, if_pos hne]
    exact hne
  · have ht : (toB (num s.size) ++ (s.data.toList ++ (le4 (crcN (body s).data.toList)).data.toList)).take (q - 1) = toB (num s.size) ++ (s.data.toList ++ (le4 (crcN (body s).data.toList)).data.toList).take (q - 1 - (num s.size).length) := by
      have hl : (toB (num s.size)).length = (num s.size).length := by simp [toB]
      rw [List.take_append, List.take_of_length_le (by omega), hl]
    rw [ht, scan_num s.size (by omega)]
    simp only [Int.toNat_natCast]
    rw [if_neg (by simp), if_neg (by omega), if_pos (by omega)]
    simp

theorem l0_build (l : List ByteArray) (h100 : ∀ s ∈ l, s.size ≤ 100) (hl : l.length ≤ 10) (b : ByteArray) (cut : Int) :
    ∀ d i k, i + d = l.length → treillagelaw06_FrameBack.l0 (k + d + 1) l b cut (cat (l.take i)) ((cat (l.take (i - 1))).size : Int) (i : Int) = treillagelaw06_FrameBack.l1 k l b cut (cat l) ((cat (l.take (l.length - 1))).size : Int) 0 0
  | 0, i, k, h => by
    have hi : l.take i = l := List.take_of_length_le (by omega)
    rw [treillagelaw06_FrameBack.l0, if_neg (by omega), hi, show i = l.length by omega]
  | d + 1, i, k, h => by
    have hi : i < l.length := by omega
    have hs := h100 _ (List.getElem_mem hi)
    have hz := cat_size l h100
    have hz2 := cat_size (l.take i) (fun s hs => h100 s (List.mem_of_mem_take hs))
    have hz3 : (l.take i).length ≤ 10 := by rw [List.length_take]; omega
    have hn := num_len (l[i]).size
    have hne : ¬ (rc l[i]).toList = [] := by
      rw [ByteArray.toList_eq]
      intro hc
      have := congrArg List.length hc
      have h2 : (rc l[i]).data.toList.length = (rc l[i]).size := by simp
      rw [h2, rc_size] at this
      simp at this
    rw [show k + (d + 1) + 1 = (k + d + 1) + 1 from by omega, treillagelaw06_FrameBack.l0, if_pos (by omega), if_pos (by omega), sget l i hi, if_neg (by omega), put_some _ (by omega)]
    simp only [Option.bind_some, if_true]
    rw [show body l[i] ++ le4 (crcN (body l[i]).data.toList) = rc l[i] from rfl, if_neg hne, if_pos (by rw [rc_size]; omega), ← cat_step l i hi, wr ((i : Int) + 1) (i + 1) (by omega) (by omega)]
    have ih := l0_build l h100 hl b cut d (i + 1) k (by omega)
    rw [show i + 1 - 1 = i by omega] at ih
    exact ih
theorem l1_find (l : List ByteArray) (h100 : ∀ s ∈ l, s.size ≤ 100) (hl : l.length ≤ 10) (b : ByteArray) (hb : b.size ≤ 100) (cut x8 : Int) :
    ∀ d i k, i + d = l.length → 100 < k → treillagelaw06_FrameBack.l1 (k + d) l b cut (cat l) x8 ((cat (l.take i)).size : Int) (i : Int) = treillagelaw06_FrameBack.l1 k l b cut (cat l) x8 ((cat l).size : Int) (l.length : Int)
  | 0, i, k, h, hk => by
    have hi : l.take i = l := List.take_of_length_le (by omega)
    rw [hi, show i = l.length by omega]
    rfl
  | d + 1, i, k, h, hk => by
    have hi : i < l.length := by omega
    have hz := cat_size l h100
    have ih := l1_find l h100 hl b hb cut x8 d (i + 1) k (by omega) hk
    rw [← ih, show k + (d + 1) = (k + d) + 1 from by omega, treillagelaw06_FrameBack.l1, if_pos (by omega), if_pos (by omega), next_some _ _ (by rw [ByteArray.size_append]; omega) _ (by omega), next_at l i hi (h100 _ (List.getElem_mem hi)) b]
    simp only [Option.bind_some, if_true]
    rw [if_pos (by omega), sget l i hi, if_pos rfl, wr ((i : Int) + 1) (i + 1) (by omega) (by omega)]
theorem l0_bad (l : List ByteArray) (hl : l.length ≤ 10) (b : ByteArray) (cut : Int) :
    ∀ d i k (x7 : ByteArray) (x8 : Int), i + d = l.length → 100 < k → x7.size + 200 * d ≤ 10000 → (∃ j, ∃ h : j < l.length, i ≤ j ∧ 100 < l[j].size) → treillagelaw06_FrameBack.l0 (k + d + 1) l b cut x7 x8 (i : Int) = some true
  | 0, i, k, x7, x8, h, hk, hx, hbad => by
    obtain ⟨j, hj, hij, _⟩ := hbad
    omega
  | d + 1, i, k, x7, x8, h, hk, hx, hbad => by
    have hi : i < l.length := by omega
    rw [show k + (d + 1) + 1 = (k + d + 1) + 1 from by omega, treillagelaw06_FrameBack.l0, if_pos (by omega), if_pos (by omega), sget l i hi]
    by_cases hs : (l[i].size : Int) > 100
    · rw [if_pos hs, Qframe.awake_true _ (by omega)]; rfl
    · have hn := num_len (l[i]).size
      have hne : ¬ (rc l[i]).toList = [] := by
        rw [ByteArray.toList_eq]
        intro hc
        have := congrArg List.length hc
        have h2 : (rc l[i]).data.toList.length = (rc l[i]).size := by simp
        rw [h2, rc_size] at this
        simp at this
      rw [if_neg hs, put_some _ (by omega)]
      simp only [Option.bind_some, if_true]
      rw [show body l[i] ++ le4 (crcN (body l[i]).data.toList) = rc l[i] from rfl, if_neg hne, if_pos (by rw [rc_size]; omega), wr ((i : Int) + 1) (i + 1) (by omega) (by omega)]
      refine l0_bad l hl b cut d (i + 1) k _ _ (by omega) hk (by rw [ByteArray.size_append, rc_size]; omega) ?_
      obtain ⟨j, hj, hij, hjs⟩ := hbad
      refine ⟨j, hj, ?_, hjs⟩
      rcases Nat.eq_or_lt_of_le hij with he | he
      · subst he; omega
      · omega
theorem u64_big (x : Int) : 0 ≤ IntKind.u64.wrap x ∧ IntKind.u64.wrap x < 18446744073709551616 := by
  simp [IntKind.wrap, IntKind.bits, IntKind.signed]; omega
theorem FrameBack (l : List ByteArray) (b : ByteArray) (cut : Int) (hb : b.size ≤ 140737488351232) (hc : (Lit.int .i64 cut).wf = true) : ∃ k, treillagelaw06_FrameBack.f k l b cut = some true := by
  obtain ⟨K, hK⟩ : ∃ K, K = 3000 := ⟨_, rfl⟩
  have htrue : ∀ k, 100 < k → treillagelaw06_FrameBack.j0 (k + 1) l b cut true = some true := fun k hk => by
    rw [treillagelaw06_FrameBack.j0, if_pos rfl, Qframe.awake_true _ (by omega)]; rfl
  by_cases hl : (l.length : Int) > 10
  · refine ⟨K + 1, ?_⟩
    unfold treillagelaw06_FrameBack.f
    rw [if_pos hl]
    exact htrue K (by omega)
  by_cases hb1 : (b.size : Int) > 100
  · refine ⟨K + 1, ?_⟩
    unfold treillagelaw06_FrameBack.f
    rw [if_neg hl, decide_eq_true hb1]
    exact htrue K (by omega)
  refine ⟨(K + 1 + l.length) + l.length + 1 + 1, ?_⟩
  unfold treillagelaw06_FrameBack.f
  rw [if_neg hl, decide_eq_false hb1, treillagelaw06_FrameBack.j0, if_neg (by simp)]
  by_cases hbad : ∃ j, ∃ h : j < l.length, 0 ≤ j ∧ 100 < l[j].size
  · exact l0_bad l (by omega) b cut l.length 0 (K + 1 + l.length) ⟨#[]⟩ 0 (by omega) (by omega) (by show 0 + _ ≤ _; omega) hbad
  have h100 : ∀ s ∈ l, s.size ≤ 100 := fun s hs => by
    obtain ⟨j, hj, rfl⟩ := List.getElem_of_mem hs
    refine Nat.not_lt.1 (fun h => hbad ⟨j, hj, Nat.zero_le _, h⟩)
  clear hbad htrue
  have hz := cat_size l h100
  have e0 : (⟨#[]⟩ : ByteArray).size = 0 := rfl
  have hbuild := l0_build l h100 (by omega) b cut l.length 0 (K + 1 + l.length) (by omega)
  have hc0 : cat (l.take 0) = ⟨#[]⟩ := rfl
  rw [Nat.zero_sub, hc0, e0] at hbuild
  have hfind := l1_find l h100 (by omega) b (by omega) cut ((cat (l.take (l.length - 1))).size : Int) l.length 0 (K + 1) (by omega) (by omega)
  rw [hc0, e0] at hfind
  rw [show ((0 : Nat) : Int) = 0 from rfl] at hbuild hfind
  rw [hbuild, hfind, treillagelaw06_FrameBack.l1, if_neg (by omega)]
  have hall := all_some l h100 (by omega) ⟨#[]⟩ (by omega) (by
    rw [app_nil]; unfold nextR; rw [if_neg (by omega), if_pos rfl]; simp) K (by omega)
  rw [app_nil] at hall
  rw [hall]
  simp only [Option.bind_some, if_true]
  rw [same_self l (by omega) K (by omega)]
  simp only [Option.bind_some, Bool.not_true]
  obtain ⟨K, rfl⟩ : ∃ k, K = k + 1 := ⟨K - 1, by omega⟩
  rw [treillagelaw06_FrameBack.j3, if_neg (by simp)]
  by_cases hl0 : (l.length : Int) = 0
  · rw [if_pos hl0, Qframe.awake_true _ (by omega)]; rfl
  rw [if_neg hl0]
  obtain ⟨n, hn⟩ : ∃ n, l.length = n + 1 := ⟨l.length - 1, by omega⟩
  have hnl : n < l.length := by omega
  have hcat : cat l = cat (l.take n) ++ rc l[n] := by
    have h := cat_step l n hnl
    rw [List.take_of_length_le (by omega)] at h
    exact h
  have hzz : (cat l).size = (cat (l.take n)).size + (rc l[n]).size := by rw [hcat, ByteArray.size_append]
  have hrz := rc_size l[n]
  have hnn := num_len (l[n]).size
  have hsn := h100 _ (List.getElem_mem hnl)
  rw [hn, Nat.add_sub_cancel]
  rw [wr (((cat l).size : Int) - ((cat (l.take n)).size : Int)) (rc l[n]).size (by omega) (by omega), u64_nat _ (by omega), if_neg (by omega)]
  obtain ⟨q, hq, hql⟩ : ∃ q : Nat, Int.tmod (IntKind.u64.wrap cut) ((rc l[n]).size : Int) = (q : Int) ∧ q < (rc l[n]).size := by
    have hu := u64_big cut
    rw [Int.tmod_eq_emod_of_nonneg hu.1]
    have h1 := Int.emod_nonneg (IntKind.u64.wrap cut) (show ((rc l[n]).size : Int) ≠ 0 by omega)
    have h2 := Int.emod_lt_of_pos (IntKind.u64.wrap cut) (show (0 : Int) < ((rc l[n]).size : Int) by omega)
    exact ⟨_, (Int.toNat_of_nonneg h1).symm, by omega⟩
  rw [hq, wn q (by omega), wr (((cat (l.take n)).size : Int) + (q : Int)) ((cat (l.take n)).size + q) (by omega) (by omega), if_pos (by omega), if_pos (by omega), Int.toNat_natCast]
  have hext : (cat l).extract 0 ((cat (l.take n)).size + q) = cat (l.take n) ++ (rc l[n]).extract 0 q := by
    rw [hcat]
    apply bytes_ext
    have h1 : (cat (l.take n)).data.toList.length = (cat (l.take n)).size := by simp
    simp only [ByteArray.data_extract, Array.toList_extract, List.extract_eq_take_drop, app_data, List.drop_zero]
    rw [List.take_append, List.take_of_length_le (by omega), h1]
    simp
  have hshort := all_some (l.take n) (fun s hs => h100 s (List.mem_of_mem_take hs)) (by rw [List.length_take]; omega) ((rc l[n]).extract 0 q) (by simp; omega) (next_short l[n] (cat (l.take n)) q hsn hql) K (by omega)
  rw [hext, hshort, Qframe.awake_true _ (by omega)]
  simp only [Option.bind_some, if_true]
  rw [wr (((n + 1 : Nat) : Int) - 1) n (by omega) (by omega), if_pos (by omega), if_pos (by omega), Int.toNat_natCast, same_self _ (by rw [List.length_take]; omega) K (by omega)]
  rfl

end Go.Proofs.Ytpfglhjgjfhkjaa.Pure

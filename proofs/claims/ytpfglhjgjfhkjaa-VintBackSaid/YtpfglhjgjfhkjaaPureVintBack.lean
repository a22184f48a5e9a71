/- What is written is read, whatever stands behind it; what is read was written just so. No condition. -/
import Derived.Test.YtpfglhjgjfhkjaaXP5
import Derived.Test.YtpfglhjgjfhkjaaQvint
import Derived.Test.YtpfglhjgjfhkjaaMconv
namespace Go.Proofs.Ytpfglhjgjfhkjaa.Pure
set_option linter.unusedVariables false
open Go.RowKit Go.Proofs.Ytpfglhjgjfhkjaa.XP Go.Proofs.YtpfglhjgjfhkjaaW.PrintWords Go.Proofs.YtpfglhjgjfhkjaaW.PrintLast Go.Proofs.Ytpfglhjgjfhkjaa.Mget Go.Proofs.Ytpfglhjgjfhkjaa.Mvint Go.Proofs.Ytpfglhjgjfhkjaa.Mback Go.Proofs.Ytpfglhjgjfhkjaa.Qcrc Go.Proofs.Ytpfglhjgjfhkjaa.Qvint

theorem u64_nat (n : Nat) (h : n < 18446744073709551616) : IntKind.u64.wrap (n : Int) = (n : Int) := by
  simp [IntKind.wrap, IntKind.bits, IntKind.signed]; omega
theorem str_bytesOf (l : List Int) (s : ByteArray) : strOfNums (l ++ bytesOf s) = strOfNums l ++ s := by
  apply bytes_ext
  have h : ∀ l : List UInt8, l.map ((fun n : Int => UInt8.ofNat n.toNat) ∘ fun b : UInt8 => (b.toNat : Int)) = l := fun l => by
    rw [List.map_congr_left (g := id) (fun c _ => by simp)]; simp
  simp [strOfNums_data, bytesOf, h]
theorem w64i (x : Int) (h : -9223372036854775808 ≤ x ∧ x < 9223372036854775808) : wrap64 x = x := by unfold wrap64; omega
theorem u64i (x : Int) (h : 0 ≤ x ∧ x < 18446744073709551616) : IntKind.u64.wrap x = x := by
  obtain ⟨n, rfl⟩ : ∃ n : Nat, x = (n : Int) := ⟨x.toNat, by omega⟩
  exact u64_nat n (by omega)
/-- the number that a number with a sign is written as -/
def zz (m : Int) : Int := if m < 0 then -(m + 1) * 2 + 1 else m * 2
theorem zz_range (m : Int) (h : -9223372036854775808 ≤ m ∧ m < 9223372036854775808) : 0 ≤ zz m ∧ zz m < 18446744073709551616 := by
  unfold zz; split <;> omega
theorem put_num (l : List Int) (n : Int) (hn : 0 ≤ n ∧ n < 18446744073709551616) (hl : l.length ≤ 140737488355000) : vint_Put.f l n = some (l ++ num n.toNat) := by
  unfold vint_Put.f; rw [if_pos ⟨hn.1, hn.2, hl⟩]
theorem putint_some (l : List Int) (m : Int) (h : -9223372036854775808 ≤ m ∧ m < 9223372036854775808) (hl : l.length ≤ 140737488355000) : vint_PutInt.f l m = some (l ++ num (zz m).toNat) := by
  have hz := zz_range m h
  unfold vint_PutInt.f
  unfold zz at hz ⊢
  by_cases hm : m < 0
  · rw [if_pos hm] at hz ⊢
    rw [if_pos hm, w64i (m + 1) (by omega), w64i _ (by omega), u64i (-(m + 1)) (by omega), u64i (-(m + 1) * 2) (by omega), u64i _ hz, put_num l _ hz hl]
    rfl
  · rw [if_neg hm] at hz ⊢
    rw [if_neg hm, u64i m (by omega), u64i _ hz, put_num l _ hz hl]
    rfl
theorem getint_some (s : ByteArray) (hs : s.size ≤ 140737488355328) (f : Nat) (hf : f ≤ s.size) (k : Nat) (hk : 40 ≤ k) (m : Int) (h : -9223372036854775808 ≤ m ∧ m < 9223372036854775808) (c : Nat) (hc : scanE (s.data.toList.drop f) = (0, c, zz m)) :
    vint_Reader_GetInt.f k s f 0 = some (m, s, ((f + c : Nat) : Int), 0) := by
  have hz := zz_range m h
  unfold vint_Reader_GetInt.f
  rw [get_some s hs f hf k hk, hc]
  simp only [Option.bind_some, if_true]
  rw [Int.tmod_eq_emod_of_nonneg hz.1, Int.tdiv_eq_ediv_of_nonneg hz.1]
  by_cases hm : m < 0
  · have e1 : zz m % 2 = 1 := by unfold zz; rw [if_pos hm]; omega
    have e2 : zz m / 2 = -(m + 1) := by unfold zz; rw [if_pos hm]; omega
    rw [if_pos e1, e2, u64i _ (by omega), w64i (-(m + 1)) (by omega), w64i (-(-(m + 1))) (by omega), w64i _ (by omega)]
    congr 2
    omega
  · have e1 : ¬ zz m % 2 = 1 := by unfold zz; rw [if_neg hm]; omega
    have e2 : zz m / 2 = m := by unfold zz; rw [if_neg hm]; omega
    rw [if_neg e1, e2, u64i _ (by omega), w64i _ (by omega)]
theorem gettext_some (s : ByteArray) (hs : s.size ≤ 140737488355328) (f : Nat) (hf : f ≤ s.size) (k : Nat) (hk : 40 ≤ k) (n c : Nat) (hc : scanE (s.data.toList.drop f) = (0, c, (n : Int))) (hn : f + c + n ≤ s.size) :
    vint_Reader_GetText.f k s f 0 (n : Int) = some (s.extract (f + c) (f + c + n), s, ((f + c + n : Nat) : Int), 0) := by
  unfold vint_Reader_GetText.f
  rw [if_pos (by omega), get_some s hs f hf k hk, hc]
  simp only [Option.bind_some, if_true]
  rw [if_neg (by split <;> omega), if_pos (by omega), if_neg (by omega)]
  congr 2

theorem toB_str (l : List Int) : (strOfNums l).data.toList = toB l := by rw [strOfNums_data]; rfl

theorem drop_app (A B C : List UInt8) (n : Nat) (h : n = A.length) : (A ++ (B ++ C)).drop n = B ++ C := by
  subst h; simp
theorem toB_app (l m : List Int) : toB (l ++ m) = toB l ++ toB m := by simp [toB]
theorem toB_len (l : List Int) : (toB l).length = l.length := by simp [toB]

theorem awake3 : treillagelaw03_awake.f = some true := by
  have p1 : vint_Put.f ([] : List Int) 300 = some [130, 44] := by rw [put_num _ _ (by decide) (by simp)]; rfl
  have p2 : vint_PutInt.f ([] : List Int) (-1) = some [1] := by rw [putint_some _ _ (by decide) (by simp)]; rfl
  have p3 : vint_PutText.f ([] : List Int) (⟨#[97, 98]⟩ : ByteArray) = some [2, 97, 98] := by
    unfold vint_PutText.f
    rw [show ((⟨#[97, 98]⟩ : ByteArray).size : Int) = 2 from rfl, show IntKind.u64.wrap 2 = 2 from rfl, put_num _ _ (by decide) (by simp)]
    rfl
  unfold treillagelaw03_awake.f
  rw [p1, p2, p3]
  simp only [Option.bind_some, ByteArray.toList_eq, toB_str]
  rfl

theorem back_j1 (t : ByteArray) (ht : t.size ≤ 140737488351232) (k : Nat) (hk : 1000 ≤ k) : treillagelaw03_VintBack.j1 (k + 1) t false = some true := by
  have hA := awake3
  rw [treillagelaw03_VintBack.j1, if_neg (by simp)]
  unfold vint_New.f vint_Reader_Err.f vint_Reader_Left.f
  have hg := get_some t (by omega) 0 (by omega) k (by omega)
  have hok := scan_ok t.data.toList
  have hcv := num_scan t.data.toList
  simp only [List.drop_zero] at hg
  rw [show ((0 : Nat) : Int) = 0 from rfl] at hg
  simp only [Option.bind_some]
  rw [hg]
  simp only [Option.bind_some]
  by_cases h0 : (scanE t.data.toList).1 = 0
  · obtain ⟨o1, o2, o3, o4, o5⟩ := hok h0
    have hz : t.data.toList.length = t.size := by simp
    rw [if_pos h0, put_num [] _ ⟨o4, o5⟩ (Nat.zero_le _)]
    simp only [Option.bind_some, List.nil_append]
    rw [if_pos h0]
    have e1 : wrap64 ((t.size : Int) - ((0 + (scanE t.data.toList).2.1 : Nat) : Int)) = (t.size : Int) - ((scanE t.data.toList).2.1 : Int) := by rw [w64i _ (by omega)]; omega
    have e2 : wrap64 ((t.size : Int) - ((t.size : Int) - ((scanE t.data.toList).2.1 : Int))) = ((scanE t.data.toList).2.1 : Int) := by rw [w64i _ (by omega)]; omega
    rw [e1, e2, if_pos (by omega), if_pos (by omega), if_pos, hA]
    · rfl
    · rw [ByteArray.toList_eq, ByteArray.toList_eq, toB_str, hcv h0, Int.toNat_natCast]
      simp [List.extract_eq_take_drop]
  · rw [if_neg h0, hA]; rfl
theorem put_nat (l : List Int) (n : Nat) (hn : n < 18446744073709551616) (hl : l.length ≤ 140737488355000) : vint_Put.f l (n : Int) = some (l ++ num n) := put_num l n (by omega) hl
theorem puttext_some (l : List Int) (s : ByteArray) (hl : l.length ≤ 100) (hs : s.size ≤ 400) : vint_PutText.f l s = some (l ++ num s.size ++ bytesOf s) := by
  have := num_len s.size
  unfold vint_PutText.f
  rw [u64_nat _ (by omega), put_nat _ _ (by omega) (by omega), Option.bind_some, if_pos (by simp only [List.length_append]; omega)]
theorem back_j0 (x : Int) (s t : ByteArray) (hx : 0 ≤ x ∧ x < 18446744073709551616) (k : Nat) (hk : 1000 ≤ k) : s.size ≤ 400 → t.size ≤ 400 → treillagelaw03_VintBack.j0 (k + 1 + 1) x s t false = some true := by
  intro h1 h2
  obtain ⟨n, rfl⟩ : ∃ n : Nat, x = (n : Int) := ⟨x.toNat, by omega⟩
  obtain ⟨m, hm⟩ : ∃ m, wrap64 (n : Int) = m := ⟨_, rfl⟩
  have hmr : -9223372036854775808 ≤ m ∧ m < 9223372036854775808 := by rw [← hm]; unfold wrap64; omega
  have hzr := zz_range m hmr
  have l1 := num_len n
  have l2 := num_len (zz m).toNat
  have l3 := num_len s.size
  rw [treillagelaw03_VintBack.j0, if_neg (by simp), put_nat [] n (by omega) (Nat.zero_le _), Option.bind_some, List.nil_append, hm, putint_some _ m hmr (by omega), Option.bind_some, puttext_some _ s (by rw [List.length_append]; omega) (by omega), Option.bind_some, str_bytesOf]
  obtain ⟨N, hN⟩ : ∃ N, num n = N := ⟨_, rfl⟩
  obtain ⟨Z, hZ⟩ : ∃ Z, num (zz m).toNat = Z := ⟨_, rfl⟩
  obtain ⟨S, hS⟩ : ∃ S, num s.size = S := ⟨_, rfl⟩
  have c1 := scan_num n (by omega)
  have c2 := scan_num (zz m).toNat (by omega)
  have c3 := scan_num s.size (by omega)
  rw [hN] at c1 l1 ⊢
  rw [hZ] at c2 l2 ⊢
  rw [hS] at c3 l3 ⊢
  rw [Int.toNat_of_nonneg hzr.1] at c2
  obtain ⟨V, hV⟩ : ∃ V, strOfNums (N ++ Z ++ S) ++ s ++ t = V := ⟨_, rfl⟩
  have hl : V.data.toList = toB N ++ (toB Z ++ (toB S ++ (s.data.toList ++ t.data.toList))) := by
    rw [← hV, app_data, app_data, toB_str, toB_app, toB_app]; simp
  have hVz : V.size = N.length + Z.length + S.length + s.size + t.size := by
    have : V.data.toList.length = V.size := by simp
    rw [← this, hl]
    simp only [List.length_append, toB_len]
    simp
    omega
  have hsz : (strOfNums (N ++ Z ++ S) ++ s).size + t.size = V.size := by rw [← hV, ByteArray.size_append (b := t)]
  rw [hsz, if_pos (by omega)]
  rw [hV, show vint_New.f V = some (V, 0, 0) from rfl, Option.bind_some]
  have g1 := get_some V (by omega) 0 (by omega) (k + 1) (by omega)
  rw [List.drop_zero, hl, c1, show ((0 : Nat) : Int) = 0 from rfl] at g1
  have d2 : V.data.toList.drop N.length = toB Z ++ (toB S ++ (s.data.toList ++ t.data.toList)) := by
    rw [hl]; exact drop_app _ _ _ _ (toB_len N).symm
  have g2 := getint_some V (by omega) N.length (by omega) (k + 1) (by omega) m hmr Z.length (by rw [d2, c2])
  have d3 : V.data.toList.drop (N.length + Z.length) = toB S ++ (s.data.toList ++ t.data.toList) := by
    rw [← List.drop_drop, d2]; exact drop_app _ _ _ _ (toB_len Z).symm
  have g3 := gettext_some V (by omega) (N.length + Z.length) (by omega) (k + 1) (by omega) s.size S.length (by rw [d3, c3]) (by omega)
  have d4 : V.data.toList.drop (N.length + Z.length + S.length) = s.data.toList ++ t.data.toList := by
    rw [← List.drop_drop, d3]; simp [toB_len]
  have hx4 : (V.extract (N.length + Z.length + S.length) (N.length + Z.length + S.length + s.size)).toList = s.toList := by
    rw [ByteArray.toList_eq, ByteArray.toList_eq]
    simp only [ByteArray.data_extract, Array.toList_extract, List.extract_eq_take_drop]
    rw [d4, List.take_left' (by simp)]
  rw [if_pos rfl, Nat.zero_add] at g1
  rw [g1, Option.bind_some]
  dsimp only
  rw [if_pos rfl, g2, Option.bind_some]
  dsimp only
  rw [if_pos rfl, g3, Option.bind_some]
  dsimp only
  rw [if_pos hx4, show ∀ a b c, vint_Reader_Err.f a b c = some (c, a, b, c) from fun _ _ _ => rfl, Option.bind_some]
  dsimp only
  rw [if_pos rfl, show ∀ a b c, vint_Reader_Left.f a b c = some (wrap64 ((a.size : Int) - b), a, b, c) from fun _ _ _ => rfl, Option.bind_some]
  dsimp only
  rw [w64i _ (by omega)]
  rw [show ((V.size : Int) - ((N.length + Z.length + S.length + s.size : Nat) : Int)) = (t.size : Int) by omega]
  simpa using back_j1 t (by omega) k hk
theorem VintBack : treillagelaw03_VintBack.Pure := by
  intro x s t hx hs ht
  have hx : 0 ≤ x ∧ x < 18446744073709551616 := by
    have h : IntKind.u64.min ≤ x ∧ x ≤ IntKind.u64.max := by simpa [Lit.wf] using hx
    have e1 : IntKind.u64.min = 0 := rfl
    have e2 : IntKind.u64.max = 18446744073709551615 := rfl
    omega
  obtain ⟨k, hk⟩ : ∃ k, k = 1000 := ⟨_, rfl⟩
  refine ⟨k + 1 + 1, ?_⟩
  have hA : treillagelaw03_awake.f = some true := awake3
  have htrue : treillagelaw03_VintBack.j0 (k + 1 + 1) x s t true = some true := by
    rw [treillagelaw03_VintBack.j0, if_pos rfl, hA]; rfl
  have hfalse : s.size ≤ 400 → t.size ≤ 400 → treillagelaw03_VintBack.j0 (k + 1 + 1) x s t false = some true := back_j0 x s t hx k (by omega)
  unfold treillagelaw03_VintBack.f
  by_cases h1 : (s.size : Int) > 400
  · rw [if_pos h1]; exact htrue
  rw [if_neg h1]
  by_cases h2 : (t.size : Int) > 400
  · rw [decide_eq_true h2]; exact htrue
  · rw [decide_eq_false h2]; exact hfalse (by omega) (by omega)

end Go.Proofs.Ytpfglhjgjfhkjaa.Pure

/- What is written is what the document defines, behind what stood there, and what stood there stays. No condition. -/
import Derived.Test.YtpfglhjgjfhkjaaXP3
import Derived.Test.YtpfglhjgjfhkjaaQvput
namespace Go.Proofs.Ytpfglhjgjfhkjaa.Pure
set_option linter.unusedVariables false
open Go.RowKit Go.Proofs.Ytpfglhjgjfhkjaa.XP Go.Proofs.YtpfglhjgjfhkjaaW.PrintWords Go.Proofs.YtpfglhjgjfhkjaaW.PrintLast Go.Proofs.Ytpfglhjgjfhkjaa.Mget Go.Proofs.Ytpfglhjgjfhkjaa.Mvint Go.Proofs.Ytpfglhjgjfhkjaa.Mback Go.Proofs.Ytpfglhjgjfhkjaa.Qcrc Go.Proofs.Ytpfglhjgjfhkjaa.Qvput

theorem str_app (a b : List Int) : strOfNums (a ++ b) = strOfNums a ++ strOfNums b := by
  apply bytes_ext; simp [strOfNums_data]
theorem puttext_any (l : List Int) (s : ByteArray) (hl : l.length ≤ 1000) (hs : s.size ≤ 1000) : vint_PutText.f l s = some (l ++ num s.size ++ bytesOf s) := by
  have := num_len s.size
  unfold vint_PutText.f
  rw [u64_nat _ (by omega), put_nat _ _ (by omega) (by omega), Option.bind_some, if_pos (by simp only [List.length_append]; omega)]
theorem VintPuts : treillagelaw03_VintPuts.Pure := by
  intro l x s _ _ hw hx hs
  have hx : 0 ≤ x ∧ x < 18446744073709551616 := by
    have h : IntKind.u64.min ≤ x ∧ x ≤ IntKind.u64.max := by simpa [Lit.wf] using hx
    have e1 : IntKind.u64.min = 0 := rfl
    have e2 : IntKind.u64.max = 18446744073709551615 := rfl
    omega
  obtain ⟨k, hk⟩ : ∃ k, 100 ≤ k := ⟨100, Nat.le_refl _⟩
  refine ⟨k + 1, ?_⟩
  have hA := awake3
  have htrue : treillagelaw03_VintPuts.j0 (k + 1) l x s true = some true := by
    rw [treillagelaw03_VintPuts.j0, if_pos rfl, hA]; rfl
  have hfalse : l.length ≤ 300 → s.size ≤ 300 → treillagelaw03_VintPuts.j0 (k + 1) l x s false = some true := by
    intro h1 h2
    obtain ⟨n, rfl⟩ : ∃ n : Nat, x = (n : Int) := ⟨x.toNat, by omega⟩
    obtain ⟨m, hm⟩ : ∃ m, wrap64 (n : Int) = m := ⟨_, rfl⟩
    have hmr : -9223372036854775808 ≤ m ∧ m < 9223372036854775808 := by rw [← hm]; unfold wrap64; omega
    have hzr := zz_range m hmr
    have l1 := num_len n
    have l2 := num_len (zz m).toNat
    have l3 := num_len s.size
    obtain ⟨z, hz⟩ : ∃ z : Nat, zz m = (z : Int) := ⟨(zz m).toNat, by omega⟩
    have hzn : (zz m).toNat = z := by rw [hz]; rfl
    have htk : (l ++ [7]).take ((l.length : Int)).toNat = l := by rw [Int.toNat_natCast]; exact List.take_left' rfl
    have hrd : rd (l ++ [7]) (l.length : Int) = 7 := by simp [rd]
    have z1 : (strOfNums l).size = l.length := strOfNums_size l
    have z2 : (strOfNums (num n)).size = (num n).length := strOfNums_size _
    have z3 : (strOfNums (num z)).size = (num z).length := strOfNums_size _
    have z4 : (strOfNums (num s.size) ++ s).size = (num s.size).length + s.size := by rw [ByteArray.size_append, strOfNums_size]
    have l4 : (num z).length ≤ 10 := num_len z
    rw [treillagelaw03_VintPuts.j0, if_neg (by simp), Option.bind_some, if_pos (by rw [List.length_nil]; omega), Option.bind_some, List.nil_append, if_pos (by omega), Option.bind_some, if_pos (by omega), if_pos (by rw [List.length_append, List.length_singleton]; omega), htk, hm,
      put_nat l n (by omega) (by omega), Option.bind_some, putint_some l m hmr (by omega), Option.bind_some, puttext_any l s (by omega) (by omega), Option.bind_some, ref_num n k (by omega) (by omega), Option.bind_some, if_pos (by omega),
      if_pos (by rw [str_app]), sign_some m hmr, Option.bind_some, hzn, hz, ref_num z k (by omega) (by omega), Option.bind_some, if_pos (by omega), if_pos (by rw [str_app]), ref_text s k (by omega) (by omega), Option.bind_some, if_pos (by omega),
      if_pos (by rw [str_bytesOf, str_app, ByteArray.append_assoc]), hA, Option.bind_some, if_pos rfl, if_pos rfl, if_pos (by rw [List.length_append, List.length_singleton]; omega), hrd]
    rfl
  unfold treillagelaw03_VintPuts.f
  by_cases h1 : (l.length : Int) > 300
  · rw [if_pos h1]; exact htrue
  rw [if_neg h1]
  by_cases h2 : (s.size : Int) > 300
  · rw [decide_eq_true h2]; exact htrue
  · rw [decide_eq_false h2]; exact hfalse (by omega) (by omega)

end Go.Proofs.Ytpfglhjgjfhkjaa.Pure

/- The sum of a text is the same however the text is cut into parts, and it is the sum that the document defines. No condition. -/
import Derived.Test.YtpfglhjgjfhkjaaXP1
import Derived.Test.YtpfglhjgjfhkjaaQcrc
namespace Go.Proofs.Ytpfglhjgjfhkjaa.Pure
open Go.RowKit Go.Proofs.Ytpfglhjgjfhkjaa.XP Go.Proofs.YtpfglhjgjfhkjaaW.PrintWords Go.Proofs.YtpfglhjgjfhkjaaW.PrintLast Go.Proofs.Ytpfglhjgjfhkjaa.Mcrc Go.Proofs.Ytpfglhjgjfhkjaa.Qcrc

theorem CrcSums : treillagelaw04_CrcSums.Pure := by
  intro a b c ha hb hc
  obtain ⟨k, hk⟩ : ∃ k, k = 7000 := ⟨_, rfl⟩
  refine ⟨k + 1, ?_⟩
  have ht : treillagelaw04_CrcSums.j0 (k + 1) a b c true = some true := by
    rw [treillagelaw04_CrcSums.j0, if_pos rfl, awake_true]; rfl
  unfold treillagelaw04_CrcSums.f
  by_cases h1 : (a.size : Int) > 200
  · rw [if_pos h1]; exact ht
  rw [if_neg h1]
  by_cases h2 : (b.size : Int) > 200
  · rw [if_pos h2]; exact ht
  rw [if_neg h2]
  by_cases h3 : (c.size : Int) > 200
  · rw [decide_eq_true h3]; exact ht
  rw [decide_eq_false h3, treillagelaw04_CrcSums.j0, if_neg (by simp), awake_true]
  have hz : (a ++ b ++ c).size = a.size + b.size + c.size := by simp [ByteArray.size_append]
  have hz2 : (a ++ b).size = a.size + b.size := by simp [ByteArray.size_append]
  have e1 : catB [a, b, c] = (a ++ b ++ c).data.toList := by simp [catB]
  have e2 : catB [a ++ b, (⟨#[]⟩ : ByteArray), c] = (a ++ b ++ c).data.toList := by simp [catB]
  have s1 : ∀ s ∈ [a, b, c], s.size ≤ 140737488351232 := by simp; omega
  have s2 : ∀ s ∈ [a ++ b, (⟨#[]⟩ : ByteArray), c], s.size ≤ 140737488351232 := by
    simp only [List.mem_cons, List.not_mem_nil, or_false, forall_eq_or_imp, forall_eq, hz2]
    refine ⟨by omega, ?_, by omega⟩
    show 0 ≤ _
    omega
  simp only [Option.bind_some, if_true]
  rw [of_some _ s1, of_some _ s2, e1, e2]
  simp only [Option.bind_some]
  rw [if_pos (by omega), if_pos (by omega), ref_of _ (by omega) k (by omega)]
  simp

end Go.Proofs.Ytpfglhjgjfhkjaa.Pure

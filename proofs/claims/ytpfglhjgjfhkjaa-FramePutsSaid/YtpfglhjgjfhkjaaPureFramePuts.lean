/- The record of a text is the one that the document defines, and what stands at a place of any bytes is told as the document tells it. No condition. -/
import Derived.Test.YtpfglhjgjfhkjaaXP7
import Derived.Test.YtpfglhjgjfhkjaaQframe
namespace Go.Proofs.Ytpfglhjgjfhkjaa.Pure
open Go.RowKit Go.Proofs.Ytpfglhjgjfhkjaa.XP Go.Proofs.YtpfglhjgjfhkjaaW.PrintWords Go.Proofs.YtpfglhjgjfhkjaaW.PrintLast Go.Proofs.Ytpfglhjgjfhkjaa.Mcrc Go.Proofs.Ytpfglhjgjfhkjaa.Qcrc Go.Proofs.Ytpfglhjgjfhkjaa.Qframe

theorem FramePuts : treillagelaw06_FramePuts.Pure := by
  intro s t at_ hs ht _
  obtain ⟨k, hk⟩ : ∃ k, k = 10000 := ⟨_, rfl⟩
  refine ⟨k + 1, ?_⟩
  have hA := Qframe.awake_true k (by omega)
  have htrue : treillagelaw06_FramePuts.j0 (k + 1) s t at_ true = some true := by
    rw [treillagelaw06_FramePuts.j0, if_pos rfl, hA]; rfl
  have hfalse : t.size ≤ 400 → (s.size ≤ 400 ∨ 65536 < s.size) → treillagelaw06_FramePuts.j0 (k + 1) s t at_ false = some true := by
    intro h1 h2
    rw [treillagelaw06_FramePuts.j0, if_neg (by simp)]
    rcases h2 with h2 | h2
    · have hnx := next_some t at_ ht k (by omega)
      have hrn := ref_next t at_ ht k (by omega)
      have hrr := ref_rec s k (by omega) (by omega)
      rw [put_some s (by omega), hnx, hrn, hrr, hA]
      simp only [Option.bind_some]
      rw [if_neg (by omega)]
      simp
    · rw [put_long s h2, hA]
      simp only [Option.bind_some]
      rw [if_pos (by omega)]
      simp [ByteArray.toList_eq]
  unfold treillagelaw06_FramePuts.f
  by_cases h1 : (t.size : Int) > 400
  · rw [if_pos h1]; exact htrue
  rw [if_neg h1]
  by_cases h2 : (s.size : Int) > 400
  · rw [if_pos h2]
    by_cases h3 : (s.size : Int) ≤ 65536
    · rw [decide_eq_true h3]; exact htrue
    · rw [decide_eq_false h3]; exact hfalse (by omega) (by omega)
  · rw [if_neg h2]; exact hfalse (by omega) (by omega)

end Go.Proofs.Ytpfglhjgjfhkjaa.Pure

/- What is sealed is opened, and any text is opened just as the document defines it. No condition. -/
import Derived.Test.YtpfglhjgjfhkjaaXP2
import Derived.Test.YtpfglhjgjfhkjaaQcrc
namespace Go.Proofs.Ytpfglhjgjfhkjaa.Pure
open Go.RowKit Go.Proofs.Ytpfglhjgjfhkjaa.XP Go.Proofs.YtpfglhjgjfhkjaaW.PrintWords Go.Proofs.YtpfglhjgjfhkjaaW.PrintLast Go.Proofs.Ytpfglhjgjfhkjaa.Mcrc Go.Proofs.Ytpfglhjgjfhkjaa.Qcrc

theorem CrcSeals : treillagelaw04_CrcSeals.Pure := by
  intro s hs
  refine ⟨4500, ?_⟩
  unfold treillagelaw04_CrcSeals.f
  by_cases h1 : (s.size : Int) > 400
  · rw [if_pos h1, awake_true]; rfl
  have hz : (s ++ le4 (crcN s.data.toList)).size = s.size + 4 := by rw [ByteArray.size_append, le4_size]
  rw [if_neg h1, open_some s hs, ref_open s hs _ (by omega), seal_whole s hs, awake_true, mark_some s hs _ (by omega)]
  simp only [Option.bind_some]
  rw [open_some _ (by omega), open_seal]
  simp only [Option.bind_some, le4_size, if_true]
  rw [if_pos (by omega)]
  simp

end Go.Proofs.Ytpfglhjgjfhkjaa.Pure

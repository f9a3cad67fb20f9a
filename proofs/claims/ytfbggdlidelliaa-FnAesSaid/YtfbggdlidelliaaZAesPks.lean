/- The program's round keys are the reference's: in plain lists. -/
import Derived.Test.YtfbggdlidelliaaZAesPx15
import Derived.Test.YtfbggdlidelliaaZAesPtab
namespace Go.Proofs.Ytfbggdlidelliaa.Pg
open Go.RowKit Go.Proofs.Ytfbggdlidelliaa.P Go.Proofs.YtfbggdlidelliaaW.PrintWords Go.Proofs.YtfbggdlidelliaaW.PrintLast
theorem keys_in (k : Nat) (hk : 600 ≤ k) (s : ByteArray) (hs : s.size = 16 ∨ s.size = 32) : spec_KeySchedule.f k s = some ((Aes.keysL (bytesL s)).map strOfNums, 0) ∧ impl_KeySchedule.f s = some ((Aes.keysL (bytesL s)).map strOfNums, 0) := by
  unfold spec_KeySchedule.f impl_KeySchedule.f spec_l01Key.f
  have hl : spec_l01Keys.f s Aes.subs = some ((Aes.keysL (bytesL s)).map strOfNums) := by
    unfold spec_l01Keys.f
    rw [if_pos ⟨rfl, hs⟩]
  refine ⟨?_, ?_⟩
  · rw [if_neg (by omega), table_at k hk]
    rcases hs with e | e
    · rw [if_pos (by omega), Option.bind_some, if_pos rfl, Option.bind_some, hl, Option.bind_some]
    · rw [if_neg (by omega), Option.bind_some, if_pos (by rw [beq_iff_eq]; omega), Option.bind_some, hl, Option.bind_some]
  · rw [if_neg (by omega), if_pos hs]
end Go.Proofs.Ytfbggdlidelliaa.Pg

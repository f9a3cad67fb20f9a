/- The program's round keys are the reference's: in plain lists. -/
import Derived.Test.YtfbggdlidelliaaPx3
import Derived.Test.YtfbggdlidelliaaPx6
namespace Go.Proofs.Ytfbggdlidelliaa.Pg
open Go.RowKit Go.Proofs.Ytfbggdlidelliaa.P Go.Proofs.YtfbggdlidelliaaW.PrintWords Go.Proofs.YtfbggdlidelliaaW.PrintLast Go.Proofs.YtfbggdlidelliaaW.PrintMore
theorem table_600 : spec_l01Table.f 600 = some Aes.subs := by decide +kernel
theorem table_at (k : Nat) (h : 600 ≤ k) : spec_l01Table.f k = some Aes.subs := at_rounds spec_l01Table.mono h table_600
theorem keys_in (k : Nat) (hk : 600 ≤ k) (s : ByteArray) (hs : s.size = 16 ∨ s.size = 32) : spec_KeySchedule.f k s = some ((Aes.keysL (bytesL s)).map strOfNums, 0) ∧ impl_KeySchedule.f s = some ((Aes.keysL (bytesL s)).map strOfNums, 0) := by
  unfold spec_KeySchedule.f impl_KeySchedule.f spec_l01Key.f
  have hl : spec_l01Keys.f s Aes.subs = some ((Aes.keysL (bytesL s)).map strOfNums) := by
    unfold spec_l01Keys.f
    rw [if_pos ⟨rfl, hs⟩]
  refine ⟨?_, ?_⟩
  · rw [if_neg (by omega), table_at k hk]
    rcases hs with e | e
    · rw [if_pos (by omega), Option.bind_some, if_pos rfl, Option.bind_some, hl, Option.bind_some]
    · rw [if_neg (by omega), Option.bind_some, if_pos (by rw [beq_iff_eq]; omega), Option.bind_some, hl, Option.bind_some]
  · rw [if_neg (by omega), if_pos hs]
theorem keys_len (s : ByteArray) (h : s.size ≤ 32) : ((Aes.keysL (bytesL s)).map strOfNums).length ≤ 15 := by
  rw [List.length_map, Aes.keysL_length, bytesL_length]; omega
theorem KeySchedule_same (k : Nat) (hk : 600 ≤ k) (s : ByteArray) : ∃ r c, r.length ≤ 15 ∧ spec_KeySchedule.f k s = some (r, c) ∧ impl_KeySchedule.f s = some (r, c) := by
  by_cases b0 : 65536 < s.size
  · refine ⟨[], 2, by decide, ?_, ?_⟩
    · unfold spec_KeySchedule.f; rw [if_pos (by omega)]
    · unfold impl_KeySchedule.f; rw [if_pos b0]
  by_cases hs : s.size = 16 ∨ s.size = 32
  · exact ⟨_, 0, keys_len s (by omega), (keys_in k hk s hs).1, (keys_in k hk s hs).2⟩
  · refine ⟨[], 1, by decide, ?_, ?_⟩
    · unfold spec_KeySchedule.f spec_l01Key.f
      rw [if_neg (by omega), if_neg (by omega), Option.bind_some, if_neg (by simp; omega)]
    · unfold impl_KeySchedule.f
      rw [if_neg b0, if_neg hs]
end Go.Proofs.Ytfbggdlidelliaa.Pg

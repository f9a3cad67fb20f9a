/- Which keys the reference takes: those of 16 or 32 bytes. -/
import Derived.Test.YtfbggdlidelliaaZCbePe1
namespace Go.Proofs.Ytfbggdlidelliaa.Pg
open Go.RowKit Go.Proofs.Ytfbggdlidelliaa.P Go.Proofs.YtfbggdlidelliaaW.PrintWords Go.Proofs.YtfbggdlidelliaaW.PrintLast Go.Proofs.YtfbggdlidelliaaW.PrintMore
theorem key_dec (s : ByteArray) : spec_l01Key.f s = some (decide (s.size = 16 ∨ s.size = 32)) := by
  unfold spec_l01Key.f
  by_cases h : s.size = 16
  · rw [if_pos (by omega), decide_eq_true (.inl h)]
  · rw [if_neg (by omega)]
    congr 1
    by_cases h2 : s.size = 32
    · rw [decide_eq_true (.inr h2), h2]; rfl
    · rw [decide_eq_false (by omega), beq_eq_false_iff_ne]; omega
end Go.Proofs.Ytfbggdlidelliaa.Pg

/- Laid by a program of this session: of Pm10 what this law uses. -/
import Derived.Test.YtfbggdlidelliaaZCdPm0
import Derived.Test.YtfbggdlidelliaaZCdPm8
import Derived.Test.YtfbggdlidelliaaZCdPm9
namespace Go.Proofs.Ytfbggdlidelliaa.P
open Go.RowKit Go.Proofs.YtfbggdlidelliaaW.PrintWords Go.Proofs.YtfbggdlidelliaaW.PrintLast Go.Proofs.YtfbggdlidelliaaW.PrintMore
attribute [local go_sem] min2_int min_two
set_option linter.unusedVariables false
set_option linter.unusedSimpArgs false
theorem cipherAt_ok {W : World} {B g : Nat} {keys : List (List Int)} (h : cipherAt W B g keys) : Aes.keysOk keys := by
  obtain ⟨_, _, _, _, _, _, _, _, hko, _⟩ := h
  exact hko
theorem k16_at (a : Addr) (c : Nat) (W : World) : (Instr.arrayAt 52 (.slice (some a) 16 c)).run Try.prog W = .ok (.pointer (some a)) W := by
  simp [Instr.arrayAt, run_underlying Try.underlying52]
end Go.Proofs.Ytfbggdlidelliaa.P

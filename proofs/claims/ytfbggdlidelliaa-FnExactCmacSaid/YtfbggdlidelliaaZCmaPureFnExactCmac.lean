/- For all keys and bytes the program's Cmac tells what the reference's tells, and changes nothing of what it was given. No condition. -/
import Derived.Test.YtfbggdlidelliaaZCmaPm13
import Derived.Test.YtfbggdlidelliaaZCmaPeq
import Derived.Test.YtfbggdlidelliaaZCmaPstr
import Derived.Test.YtfbggdlidelliaaZCmaPcmx
namespace Go.Proofs.Ytfbggdlidelliaa.Pure
open Go.RowKit Go.Proofs.Ytfbggdlidelliaa.P Go.Proofs.Ytfbggdlidelliaa.Pg Go.Proofs.YtfbggdlidelliaaW.PrintWords Go.Proofs.YtfbggdlidelliaaW.PrintLast Go.Proofs.YtfbggdlidelliaaW.PrintMore
theorem FnExactCmac : laws_FnExactCmac.Pure := by
  intro a0 l1 _ h1 _ w1
  refine ⟨2000003, ?_⟩
  have ol : Aes.ok l1 := isU8_of w1
  unfold laws_FnExactCmac.f
  by_cases b0 : (a0.size : Int) > 1048576
  · rw [if_pos b0]
  by_cases b2 : (l1.length : Int) > 1048576
  · rw [if_neg b0, if_pos b2]
  rw [if_neg b0, if_neg b2]
  rw [toByteS_eq 2000003 l1 (by omega) (by omega)]
  simp only [Option.bind_some]
  rw [spec_cmx a0 l1 ol, Option.bind_some, impl_cmx a0 l1 ol, Option.bind_some, if_pos rfl]
  show laws_FnExactCmac.j0 (2000002 + 1) _ _ _ = _
  simp only [laws_FnExactCmac.j0, bne_self_eq_false, Bool.false_eq_true, if_false]
  rw [toByteS_eq 2000002 l1 (by omega) (by omega), Option.bind_some, eqByteS_eq 2000002 l1 l1 (by omega) (by omega), Option.bind_some, if_pos (by simp)]
end Go.Proofs.Ytfbggdlidelliaa.Pure

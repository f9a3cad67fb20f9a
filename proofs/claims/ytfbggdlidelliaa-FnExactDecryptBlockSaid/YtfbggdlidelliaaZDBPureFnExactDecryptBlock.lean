/- For all keys and blocks the program's DecryptBlock tells what the reference's tells. No condition. -/
import Derived.Test.YtfbggdlidelliaaZDBPx14
import Derived.Test.YtfbggdlidelliaaZDBPdecblk
namespace Go.Proofs.Ytfbggdlidelliaa.Pure
open Go.RowKit Go.Proofs.Ytfbggdlidelliaa.P Go.Proofs.Ytfbggdlidelliaa.Pg Go.Proofs.YtfbggdlidelliaaW.PrintWords Go.Proofs.YtfbggdlidelliaaW.PrintLast
theorem FnExactDecryptBlock : laws_FnExactDecryptBlock.Pure := by
  intro s b _ _
  refine ⟨2000, ?_⟩
  unfold laws_FnExactDecryptBlock.f
  by_cases b0 : (s.size : Int) > 1048576
  · rw [if_pos b0]
  by_cases b1 : (b.size : Int) > 1048576
  · rw [if_neg b0, if_pos b1]
  obtain ⟨r, hr⟩ : ∃ r, impl_DecryptBlock.f s b = some r := by
    unfold impl_DecryptBlock.f
    split
    · exact ⟨_, rfl⟩
    · split <;> exact ⟨_, rfl⟩
  rw [if_neg b0, if_neg b1, spec_Decrypt_blk 2000 (Nat.le_refl _) s b, hr, Option.bind_some, Option.bind_some, if_pos rfl, if_pos rfl]
end Go.Proofs.Ytfbggdlidelliaa.Pure

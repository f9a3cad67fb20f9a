/- For all keys, first texts and bytes the program's CbcDecrypt tells what the reference's tells, changes nothing of what it was given, and its bytes lie in memory of their own. No condition. -/
import Derived.Test.YtfbggdlidelliaaZCdPm19
import Derived.Test.YtfbggdlidelliaaZCdPmarkB
import Derived.Test.YtfbggdlidelliaaZCdPstr
import Derived.Test.YtfbggdlidelliaaZCdPuncx
namespace Go.Proofs.Ytfbggdlidelliaa.Pure
open Go.RowKit Go.Proofs.Ytfbggdlidelliaa.P Go.Proofs.Ytfbggdlidelliaa.Pg Go.Proofs.YtfbggdlidelliaaW.PrintWords Go.Proofs.YtfbggdlidelliaaW.PrintLast Go.Proofs.YtfbggdlidelliaaW.PrintMore
theorem FnExactCbcDecrypt : laws_FnExactCbcDecrypt.Pure := by
  intro a0 a1 l0 _ _ h0 _ w0
  refine ⟨2000003, ?_⟩
  have ol : Aes.ok l0 := isU8_of w0
  unfold laws_FnExactCbcDecrypt.f
  by_cases b0 : (a0.size : Int) > 1048576
  · rw [if_pos b0]
  by_cases b1 : (a1.size : Int) > 1048576
  · rw [if_neg b0, if_pos b1]
  by_cases b2 : (l0.length : Int) > 1048576
  · rw [if_neg b0, if_neg b1, if_pos b2]
  rw [if_neg b0, if_neg b1, if_neg b2]
  have hl : l0.length ≤ 1048576 := by omega
  obtain ⟨rl, rc, hr⟩ : ∃ rl rc, uncxL a0 a1 l0 = (rl, rc) := ⟨_, _, rfl⟩
  have hrl : rl.length ≤ 65536 := by have := uncxL_len a0 a1 l0; rw [hr] at this; exact this
  have eS : ∀ k, 1000000 ≤ k → spec_CbcDecrypt.f a0 a1 l0 = some (rl, rc) := fun k hk => by rw [spec_uncx k a0 a1 l0 ol (by omega), hr]
  have eI : ∀ k, 1000000 ≤ k → impl_CbcDecrypt.f a0 a1 l0 = some (rl, rc) := fun k hk => by rw [impl_uncx a0 a1 l0 ol, hr]
  have eq1 : ∀ k, 1200000 < k → laws_eqByteS.f k rl rl = some true := fun k hk => by rw [eqByteS_eq k rl rl (by omega) (by omega)]; simp
  rw [toByteS_eq 2000003 l0 (by omega) (by omega)]
  simp only [Option.bind_some]
  rw [eS 2000003 (by decide)]
  simp only [Option.bind_some]
  rw [eI 2000003 (by decide)]
  simp only [Option.bind_some]
  rw [eq1 _ (by omega), Option.bind_some, if_pos rfl]
  show laws_FnExactCbcDecrypt.j0 (2000002 + 1) _ _ _ _ _ _ _ _ _ = _
  simp only [laws_FnExactCbcDecrypt.j0, bne_self_eq_false, Bool.false_eq_true, if_false]
  rw [toByteS_eq 2000002 l0 (by omega) (by omega), Option.bind_some, eqByteS_eq 2000002 l0 l0 (by omega) (by omega), Option.bind_some, if_pos (by simp)]
  obtain ⟨l1, e1, _, _⟩ := markB_held 2000002 1 l0 (by omega) (by omega) (by omega)
  have e1' : laws_markByteS.f 2000002 l0 1 = some (((1 + l0.length : Nat) : Int), l1) := e1
  rw [e1', Option.bind_some, if_neg (by simp only; omega), eq1 _ (by omega), Option.bind_some, if_pos rfl]
  show laws_FnExactCbcDecrypt.j1 (2000001 + 1) _ _ _ _ _ _ _ = _
  simp only [laws_FnExactCbcDecrypt.j1, Bool.false_eq_true, if_false]
  obtain ⟨l2, e2, n2, g2⟩ := markB_held 2000001 1 rl (by omega) (by omega) (by omega)
  have e2' : laws_markByteS.f 2000001 rl 1 = some (((1 + rl.length : Nat) : Int), l2) := e2
  have g2' : ∀ k, rl.length < k → laws_heldByteS.f k l2 1 = some ((1 + rl.length : Nat) : Int) := g2
  rw [e2', Option.bind_some]
  simp only []
  rw [g2' 2000001 (by omega), Option.bind_some, if_neg (by omega), if_pos rfl, toByteS_eq 2000001 l0 (by omega) (by omega), Option.bind_some, eI 2000001 (by decide), Option.bind_some]
  simp only []
  rw [eq1 _ (by omega), Option.bind_some, if_pos rfl]
  show laws_FnExactCbcDecrypt.j2 (2000000 + 1) _ _ _ = _
  simp only [laws_FnExactCbcDecrypt.j2, bne_self_eq_false, Bool.false_eq_true, if_false]
  rw [g2' 2000000 (by omega), Option.bind_some, if_neg (by omega), if_pos rfl]
end Go.Proofs.Ytfbggdlidelliaa.Pure

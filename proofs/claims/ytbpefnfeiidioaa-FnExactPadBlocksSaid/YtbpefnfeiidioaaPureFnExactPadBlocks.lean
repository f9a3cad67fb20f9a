/- For all inputs: the program fills a text up as the reference does. No condition. -/
import Derived.Test.YtbpefnfeiidioaaPx2
import Derived.Test.YtbpefnfeiidioaaPpad
import Derived.Test.YtbpefnfeiidioaaPmarkB
namespace Go.Proofs.Ytbpefnfeiidioaa.Pure
open Go.RowKit Go.Proofs.Ytbpefnfeiidioaa.P Go.Proofs.Ytbpefnfeiidioaa.Pg Go.Proofs.YtbpefnfeiidioaaW.PrintWords Go.Proofs.YtbpefnfeiidioaaW.PrintLast Go.Proofs.YtbpefnfeiidioaaW.PrintMore
theorem PadBlocks_some (l : List Int) (_ : ∀ x ∈ l, (Lit.int .u8 x).wf = true) : ∃ rl rc, impl_PadBlocks.f l = some (rl, rc) ∧ rl.length ≤ 65536 := by
  unfold impl_PadBlocks.f
  by_cases h : (l.length : Int) > 65520
  · rw [if_pos h]; exact ⟨_, _, rfl, by simp⟩
  · rw [if_neg h]
    unfold impl_padded.f
    rw [if_pos (by omega), Option.bind_some]
    exact ⟨_, _, rfl, by simp [padL]; omega⟩
theorem FnExactPadBlocks : laws_FnExactPadBlocks.Pure := by
  intro l0 h0 _ w0
  refine ⟨2000003, ?_⟩
  unfold laws_FnExactPadBlocks.f
  by_cases b0 : (l0.length : Int) > 1048576
  · rw [if_pos b0]
  rw [if_neg b0]
  have hl : l0.length ≤ 1048576 := by omega
  obtain ⟨rl, rc, er, hr⟩ := PadBlocks_some l0 w0
  have eq1 : ∀ k, 1200000 < k → laws_eqByteS.f k rl rl = some true := fun k hk => by rw [eqByteS_eq k rl rl (by omega) (by omega)]; simp
  rw [toByteS_eq 2000003 l0 (by omega) (by omega), Option.bind_some, spec_PadBlocks_eq _ l0 w0 (by omega), er, Option.bind_some]
  simp only [Option.bind_some]
  rw [er, Option.bind_some, eq1 _ (by omega), Option.bind_some, if_pos rfl]
  show laws_FnExactPadBlocks.j0 (2000002 + 1) _ _ _ _ _ _ _ = _
  simp only [laws_FnExactPadBlocks.j0, bne_self_eq_false, Bool.false_eq_true, if_false]
  rw [toByteS_eq 2000002 l0 (by omega) (by omega), Option.bind_some, eqByteS_eq 2000002 l0 l0 (by omega) (by omega), Option.bind_some, if_pos (by simp)]
  obtain ⟨l1, e1, _, _⟩ := markB_held 2000002 1 l0 (by omega) (by omega) (by omega)
  have e1' : laws_markByteS.f 2000002 l0 1 = some (((1 + l0.length : Nat) : Int), l1) := e1
  rw [e1', Option.bind_some, if_neg (by simp only; omega), eq1 _ (by omega), Option.bind_some, if_pos rfl]
  show laws_FnExactPadBlocks.j1 (2000001 + 1) _ _ _ _ _ = _
  simp only [laws_FnExactPadBlocks.j1, Bool.false_eq_true, if_false]
  obtain ⟨l2, e2, n2, g2⟩ := markB_held 2000001 1 rl (by omega) (by omega) (by omega)
  have e2' : laws_markByteS.f 2000001 rl 1 = some (((1 + rl.length : Nat) : Int), l2) := e2
  have g2' : ∀ k, rl.length < k → laws_heldByteS.f k l2 1 = some ((1 + rl.length : Nat) : Int) := g2
  rw [e2', Option.bind_some]
  simp only []
  rw [g2' 2000001 (by omega), Option.bind_some, if_neg (by omega), if_pos rfl, toByteS_eq 2000001 l0 (by omega) (by omega), Option.bind_some, er, Option.bind_some]
  simp only []
  rw [eq1 _ (by omega), Option.bind_some, if_pos rfl]
  show laws_FnExactPadBlocks.j2 (2000000 + 1) _ _ _ = _
  simp only [laws_FnExactPadBlocks.j2, bne_self_eq_false, Bool.false_eq_true, if_false]
  rw [g2' 2000000 (by omega), Option.bind_some, if_neg (by omega), if_pos rfl]
end Go.Proofs.Ytbpefnfeiidioaa.Pure

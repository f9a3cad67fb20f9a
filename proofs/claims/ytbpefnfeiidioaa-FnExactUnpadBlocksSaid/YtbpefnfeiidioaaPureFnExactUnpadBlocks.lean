/- For all inputs: the program takes a filled text back as the reference does. No condition. -/
import Derived.Test.YtbpefnfeiidioaaPx4
import Derived.Test.YtbpefnfeiidioaaPunpad
import Derived.Test.YtbpefnfeiidioaaPmarkB
namespace Go.Proofs.Ytbpefnfeiidioaa.Pure
open Go.RowKit Go.Proofs.Ytbpefnfeiidioaa.P Go.Proofs.Ytbpefnfeiidioaa.Pg Go.Proofs.YtbpefnfeiidioaaW.PrintWords Go.Proofs.YtbpefnfeiidioaaW.PrintLast Go.Proofs.YtbpefnfeiidioaaW.PrintMore
theorem UnpadBlocks_some (l : List Int) (w : ∀ x ∈ l, (Lit.int .u8 x).wf = true) : ∃ rl rc, impl_UnpadBlocks.f l = some (rl, rc) ∧ rl.length ≤ 65536 := by
  unfold impl_UnpadBlocks.f
  rw [if_pos (u8s_of (isU8_of w))]
  by_cases h : 65536 < (l.length : Int)
  · rw [if_pos h]; exact ⟨_, _, rfl, by simp⟩
  · rw [if_neg h]
    cases hu : unpadL l with
    | none => exact ⟨_, _, rfl, by simp⟩
    | some r => exact ⟨_, _, rfl, by have := unpadL_len hu; omega⟩
theorem FnExactUnpadBlocks : laws_FnExactUnpadBlocks.Pure := by
  intro l0 h0 _ w0
  refine ⟨2000003, ?_⟩
  unfold laws_FnExactUnpadBlocks.f
  by_cases b0 : (l0.length : Int) > 1048576
  · rw [if_pos b0]
  rw [if_neg b0]
  have hl : l0.length ≤ 1048576 := by omega
  obtain ⟨rl, rc, er, hr⟩ := UnpadBlocks_some l0 w0
  have eq1 : ∀ k, 1200000 < k → laws_eqByteS.f k rl rl = some true := fun k hk => by rw [eqByteS_eq k rl rl (by omega) (by omega)]; simp
  rw [toByteS_eq 2000003 l0 (by omega) (by omega), Option.bind_some, spec_UnpadBlocks_eq _ l0 w0 (by omega), er, Option.bind_some]
  simp only [Option.bind_some]
  rw [er, Option.bind_some, eq1 _ (by omega), Option.bind_some, if_pos rfl]
  show laws_FnExactUnpadBlocks.j0 (2000002 + 1) _ _ _ _ _ _ _ = _
  simp only [laws_FnExactUnpadBlocks.j0, bne_self_eq_false, Bool.false_eq_true, if_false]
  rw [toByteS_eq 2000002 l0 (by omega) (by omega), Option.bind_some, eqByteS_eq 2000002 l0 l0 (by omega) (by omega), Option.bind_some, if_pos (by simp)]
  obtain ⟨l1, e1, _, _⟩ := markB_held 2000002 1 l0 (by omega) (by omega) (by omega)
  have e1' : laws_markByteS.f 2000002 l0 1 = some (((1 + l0.length : Nat) : Int), l1) := e1
  rw [e1', Option.bind_some, if_neg (by simp only; omega), eq1 _ (by omega), Option.bind_some, if_pos rfl]
  show laws_FnExactUnpadBlocks.j1 (2000001 + 1) _ _ _ _ _ = _
  simp only [laws_FnExactUnpadBlocks.j1, Bool.false_eq_true, if_false]
  obtain ⟨l2, e2, n2, g2⟩ := markB_held 2000001 1 rl (by omega) (by omega) (by omega)
  have e2' : laws_markByteS.f 2000001 rl 1 = some (((1 + rl.length : Nat) : Int), l2) := e2
  have g2' : ∀ k, rl.length < k → laws_heldByteS.f k l2 1 = some ((1 + rl.length : Nat) : Int) := g2
  rw [e2', Option.bind_some]
  simp only []
  rw [g2' 2000001 (by omega), Option.bind_some, if_neg (by omega), if_pos rfl, toByteS_eq 2000001 l0 (by omega) (by omega), Option.bind_some, er, Option.bind_some]
  simp only []
  rw [eq1 _ (by omega), Option.bind_some, if_pos rfl]
  show laws_FnExactUnpadBlocks.j2 (2000000 + 1) _ _ _ = _
  simp only [laws_FnExactUnpadBlocks.j2, bne_self_eq_false, Bool.false_eq_true, if_false]
  rw [g2' 2000000 (by omega), Option.bind_some, if_neg (by omega), if_pos rfl]
end Go.Proofs.Ytbpefnfeiidioaa.Pure

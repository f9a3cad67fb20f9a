/- For all inputs: the program mixes a column as the reference does, word for word. No condition. -/
import Derived.Test.YtbpefnfeiidioaaPx3
import Derived.Test.YtbpefnfeiidioaaPmix
import Derived.Test.YtbpefnfeiidioaaPeqI
namespace Go.Proofs.Ytbpefnfeiidioaa.Pure
open Go.RowKit Go.Proofs.Ytbpefnfeiidioaa.P Go.Proofs.Ytbpefnfeiidioaa.Gf Go.Proofs.Ytbpefnfeiidioaa.Pg Go.Proofs.YtbpefnfeiidioaaW.PrintWords Go.Proofs.YtbpefnfeiidioaaW.PrintLast Go.Proofs.YtbpefnfeiidioaaW.PrintMore
theorem mix_some (l : List Int) : ∃ rl rc, impl_MixColumn.f l = some (rl, rc) ∧ rl.length ≤ 4 := by
  unfold impl_MixColumn.f
  split
  · exact ⟨_, _, rfl, by simp⟩
  · split
    · exact ⟨_, _, rfl, by simp⟩
    · split
      · exact ⟨_, _, rfl, by simp⟩
      · exact ⟨_, _, rfl, by simp [mixedL]⟩
theorem FnExactMixColumn : laws_FnExactMixColumn.Pure := by
  intro l0 h0 _ w0
  refine ⟨2000003, ?_⟩
  unfold laws_FnExactMixColumn.f
  by_cases b0 : (l0.length : Int) > 1048576
  · rw [if_pos b0]
  rw [if_neg b0]
  have hl : l0.length ≤ 1048576 := by omega
  obtain ⟨rl, rc, er, hr⟩ := mix_some l0
  have eq1 : ∀ k, 2000 < k → laws_eqIntS.f k rl rl = some true := fun k hk => by rw [eqIntS_eq k rl rl (by omega) (by omega)]; simp
  rw [toIntS_eq 2000003 l0 (by omega) (by omega), Option.bind_some, spec_Mix_eq _ _ (by decide), er, Option.bind_some]
  simp only [Option.bind_some]
  rw [er, Option.bind_some, eq1 _ (by decide), Option.bind_some, if_pos rfl]
  show laws_FnExactMixColumn.j0 (2000002 + 1) _ _ _ _ _ _ _ = _
  simp only [laws_FnExactMixColumn.j0, bne_self_eq_false, Bool.false_eq_true, if_false]
  rw [toIntS_eq 2000002 l0 (by omega) (by omega), Option.bind_some, eqIntS_eq 2000002 l0 l0 (by omega) (by omega), Option.bind_some, if_pos (by simp)]
  obtain ⟨l1, e1, _, _⟩ := markI_held 2000002 1 l0 (by omega) (by omega) (by omega)
  have e1' : laws_markIntS.f 2000002 l0 1 = some (((1 + l0.length : Nat) : Int), l1) := e1
  rw [e1', Option.bind_some, if_neg (by simp only; omega), eq1 _ (by decide), Option.bind_some, if_pos rfl]
  show laws_FnExactMixColumn.j1 (2000001 + 1) _ _ _ _ _ = _
  simp only [laws_FnExactMixColumn.j1, Bool.false_eq_true, if_false]
  obtain ⟨l2, e2, n2, g2⟩ := markI_held 2000001 1 rl (by omega) (by omega) (by omega)
  have e2' : laws_markIntS.f 2000001 rl 1 = some (((1 + rl.length : Nat) : Int), l2) := e2
  have g2' : ∀ k, rl.length < k → laws_heldIntS.f k l2 1 = some ((1 + rl.length : Nat) : Int) := g2
  rw [e2', Option.bind_some]
  simp only []
  rw [g2' 2000001 (by omega), Option.bind_some, if_neg (by omega), if_pos rfl, toIntS_eq 2000001 l0 (by omega) (by omega), Option.bind_some, er, Option.bind_some]
  simp only []
  rw [eq1 _ (by decide), Option.bind_some, if_pos rfl]
  show laws_FnExactMixColumn.j2 (2000000 + 1) _ _ _ = _
  simp only [laws_FnExactMixColumn.j2, bne_self_eq_false, Bool.false_eq_true, if_false]
  rw [g2' 2000000 (by omega), Option.bind_some, if_neg (by omega), if_pos rfl]
end Go.Proofs.Ytbpefnfeiidioaa.Pure

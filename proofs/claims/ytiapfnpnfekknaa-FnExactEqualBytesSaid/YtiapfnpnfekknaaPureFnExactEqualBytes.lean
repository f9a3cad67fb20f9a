/- For all slices of bytes the program's comparison and its code are the reference's, and the arguments stay. No condition. -/
import Derived.Test.YtiapfnpnfekknaaPx6
import Derived.Test.YtiapfnpnfekknaaPequal
namespace Go.Proofs.Ytiapfnpnfekknaa.Pure
open Go.RowKit Go.Proofs.Ytiapfnpnfekknaa.P Go.Proofs.Ytiapfnpnfekknaa.Gf Go.Proofs.Ytiapfnpnfekknaa.Pg Go.Proofs.YtiapfnpnfekknaaW.PrintWords Go.Proofs.YtiapfnpnfekknaaW.PrintLast Go.Proofs.YtiapfnpnfekknaaW.PrintMore

theorem FnExactEqualBytes : laws_FnExactEqualBytes.Pure := by
  intro a b _ _ wa _ _ wb
  have ha := isU8_of wa
  have hb := isU8_of wb
  refine ⟨1200000, ?_⟩
  unfold laws_FnExactEqualBytes.f
  by_cases h1 : (a.length : Int) > 1048576
  · rw [if_pos h1]
  by_cases h2 : (b.length : Int) > 1048576
  · rw [if_neg h1, if_pos h2]
  rw [if_neg h1, if_neg h2]
  generalize hK : (1200000 : Nat) = K
  have hk : 1199999 < K := by omega
  have ta : ∀ k, 1100000 < k → laws_toByteS.f k a = some a := fun k hk => toByteS_eq k a (by omega) (by omega)
  have tb : ∀ k, 1100000 < k → laws_toByteS.f k b = some b := fun k hk => toByteS_eq k b (by omega) (by omega)
  simp only [ta K (by omega), tb K (by omega), Option.bind_some, spec_equal K a b ha hb (by omega), impl_equal a b ha hb, bne_self_eq_false, Bool.false_eq_true, if_false]
  obtain ⟨k, rfl⟩ : ∃ m, K = m + 1 := ⟨K - 1, by omega⟩
  simp only [laws_FnExactEqualBytes.j0, Bool.false_eq_true, if_false, ta k (by omega), tb k (by omega), Option.bind_some, eqByteS_eq k a a (by omega) (by omega), eqByteS_eq k b b (by omega) (by omega), beq_self_eq_true, if_true]

end Go.Proofs.Ytiapfnpnfekknaa.Pure

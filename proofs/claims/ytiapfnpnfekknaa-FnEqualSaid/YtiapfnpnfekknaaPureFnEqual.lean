/- For all inputs the program tells two texts to be equal just if they are. No condition. -/
import Derived.Test.YtiapfnpnfekknaaPx6
import Derived.Test.YtiapfnpnfekknaaPequal
import Derived.Test.YtiapfnpnfekknaaPbof
namespace Go.Proofs.Ytiapfnpnfekknaa.Pure
open Go.RowKit Go.Proofs.Ytiapfnpnfekknaa.P Go.Proofs.Ytiapfnpnfekknaa.Gf Go.Proofs.Ytiapfnpnfekknaa.Pg Go.Proofs.YtiapfnpnfekknaaW.PrintWords Go.Proofs.YtiapfnpnfekknaaW.PrintLast Go.Proofs.YtiapfnpnfekknaaW.PrintMore

theorem FnEqual : laws_FnEqual.Pure := by
  intro l0 l1 _ _ w0 _ _ w1
  refine ⟨100, ?_⟩
  unfold laws_FnEqual.f
  by_cases b0 : (l0.length : Int) > 1048576
  · rw [if_pos b0]; simp [laws_FnEqual.j0]
  by_cases b1 : (l1.length : Int) > 1048576
  · rw [if_neg b0, decide_eq_true b1]; simp [laws_FnEqual.j0]
  rw [if_neg b0, decide_eq_false b1]
  show laws_FnEqual.j0 (99 + 1) l0 l1 false = some true
  obtain ⟨a, ea, ua, la⟩ := bytesOf_some (isU8_of w0) 12 (by decide)
  obtain ⟨b, eb, ub, lb⟩ := bytesOf_some (isU8_of w1) 12 (by decide)
  have ea' : spec_BytesOf.f 99 l0 12 = some a := ea 99 (by decide)
  have eb' : spec_BytesOf.f 99 l1 12 = some b := eb 99 (by decide)
  have u2 : isU8 (a ++ [0]) := isU8_snoc ua ⟨by decide, by decide⟩
  simp only [laws_FnEqual.j0, Bool.false_eq_true, if_false, ea', eb', Option.bind_some, List.nil_append, List.length_nil]
  rw [impl_equal a b ua ub, impl_equal a a ua ua, impl_equal a (a ++ [0]) ua u2, strEq a b ua ub]
  have e1 : eqAns a b = (a == b, 0) := by unfold eqAns; rw [if_neg (by omega)]
  have e2 : eqAns a a = (true, 0) := by unfold eqAns; rw [if_neg (by omega)]; simp
  have e3 : eqAns a (a ++ [0]) = (false, 0) := by
    unfold eqAns
    rw [if_neg (by simp; omega)]
    have : (a == a ++ [0]) = false := by
      rw [beq_eq_false_iff_ne]
      intro h
      have := congrArg List.length h
      simp at this
    rw [this]
  rw [e1, e2, e3]
  simp only [Option.bind_some, if_true, beq_self_eq_true, Bool.not_false]
  rw [if_pos (by omega), if_pos (by omega), if_pos (by omega)]

end Go.Proofs.Ytiapfnpnfekknaa.Pure

/- For all texts the program's digits and its code are the reference's. No condition. -/
import Derived.Test.YtiapfnpnfekknaaPx5
import Derived.Test.YtiapfnpnfekknaaPhex
namespace Go.Proofs.Ytiapfnpnfekknaa.Pure
open Go.RowKit Go.Proofs.Ytiapfnpnfekknaa.P Go.Proofs.Ytiapfnpnfekknaa.Pg Go.Proofs.YtiapfnpnfekknaaW.PrintWords Go.Proofs.YtiapfnpnfekknaaW.PrintLast Go.Proofs.YtiapfnpnfekknaaW.PrintMore

theorem FnExactHexText : laws_FnExactHexText.Pure := by
  intro s _
  refine ⟨65537, ?_⟩
  unfold laws_FnExactHexText.f
  by_cases h : (s.size : Int) > 1048576
  · rw [if_pos h]
  · rw [if_neg h, spec_hex 65537 s (by decide), Option.bind_some, impl_hex, Option.bind_some, if_pos rfl, if_pos rfl]

end Go.Proofs.Ytiapfnpnfekknaa.Pure

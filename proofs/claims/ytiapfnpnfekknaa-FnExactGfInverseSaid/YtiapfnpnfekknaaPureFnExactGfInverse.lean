/- For all whole numbers the program's inverse of a byte and its code are the reference's. No condition. -/
import Derived.Test.YtiapfnpnfekknaaPx7
import Derived.Test.YtiapfnpnfekknaaPg
namespace Go.Proofs.Ytiapfnpnfekknaa.Pure
open Go.RowKit Go.Proofs.Ytiapfnpnfekknaa.P Go.Proofs.Ytiapfnpnfekknaa.Gf Go.Proofs.Ytiapfnpnfekknaa.Pg Go.Proofs.YtiapfnpnfekknaaW.PrintWords Go.Proofs.YtiapfnpnfekknaaW.PrintLast Go.Proofs.YtiapfnpnfekknaaW.PrintMore

theorem FnExactGfInverse : laws_FnExactGfInverse.Pure := by
  intro a _
  refine ⟨30, ?_⟩
  unfold laws_FnExactGfInverse.f spec_GfInverse.f impl_GfInverse.f
  rcases byte_or a with ⟨x, hx, rfl⟩ | ⟨h1, h2⟩
  · simp only [byte_yes x hx, isByte_yes x hx, Option.bind_some, if_true, mod_byte x hx]
    by_cases h0 : (x : Int) = 0
    · simp only [if_pos h0, Option.bind_some, if_true]
    · simp only [if_neg h0]
      rw [sinverse_eq 30 x hx (by decide), inverse_eq 30 x hx (by decide)]
      simp only [Option.bind_some, wrap_byte _ (inv_lt x hx), if_true]
  · simp only [h1, h2, Option.bind_some]
    rfl

end Go.Proofs.Ytiapfnpnfekknaa.Pure

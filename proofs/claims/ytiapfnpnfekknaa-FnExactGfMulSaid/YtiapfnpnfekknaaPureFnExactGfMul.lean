/- For all whole numbers the program's product of two bytes and its code are the reference's. No condition. -/
import Derived.Test.YtiapfnpnfekknaaPx5
import Derived.Test.YtiapfnpnfekknaaPg
namespace Go.Proofs.Ytiapfnpnfekknaa.Pure
open Go.RowKit Go.Proofs.Ytiapfnpnfekknaa.P Go.Proofs.Ytiapfnpnfekknaa.Gf Go.Proofs.Ytiapfnpnfekknaa.Pg Go.Proofs.YtiapfnpnfekknaaW.PrintWords Go.Proofs.YtiapfnpnfekknaaW.PrintLast Go.Proofs.YtiapfnpnfekknaaW.PrintMore

theorem FnExactGfMul : laws_FnExactGfMul.Pure := by
  intro a b _ _
  refine ⟨20, ?_⟩
  unfold laws_FnExactGfMul.f spec_GfMul.f impl_GfMul.f
  rcases byte_or a with ⟨x, hx, rfl⟩ | ⟨h1, h2⟩
  · rcases byte_or b with ⟨y, hy, rfl⟩ | ⟨h1, h2⟩
    · simp only [byte_yes x hx, byte_yes y hy, isByte_yes x hx, isByte_yes y hy, Option.bind_some, if_true, mod_byte x hx, mod_byte y hy]
      rw [mul_eq 20 x y hx hy (by decide), times_eq 20 x y hx hy (by decide)]
      simp only [Option.bind_some, wrap_byte _ (gm_lt hx), if_true]
    · simp only [byte_yes x hx, isByte_yes x hx, h1, h2, Option.bind_some, if_true]
      rfl
  · simp only [h1, h2, Option.bind_some]
    rfl

end Go.Proofs.Ytiapfnpnfekknaa.Pure

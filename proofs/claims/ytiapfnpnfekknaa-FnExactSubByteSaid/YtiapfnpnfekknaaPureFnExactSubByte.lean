/- For all whole numbers the program's substitute of a byte and its code are the reference's. No condition. -/
import Derived.Test.YtiapfnpnfekknaaPx8
import Derived.Test.YtiapfnpnfekknaaPs
namespace Go.Proofs.Ytiapfnpnfekknaa.Pure
open Go.RowKit Go.Proofs.Ytiapfnpnfekknaa.P Go.Proofs.Ytiapfnpnfekknaa.Gf Go.Proofs.Ytiapfnpnfekknaa.Pg Go.Proofs.YtiapfnpnfekknaaW.PrintWords Go.Proofs.YtiapfnpnfekknaaW.PrintLast Go.Proofs.YtiapfnpnfekknaaW.PrintMore

theorem FnExactSubByte : laws_FnExactSubByte.Pure := by
  intro a _
  refine ⟨30, ?_⟩
  unfold laws_FnExactSubByte.f spec_SubByte.f impl_SubByte.f
  rcases byte_or a with ⟨x, hx, rfl⟩ | ⟨h1, h2⟩
  · simp only [byte_yes x hx, isByte_yes x hx, Option.bind_some, if_true, mod_byte x hx]
    rw [spec_sub_eq 30 x hx (by decide), impl_sub_eq 30 x hx (by decide)]
    simp only [Option.bind_some, wrap_byte _ (sub_lt x hx), if_true]
  · simp only [h1, h2, Option.bind_some]
    rfl

end Go.Proofs.Ytiapfnpnfekknaa.Pure

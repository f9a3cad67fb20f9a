/- For all places and versions the program's nonce and code are the reference's. No condition. -/
import Derived.Test.YtiapfnpnfekknaaPx4
import Derived.Test.YtiapfnpnfekknaaPb
namespace Go.Proofs.Ytiapfnpnfekknaa.Pure
open Go.RowKit Go.Proofs.Ytiapfnpnfekknaa.P Go.Proofs.Ytiapfnpnfekknaa.Pg Go.Proofs.YtiapfnpnfekknaaW.PrintWords Go.Proofs.YtiapfnpnfekknaaW.PrintLast Go.Proofs.YtiapfnpnfekknaaW.PrintMore

theorem FnExactSealNonce : laws_FnExactSealNonce.Pure := by
  intro a b _ _
  refine ⟨20, ?_⟩
  unfold laws_FnExactSealNonce.f spec_SealNonce.f impl_SealNonce.f
  rcases word_or a with ⟨ha, h1, h2⟩ | ⟨h1, h2⟩
  · rcases word_or b with ⟨hb, h3, h4⟩ | ⟨h3, h4⟩
    · rw [h1, h2, h3, h4]
      simp only [Option.bind_some, if_true]
      rw [snonce_eq a b, inonce_eq 20 a b (by decide)]
      simp only [Option.bind_some, if_true]
    · rw [h1, h2, h3, h4]
      simp only [Option.bind_some, if_true]
      simp
  · rw [h1, h2]
    simp only [Option.bind_some]
    simp

end Go.Proofs.Ytiapfnpnfekknaa.Pure

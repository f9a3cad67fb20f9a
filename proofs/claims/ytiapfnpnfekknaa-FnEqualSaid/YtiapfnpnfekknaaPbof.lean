/- Drawn bytes of at most so many (no program in sight). -/
import Derived.Test.YtiapfnpnfekknaaPx6
import Derived.Test.YtiapfnpnfekknaaPsrc
namespace Go.Proofs.Ytiapfnpnfekknaa.Pg
open Go.RowKit Go.Proofs.Ytiapfnpnfekknaa.P Go.Proofs.YtiapfnpnfekknaaW.PrintWords Go.Proofs.YtiapfnpnfekknaaW.PrintLast Go.Proofs.YtiapfnpnfekknaaW.PrintMore
theorem bytesOf_some {l : List Int} (w : isU8 l) (n : Nat) (hn : n ≤ 1000) : ∃ r, (∀ k, n < k → spec_BytesOf.f k l (n : Int) = some r) ∧ isU8 r ∧ r.length ≤ n := by
  have h0 : At 0 0 ((l.length : Int) % 1000) := ⟨by decide, by decide, by omega, by omega⟩
  obtain ⟨r, a', s', e, u, hl, _⟩ := bytes_some w h0 (by decide) n hn (n + 1) (by omega)
  refine ⟨r, fun k hk => ?_, u, hl⟩
  have : spec_BytesOf.f (n + 1) l (n : Int) = some r := by
    unfold spec_BytesOf.f spec_l00Source.f
    rw [Option.bind_some, e]
    rfl
  exact at_rounds (spec_BytesOf.mono _ _) hk this
end Go.Proofs.Ytiapfnpnfekknaa.Pg

/- Strings made of lists of bytes (no program in sight). -/
import Derived.Laws.BytesArg
import Derived.Laws.Strings
import Derived.RowKit
namespace Go.Proofs.Ytfbggdlidelliaa.Pg
open Go.RowKit
def isU8 (l : List Int) : Prop := ∀ x ∈ l, 0 ≤ x ∧ x ≤ 255
theorem isU8_of {l : List Int} (w : ∀ x ∈ l, (Lit.int .u8 x).wf = true) : isU8 l := by
  intro x hx
  have h := w x hx
  simp [Lit.wf, IntKind.min, IntKind.max, IntKind.signed, IntKind.bits] at h
  omega
end Go.Proofs.Ytfbggdlidelliaa.Pg

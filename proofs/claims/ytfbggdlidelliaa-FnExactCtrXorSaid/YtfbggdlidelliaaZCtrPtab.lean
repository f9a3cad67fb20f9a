/- The reference's table of substitutes is Aes.subs. -/
import Derived.Test.YtfbggdlidelliaaZCtrPq8
import Derived.Test.YtfbggdlidelliaaZCtrAes
namespace Go.Proofs.Ytfbggdlidelliaa.Pg
open Go.RowKit Go.Proofs.Ytfbggdlidelliaa.P Go.Proofs.YtfbggdlidelliaaW.PrintWords Go.Proofs.YtfbggdlidelliaaW.PrintLast Go.Proofs.YtfbggdlidelliaaW.PrintMore
theorem table_600 : spec_l01Table.f 600 = some Aes.subs := by decide +kernel
theorem table_at (k : Nat) (h : 600 ≤ k) : spec_l01Table.f k = some Aes.subs := at_rounds spec_l01Table.mono h table_600
end Go.Proofs.Ytfbggdlidelliaa.Pg

/- Words of this session: twice a block but for what was lost; a row of bytes as a text. -/
import Derived.Test.YtfbggdlidelliaaZCdRg
namespace Go.Proofs.Ytfbggdlidelliaa.P
open Go.RowKit Go.Proofs.YtfbggdlidelliaaW.PrintWords Go.Proofs.YtfbggdlidelliaaW.PrintLast Go.Proofs.YtfbggdlidelliaaW.PrintMore
set_option linter.unusedVariables false
theorem rowB_str {W : World} {B g n c : Nat} {l : List Int} (h : rowB W B (.slice (some ⟨g, 0, none⟩) n c) l) (hn : n = l.length) (hm : l.length ≤ 140737488355328) : Kd.C (Kd.int .u8) W (some ⟨g, 0, none⟩) l.length l := by
  subst hn
  exact rowB_C h hm
end Go.Proofs.Ytfbggdlidelliaa.P

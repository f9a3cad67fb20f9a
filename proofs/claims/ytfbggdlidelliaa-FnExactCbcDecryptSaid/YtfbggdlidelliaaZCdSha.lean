/- Plain words on the hash over lists of numbers: the words of a block, a round, the blocks of a text (no program in sight). -/
import Derived.Laws.BitsLemmas
import Derived.IntWalk
import Derived.RowKit
import Derived.Test.YtfbggdlidelliaaZCdGf
set_option linter.unusedVariables false
namespace Go.Proofs.Ytfbggdlidelliaa.Sha
structure V8 where
  (a b c d e f g h : Int)
def V8.l (v : V8) : List Int := [v.a, v.b, v.c, v.d, v.e, v.f, v.g, v.h]
end Go.Proofs.Ytfbggdlidelliaa.Sha

/-
  No cell of these rows narrows 'for every input' (looked for: loops, veiled, ifaces, maps, wideKeys, modest, calm, conditions, laid).
  DERIVED. THE GIVEN ROWS OF THIS SEAT. 10 by the template 'for every input the law returns true; each argument reads behind the call as it read before'; 0 by the template 'total and deterministic' (their statements: YtbpefnfeiidioaaTotals.lean).
  GIVEN WITH THE SEED: the statements are not yours to turn. If you find one false, say at which input.
  Laid BY PROGRAM, IN A SANDBOX (cutbox-rows.mjs): the forced cells as the released guide's own fill.sh prints them over the translation b3cd27862200faa6… (all of the seat's roots in one cut). By AI agents, Wed Nov 11 2026. No macro, syntax, notation, axiom, sorry.
-/
import Derived.Test.YtbpefnfeiidioaaChecked
import GoSem.Claim
import GoSem.ClaimJoined
import GoSem.ClaimMapViews
import Derived.JoinedTies
import Derived.KernelRfl
namespace Go.Proofs.Ytbpefnfeiidioaa
/- THE CELL 'sum', in the pinned program and in every row, IS THE sha256 OF THE DUMP (.gsa) THAT YtbpefnfeiidioaaProg.lean LOADS. Nothing in Lean hashes anything: it is a label: what it is worth is what the hold of that sum in a sandbox is worth. -/
noncomputable def Try.pinned : Pinned := { name := "ytbpefnfeiidioaa", sum := "b3cd27862200faa665e85f72e255f391bebf3838611dfc5ab0442c5be113b614", checked := Try.checked }
namespace Rows
def none {H : Type} : Left H := { results := [], args := [] }

/-- 'laws.FnSub': WHATEVER THE INPUT: true; the input reads as it did. -/
def fnSubSpec : ChangeSpec := { name := "fnSub", fn := fun _ => fun
  | [d] => { results := [.lit (.bool true)], args := [d] }
  | _ => none }
def fnSubRow : OpenClaim := { program := "ytbpefnfeiidioaa", sum := "b3cd27862200faa665e85f72e255f391bebf3838611dfc5ab0442c5be113b614", func := "loop.example/g00257/laws.FnSub", spec := "fnSub", apart := false }
def FnSubSaid : Prop := fnSubRow.holds Try.pinned (OpenSpec.ofChange fnSubSpec)

/-- ITS FALSE NEIGHBOUR: 'it returns false'. Refute it at one input. -/
def fnSubWrong : ChangeSpec := { name := "fnSub", fn := fun _ => fun
  | [d] => { results := [.lit (.bool false)], args := [d] }
  | _ => none }
def FnSubWrongFalsely : Prop := fnSubRow.holds Try.pinned (OpenSpec.ofChange fnSubWrong)

/-- 'laws.FnMix': WHATEVER THE INPUT: true; the input reads as it did. -/
def fnMixSpec : ChangeSpec := { name := "fnMix", fn := fun _ => fun
  | [d1, d2] => { results := [.lit (.bool true)], args := [d1, d2] }
  | _ => none }
def fnMixRow : OpenClaim := { program := "ytbpefnfeiidioaa", sum := "b3cd27862200faa665e85f72e255f391bebf3838611dfc5ab0442c5be113b614", func := "loop.example/g00257/laws.FnMix", spec := "fnMix", unfollowed := true, recurses := true, apart := false }
def FnMixSaid : Prop := fnMixRow.holds Try.pinned (OpenSpec.ofChange fnMixSpec)

/-- ITS FALSE NEIGHBOUR: 'it returns false'. Refute it at one input. -/
def fnMixWrong : ChangeSpec := { name := "fnMix", fn := fun _ => fun
  | [d1, d2] => { results := [.lit (.bool false)], args := [d1, d2] }
  | _ => none }
def FnMixWrongFalsely : Prop := fnMixRow.holds Try.pinned (OpenSpec.ofChange fnMixWrong)

/-- 'laws.FnExactMixColumn': WHATEVER THE INPUT: true; the input reads as it did. -/
def fnExactMixColumnSpec : ChangeSpec := { name := "fnExactMixColumn", fn := fun _ => fun
  | [d] => { results := [.lit (.bool true)], args := [d] }
  | _ => none }
def fnExactMixColumnRow : OpenClaim := { program := "ytbpefnfeiidioaa", sum := "b3cd27862200faa665e85f72e255f391bebf3838611dfc5ab0442c5be113b614", func := "loop.example/g00257/laws.FnExactMixColumn", spec := "fnExactMixColumn", unfollowed := true, recurses := true, apart := false }
def FnExactMixColumnSaid : Prop := fnExactMixColumnRow.holds Try.pinned (OpenSpec.ofChange fnExactMixColumnSpec)

/-- ITS FALSE NEIGHBOUR: 'it returns false'. Refute it at one input. -/
def fnExactMixColumnWrong : ChangeSpec := { name := "fnExactMixColumn", fn := fun _ => fun
  | [d] => { results := [.lit (.bool false)], args := [d] }
  | _ => none }
def FnExactMixColumnWrongFalsely : Prop := fnExactMixColumnRow.holds Try.pinned (OpenSpec.ofChange fnExactMixColumnWrong)

/-- 'laws.FnExactPadBlocks': WHATEVER THE INPUT: true; the input reads as it did. -/
def fnExactPadBlocksSpec : ChangeSpec := { name := "fnExactPadBlocks", fn := fun _ => fun
  | [d] => { results := [.lit (.bool true)], args := [d] }
  | _ => none }
def fnExactPadBlocksRow : OpenClaim := { program := "ytbpefnfeiidioaa", sum := "b3cd27862200faa665e85f72e255f391bebf3838611dfc5ab0442c5be113b614", func := "loop.example/g00257/laws.FnExactPadBlocks", spec := "fnExactPadBlocks", inPlace := ["internal/bytealg.MakeNoZero"], apart := false }
def FnExactPadBlocksSaid : Prop := fnExactPadBlocksRow.holds Try.pinned (OpenSpec.ofChange fnExactPadBlocksSpec)

/-- ITS FALSE NEIGHBOUR: 'it returns false'. Refute it at one input. -/
def fnExactPadBlocksWrong : ChangeSpec := { name := "fnExactPadBlocks", fn := fun _ => fun
  | [d] => { results := [.lit (.bool false)], args := [d] }
  | _ => none }
def FnExactPadBlocksWrongFalsely : Prop := fnExactPadBlocksRow.holds Try.pinned (OpenSpec.ofChange fnExactPadBlocksWrong)

/-- 'laws.FnExactUnpadBlocks': WHATEVER THE INPUT: true; the input reads as it did. -/
def fnExactUnpadBlocksSpec : ChangeSpec := { name := "fnExactUnpadBlocks", fn := fun _ => fun
  | [d] => { results := [.lit (.bool true)], args := [d] }
  | _ => none }
def fnExactUnpadBlocksRow : OpenClaim := { program := "ytbpefnfeiidioaa", sum := "b3cd27862200faa665e85f72e255f391bebf3838611dfc5ab0442c5be113b614", func := "loop.example/g00257/laws.FnExactUnpadBlocks", spec := "fnExactUnpadBlocks", inPlace := ["internal/bytealg.MakeNoZero"], unfollowed := true, recurses := true, apart := false }
def FnExactUnpadBlocksSaid : Prop := fnExactUnpadBlocksRow.holds Try.pinned (OpenSpec.ofChange fnExactUnpadBlocksSpec)

/-- ITS FALSE NEIGHBOUR: 'it returns false'. Refute it at one input. -/
def fnExactUnpadBlocksWrong : ChangeSpec := { name := "fnExactUnpadBlocks", fn := fun _ => fun
  | [d] => { results := [.lit (.bool false)], args := [d] }
  | _ => none }
def FnExactUnpadBlocksWrongFalsely : Prop := fnExactUnpadBlocksRow.holds Try.pinned (OpenSpec.ofChange fnExactUnpadBlocksWrong)

/-- 'laws.FnPads': WHATEVER THE INPUT: true; the input reads as it did. -/
def fnPadsSpec : ChangeSpec := { name := "fnPads", fn := fun _ => fun
  | [d] => { results := [.lit (.bool true)], args := [d] }
  | _ => none }
def fnPadsRow : OpenClaim := { program := "ytbpefnfeiidioaa", sum := "b3cd27862200faa665e85f72e255f391bebf3838611dfc5ab0442c5be113b614", func := "loop.example/g00257/laws.FnPads", spec := "fnPads", inPlace := ["internal/bytealg.MakeNoZero"], unfollowed := true, recurses := true, apart := false }
def FnPadsSaid : Prop := fnPadsRow.holds Try.pinned (OpenSpec.ofChange fnPadsSpec)

/-- ITS FALSE NEIGHBOUR: 'it returns false'. Refute it at one input. -/
def fnPadsWrong : ChangeSpec := { name := "fnPads", fn := fun _ => fun
  | [d] => { results := [.lit (.bool false)], args := [d] }
  | _ => none }
def FnPadsWrongFalsely : Prop := fnPadsRow.holds Try.pinned (OpenSpec.ofChange fnPadsWrong)

/-- 'laws.FnExactNewDisk': WHATEVER THE INPUT: true; the input reads as it did. -/
def fnExactNewDiskSpec : ChangeSpec := { name := "fnExactNewDisk", fn := fun _ => fun
  | [d] => { results := [.lit (.bool true)], args := [d] }
  | _ => none }
def fnExactNewDiskRow : OpenClaim := { program := "ytbpefnfeiidioaa", sum := "b3cd27862200faa665e85f72e255f391bebf3838611dfc5ab0442c5be113b614", func := "loop.example/g00257/laws.FnExactNewDisk", spec := "fnExactNewDisk", apart := false }
def FnExactNewDiskSaid : Prop := fnExactNewDiskRow.holds Try.pinned (OpenSpec.ofChange fnExactNewDiskSpec)

/-- ITS FALSE NEIGHBOUR: 'it returns false'. Refute it at one input. -/
def fnExactNewDiskWrong : ChangeSpec := { name := "fnExactNewDisk", fn := fun _ => fun
  | [d] => { results := [.lit (.bool false)], args := [d] }
  | _ => none }
def FnExactNewDiskWrongFalsely : Prop := fnExactNewDiskRow.holds Try.pinned (OpenSpec.ofChange fnExactNewDiskWrong)

/-- 'laws.FnExactDiskOK': WHATEVER THE INPUT: true; the input reads as it did. -/
def fnExactDiskOKSpec : ChangeSpec := { name := "fnExactDiskOK", fn := fun _ => fun
  | [d] => { results := [.lit (.bool true)], args := [d] }
  | _ => none }
def fnExactDiskOKRow : OpenClaim := { program := "ytbpefnfeiidioaa", sum := "b3cd27862200faa665e85f72e255f391bebf3838611dfc5ab0442c5be113b614", func := "loop.example/g00257/laws.FnExactDiskOK", spec := "fnExactDiskOK", unfollowed := true, recurses := true, apart := false }
def FnExactDiskOKSaid : Prop := fnExactDiskOKRow.holds Try.pinned (OpenSpec.ofChange fnExactDiskOKSpec)

/-- ITS FALSE NEIGHBOUR: 'it returns false'. Refute it at one input. -/
def fnExactDiskOKWrong : ChangeSpec := { name := "fnExactDiskOK", fn := fun _ => fun
  | [d] => { results := [.lit (.bool false)], args := [d] }
  | _ => none }
def FnExactDiskOKWrongFalsely : Prop := fnExactDiskOKRow.holds Try.pinned (OpenSpec.ofChange fnExactDiskOKWrong)

/-- 'laws.FnExactDiskRead': WHATEVER THE INPUT: true; the input reads as it did. -/
def fnExactDiskReadSpec : ChangeSpec := { name := "fnExactDiskRead", fn := fun _ => fun
  | [d1, d2] => { results := [.lit (.bool true)], args := [d1, d2] }
  | _ => none }
def fnExactDiskReadRow : OpenClaim := { program := "ytbpefnfeiidioaa", sum := "b3cd27862200faa665e85f72e255f391bebf3838611dfc5ab0442c5be113b614", func := "loop.example/g00257/laws.FnExactDiskRead", spec := "fnExactDiskRead", unfollowed := true, recurses := true, apart := false }
def FnExactDiskReadSaid : Prop := fnExactDiskReadRow.holds Try.pinned (OpenSpec.ofChange fnExactDiskReadSpec)

/-- ITS FALSE NEIGHBOUR: 'it returns false'. Refute it at one input. -/
def fnExactDiskReadWrong : ChangeSpec := { name := "fnExactDiskRead", fn := fun _ => fun
  | [d1, d2] => { results := [.lit (.bool false)], args := [d1, d2] }
  | _ => none }
def FnExactDiskReadWrongFalsely : Prop := fnExactDiskReadRow.holds Try.pinned (OpenSpec.ofChange fnExactDiskReadWrong)

/-- 'laws.FnExactDiskSame': WHATEVER THE INPUT: true; the input reads as it did. -/
def fnExactDiskSameSpec : ChangeSpec := { name := "fnExactDiskSame", fn := fun _ => fun
  | [d1, d2] => { results := [.lit (.bool true)], args := [d1, d2] }
  | _ => none }
def fnExactDiskSameRow : OpenClaim := { program := "ytbpefnfeiidioaa", sum := "b3cd27862200faa665e85f72e255f391bebf3838611dfc5ab0442c5be113b614", func := "loop.example/g00257/laws.FnExactDiskSame", spec := "fnExactDiskSame", unfollowed := true, recurses := true, apart := false }
def FnExactDiskSameSaid : Prop := fnExactDiskSameRow.holds Try.pinned (OpenSpec.ofChange fnExactDiskSameSpec)

/-- ITS FALSE NEIGHBOUR: 'it returns false'. Refute it at one input. -/
def fnExactDiskSameWrong : ChangeSpec := { name := "fnExactDiskSame", fn := fun _ => fun
  | [d1, d2] => { results := [.lit (.bool false)], args := [d1, d2] }
  | _ => none }
def FnExactDiskSameWrongFalsely : Prop := fnExactDiskSameRow.holds Try.pinned (OpenSpec.ofChange fnExactDiskSameWrong)

/- THE SECOND FORM. 'bulk': how many values and letters a reading holds, each counted each time it is reached (what is shared counts as often as it is met; a slice's spare places count too). A statement '..UptoSaid' is the law's where the arguments, and the package variables that the reading takes, are together of bulk at most 1048576: NARROWER than '..Said'. Prove '..Said' where nothing that the law and all that it calls make is longer than what came in: it says more and counts as full. Else prove '..UptoSaid'. A law counts once. -/
mutual
def uptoBulk {H : Type} : DataW H → Nat
  | .lit (.string bytes) => bytes.length + 1
  | .lit _ => 1
  | .nil => 1
  | .ptr d => uptoBulk d + 1
  | .slice elems spare => uptoBulkAll elems + uptoBulkAll spare + 1
  | .agg parts => uptoBulkAll parts + 1
  | .iface _ d => uptoBulk d + 1
  | .map entries => uptoBulkEntries entries + 1
  | .held _ => 1
def uptoBulkAll {H : Type} : List (DataW H) → Nat
  | [] => 0
  | d :: r => uptoBulk d + uptoBulkAll r
def uptoBulkEntries {H : Type} : List (Lit × DataW H) → Nat
  | [] => 0
  | x :: r => uptoBulkEntry x + uptoBulkEntries r
def uptoBulkEntry {H : Type} : Lit × DataW H → Nat
  | (.string bytes, d) => bytes.length + uptoBulk d + 1
  | (_, d) => uptoBulk d + 1
 end
def uptoSmall : (H : Type) → List (DataW H) → Bool := fun _ ds => decide (uptoBulkAll ds ≤ 1048576)
def OpenSpec.upto (s : _root_.Go.ChangeSpec) : _root_.Go.OpenSpec := { _root_.Go.OpenSpec.ofChange s with cond := some uptoSmall }

/-- 'laws.FnSub', WHERE WHAT IT READS IS OF BULK AT MOST 1048576: true; the input reads as it did. -/
def fnSubUptoRow : OpenClaim := { program := "ytbpefnfeiidioaa", sum := "b3cd27862200faa665e85f72e255f391bebf3838611dfc5ab0442c5be113b614", func := "loop.example/g00257/laws.FnSub", spec := "fnSub", apart := false, narrowed := true }
def FnSubUptoSaid : Prop := fnSubUptoRow.holds Try.pinned (OpenSpec.upto fnSubSpec)

/-- 'laws.FnMix', WHERE WHAT IT READS IS OF BULK AT MOST 1048576: true; the input reads as it did. -/
def fnMixUptoRow : OpenClaim := { program := "ytbpefnfeiidioaa", sum := "b3cd27862200faa665e85f72e255f391bebf3838611dfc5ab0442c5be113b614", func := "loop.example/g00257/laws.FnMix", spec := "fnMix", unfollowed := true, recurses := true, apart := false, narrowed := true }
def FnMixUptoSaid : Prop := fnMixUptoRow.holds Try.pinned (OpenSpec.upto fnMixSpec)

/-- 'laws.FnExactMixColumn', WHERE WHAT IT READS IS OF BULK AT MOST 1048576: true; the input reads as it did. -/
def fnExactMixColumnUptoRow : OpenClaim := { program := "ytbpefnfeiidioaa", sum := "b3cd27862200faa665e85f72e255f391bebf3838611dfc5ab0442c5be113b614", func := "loop.example/g00257/laws.FnExactMixColumn", spec := "fnExactMixColumn", unfollowed := true, recurses := true, apart := false, narrowed := true }
def FnExactMixColumnUptoSaid : Prop := fnExactMixColumnUptoRow.holds Try.pinned (OpenSpec.upto fnExactMixColumnSpec)

/-- 'laws.FnExactPadBlocks', WHERE WHAT IT READS IS OF BULK AT MOST 1048576: true; the input reads as it did. -/
def fnExactPadBlocksUptoRow : OpenClaim := { program := "ytbpefnfeiidioaa", sum := "b3cd27862200faa665e85f72e255f391bebf3838611dfc5ab0442c5be113b614", func := "loop.example/g00257/laws.FnExactPadBlocks", spec := "fnExactPadBlocks", inPlace := ["internal/bytealg.MakeNoZero"], apart := false, narrowed := true }
def FnExactPadBlocksUptoSaid : Prop := fnExactPadBlocksUptoRow.holds Try.pinned (OpenSpec.upto fnExactPadBlocksSpec)

/-- 'laws.FnExactUnpadBlocks', WHERE WHAT IT READS IS OF BULK AT MOST 1048576: true; the input reads as it did. -/
def fnExactUnpadBlocksUptoRow : OpenClaim := { program := "ytbpefnfeiidioaa", sum := "b3cd27862200faa665e85f72e255f391bebf3838611dfc5ab0442c5be113b614", func := "loop.example/g00257/laws.FnExactUnpadBlocks", spec := "fnExactUnpadBlocks", inPlace := ["internal/bytealg.MakeNoZero"], unfollowed := true, recurses := true, apart := false, narrowed := true }
def FnExactUnpadBlocksUptoSaid : Prop := fnExactUnpadBlocksUptoRow.holds Try.pinned (OpenSpec.upto fnExactUnpadBlocksSpec)

/-- 'laws.FnPads', WHERE WHAT IT READS IS OF BULK AT MOST 1048576: true; the input reads as it did. -/
def fnPadsUptoRow : OpenClaim := { program := "ytbpefnfeiidioaa", sum := "b3cd27862200faa665e85f72e255f391bebf3838611dfc5ab0442c5be113b614", func := "loop.example/g00257/laws.FnPads", spec := "fnPads", inPlace := ["internal/bytealg.MakeNoZero"], unfollowed := true, recurses := true, apart := false, narrowed := true }
def FnPadsUptoSaid : Prop := fnPadsUptoRow.holds Try.pinned (OpenSpec.upto fnPadsSpec)

/-- 'laws.FnExactNewDisk', WHERE WHAT IT READS IS OF BULK AT MOST 1048576: true; the input reads as it did. -/
def fnExactNewDiskUptoRow : OpenClaim := { program := "ytbpefnfeiidioaa", sum := "b3cd27862200faa665e85f72e255f391bebf3838611dfc5ab0442c5be113b614", func := "loop.example/g00257/laws.FnExactNewDisk", spec := "fnExactNewDisk", apart := false, narrowed := true }
def FnExactNewDiskUptoSaid : Prop := fnExactNewDiskUptoRow.holds Try.pinned (OpenSpec.upto fnExactNewDiskSpec)

/-- 'laws.FnExactDiskOK', WHERE WHAT IT READS IS OF BULK AT MOST 1048576: true; the input reads as it did. -/
def fnExactDiskOKUptoRow : OpenClaim := { program := "ytbpefnfeiidioaa", sum := "b3cd27862200faa665e85f72e255f391bebf3838611dfc5ab0442c5be113b614", func := "loop.example/g00257/laws.FnExactDiskOK", spec := "fnExactDiskOK", unfollowed := true, recurses := true, apart := false, narrowed := true }
def FnExactDiskOKUptoSaid : Prop := fnExactDiskOKUptoRow.holds Try.pinned (OpenSpec.upto fnExactDiskOKSpec)

/-- 'laws.FnExactDiskRead', WHERE WHAT IT READS IS OF BULK AT MOST 1048576: true; the input reads as it did. -/
def fnExactDiskReadUptoRow : OpenClaim := { program := "ytbpefnfeiidioaa", sum := "b3cd27862200faa665e85f72e255f391bebf3838611dfc5ab0442c5be113b614", func := "loop.example/g00257/laws.FnExactDiskRead", spec := "fnExactDiskRead", unfollowed := true, recurses := true, apart := false, narrowed := true }
def FnExactDiskReadUptoSaid : Prop := fnExactDiskReadUptoRow.holds Try.pinned (OpenSpec.upto fnExactDiskReadSpec)

/-- 'laws.FnExactDiskSame', WHERE WHAT IT READS IS OF BULK AT MOST 1048576: true; the input reads as it did. -/
def fnExactDiskSameUptoRow : OpenClaim := { program := "ytbpefnfeiidioaa", sum := "b3cd27862200faa665e85f72e255f391bebf3838611dfc5ab0442c5be113b614", func := "loop.example/g00257/laws.FnExactDiskSame", spec := "fnExactDiskSame", unfollowed := true, recurses := true, apart := false, narrowed := true }
def FnExactDiskSameUptoSaid : Prop := fnExactDiskSameUptoRow.holds Try.pinned (OpenSpec.upto fnExactDiskSameSpec)

end Rows
end Go.Proofs.Ytbpefnfeiidioaa

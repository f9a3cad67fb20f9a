/-
  No cell of these rows narrows 'for every input' (looked for: loops, veiled, ifaces, maps, wideKeys, modest, calm, conditions, laid).
  DERIVED. THE GIVEN ROWS OF THIS SEAT. 11 by the template 'for every input the law returns true; each argument reads behind the call as it read before'; 0 by the template 'total and deterministic' (their statements: YtfbggdlidelliaaTotals.lean).
  GIVEN WITH THE SEED: the statements are not yours to turn. If you find one false, say at which input.
  Laid BY PROGRAM, IN A SANDBOX (cutbox-rows.mjs): the forced cells as the released guide's own fill.sh prints them over the translation 0750461fb7ea63ef… (all of the seat's roots in one cut). By AI agents, Wed Nov 11 2026. No macro, syntax, notation, axiom, sorry.
-/
import Derived.Test.YtfbggdlidelliaaChecked
import GoSem.Claim
import GoSem.ClaimJoined
import GoSem.ClaimMapViews
import Derived.JoinedTies
import Derived.KernelRfl
namespace Go.Proofs.Ytfbggdlidelliaa
/- THE CELL 'sum', in the pinned program and in every row, IS THE sha256 OF THE DUMP (.gsa) THAT YtfbggdlidelliaaProg.lean LOADS. Nothing in Lean hashes anything: it is a label: what it is worth is what the hold of that sum in a sandbox is worth. -/
noncomputable def Try.pinned : Pinned := { name := "ytfbggdlidelliaa", sum := "0750461fb7ea63efbaac24487accd21083265f6d435c4e28e810edac5b279c2a", checked := Try.checked }
namespace Rows
def none {H : Type} : Left H := { results := [], args := [] }

/-- 'laws.FnExactKeySchedule': WHATEVER THE INPUT: true; the input reads as it did. -/
def fnExactKeyScheduleSpec : ChangeSpec := { name := "fnExactKeySchedule", fn := fun _ => fun
  | [d] => { results := [.lit (.bool true)], args := [d] }
  | _ => none }
def fnExactKeyScheduleRow : OpenClaim := { program := "ytfbggdlidelliaa", sum := "0750461fb7ea63efbaac24487accd21083265f6d435c4e28e810edac5b279c2a", func := "loop.example/g00257/laws.FnExactKeySchedule", spec := "fnExactKeySchedule", unfollowed := true, recurses := true, apart := false }
def FnExactKeyScheduleSaid : Prop := fnExactKeyScheduleRow.holds Try.pinned (OpenSpec.ofChange fnExactKeyScheduleSpec)

/-- ITS FALSE NEIGHBOUR: 'it returns false'. Refute it at one input. -/
def fnExactKeyScheduleWrong : ChangeSpec := { name := "fnExactKeySchedule", fn := fun _ => fun
  | [d] => { results := [.lit (.bool false)], args := [d] }
  | _ => none }
def FnExactKeyScheduleWrongFalsely : Prop := fnExactKeyScheduleRow.holds Try.pinned (OpenSpec.ofChange fnExactKeyScheduleWrong)

/-- 'laws.FnKeys': WHATEVER THE INPUT: true; the input reads as it did. -/
def fnKeysSpec : ChangeSpec := { name := "fnKeys", fn := fun _ => fun
  | [d1, d2] => { results := [.lit (.bool true)], args := [d1, d2] }
  | _ => none }
def fnKeysRow : OpenClaim := { program := "ytfbggdlidelliaa", sum := "0750461fb7ea63efbaac24487accd21083265f6d435c4e28e810edac5b279c2a", func := "loop.example/g00257/laws.FnKeys", spec := "fnKeys", unfollowed := true, recurses := true, apart := false }
def FnKeysSaid : Prop := fnKeysRow.holds Try.pinned (OpenSpec.ofChange fnKeysSpec)

/-- ITS FALSE NEIGHBOUR: 'it returns false'. Refute it at one input. -/
def fnKeysWrong : ChangeSpec := { name := "fnKeys", fn := fun _ => fun
  | [d1, d2] => { results := [.lit (.bool false)], args := [d1, d2] }
  | _ => none }
def FnKeysWrongFalsely : Prop := fnKeysRow.holds Try.pinned (OpenSpec.ofChange fnKeysWrong)

/-- 'laws.FnExactEncryptBlock': WHATEVER THE INPUT: true; the input reads as it did. -/
def fnExactEncryptBlockSpec : ChangeSpec := { name := "fnExactEncryptBlock", fn := fun _ => fun
  | [d1, d2] => { results := [.lit (.bool true)], args := [d1, d2] }
  | _ => none }
def fnExactEncryptBlockRow : OpenClaim := { program := "ytfbggdlidelliaa", sum := "0750461fb7ea63efbaac24487accd21083265f6d435c4e28e810edac5b279c2a", func := "loop.example/g00257/laws.FnExactEncryptBlock", spec := "fnExactEncryptBlock", unfollowed := true, recurses := true, apart := false }
def FnExactEncryptBlockSaid : Prop := fnExactEncryptBlockRow.holds Try.pinned (OpenSpec.ofChange fnExactEncryptBlockSpec)

/-- ITS FALSE NEIGHBOUR: 'it returns false'. Refute it at one input. -/
def fnExactEncryptBlockWrong : ChangeSpec := { name := "fnExactEncryptBlock", fn := fun _ => fun
  | [d1, d2] => { results := [.lit (.bool false)], args := [d1, d2] }
  | _ => none }
def FnExactEncryptBlockWrongFalsely : Prop := fnExactEncryptBlockRow.holds Try.pinned (OpenSpec.ofChange fnExactEncryptBlockWrong)

/-- 'laws.FnExactDecryptBlock': WHATEVER THE INPUT: true; the input reads as it did. -/
def fnExactDecryptBlockSpec : ChangeSpec := { name := "fnExactDecryptBlock", fn := fun _ => fun
  | [d1, d2] => { results := [.lit (.bool true)], args := [d1, d2] }
  | _ => none }
def fnExactDecryptBlockRow : OpenClaim := { program := "ytfbggdlidelliaa", sum := "0750461fb7ea63efbaac24487accd21083265f6d435c4e28e810edac5b279c2a", func := "loop.example/g00257/laws.FnExactDecryptBlock", spec := "fnExactDecryptBlock", unfollowed := true, recurses := true, apart := false }
def FnExactDecryptBlockSaid : Prop := fnExactDecryptBlockRow.holds Try.pinned (OpenSpec.ofChange fnExactDecryptBlockSpec)

/-- ITS FALSE NEIGHBOUR: 'it returns false'. Refute it at one input. -/
def fnExactDecryptBlockWrong : ChangeSpec := { name := "fnExactDecryptBlock", fn := fun _ => fun
  | [d1, d2] => { results := [.lit (.bool false)], args := [d1, d2] }
  | _ => none }
def FnExactDecryptBlockWrongFalsely : Prop := fnExactDecryptBlockRow.holds Try.pinned (OpenSpec.ofChange fnExactDecryptBlockWrong)

/-- 'laws.FnAes': WHATEVER THE INPUT: true; the input reads as it did. -/
def fnAesSpec : ChangeSpec := { name := "fnAes", fn := fun _ => fun
  | [d1, d2] => { results := [.lit (.bool true)], args := [d1, d2] }
  | _ => none }
def fnAesRow : OpenClaim := { program := "ytfbggdlidelliaa", sum := "0750461fb7ea63efbaac24487accd21083265f6d435c4e28e810edac5b279c2a", func := "loop.example/g00257/laws.FnAes", spec := "fnAes", unfollowed := true, recurses := true, apart := false }
def FnAesSaid : Prop := fnAesRow.holds Try.pinned (OpenSpec.ofChange fnAesSpec)

/-- ITS FALSE NEIGHBOUR: 'it returns false'. Refute it at one input. -/
def fnAesWrong : ChangeSpec := { name := "fnAes", fn := fun _ => fun
  | [d1, d2] => { results := [.lit (.bool false)], args := [d1, d2] }
  | _ => none }
def FnAesWrongFalsely : Prop := fnAesRow.holds Try.pinned (OpenSpec.ofChange fnAesWrong)

/-- 'laws.FnExactCmac': WHATEVER THE INPUT: true; the input reads as it did. -/
def fnExactCmacSpec : ChangeSpec := { name := "fnExactCmac", fn := fun _ => fun
  | [d1, d2] => { results := [.lit (.bool true)], args := [d1, d2] }
  | _ => none }
def fnExactCmacRow : OpenClaim := { program := "ytfbggdlidelliaa", sum := "0750461fb7ea63efbaac24487accd21083265f6d435c4e28e810edac5b279c2a", func := "loop.example/g00257/laws.FnExactCmac", spec := "fnExactCmac", unfollowed := true, recurses := true, apart := false }
def FnExactCmacSaid : Prop := fnExactCmacRow.holds Try.pinned (OpenSpec.ofChange fnExactCmacSpec)

/-- ITS FALSE NEIGHBOUR: 'it returns false'. Refute it at one input. -/
def fnExactCmacWrong : ChangeSpec := { name := "fnExactCmac", fn := fun _ => fun
  | [d1, d2] => { results := [.lit (.bool false)], args := [d1, d2] }
  | _ => none }
def FnExactCmacWrongFalsely : Prop := fnExactCmacRow.holds Try.pinned (OpenSpec.ofChange fnExactCmacWrong)

/-- 'laws.FnCmac': WHATEVER THE INPUT: true; the input reads as it did. -/
def fnCmacSpec : ChangeSpec := { name := "fnCmac", fn := fun _ => fun
  | [d1, d2] => { results := [.lit (.bool true)], args := [d1, d2] }
  | _ => none }
def fnCmacRow : OpenClaim := { program := "ytfbggdlidelliaa", sum := "0750461fb7ea63efbaac24487accd21083265f6d435c4e28e810edac5b279c2a", func := "loop.example/g00257/laws.FnCmac", spec := "fnCmac", unfollowed := true, recurses := true, apart := false }
def FnCmacSaid : Prop := fnCmacRow.holds Try.pinned (OpenSpec.ofChange fnCmacSpec)

/-- ITS FALSE NEIGHBOUR: 'it returns false'. Refute it at one input. -/
def fnCmacWrong : ChangeSpec := { name := "fnCmac", fn := fun _ => fun
  | [d1, d2] => { results := [.lit (.bool false)], args := [d1, d2] }
  | _ => none }
def FnCmacWrongFalsely : Prop := fnCmacRow.holds Try.pinned (OpenSpec.ofChange fnCmacWrong)

/-- 'laws.FnExactCbcEncrypt': WHATEVER THE INPUT: true; the input reads as it did. -/
def fnExactCbcEncryptSpec : ChangeSpec := { name := "fnExactCbcEncrypt", fn := fun _ => fun
  | [d1, d2, d3] => { results := [.lit (.bool true)], args := [d1, d2, d3] }
  | _ => none }
def fnExactCbcEncryptRow : OpenClaim := { program := "ytfbggdlidelliaa", sum := "0750461fb7ea63efbaac24487accd21083265f6d435c4e28e810edac5b279c2a", func := "loop.example/g00257/laws.FnExactCbcEncrypt", spec := "fnExactCbcEncrypt", inPlace := ["internal/bytealg.MakeNoZero"], unfollowed := true, recurses := true, apart := false }
def FnExactCbcEncryptSaid : Prop := fnExactCbcEncryptRow.holds Try.pinned (OpenSpec.ofChange fnExactCbcEncryptSpec)

/-- ITS FALSE NEIGHBOUR: 'it returns false'. Refute it at one input. -/
def fnExactCbcEncryptWrong : ChangeSpec := { name := "fnExactCbcEncrypt", fn := fun _ => fun
  | [d1, d2, d3] => { results := [.lit (.bool false)], args := [d1, d2, d3] }
  | _ => none }
def FnExactCbcEncryptWrongFalsely : Prop := fnExactCbcEncryptRow.holds Try.pinned (OpenSpec.ofChange fnExactCbcEncryptWrong)

/-- 'laws.FnExactCbcDecrypt': WHATEVER THE INPUT: true; the input reads as it did. -/
def fnExactCbcDecryptSpec : ChangeSpec := { name := "fnExactCbcDecrypt", fn := fun _ => fun
  | [d1, d2, d3] => { results := [.lit (.bool true)], args := [d1, d2, d3] }
  | _ => none }
def fnExactCbcDecryptRow : OpenClaim := { program := "ytfbggdlidelliaa", sum := "0750461fb7ea63efbaac24487accd21083265f6d435c4e28e810edac5b279c2a", func := "loop.example/g00257/laws.FnExactCbcDecrypt", spec := "fnExactCbcDecrypt", inPlace := ["internal/bytealg.MakeNoZero"], unfollowed := true, recurses := true, apart := false }
def FnExactCbcDecryptSaid : Prop := fnExactCbcDecryptRow.holds Try.pinned (OpenSpec.ofChange fnExactCbcDecryptSpec)

/-- ITS FALSE NEIGHBOUR: 'it returns false'. Refute it at one input. -/
def fnExactCbcDecryptWrong : ChangeSpec := { name := "fnExactCbcDecrypt", fn := fun _ => fun
  | [d1, d2, d3] => { results := [.lit (.bool false)], args := [d1, d2, d3] }
  | _ => none }
def FnExactCbcDecryptWrongFalsely : Prop := fnExactCbcDecryptRow.holds Try.pinned (OpenSpec.ofChange fnExactCbcDecryptWrong)

/-- 'laws.FnModes': WHATEVER THE INPUT: true; the input reads as it did. -/
def fnModesSpec : ChangeSpec := { name := "fnModes", fn := fun _ => fun
  | [d1, d2] => { results := [.lit (.bool true)], args := [d1, d2] }
  | _ => none }
def fnModesRow : OpenClaim := { program := "ytfbggdlidelliaa", sum := "0750461fb7ea63efbaac24487accd21083265f6d435c4e28e810edac5b279c2a", func := "loop.example/g00257/laws.FnModes", spec := "fnModes", inPlace := ["internal/bytealg.MakeNoZero"], unfollowed := true, recurses := true, apart := false }
def FnModesSaid : Prop := fnModesRow.holds Try.pinned (OpenSpec.ofChange fnModesSpec)

/-- ITS FALSE NEIGHBOUR: 'it returns false'. Refute it at one input. -/
def fnModesWrong : ChangeSpec := { name := "fnModes", fn := fun _ => fun
  | [d1, d2] => { results := [.lit (.bool false)], args := [d1, d2] }
  | _ => none }
def FnModesWrongFalsely : Prop := fnModesRow.holds Try.pinned (OpenSpec.ofChange fnModesWrong)

/-- 'laws.FnExactCtrXor': WHATEVER THE INPUT: true; the input reads as it did. -/
def fnExactCtrXorSpec : ChangeSpec := { name := "fnExactCtrXor", fn := fun _ => fun
  | [d1, d2, d3] => { results := [.lit (.bool true)], args := [d1, d2, d3] }
  | _ => none }
def fnExactCtrXorRow : OpenClaim := { program := "ytfbggdlidelliaa", sum := "0750461fb7ea63efbaac24487accd21083265f6d435c4e28e810edac5b279c2a", func := "loop.example/g00257/laws.FnExactCtrXor", spec := "fnExactCtrXor", unfollowed := true, recurses := true, apart := false }
def FnExactCtrXorSaid : Prop := fnExactCtrXorRow.holds Try.pinned (OpenSpec.ofChange fnExactCtrXorSpec)

/-- ITS FALSE NEIGHBOUR: 'it returns false'. Refute it at one input. -/
def fnExactCtrXorWrong : ChangeSpec := { name := "fnExactCtrXor", fn := fun _ => fun
  | [d1, d2, d3] => { results := [.lit (.bool false)], args := [d1, d2, d3] }
  | _ => none }
def FnExactCtrXorWrongFalsely : Prop := fnExactCtrXorRow.holds Try.pinned (OpenSpec.ofChange fnExactCtrXorWrong)

/- THE SECOND FORM. 'bulk': how many values and letters a reading holds, each counted each time it is reached (what is shared counts as often as it is met; a slice's spare places count too). A statement '..UptoSaid' is the law's where the arguments, and the package variables that the reading takes, are together of bulk at most 1048576: NARROWER than '..Said'. Prove '..Said' where nothing that the law and all that it calls make is longer than what came in: it says more and counts as full. Else prove '..UptoSaid'. A law counts once. -/
mutual
def uptoBulk {H : Type} : DataW H → Nat
  | .lit (.string bytes) => bytes.length + 1
  | .lit _ => 1
  | .nil => 1
  | .ptr d => uptoBulk d + 1
  | .slice elems spare => uptoBulkAll elems + uptoBulkAll spare + 1
  | .agg parts => uptoBulkAll parts + 1
  | .iface _ d => uptoBulk d + 1
  | .map entries => uptoBulkEntries entries + 1
  | .held _ => 1
def uptoBulkAll {H : Type} : List (DataW H) → Nat
  | [] => 0
  | d :: r => uptoBulk d + uptoBulkAll r
def uptoBulkEntries {H : Type} : List (Lit × DataW H) → Nat
  | [] => 0
  | x :: r => uptoBulkEntry x + uptoBulkEntries r
def uptoBulkEntry {H : Type} : Lit × DataW H → Nat
  | (.string bytes, d) => bytes.length + uptoBulk d + 1
  | (_, d) => uptoBulk d + 1
 end
def uptoSmall : (H : Type) → List (DataW H) → Bool := fun _ ds => decide (uptoBulkAll ds ≤ 1048576)
def OpenSpec.upto (s : _root_.Go.ChangeSpec) : _root_.Go.OpenSpec := { _root_.Go.OpenSpec.ofChange s with cond := some uptoSmall }

/-- 'laws.FnExactKeySchedule', WHERE WHAT IT READS IS OF BULK AT MOST 1048576: true; the input reads as it did. -/
def fnExactKeyScheduleUptoRow : OpenClaim := { program := "ytfbggdlidelliaa", sum := "0750461fb7ea63efbaac24487accd21083265f6d435c4e28e810edac5b279c2a", func := "loop.example/g00257/laws.FnExactKeySchedule", spec := "fnExactKeySchedule", unfollowed := true, recurses := true, apart := false, narrowed := true }
def FnExactKeyScheduleUptoSaid : Prop := fnExactKeyScheduleUptoRow.holds Try.pinned (OpenSpec.upto fnExactKeyScheduleSpec)

/-- 'laws.FnKeys', WHERE WHAT IT READS IS OF BULK AT MOST 1048576: true; the input reads as it did. -/
def fnKeysUptoRow : OpenClaim := { program := "ytfbggdlidelliaa", sum := "0750461fb7ea63efbaac24487accd21083265f6d435c4e28e810edac5b279c2a", func := "loop.example/g00257/laws.FnKeys", spec := "fnKeys", unfollowed := true, recurses := true, apart := false, narrowed := true }
def FnKeysUptoSaid : Prop := fnKeysUptoRow.holds Try.pinned (OpenSpec.upto fnKeysSpec)

/-- 'laws.FnExactEncryptBlock', WHERE WHAT IT READS IS OF BULK AT MOST 1048576: true; the input reads as it did. -/
def fnExactEncryptBlockUptoRow : OpenClaim := { program := "ytfbggdlidelliaa", sum := "0750461fb7ea63efbaac24487accd21083265f6d435c4e28e810edac5b279c2a", func := "loop.example/g00257/laws.FnExactEncryptBlock", spec := "fnExactEncryptBlock", unfollowed := true, recurses := true, apart := false, narrowed := true }
def FnExactEncryptBlockUptoSaid : Prop := fnExactEncryptBlockUptoRow.holds Try.pinned (OpenSpec.upto fnExactEncryptBlockSpec)

/-- 'laws.FnExactDecryptBlock', WHERE WHAT IT READS IS OF BULK AT MOST 1048576: true; the input reads as it did. -/
def fnExactDecryptBlockUptoRow : OpenClaim := { program := "ytfbggdlidelliaa", sum := "0750461fb7ea63efbaac24487accd21083265f6d435c4e28e810edac5b279c2a", func := "loop.example/g00257/laws.FnExactDecryptBlock", spec := "fnExactDecryptBlock", unfollowed := true, recurses := true, apart := false, narrowed := true }
def FnExactDecryptBlockUptoSaid : Prop := fnExactDecryptBlockUptoRow.holds Try.pinned (OpenSpec.upto fnExactDecryptBlockSpec)

/-- 'laws.FnAes', WHERE WHAT IT READS IS OF BULK AT MOST 1048576: true; the input reads as it did. -/
def fnAesUptoRow : OpenClaim := { program := "ytfbggdlidelliaa", sum := "0750461fb7ea63efbaac24487accd21083265f6d435c4e28e810edac5b279c2a", func := "loop.example/g00257/laws.FnAes", spec := "fnAes", unfollowed := true, recurses := true, apart := false, narrowed := true }
def FnAesUptoSaid : Prop := fnAesUptoRow.holds Try.pinned (OpenSpec.upto fnAesSpec)

/-- 'laws.FnExactCmac', WHERE WHAT IT READS IS OF BULK AT MOST 1048576: true; the input reads as it did. -/
def fnExactCmacUptoRow : OpenClaim := { program := "ytfbggdlidelliaa", sum := "0750461fb7ea63efbaac24487accd21083265f6d435c4e28e810edac5b279c2a", func := "loop.example/g00257/laws.FnExactCmac", spec := "fnExactCmac", unfollowed := true, recurses := true, apart := false, narrowed := true }
def FnExactCmacUptoSaid : Prop := fnExactCmacUptoRow.holds Try.pinned (OpenSpec.upto fnExactCmacSpec)

/-- 'laws.FnCmac', WHERE WHAT IT READS IS OF BULK AT MOST 1048576: true; the input reads as it did. -/
def fnCmacUptoRow : OpenClaim := { program := "ytfbggdlidelliaa", sum := "0750461fb7ea63efbaac24487accd21083265f6d435c4e28e810edac5b279c2a", func := "loop.example/g00257/laws.FnCmac", spec := "fnCmac", unfollowed := true, recurses := true, apart := false, narrowed := true }
def FnCmacUptoSaid : Prop := fnCmacUptoRow.holds Try.pinned (OpenSpec.upto fnCmacSpec)

/-- 'laws.FnExactCbcEncrypt', WHERE WHAT IT READS IS OF BULK AT MOST 1048576: true; the input reads as it did. -/
def fnExactCbcEncryptUptoRow : OpenClaim := { program := "ytfbggdlidelliaa", sum := "0750461fb7ea63efbaac24487accd21083265f6d435c4e28e810edac5b279c2a", func := "loop.example/g00257/laws.FnExactCbcEncrypt", spec := "fnExactCbcEncrypt", inPlace := ["internal/bytealg.MakeNoZero"], unfollowed := true, recurses := true, apart := false, narrowed := true }
def FnExactCbcEncryptUptoSaid : Prop := fnExactCbcEncryptUptoRow.holds Try.pinned (OpenSpec.upto fnExactCbcEncryptSpec)

/-- 'laws.FnExactCbcDecrypt', WHERE WHAT IT READS IS OF BULK AT MOST 1048576: true; the input reads as it did. -/
def fnExactCbcDecryptUptoRow : OpenClaim := { program := "ytfbggdlidelliaa", sum := "0750461fb7ea63efbaac24487accd21083265f6d435c4e28e810edac5b279c2a", func := "loop.example/g00257/laws.FnExactCbcDecrypt", spec := "fnExactCbcDecrypt", inPlace := ["internal/bytealg.MakeNoZero"], unfollowed := true, recurses := true, apart := false, narrowed := true }
def FnExactCbcDecryptUptoSaid : Prop := fnExactCbcDecryptUptoRow.holds Try.pinned (OpenSpec.upto fnExactCbcDecryptSpec)

/-- 'laws.FnModes', WHERE WHAT IT READS IS OF BULK AT MOST 1048576: true; the input reads as it did. -/
def fnModesUptoRow : OpenClaim := { program := "ytfbggdlidelliaa", sum := "0750461fb7ea63efbaac24487accd21083265f6d435c4e28e810edac5b279c2a", func := "loop.example/g00257/laws.FnModes", spec := "fnModes", inPlace := ["internal/bytealg.MakeNoZero"], unfollowed := true, recurses := true, apart := false, narrowed := true }
def FnModesUptoSaid : Prop := fnModesUptoRow.holds Try.pinned (OpenSpec.upto fnModesSpec)

/-- 'laws.FnExactCtrXor', WHERE WHAT IT READS IS OF BULK AT MOST 1048576: true; the input reads as it did. -/
def fnExactCtrXorUptoRow : OpenClaim := { program := "ytfbggdlidelliaa", sum := "0750461fb7ea63efbaac24487accd21083265f6d435c4e28e810edac5b279c2a", func := "loop.example/g00257/laws.FnExactCtrXor", spec := "fnExactCtrXor", unfollowed := true, recurses := true, apart := false, narrowed := true }
def FnExactCtrXorUptoSaid : Prop := fnExactCtrXorUptoRow.holds Try.pinned (OpenSpec.upto fnExactCtrXorSpec)

end Rows
end Go.Proofs.Ytfbggdlidelliaa

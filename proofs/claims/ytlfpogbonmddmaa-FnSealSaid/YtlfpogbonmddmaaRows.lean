/-
  No cell of these rows narrows 'for every input' (looked for: loops, veiled, ifaces, maps, wideKeys, modest, calm, conditions, laid).
  DERIVED. THE GIVEN ROWS OF THIS SEAT. 11 by the template 'for every input the law returns true; each argument reads behind the call as it read before'; 0 by the template 'total and deterministic' (their statements: YtlfpogbonmddmaaTotals.lean).
  GIVEN WITH THE SEED: the statements are not yours to turn. If you find one false, say at which input.
  Laid BY PROGRAM, IN A SANDBOX (cutbox-rows.mjs): the forced cells as the released guide's own fill.sh prints them over the translation 39238aebafbc1808… (all of the seat's roots in one cut). By AI agents, Wed Nov 11 2026. No macro, syntax, notation, axiom, sorry.
-/
import Derived.Test.YtlfpogbonmddmaaChecked
import GoSem.Claim
import GoSem.ClaimJoined
import GoSem.ClaimMapViews
import Derived.JoinedTies
import Derived.KernelRfl
namespace Go.Proofs.Ytlfpogbonmddmaa
/- THE CELL 'sum', in the pinned program and in every row, IS THE sha256 OF THE DUMP (.gsa) THAT YtlfpogbonmddmaaProg.lean LOADS. Nothing in Lean hashes anything: it is a label: what it is worth is what the hold of that sum in a sandbox is worth. -/
noncomputable def Try.pinned : Pinned := { name := "ytlfpogbonmddmaa", sum := "39238aebafbc18089a219989f8d8326199655657aaa450e6a2f546284829a34e", checked := Try.checked }
namespace Rows
def none {H : Type} : Left H := { results := [], args := [] }

/-- 'laws.FnExactSealBytes': WHATEVER THE INPUT: true; the input reads as it did. -/
def fnExactSealBytesSpec : ChangeSpec := { name := "fnExactSealBytes", fn := fun _ => fun
  | [d1, d2, d3, d4] => { results := [.lit (.bool true)], args := [d1, d2, d3, d4] }
  | _ => none }
def fnExactSealBytesRow : OpenClaim := { program := "ytlfpogbonmddmaa", sum := "39238aebafbc18089a219989f8d8326199655657aaa450e6a2f546284829a34e", func := "loop.example/g00257/laws.FnExactSealBytes", spec := "fnExactSealBytes", unfollowed := true, recurses := true, apart := false }
def FnExactSealBytesSaid : Prop := fnExactSealBytesRow.holds Try.pinned (OpenSpec.ofChange fnExactSealBytesSpec)

/-- ITS FALSE NEIGHBOUR: 'it returns false'. Refute it at one input. -/
def fnExactSealBytesWrong : ChangeSpec := { name := "fnExactSealBytes", fn := fun _ => fun
  | [d1, d2, d3, d4] => { results := [.lit (.bool false)], args := [d1, d2, d3, d4] }
  | _ => none }
def FnExactSealBytesWrongFalsely : Prop := fnExactSealBytesRow.holds Try.pinned (OpenSpec.ofChange fnExactSealBytesWrong)

/-- 'laws.FnExactOpenBytes': WHATEVER THE INPUT: true; the input reads as it did. -/
def fnExactOpenBytesSpec : ChangeSpec := { name := "fnExactOpenBytes", fn := fun _ => fun
  | [d1, d2, d3, d4] => { results := [.lit (.bool true)], args := [d1, d2, d3, d4] }
  | _ => none }
def fnExactOpenBytesRow : OpenClaim := { program := "ytlfpogbonmddmaa", sum := "39238aebafbc18089a219989f8d8326199655657aaa450e6a2f546284829a34e", func := "loop.example/g00257/laws.FnExactOpenBytes", spec := "fnExactOpenBytes", unfollowed := true, recurses := true, apart := false }
def FnExactOpenBytesSaid : Prop := fnExactOpenBytesRow.holds Try.pinned (OpenSpec.ofChange fnExactOpenBytesSpec)

/-- ITS FALSE NEIGHBOUR: 'it returns false'. Refute it at one input. -/
def fnExactOpenBytesWrong : ChangeSpec := { name := "fnExactOpenBytes", fn := fun _ => fun
  | [d1, d2, d3, d4] => { results := [.lit (.bool false)], args := [d1, d2, d3, d4] }
  | _ => none }
def FnExactOpenBytesWrongFalsely : Prop := fnExactOpenBytesRow.holds Try.pinned (OpenSpec.ofChange fnExactOpenBytesWrong)

/-- 'laws.FnSeal': WHATEVER THE INPUT: true; the input reads as it did. -/
def fnSealSpec : ChangeSpec := { name := "fnSeal", fn := fun _ => fun
  | [d1, d2] => { results := [.lit (.bool true)], args := [d1, d2] }
  | _ => none }
def fnSealRow : OpenClaim := { program := "ytlfpogbonmddmaa", sum := "39238aebafbc18089a219989f8d8326199655657aaa450e6a2f546284829a34e", func := "loop.example/g00257/laws.FnSeal", spec := "fnSeal", unfollowed := true, recurses := true, apart := false }
def FnSealSaid : Prop := fnSealRow.holds Try.pinned (OpenSpec.ofChange fnSealSpec)

/-- ITS FALSE NEIGHBOUR: 'it returns false'. Refute it at one input. -/
def fnSealWrong : ChangeSpec := { name := "fnSeal", fn := fun _ => fun
  | [d1, d2] => { results := [.lit (.bool false)], args := [d1, d2] }
  | _ => none }
def FnSealWrongFalsely : Prop := fnSealRow.holds Try.pinned (OpenSpec.ofChange fnSealWrong)

/-- 'laws.FnExactSlotBytes': WHATEVER THE INPUT: true; the input reads as it did. -/
def fnExactSlotBytesSpec : ChangeSpec := { name := "fnExactSlotBytes", fn := fun _ => fun
  | [d1, d2, d3] => { results := [.lit (.bool true)], args := [d1, d2, d3] }
  | _ => none }
def fnExactSlotBytesRow : OpenClaim := { program := "ytlfpogbonmddmaa", sum := "39238aebafbc18089a219989f8d8326199655657aaa450e6a2f546284829a34e", func := "loop.example/g00257/laws.FnExactSlotBytes", spec := "fnExactSlotBytes", unfollowed := true, recurses := true, apart := false }
def FnExactSlotBytesSaid : Prop := fnExactSlotBytesRow.holds Try.pinned (OpenSpec.ofChange fnExactSlotBytesSpec)

/-- ITS FALSE NEIGHBOUR: 'it returns false'. Refute it at one input. -/
def fnExactSlotBytesWrong : ChangeSpec := { name := "fnExactSlotBytes", fn := fun _ => fun
  | [d1, d2, d3] => { results := [.lit (.bool false)], args := [d1, d2, d3] }
  | _ => none }
def FnExactSlotBytesWrongFalsely : Prop := fnExactSlotBytesRow.holds Try.pinned (OpenSpec.ofChange fnExactSlotBytesWrong)

/-- 'laws.FnExactHash': WHATEVER THE INPUT: true; the input reads as it did. -/
def fnExactHashSpec : ChangeSpec := { name := "fnExactHash", fn := fun _ => fun
  | [d] => { results := [.lit (.bool true)], args := [d] }
  | _ => none }
def fnExactHashRow : OpenClaim := { program := "ytlfpogbonmddmaa", sum := "39238aebafbc18089a219989f8d8326199655657aaa450e6a2f546284829a34e", func := "loop.example/g00257/laws.FnExactHash", spec := "fnExactHash", unfollowed := true, recurses := true, apart := false }
def FnExactHashSaid : Prop := fnExactHashRow.holds Try.pinned (OpenSpec.ofChange fnExactHashSpec)

/-- ITS FALSE NEIGHBOUR: 'it returns false'. Refute it at one input. -/
def fnExactHashWrong : ChangeSpec := { name := "fnExactHash", fn := fun _ => fun
  | [d] => { results := [.lit (.bool false)], args := [d] }
  | _ => none }
def FnExactHashWrongFalsely : Prop := fnExactHashRow.holds Try.pinned (OpenSpec.ofChange fnExactHashWrong)

/-- 'laws.FnExactHmac': WHATEVER THE INPUT: true; the input reads as it did. -/
def fnExactHmacSpec : ChangeSpec := { name := "fnExactHmac", fn := fun _ => fun
  | [d1, d2] => { results := [.lit (.bool true)], args := [d1, d2] }
  | _ => none }
def fnExactHmacRow : OpenClaim := { program := "ytlfpogbonmddmaa", sum := "39238aebafbc18089a219989f8d8326199655657aaa450e6a2f546284829a34e", func := "loop.example/g00257/laws.FnExactHmac", spec := "fnExactHmac", unfollowed := true, recurses := true, apart := false }
def FnExactHmacSaid : Prop := fnExactHmacRow.holds Try.pinned (OpenSpec.ofChange fnExactHmacSpec)

/-- ITS FALSE NEIGHBOUR: 'it returns false'. Refute it at one input. -/
def fnExactHmacWrong : ChangeSpec := { name := "fnExactHmac", fn := fun _ => fun
  | [d1, d2] => { results := [.lit (.bool false)], args := [d1, d2] }
  | _ => none }
def FnExactHmacWrongFalsely : Prop := fnExactHmacRow.holds Try.pinned (OpenSpec.ofChange fnExactHmacWrong)

/-- 'laws.FnExactHkdfExtract': WHATEVER THE INPUT: true; the input reads as it did. -/
def fnExactHkdfExtractSpec : ChangeSpec := { name := "fnExactHkdfExtract", fn := fun _ => fun
  | [d1, d2] => { results := [.lit (.bool true)], args := [d1, d2] }
  | _ => none }
def fnExactHkdfExtractRow : OpenClaim := { program := "ytlfpogbonmddmaa", sum := "39238aebafbc18089a219989f8d8326199655657aaa450e6a2f546284829a34e", func := "loop.example/g00257/laws.FnExactHkdfExtract", spec := "fnExactHkdfExtract", unfollowed := true, recurses := true, apart := false }
def FnExactHkdfExtractSaid : Prop := fnExactHkdfExtractRow.holds Try.pinned (OpenSpec.ofChange fnExactHkdfExtractSpec)

/-- ITS FALSE NEIGHBOUR: 'it returns false'. Refute it at one input. -/
def fnExactHkdfExtractWrong : ChangeSpec := { name := "fnExactHkdfExtract", fn := fun _ => fun
  | [d1, d2] => { results := [.lit (.bool false)], args := [d1, d2] }
  | _ => none }
def FnExactHkdfExtractWrongFalsely : Prop := fnExactHkdfExtractRow.holds Try.pinned (OpenSpec.ofChange fnExactHkdfExtractWrong)

/-- 'laws.FnExactSealKeys': WHATEVER THE INPUT: true; the input reads as it did. -/
def fnExactSealKeysSpec : ChangeSpec := { name := "fnExactSealKeys", fn := fun _ => fun
  | [d] => { results := [.lit (.bool true)], args := [d] }
  | _ => none }
def fnExactSealKeysRow : OpenClaim := { program := "ytlfpogbonmddmaa", sum := "39238aebafbc18089a219989f8d8326199655657aaa450e6a2f546284829a34e", func := "loop.example/g00257/laws.FnExactSealKeys", spec := "fnExactSealKeys", unfollowed := true, recurses := true, apart := false }
def FnExactSealKeysSaid : Prop := fnExactSealKeysRow.holds Try.pinned (OpenSpec.ofChange fnExactSealKeysSpec)

/-- ITS FALSE NEIGHBOUR: 'it returns false'. Refute it at one input. -/
def fnExactSealKeysWrong : ChangeSpec := { name := "fnExactSealKeys", fn := fun _ => fun
  | [d] => { results := [.lit (.bool false)], args := [d] }
  | _ => none }
def FnExactSealKeysWrongFalsely : Prop := fnExactSealKeysRow.holds Try.pinned (OpenSpec.ofChange fnExactSealKeysWrong)

/-- 'laws.FnExactHkdf': WHATEVER THE INPUT: true; the input reads as it did. -/
def fnExactHkdfSpec : ChangeSpec := { name := "fnExactHkdf", fn := fun _ => fun
  | [d1, d2, d3, d4] => { results := [.lit (.bool true)], args := [d1, d2, d3, d4] }
  | _ => none }
def fnExactHkdfRow : OpenClaim := { program := "ytlfpogbonmddmaa", sum := "39238aebafbc18089a219989f8d8326199655657aaa450e6a2f546284829a34e", func := "loop.example/g00257/laws.FnExactHkdf", spec := "fnExactHkdf", unfollowed := true, recurses := true, apart := false }
def FnExactHkdfSaid : Prop := fnExactHkdfRow.holds Try.pinned (OpenSpec.ofChange fnExactHkdfSpec)

/-- ITS FALSE NEIGHBOUR: 'it returns false'. Refute it at one input. -/
def fnExactHkdfWrong : ChangeSpec := { name := "fnExactHkdf", fn := fun _ => fun
  | [d1, d2, d3, d4] => { results := [.lit (.bool false)], args := [d1, d2, d3, d4] }
  | _ => none }
def FnExactHkdfWrongFalsely : Prop := fnExactHkdfRow.holds Try.pinned (OpenSpec.ofChange fnExactHkdfWrong)

/-- 'laws.FnExactHkdfExpand': WHATEVER THE INPUT: true; the input reads as it did. -/
def fnExactHkdfExpandSpec : ChangeSpec := { name := "fnExactHkdfExpand", fn := fun _ => fun
  | [d1, d2, d3] => { results := [.lit (.bool true)], args := [d1, d2, d3] }
  | _ => none }
def fnExactHkdfExpandRow : OpenClaim := { program := "ytlfpogbonmddmaa", sum := "39238aebafbc18089a219989f8d8326199655657aaa450e6a2f546284829a34e", func := "loop.example/g00257/laws.FnExactHkdfExpand", spec := "fnExactHkdfExpand", unfollowed := true, recurses := true, apart := false }
def FnExactHkdfExpandSaid : Prop := fnExactHkdfExpandRow.holds Try.pinned (OpenSpec.ofChange fnExactHkdfExpandSpec)

/-- ITS FALSE NEIGHBOUR: 'it returns false'. Refute it at one input. -/
def fnExactHkdfExpandWrong : ChangeSpec := { name := "fnExactHkdfExpand", fn := fun _ => fun
  | [d1, d2, d3] => { results := [.lit (.bool false)], args := [d1, d2, d3] }
  | _ => none }
def FnExactHkdfExpandWrongFalsely : Prop := fnExactHkdfExpandRow.holds Try.pinned (OpenSpec.ofChange fnExactHkdfExpandWrong)

/-- 'laws.FnHkdf': WHATEVER THE INPUT: true; the input reads as it did. -/
def fnHkdfSpec : ChangeSpec := { name := "fnHkdf", fn := fun _ => fun
  | [d1, d2] => { results := [.lit (.bool true)], args := [d1, d2] }
  | _ => none }
def fnHkdfRow : OpenClaim := { program := "ytlfpogbonmddmaa", sum := "39238aebafbc18089a219989f8d8326199655657aaa450e6a2f546284829a34e", func := "loop.example/g00257/laws.FnHkdf", spec := "fnHkdf", unfollowed := true, recurses := true, apart := false }
def FnHkdfSaid : Prop := fnHkdfRow.holds Try.pinned (OpenSpec.ofChange fnHkdfSpec)

/-- ITS FALSE NEIGHBOUR: 'it returns false'. Refute it at one input. -/
def fnHkdfWrong : ChangeSpec := { name := "fnHkdf", fn := fun _ => fun
  | [d1, d2] => { results := [.lit (.bool false)], args := [d1, d2] }
  | _ => none }
def FnHkdfWrongFalsely : Prop := fnHkdfRow.holds Try.pinned (OpenSpec.ofChange fnHkdfWrong)

/- THE SECOND FORM. 'bulk': how many values and letters a reading holds, each counted each time it is reached (what is shared counts as often as it is met; a slice's spare places count too). A statement '..UptoSaid' is the law's where the arguments, and the package variables that the reading takes, are together of bulk at most 1048576: NARROWER than '..Said'. Prove '..Said' where nothing that the law and all that it calls make is longer than what came in: it says more and counts as full. Else prove '..UptoSaid'. A law counts once. -/
mutual
def uptoBulk {H : Type} : DataW H → Nat
  | .lit (.string bytes) => bytes.length + 1
  | .lit _ => 1
  | .nil => 1
  | .ptr d => uptoBulk d + 1
  | .slice elems spare => uptoBulkAll elems + uptoBulkAll spare + 1
  | .agg parts => uptoBulkAll parts + 1
  | .iface _ d => uptoBulk d + 1
  | .map entries => uptoBulkEntries entries + 1
  | .held _ => 1
def uptoBulkAll {H : Type} : List (DataW H) → Nat
  | [] => 0
  | d :: r => uptoBulk d + uptoBulkAll r
def uptoBulkEntries {H : Type} : List (Lit × DataW H) → Nat
  | [] => 0
  | x :: r => uptoBulkEntry x + uptoBulkEntries r
def uptoBulkEntry {H : Type} : Lit × DataW H → Nat
  | (.string bytes, d) => bytes.length + uptoBulk d + 1
  | (_, d) => uptoBulk d + 1
 end
def uptoSmall : (H : Type) → List (DataW H) → Bool := fun _ ds => decide (uptoBulkAll ds ≤ 1048576)
def OpenSpec.upto (s : _root_.Go.ChangeSpec) : _root_.Go.OpenSpec := { _root_.Go.OpenSpec.ofChange s with cond := some uptoSmall }

/-- 'laws.FnExactSealBytes', WHERE WHAT IT READS IS OF BULK AT MOST 1048576: true; the input reads as it did. -/
def fnExactSealBytesUptoRow : OpenClaim := { program := "ytlfpogbonmddmaa", sum := "39238aebafbc18089a219989f8d8326199655657aaa450e6a2f546284829a34e", func := "loop.example/g00257/laws.FnExactSealBytes", spec := "fnExactSealBytes", unfollowed := true, recurses := true, apart := false, narrowed := true }
def FnExactSealBytesUptoSaid : Prop := fnExactSealBytesUptoRow.holds Try.pinned (OpenSpec.upto fnExactSealBytesSpec)

/-- 'laws.FnExactOpenBytes', WHERE WHAT IT READS IS OF BULK AT MOST 1048576: true; the input reads as it did. -/
def fnExactOpenBytesUptoRow : OpenClaim := { program := "ytlfpogbonmddmaa", sum := "39238aebafbc18089a219989f8d8326199655657aaa450e6a2f546284829a34e", func := "loop.example/g00257/laws.FnExactOpenBytes", spec := "fnExactOpenBytes", unfollowed := true, recurses := true, apart := false, narrowed := true }
def FnExactOpenBytesUptoSaid : Prop := fnExactOpenBytesUptoRow.holds Try.pinned (OpenSpec.upto fnExactOpenBytesSpec)

/-- 'laws.FnSeal', WHERE WHAT IT READS IS OF BULK AT MOST 1048576: true; the input reads as it did. -/
def fnSealUptoRow : OpenClaim := { program := "ytlfpogbonmddmaa", sum := "39238aebafbc18089a219989f8d8326199655657aaa450e6a2f546284829a34e", func := "loop.example/g00257/laws.FnSeal", spec := "fnSeal", unfollowed := true, recurses := true, apart := false, narrowed := true }
def FnSealUptoSaid : Prop := fnSealUptoRow.holds Try.pinned (OpenSpec.upto fnSealSpec)

/-- 'laws.FnExactSlotBytes', WHERE WHAT IT READS IS OF BULK AT MOST 1048576: true; the input reads as it did. -/
def fnExactSlotBytesUptoRow : OpenClaim := { program := "ytlfpogbonmddmaa", sum := "39238aebafbc18089a219989f8d8326199655657aaa450e6a2f546284829a34e", func := "loop.example/g00257/laws.FnExactSlotBytes", spec := "fnExactSlotBytes", unfollowed := true, recurses := true, apart := false, narrowed := true }
def FnExactSlotBytesUptoSaid : Prop := fnExactSlotBytesUptoRow.holds Try.pinned (OpenSpec.upto fnExactSlotBytesSpec)

/-- 'laws.FnExactHash', WHERE WHAT IT READS IS OF BULK AT MOST 1048576: true; the input reads as it did. -/
def fnExactHashUptoRow : OpenClaim := { program := "ytlfpogbonmddmaa", sum := "39238aebafbc18089a219989f8d8326199655657aaa450e6a2f546284829a34e", func := "loop.example/g00257/laws.FnExactHash", spec := "fnExactHash", unfollowed := true, recurses := true, apart := false, narrowed := true }
def FnExactHashUptoSaid : Prop := fnExactHashUptoRow.holds Try.pinned (OpenSpec.upto fnExactHashSpec)

/-- 'laws.FnExactHmac', WHERE WHAT IT READS IS OF BULK AT MOST 1048576: true; the input reads as it did. -/
def fnExactHmacUptoRow : OpenClaim := { program := "ytlfpogbonmddmaa", sum := "39238aebafbc18089a219989f8d8326199655657aaa450e6a2f546284829a34e", func := "loop.example/g00257/laws.FnExactHmac", spec := "fnExactHmac", unfollowed := true, recurses := true, apart := false, narrowed := true }
def FnExactHmacUptoSaid : Prop := fnExactHmacUptoRow.holds Try.pinned (OpenSpec.upto fnExactHmacSpec)

/-- 'laws.FnExactHkdfExtract', WHERE WHAT IT READS IS OF BULK AT MOST 1048576: true; the input reads as it did. -/
def fnExactHkdfExtractUptoRow : OpenClaim := { program := "ytlfpogbonmddmaa", sum := "39238aebafbc18089a219989f8d8326199655657aaa450e6a2f546284829a34e", func := "loop.example/g00257/laws.FnExactHkdfExtract", spec := "fnExactHkdfExtract", unfollowed := true, recurses := true, apart := false, narrowed := true }
def FnExactHkdfExtractUptoSaid : Prop := fnExactHkdfExtractUptoRow.holds Try.pinned (OpenSpec.upto fnExactHkdfExtractSpec)

/-- 'laws.FnExactSealKeys', WHERE WHAT IT READS IS OF BULK AT MOST 1048576: true; the input reads as it did. -/
def fnExactSealKeysUptoRow : OpenClaim := { program := "ytlfpogbonmddmaa", sum := "39238aebafbc18089a219989f8d8326199655657aaa450e6a2f546284829a34e", func := "loop.example/g00257/laws.FnExactSealKeys", spec := "fnExactSealKeys", unfollowed := true, recurses := true, apart := false, narrowed := true }
def FnExactSealKeysUptoSaid : Prop := fnExactSealKeysUptoRow.holds Try.pinned (OpenSpec.upto fnExactSealKeysSpec)

/-- 'laws.FnExactHkdf', WHERE WHAT IT READS IS OF BULK AT MOST 1048576: true; the input reads as it did. -/
def fnExactHkdfUptoRow : OpenClaim := { program := "ytlfpogbonmddmaa", sum := "39238aebafbc18089a219989f8d8326199655657aaa450e6a2f546284829a34e", func := "loop.example/g00257/laws.FnExactHkdf", spec := "fnExactHkdf", unfollowed := true, recurses := true, apart := false, narrowed := true }
def FnExactHkdfUptoSaid : Prop := fnExactHkdfUptoRow.holds Try.pinned (OpenSpec.upto fnExactHkdfSpec)

/-- 'laws.FnExactHkdfExpand', WHERE WHAT IT READS IS OF BULK AT MOST 1048576: true; the input reads as it did. -/
def fnExactHkdfExpandUptoRow : OpenClaim := { program := "ytlfpogbonmddmaa", sum := "39238aebafbc18089a219989f8d8326199655657aaa450e6a2f546284829a34e", func := "loop.example/g00257/laws.FnExactHkdfExpand", spec := "fnExactHkdfExpand", unfollowed := true, recurses := true, apart := false, narrowed := true }
def FnExactHkdfExpandUptoSaid : Prop := fnExactHkdfExpandUptoRow.holds Try.pinned (OpenSpec.upto fnExactHkdfExpandSpec)

/-- 'laws.FnHkdf', WHERE WHAT IT READS IS OF BULK AT MOST 1048576: true; the input reads as it did. -/
def fnHkdfUptoRow : OpenClaim := { program := "ytlfpogbonmddmaa", sum := "39238aebafbc18089a219989f8d8326199655657aaa450e6a2f546284829a34e", func := "loop.example/g00257/laws.FnHkdf", spec := "fnHkdf", unfollowed := true, recurses := true, apart := false, narrowed := true }
def FnHkdfUptoSaid : Prop := fnHkdfUptoRow.holds Try.pinned (OpenSpec.upto fnHkdfSpec)

end Rows
end Go.Proofs.Ytlfpogbonmddmaa

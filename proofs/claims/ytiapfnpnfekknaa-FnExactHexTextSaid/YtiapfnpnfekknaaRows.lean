/-
  No cell of these rows narrows 'for every input' (looked for: loops, veiled, ifaces, maps, wideKeys, modest, calm, conditions, laid).
  DERIVED. THE GIVEN ROWS OF THIS SEAT. 12 by the template 'for every input the law returns true; each argument reads behind the call as it read before'; 0 by the template 'total and deterministic' (their statements: YtiapfnpnfekknaaTotals.lean).
  GIVEN WITH THE SEED: the statements are not yours to turn. If you find one false, say at which input.
  Laid BY PROGRAM, IN A SANDBOX (cutbox-rows.mjs): the forced cells as the released guide's own fill.sh prints them over the translation b526aedc391cbb29… (all of the seat's roots in one cut). By AI agents, Wed Nov 11 2026. No macro, syntax, notation, axiom, sorry.
-/
import Derived.Test.YtiapfnpnfekknaaChecked
import GoSem.Claim
import GoSem.ClaimJoined
import GoSem.ClaimMapViews
import Derived.JoinedTies
import Derived.KernelRfl
namespace Go.Proofs.Ytiapfnpnfekknaa
/- THE CELL 'sum', in the pinned program and in every row, IS THE sha256 OF THE DUMP (.gsa) THAT YtiapfnpnfekknaaProg.lean LOADS. Nothing in Lean hashes anything: it is a label: what it is worth is what the hold of that sum in a sandbox is worth. -/
noncomputable def Try.pinned : Pinned := { name := "ytiapfnpnfekknaa", sum := "b526aedc391cbb29274db54ac24e9cbf885f68b7f2300e816ea2505fcdd8bf8d", checked := Try.checked }
namespace Rows
def none {H : Type} : Left H := { results := [], args := [] }

/-- 'laws.FnExactConstants': WHATEVER THE INPUT: true; the input reads as it did. -/
def fnExactConstantsSpec : ChangeSpec := { name := "fnExactConstants", fn := fun _ => fun
  | [] => { results := [.lit (.bool true)], args := [] }
  | _ => none }
def fnExactConstantsRow : OpenClaim := { program := "ytiapfnpnfekknaa", sum := "b526aedc391cbb29274db54ac24e9cbf885f68b7f2300e816ea2505fcdd8bf8d", func := "loop.example/g00257/laws.FnExactConstants", spec := "fnExactConstants", apart := false }
def FnExactConstantsSaid : Prop := fnExactConstantsRow.holds Try.pinned (OpenSpec.ofChange fnExactConstantsSpec)

/-- ITS FALSE NEIGHBOUR: 'it returns false'. Refute it at one input. -/
def fnExactConstantsWrong : ChangeSpec := { name := "fnExactConstants", fn := fun _ => fun
  | [] => { results := [.lit (.bool false)], args := [] }
  | _ => none }
def FnExactConstantsWrongFalsely : Prop := fnExactConstantsRow.holds Try.pinned (OpenSpec.ofChange fnExactConstantsWrong)

/-- 'laws.FnExactSlotOK': WHATEVER THE INPUT: true; the input reads as it did. -/
def fnExactSlotOKSpec : ChangeSpec := { name := "fnExactSlotOK", fn := fun _ => fun
  | [d] => { results := [.lit (.bool true)], args := [d] }
  | _ => none }
def fnExactSlotOKRow : OpenClaim := { program := "ytiapfnpnfekknaa", sum := "b526aedc391cbb29274db54ac24e9cbf885f68b7f2300e816ea2505fcdd8bf8d", func := "loop.example/g00257/laws.FnExactSlotOK", spec := "fnExactSlotOK", apart := false }
def FnExactSlotOKSaid : Prop := fnExactSlotOKRow.holds Try.pinned (OpenSpec.ofChange fnExactSlotOKSpec)

/-- ITS FALSE NEIGHBOUR: 'it returns false'. Refute it at one input. -/
def fnExactSlotOKWrong : ChangeSpec := { name := "fnExactSlotOK", fn := fun _ => fun
  | [d] => { results := [.lit (.bool false)], args := [d] }
  | _ => none }
def FnExactSlotOKWrongFalsely : Prop := fnExactSlotOKRow.holds Try.pinned (OpenSpec.ofChange fnExactSlotOKWrong)

/-- 'laws.FnExactNameOK': WHATEVER THE INPUT: true; the input reads as it did. -/
def fnExactNameOKSpec : ChangeSpec := { name := "fnExactNameOK", fn := fun _ => fun
  | [d] => { results := [.lit (.bool true)], args := [d] }
  | _ => none }
def fnExactNameOKRow : OpenClaim := { program := "ytiapfnpnfekknaa", sum := "b526aedc391cbb29274db54ac24e9cbf885f68b7f2300e816ea2505fcdd8bf8d", func := "loop.example/g00257/laws.FnExactNameOK", spec := "fnExactNameOK", apart := false }
def FnExactNameOKSaid : Prop := fnExactNameOKRow.holds Try.pinned (OpenSpec.ofChange fnExactNameOKSpec)

/-- ITS FALSE NEIGHBOUR: 'it returns false'. Refute it at one input. -/
def fnExactNameOKWrong : ChangeSpec := { name := "fnExactNameOK", fn := fun _ => fun
  | [d] => { results := [.lit (.bool false)], args := [d] }
  | _ => none }
def FnExactNameOKWrongFalsely : Prop := fnExactNameOKRow.holds Try.pinned (OpenSpec.ofChange fnExactNameOKWrong)

/-- 'laws.FnExactSealNonce': WHATEVER THE INPUT: true; the input reads as it did. -/
def fnExactSealNonceSpec : ChangeSpec := { name := "fnExactSealNonce", fn := fun _ => fun
  | [d1, d2] => { results := [.lit (.bool true)], args := [d1, d2] }
  | _ => none }
def fnExactSealNonceRow : OpenClaim := { program := "ytiapfnpnfekknaa", sum := "b526aedc391cbb29274db54ac24e9cbf885f68b7f2300e816ea2505fcdd8bf8d", func := "loop.example/g00257/laws.FnExactSealNonce", spec := "fnExactSealNonce", apart := false }
def FnExactSealNonceSaid : Prop := fnExactSealNonceRow.holds Try.pinned (OpenSpec.ofChange fnExactSealNonceSpec)

/-- ITS FALSE NEIGHBOUR: 'it returns false'. Refute it at one input. -/
def fnExactSealNonceWrong : ChangeSpec := { name := "fnExactSealNonce", fn := fun _ => fun
  | [d1, d2] => { results := [.lit (.bool false)], args := [d1, d2] }
  | _ => none }
def FnExactSealNonceWrongFalsely : Prop := fnExactSealNonceRow.holds Try.pinned (OpenSpec.ofChange fnExactSealNonceWrong)

/-- 'laws.FnExactHexText': WHATEVER THE INPUT: true; the input reads as it did. -/
def fnExactHexTextSpec : ChangeSpec := { name := "fnExactHexText", fn := fun _ => fun
  | [d] => { results := [.lit (.bool true)], args := [d] }
  | _ => none }
def fnExactHexTextRow : OpenClaim := { program := "ytiapfnpnfekknaa", sum := "b526aedc391cbb29274db54ac24e9cbf885f68b7f2300e816ea2505fcdd8bf8d", func := "loop.example/g00257/laws.FnExactHexText", spec := "fnExactHexText", unfollowed := true, recurses := true, apart := false }
def FnExactHexTextSaid : Prop := fnExactHexTextRow.holds Try.pinned (OpenSpec.ofChange fnExactHexTextSpec)

/-- ITS FALSE NEIGHBOUR: 'it returns false'. Refute it at one input. -/
def fnExactHexTextWrong : ChangeSpec := { name := "fnExactHexText", fn := fun _ => fun
  | [d] => { results := [.lit (.bool false)], args := [d] }
  | _ => none }
def FnExactHexTextWrongFalsely : Prop := fnExactHexTextRow.holds Try.pinned (OpenSpec.ofChange fnExactHexTextWrong)

/-- 'laws.FnExactGfMul': WHATEVER THE INPUT: true; the input reads as it did. -/
def fnExactGfMulSpec : ChangeSpec := { name := "fnExactGfMul", fn := fun _ => fun
  | [d1, d2] => { results := [.lit (.bool true)], args := [d1, d2] }
  | _ => none }
def fnExactGfMulRow : OpenClaim := { program := "ytiapfnpnfekknaa", sum := "b526aedc391cbb29274db54ac24e9cbf885f68b7f2300e816ea2505fcdd8bf8d", func := "loop.example/g00257/laws.FnExactGfMul", spec := "fnExactGfMul", apart := false }
def FnExactGfMulSaid : Prop := fnExactGfMulRow.holds Try.pinned (OpenSpec.ofChange fnExactGfMulSpec)

/-- ITS FALSE NEIGHBOUR: 'it returns false'. Refute it at one input. -/
def fnExactGfMulWrong : ChangeSpec := { name := "fnExactGfMul", fn := fun _ => fun
  | [d1, d2] => { results := [.lit (.bool false)], args := [d1, d2] }
  | _ => none }
def FnExactGfMulWrongFalsely : Prop := fnExactGfMulRow.holds Try.pinned (OpenSpec.ofChange fnExactGfMulWrong)

/-- 'laws.FnEqual': WHATEVER THE INPUT: true; the input reads as it did. -/
def fnEqualSpec : ChangeSpec := { name := "fnEqual", fn := fun _ => fun
  | [d1, d2] => { results := [.lit (.bool true)], args := [d1, d2] }
  | _ => none }
def fnEqualRow : OpenClaim := { program := "ytiapfnpnfekknaa", sum := "b526aedc391cbb29274db54ac24e9cbf885f68b7f2300e816ea2505fcdd8bf8d", func := "loop.example/g00257/laws.FnEqual", spec := "fnEqual", unfollowed := true, recurses := true, apart := false }
def FnEqualSaid : Prop := fnEqualRow.holds Try.pinned (OpenSpec.ofChange fnEqualSpec)

/-- ITS FALSE NEIGHBOUR: 'it returns false'. Refute it at one input. -/
def fnEqualWrong : ChangeSpec := { name := "fnEqual", fn := fun _ => fun
  | [d1, d2] => { results := [.lit (.bool false)], args := [d1, d2] }
  | _ => none }
def FnEqualWrongFalsely : Prop := fnEqualRow.holds Try.pinned (OpenSpec.ofChange fnEqualWrong)

/-- 'laws.FnExactEqualBytes': WHATEVER THE INPUT: true; the input reads as it did. -/
def fnExactEqualBytesSpec : ChangeSpec := { name := "fnExactEqualBytes", fn := fun _ => fun
  | [d1, d2] => { results := [.lit (.bool true)], args := [d1, d2] }
  | _ => none }
def fnExactEqualBytesRow : OpenClaim := { program := "ytiapfnpnfekknaa", sum := "b526aedc391cbb29274db54ac24e9cbf885f68b7f2300e816ea2505fcdd8bf8d", func := "loop.example/g00257/laws.FnExactEqualBytes", spec := "fnExactEqualBytes", unfollowed := true, recurses := true, apart := false }
def FnExactEqualBytesSaid : Prop := fnExactEqualBytesRow.holds Try.pinned (OpenSpec.ofChange fnExactEqualBytesSpec)

/-- ITS FALSE NEIGHBOUR: 'it returns false'. Refute it at one input. -/
def fnExactEqualBytesWrong : ChangeSpec := { name := "fnExactEqualBytes", fn := fun _ => fun
  | [d1, d2] => { results := [.lit (.bool false)], args := [d1, d2] }
  | _ => none }
def FnExactEqualBytesWrongFalsely : Prop := fnExactEqualBytesRow.holds Try.pinned (OpenSpec.ofChange fnExactEqualBytesWrong)

/-- 'laws.FnExactGfInverse': WHATEVER THE INPUT: true; the input reads as it did. -/
def fnExactGfInverseSpec : ChangeSpec := { name := "fnExactGfInverse", fn := fun _ => fun
  | [d] => { results := [.lit (.bool true)], args := [d] }
  | _ => none }
def fnExactGfInverseRow : OpenClaim := { program := "ytiapfnpnfekknaa", sum := "b526aedc391cbb29274db54ac24e9cbf885f68b7f2300e816ea2505fcdd8bf8d", func := "loop.example/g00257/laws.FnExactGfInverse", spec := "fnExactGfInverse", apart := false }
def FnExactGfInverseSaid : Prop := fnExactGfInverseRow.holds Try.pinned (OpenSpec.ofChange fnExactGfInverseSpec)

/-- ITS FALSE NEIGHBOUR: 'it returns false'. Refute it at one input. -/
def fnExactGfInverseWrong : ChangeSpec := { name := "fnExactGfInverse", fn := fun _ => fun
  | [d] => { results := [.lit (.bool false)], args := [d] }
  | _ => none }
def FnExactGfInverseWrongFalsely : Prop := fnExactGfInverseRow.holds Try.pinned (OpenSpec.ofChange fnExactGfInverseWrong)

/-- 'laws.FnGf': WHATEVER THE INPUT: true; the input reads as it did. -/
def fnGfSpec : ChangeSpec := { name := "fnGf", fn := fun _ => fun
  | [d1, d2] => { results := [.lit (.bool true)], args := [d1, d2] }
  | _ => none }
def fnGfRow : OpenClaim := { program := "ytiapfnpnfekknaa", sum := "b526aedc391cbb29274db54ac24e9cbf885f68b7f2300e816ea2505fcdd8bf8d", func := "loop.example/g00257/laws.FnGf", spec := "fnGf", apart := false }
def FnGfSaid : Prop := fnGfRow.holds Try.pinned (OpenSpec.ofChange fnGfSpec)

/-- ITS FALSE NEIGHBOUR: 'it returns false'. Refute it at one input. -/
def fnGfWrong : ChangeSpec := { name := "fnGf", fn := fun _ => fun
  | [d1, d2] => { results := [.lit (.bool false)], args := [d1, d2] }
  | _ => none }
def FnGfWrongFalsely : Prop := fnGfRow.holds Try.pinned (OpenSpec.ofChange fnGfWrong)

/-- 'laws.FnExactSubByte': WHATEVER THE INPUT: true; the input reads as it did. -/
def fnExactSubByteSpec : ChangeSpec := { name := "fnExactSubByte", fn := fun _ => fun
  | [d] => { results := [.lit (.bool true)], args := [d] }
  | _ => none }
def fnExactSubByteRow : OpenClaim := { program := "ytiapfnpnfekknaa", sum := "b526aedc391cbb29274db54ac24e9cbf885f68b7f2300e816ea2505fcdd8bf8d", func := "loop.example/g00257/laws.FnExactSubByte", spec := "fnExactSubByte", apart := false }
def FnExactSubByteSaid : Prop := fnExactSubByteRow.holds Try.pinned (OpenSpec.ofChange fnExactSubByteSpec)

/-- ITS FALSE NEIGHBOUR: 'it returns false'. Refute it at one input. -/
def fnExactSubByteWrong : ChangeSpec := { name := "fnExactSubByte", fn := fun _ => fun
  | [d] => { results := [.lit (.bool false)], args := [d] }
  | _ => none }
def FnExactSubByteWrongFalsely : Prop := fnExactSubByteRow.holds Try.pinned (OpenSpec.ofChange fnExactSubByteWrong)

/-- 'laws.FnExactUnsubByte': WHATEVER THE INPUT: true; the input reads as it did. -/
def fnExactUnsubByteSpec : ChangeSpec := { name := "fnExactUnsubByte", fn := fun _ => fun
  | [d] => { results := [.lit (.bool true)], args := [d] }
  | _ => none }
def fnExactUnsubByteRow : OpenClaim := { program := "ytiapfnpnfekknaa", sum := "b526aedc391cbb29274db54ac24e9cbf885f68b7f2300e816ea2505fcdd8bf8d", func := "loop.example/g00257/laws.FnExactUnsubByte", spec := "fnExactUnsubByte", apart := false }
def FnExactUnsubByteSaid : Prop := fnExactUnsubByteRow.holds Try.pinned (OpenSpec.ofChange fnExactUnsubByteSpec)

/-- ITS FALSE NEIGHBOUR: 'it returns false'. Refute it at one input. -/
def fnExactUnsubByteWrong : ChangeSpec := { name := "fnExactUnsubByte", fn := fun _ => fun
  | [d] => { results := [.lit (.bool false)], args := [d] }
  | _ => none }
def FnExactUnsubByteWrongFalsely : Prop := fnExactUnsubByteRow.holds Try.pinned (OpenSpec.ofChange fnExactUnsubByteWrong)

/- THE SECOND FORM. 'bulk': how many values and letters a reading holds, each counted each time it is reached (what is shared counts as often as it is met; a slice's spare places count too). A statement '..UptoSaid' is the law's where the arguments, and the package variables that the reading takes, are together of bulk at most 1048576: NARROWER than '..Said'. Prove '..Said' where nothing that the law and all that it calls make is longer than what came in: it says more and counts as full. Else prove '..UptoSaid'. A law counts once. -/
mutual
def uptoBulk {H : Type} : DataW H → Nat
  | .lit (.string bytes) => bytes.length + 1
  | .lit _ => 1
  | .nil => 1
  | .ptr d => uptoBulk d + 1
  | .slice elems spare => uptoBulkAll elems + uptoBulkAll spare + 1
  | .agg parts => uptoBulkAll parts + 1
  | .iface _ d => uptoBulk d + 1
  | .map entries => uptoBulkEntries entries + 1
  | .held _ => 1
def uptoBulkAll {H : Type} : List (DataW H) → Nat
  | [] => 0
  | d :: r => uptoBulk d + uptoBulkAll r
def uptoBulkEntries {H : Type} : List (Lit × DataW H) → Nat
  | [] => 0
  | x :: r => uptoBulkEntry x + uptoBulkEntries r
def uptoBulkEntry {H : Type} : Lit × DataW H → Nat
  | (.string bytes, d) => bytes.length + uptoBulk d + 1
  | (_, d) => uptoBulk d + 1
 end
def uptoSmall : (H : Type) → List (DataW H) → Bool := fun _ ds => decide (uptoBulkAll ds ≤ 1048576)
def OpenSpec.upto (s : _root_.Go.ChangeSpec) : _root_.Go.OpenSpec := { _root_.Go.OpenSpec.ofChange s with cond := some uptoSmall }

/-- 'laws.FnExactConstants', WHERE WHAT IT READS IS OF BULK AT MOST 1048576: true; the input reads as it did. -/
def fnExactConstantsUptoRow : OpenClaim := { program := "ytiapfnpnfekknaa", sum := "b526aedc391cbb29274db54ac24e9cbf885f68b7f2300e816ea2505fcdd8bf8d", func := "loop.example/g00257/laws.FnExactConstants", spec := "fnExactConstants", apart := false, narrowed := true }
def FnExactConstantsUptoSaid : Prop := fnExactConstantsUptoRow.holds Try.pinned (OpenSpec.upto fnExactConstantsSpec)

/-- 'laws.FnExactSlotOK', WHERE WHAT IT READS IS OF BULK AT MOST 1048576: true; the input reads as it did. -/
def fnExactSlotOKUptoRow : OpenClaim := { program := "ytiapfnpnfekknaa", sum := "b526aedc391cbb29274db54ac24e9cbf885f68b7f2300e816ea2505fcdd8bf8d", func := "loop.example/g00257/laws.FnExactSlotOK", spec := "fnExactSlotOK", apart := false, narrowed := true }
def FnExactSlotOKUptoSaid : Prop := fnExactSlotOKUptoRow.holds Try.pinned (OpenSpec.upto fnExactSlotOKSpec)

/-- 'laws.FnExactNameOK', WHERE WHAT IT READS IS OF BULK AT MOST 1048576: true; the input reads as it did. -/
def fnExactNameOKUptoRow : OpenClaim := { program := "ytiapfnpnfekknaa", sum := "b526aedc391cbb29274db54ac24e9cbf885f68b7f2300e816ea2505fcdd8bf8d", func := "loop.example/g00257/laws.FnExactNameOK", spec := "fnExactNameOK", apart := false, narrowed := true }
def FnExactNameOKUptoSaid : Prop := fnExactNameOKUptoRow.holds Try.pinned (OpenSpec.upto fnExactNameOKSpec)

/-- 'laws.FnExactSealNonce', WHERE WHAT IT READS IS OF BULK AT MOST 1048576: true; the input reads as it did. -/
def fnExactSealNonceUptoRow : OpenClaim := { program := "ytiapfnpnfekknaa", sum := "b526aedc391cbb29274db54ac24e9cbf885f68b7f2300e816ea2505fcdd8bf8d", func := "loop.example/g00257/laws.FnExactSealNonce", spec := "fnExactSealNonce", apart := false, narrowed := true }
def FnExactSealNonceUptoSaid : Prop := fnExactSealNonceUptoRow.holds Try.pinned (OpenSpec.upto fnExactSealNonceSpec)

/-- 'laws.FnExactHexText', WHERE WHAT IT READS IS OF BULK AT MOST 1048576: true; the input reads as it did. -/
def fnExactHexTextUptoRow : OpenClaim := { program := "ytiapfnpnfekknaa", sum := "b526aedc391cbb29274db54ac24e9cbf885f68b7f2300e816ea2505fcdd8bf8d", func := "loop.example/g00257/laws.FnExactHexText", spec := "fnExactHexText", unfollowed := true, recurses := true, apart := false, narrowed := true }
def FnExactHexTextUptoSaid : Prop := fnExactHexTextUptoRow.holds Try.pinned (OpenSpec.upto fnExactHexTextSpec)

/-- 'laws.FnExactGfMul', WHERE WHAT IT READS IS OF BULK AT MOST 1048576: true; the input reads as it did. -/
def fnExactGfMulUptoRow : OpenClaim := { program := "ytiapfnpnfekknaa", sum := "b526aedc391cbb29274db54ac24e9cbf885f68b7f2300e816ea2505fcdd8bf8d", func := "loop.example/g00257/laws.FnExactGfMul", spec := "fnExactGfMul", apart := false, narrowed := true }
def FnExactGfMulUptoSaid : Prop := fnExactGfMulUptoRow.holds Try.pinned (OpenSpec.upto fnExactGfMulSpec)

/-- 'laws.FnEqual', WHERE WHAT IT READS IS OF BULK AT MOST 1048576: true; the input reads as it did. -/
def fnEqualUptoRow : OpenClaim := { program := "ytiapfnpnfekknaa", sum := "b526aedc391cbb29274db54ac24e9cbf885f68b7f2300e816ea2505fcdd8bf8d", func := "loop.example/g00257/laws.FnEqual", spec := "fnEqual", unfollowed := true, recurses := true, apart := false, narrowed := true }
def FnEqualUptoSaid : Prop := fnEqualUptoRow.holds Try.pinned (OpenSpec.upto fnEqualSpec)

/-- 'laws.FnExactEqualBytes', WHERE WHAT IT READS IS OF BULK AT MOST 1048576: true; the input reads as it did. -/
def fnExactEqualBytesUptoRow : OpenClaim := { program := "ytiapfnpnfekknaa", sum := "b526aedc391cbb29274db54ac24e9cbf885f68b7f2300e816ea2505fcdd8bf8d", func := "loop.example/g00257/laws.FnExactEqualBytes", spec := "fnExactEqualBytes", unfollowed := true, recurses := true, apart := false, narrowed := true }
def FnExactEqualBytesUptoSaid : Prop := fnExactEqualBytesUptoRow.holds Try.pinned (OpenSpec.upto fnExactEqualBytesSpec)

/-- 'laws.FnExactGfInverse', WHERE WHAT IT READS IS OF BULK AT MOST 1048576: true; the input reads as it did. -/
def fnExactGfInverseUptoRow : OpenClaim := { program := "ytiapfnpnfekknaa", sum := "b526aedc391cbb29274db54ac24e9cbf885f68b7f2300e816ea2505fcdd8bf8d", func := "loop.example/g00257/laws.FnExactGfInverse", spec := "fnExactGfInverse", apart := false, narrowed := true }
def FnExactGfInverseUptoSaid : Prop := fnExactGfInverseUptoRow.holds Try.pinned (OpenSpec.upto fnExactGfInverseSpec)

/-- 'laws.FnGf', WHERE WHAT IT READS IS OF BULK AT MOST 1048576: true; the input reads as it did. -/
def fnGfUptoRow : OpenClaim := { program := "ytiapfnpnfekknaa", sum := "b526aedc391cbb29274db54ac24e9cbf885f68b7f2300e816ea2505fcdd8bf8d", func := "loop.example/g00257/laws.FnGf", spec := "fnGf", apart := false, narrowed := true }
def FnGfUptoSaid : Prop := fnGfUptoRow.holds Try.pinned (OpenSpec.upto fnGfSpec)

/-- 'laws.FnExactSubByte', WHERE WHAT IT READS IS OF BULK AT MOST 1048576: true; the input reads as it did. -/
def fnExactSubByteUptoRow : OpenClaim := { program := "ytiapfnpnfekknaa", sum := "b526aedc391cbb29274db54ac24e9cbf885f68b7f2300e816ea2505fcdd8bf8d", func := "loop.example/g00257/laws.FnExactSubByte", spec := "fnExactSubByte", apart := false, narrowed := true }
def FnExactSubByteUptoSaid : Prop := fnExactSubByteUptoRow.holds Try.pinned (OpenSpec.upto fnExactSubByteSpec)

/-- 'laws.FnExactUnsubByte', WHERE WHAT IT READS IS OF BULK AT MOST 1048576: true; the input reads as it did. -/
def fnExactUnsubByteUptoRow : OpenClaim := { program := "ytiapfnpnfekknaa", sum := "b526aedc391cbb29274db54ac24e9cbf885f68b7f2300e816ea2505fcdd8bf8d", func := "loop.example/g00257/laws.FnExactUnsubByte", spec := "fnExactUnsubByte", apart := false, narrowed := true }
def FnExactUnsubByteUptoSaid : Prop := fnExactUnsubByteUptoRow.holds Try.pinned (OpenSpec.upto fnExactUnsubByteSpec)

end Rows
end Go.Proofs.Ytiapfnpnfekknaa

/- Laid by a program of this session: of Pm0 what this law uses. -/
import Derived.Test.YtfbggdlidelliaaProg
import Derived.Below
import Derived.Deep.Draws
import Derived.Deep.AppendLies
import Derived.Maps.AppendAt
import Derived.OwnWalk
import Derived.Laws.BytesArg
import Derived.Laws.MakeOwn
import Derived.Laws.OwnMore
import Derived.Deep.OwnRows
import Derived.Tactics
import Derived.Lib.ConvBytes
import Derived.Laws.Slices
import Derived.WalkKit
import Derived.KernelRfl
import Derived.RowKit3
import Derived.Deep.LoopGhost
import Derived.Deep.QuietTactic
import Derived.BigQuiet
import Derived.WideLaws
import Derived.Deep.DeepCutAuto
import Derived.Deep.CutBlock
import Derived.Deep.RegionHeld3
import Derived.Laws.Rows
import Derived.Lib.AppendStr
import Derived.ArgAppend
import Derived.Laws.IdiomCopy
import Derived.OrdersHeld
import Derived.Laws.BitsLemmas
import Derived.RowKit
import Derived.Test.YtfbggdlidelliaaZCdGf
import Derived.Test.YtfbggdlidelliaaZCdSha
import Derived.Test.YtfbggdlidelliaaZCdHp
import Derived.Test.YtfbggdlidelliaaZCdRf
import Derived.Test.YtfbggdlidelliaaZCdHq
import Derived.Test.YtfbggdlidelliaaZCdMd
import Derived.Test.YtfbggdlidelliaaZCdRg
import Derived.Test.YtfbggdlidelliaaZCdRh
import Derived.Test.YtfbggdlidelliaaZCdFm
import Derived.Test.YtfbggdlidelliaaZCdRj
import Derived.Test.YtfbggdlidelliaaZCdRk
import Derived.RegionTactic
import Derived.BigRegion
import Derived.Deep.MidRow
import Derived.Deep.RegionLaw
import Derived.Lib.SliceRun
import Derived.Lib.MakeNoZero
import Derived.Laws.CopyOwn
import Derived.Lib.SlBytesConst
import Derived.Great.BuildSlice
import Derived.Lib.LazyBuf
import Derived.Test.YtfbggdlidelliaaZCdWWords
import Derived.Test.YtfbggdlidelliaaZCdWLast
import Derived.Test.YtfbggdlidelliaaZCdWTab
import Derived.Test.YtfbggdlidelliaaZCdWApart
import Derived.Test.YtfbggdlidelliaaZCdWKept
import Derived.Test.YtfbggdlidelliaaZCdWShare
import Derived.Test.YtfbggdlidelliaaZCdWN
import Derived.Laws.StructEq
import Derived.Test.YtfbggdlidelliaaZCdWRepsOne
import Derived.Test.YtfbggdlidelliaaZCdWGuard
import Derived.Test.YtfbggdlidelliaaZCdWMore
namespace Go.Proofs.Ytfbggdlidelliaa.P
open Go.RowKit Go.Proofs.YtfbggdlidelliaaW.PrintWords Go.Proofs.YtfbggdlidelliaaW.PrintLast Go.Proofs.YtfbggdlidelliaaW.PrintMore
attribute [local go_sem] min2_int min_two
set_option linter.unusedVariables false
set_option linter.unusedSimpArgs false
def errW : Option Int → Value
  | none => .nilIface
  | some c => .iface 0 (.int .i64 c)
theorem errW_none : errW none = .nilIface := rfl
theorem errW_some (c : Int) : errW (some c) = .iface 0 (.int .i64 c) := rfl
theorem info3 : (Try.prog.info? 3).map (fun i => (i.zero, i.size, i.bytes)) = some (some (.int .i64 0), 1, 8) := by kernel_rfl
theorem info5 : (Try.prog.info? 5).map (fun i => (i.zero, i.size, i.bytes)) = some (some (.int .u8 0), 1, 1) := by kernel_rfl
theorem info9 : (Try.prog.info? 9).map (fun i => (i.zero, i.size, i.bytes)) = some (some (.string ⟨#[]⟩), 1, 16) := by kernel_rfl
def arr8 (xs : List Int) : Value := .agg (nums .u8 xs).toArray
theorem nums_at {k : IntKind} {xs : List Int} {j : Nat} (h : j < xs.length) : (nums k xs).toArray[j]? = some (.int k xs[j]) := by
  simp [nums, h]
theorem nums_set (k : IntKind) (xs : List Int) (j : Nat) (v : Int) : (nums k xs).toArray.setIfInBounds j (.int k v) = (nums k (xs.set j v)).toArray := by
  simp [nums, List.map_set]
theorem nums_one (k : IntKind) (xs : List Int) : (nums k xs).toArray.all (·.oneCell') = true :=
  all_oneCell_toArray (fun v hv => by
    obtain ⟨x, _, rfl⟩ := List.mem_map.1 hv
    rfl)
theorem blk_new2 (w : World) (o1 o2 : Obj) : ((w.alloc o1).alloc o2).heap[w.heap.size + 1]? = some o2 := by simpa using blk_new (w.alloc o1) o2
theorem blk_new3 (w : World) (o1 o2 o3 : Obj) : (((w.alloc o1).alloc o2).alloc o3).heap[w.heap.size + 1 + 1]? = some o3 := by simpa using blk_new ((w.alloc o1).alloc o2) o3
theorem blk_new4 (w : World) (o1 o2 o3 o4 : Obj) : ((((w.alloc o1).alloc o2).alloc o3).alloc o4).heap[w.heap.size + 1 + 1 + 1]? = some o4 := by simpa using blk_new (((w.alloc o1).alloc o2).alloc o3) o4
theorem below_row {B : Nat} {w w1 : World} {g : Nat} (h : Below B w w1) (hg : B ≤ g) (cs : Array Value) : Below B w (w1.setRow g cs) :=
  ⟨h.os, h.tape, h.output, by rw [setRow_size]; exact h.size, fun i hi => by rw [setRow_other _ _ _ _ (by omega)]; exact h.block i hi⟩
theorem C_one_string {W : World} {g : Nat} {s : ByteArray} {T : TypeId} {fr : Nat × Nat} (h : W.heap[g]? = some (.cells #[.string s] T fr)) : Kd.C Kd.string W (some ⟨g, 0, none⟩) 1 [s] := by
  refine ⟨rfl, by decide, fun _ => ⟨⟨g, 0, none⟩, rfl, fun j p hj => ?_⟩⟩
  match j, hj with
  | 0, hj =>
    obtain rfl : s = p := by simpa using hj
    refine ⟨[.string s], rfl, rfl, fun i u hu => ?_⟩
    match i, hu with
    | 0, hu =>
      obtain rfl : Value.string s = u := by simpa using hu
      rw [add_plain]
      simpa using cell_of_row W g 0 _ _ _ h
theorem C_two_string {W : World} {g : Nat} {s t : ByteArray} {T : TypeId} {fr : Nat × Nat} (h : W.heap[g]? = some (.cells #[.string s, .string t] T fr)) : Kd.C Kd.string W (some ⟨g, 0, none⟩) 2 [s, t] := by
  refine ⟨rfl, by decide, fun _ => ⟨⟨g, 0, none⟩, rfl, fun j p hj => ?_⟩⟩
  match j, hj with
  | 0, hj =>
    obtain rfl : s = p := by simpa using hj
    refine ⟨[.string s], rfl, rfl, fun i u hu => ?_⟩
    match i, hu with
    | 0, hu =>
      obtain rfl : Value.string s = u := by simpa using hu
      rw [add_plain]
      simpa using cell_of_row W g 0 _ _ _ h
  | 1, hj =>
    obtain rfl : t = p := by simpa using hj
    refine ⟨[.string t], rfl, rfl, fun i u hu => ?_⟩
    match i, hu with
    | 0, hu =>
      obtain rfl : Value.string t = u := by simpa using hu
      rw [add_plain]
      show W.cell? ⟨g, 1, none⟩ = _
      simpa using cell_of_row W g 1 _ _ _ h
theorem run_index_agg {P : Program} {T E : TypeId} {xs : List Int} {n : Nat} (hT : P.underlying T = some (.array n E)) (hu : P.underlying E = some (.int .u8)) (hE : (P.info? E).map (·.size) = some 1) (k : Nat) (hk : k < n) (hl : xs.length = n) (w : World) :
    (Instr.index T (.agg (nums .u8 xs).toArray) (.int .i64 (k : Int))).run P w = .ok (.int .u8 (xs.getD k 0)) w := by
  cases hq : P.info? E with
  | none => simp [hq] at hE
  | some i =>
    have hs : i.size = 1 := by simpa [hq] using hE
    have hk2 : k < xs.length := by omega
    simp [Instr.index, asIntOf, Sem.run_bind, run_underlying hT, run_underlying hu, sizeOf, typeInfo, hq, hs, part, isAgg, hk, nums, hk2, List.getD_eq_getElem?_getD]
end Go.Proofs.Ytfbggdlidelliaa.P

/- Words of this session: whole arrays read at any address, in a region that draws its order. -/
import Derived.Test.YtfbggdlidelliaaZCdRf
import Derived.Test.YtfbggdlidelliaaZCdMd
import Derived.Deep.MidRow
namespace Go.Proofs.Ytfbggdlidelliaa.P
open Go.RowKit Go.Proofs.YtfbggdlidelliaaW.PrintWords Go.Proofs.YtfbggdlidelliaaW.PrintLast Go.Proofs.YtfbggdlidelliaaW.PrintMore
set_option linter.unusedVariables false
theorem w64s (x : Int) (h : -1000000 ≤ x) (h2 : x ≤ 1000000000) : wrap64 x = x := by unfold wrap64; omega
section
variable {P : Program} {ops : Array Oper} {S : World → Prop}
theorem run_loadVar_any (w : World) (a : Addr) (ty : TypeId) (cs : List Value) (d : TypeDesc) (hc : ∀ j v, cs[j]? = some v → w.cell? (a.add j) = some v)
    (hu : P.underlying ty = some d) (hd : d.isRow = true) (hi : (P.info? ty).map (·.size) = some cs.length) : (loadVar ty a).run P w = .ok (.agg cs.toArray) w := by
  have hl : (loadCells a cs.length).run P w = .ok cs.toArray w := run_loadCells_list (P := P) w a cs hc
  cases hq : P.info? ty with
  | none => simp [hq] at hi
  | some i =>
    have hs : i.size = cs.length := by simpa [hq] using hi
    have hagg : (isAgg ty).run P w = .ok true w := by
      unfold isAgg
      rw [Sem.run_bind, run_underlying hu w]
      cases d <;> simp_all
    simp [loadVar, Sem.run_bind, hagg, sizeOf, typeInfo, hq, hs, hl]
theorem yields_load_any {o : Oper} {a : Act} (hgd : o.guard = none) (ty : TypeId) (x : Operand) (ho : o.op = .load ty x)
    (ad : Addr) (hx : a.eval x = .pointer (some ad)) (cs : List Value) (d : TypeDesc) (hS : ∀ w, S w → ∀ j v, cs[j]? = some v → w.cell? (ad.add j) = some v)
    (hu : P.underlying ty = some d) (hd : d.isRow = true) (hi : (P.info? ty).map (·.size) = some cs.length) : YieldsIf P ops S o (.agg cs.toArray) a :=
  .inl ⟨by simp [Region.wanted, hgd], fun w hw => by
    unfold execOp
    simp only [ho, hx, Instr.loadAt, Instr.sureAddr, Sem.run_bind, Sem.run_pure, Result.andThen_ok, run_loadVar_any w ad ty cs d (hS w hw) hu hd hi]⟩
theorem yields_arrayAt {o : Oper} {a : Act} (hgd : o.guard = none) (t : TypeId) (x : Operand) (ho : o.op = .sliceToArrayPointer t x) (A : Option Addr) (len c m : Nat) {e : TypeId} (hx : a.eval x = .slice A len c) (hu : P.underlying t = some (.array m e)) (hm : m ≤ len) : YieldsIf P ops S o (.pointer A) a :=
  .inl ⟨by simp [Region.wanted, hgd], fun w hw => by
    unfold execOp
    simp only [ho, hx, Instr.arrayAt, Sem.run_bind, run_underlying hu, Result.andThen_ok, Sem.run_pure, if_neg (show ¬ len < m by omega)]⟩
end
theorem C_nums {w : World} {ad : Addr} {n : Nat} {l : List Int} (h : Kd.C (Kd.int .u8) w (some ad) n l) (hn : n = l.length) (i : Nat) (hi : 16 * i + 16 ≤ l.length) : ∀ j v, (nums .u8 (Md.blk l i))[j]? = some v → w.cell? ((ad.add (16 * i)).add j) = some v := fun j v hv => by
  obtain ⟨hj, rfl⟩ := nums_getD _ j v hv
  rw [Md.blk_length l i hi] at hj
  rw [add_add, C_u8_cell h hn (16 * i + j) (by omega), Md.blk_at l i j hj]
end Go.Proofs.Ytfbggdlidelliaa.P

/- Words of this session: zeros appended to a row of bytes ('append(x, make([]byte, n)...)'). -/
import Derived.Test.YtfbggdlidelliaaZCmbRh
namespace Go.Proofs.Ytfbggdlidelliaa.P
open Go.RowKit Go.Proofs.YtfbggdlidelliaaW.PrintWords Go.Proofs.YtfbggdlidelliaaW.PrintLast Go.Proofs.YtfbggdlidelliaaW.PrintMore
set_option linter.unusedVariables false
set_option linter.unusedSimpArgs false
theorem zeroCr (m : Nat) : Builtin.zeroCells (Value.int IntKind.u8 0).cells m = (nums .u8 (List.replicate m 0)).toArray := by
  have hc : (Value.int IntKind.u8 0).cells = #[Value.int .u8 0] := rfl
  apply Array.ext'
  simp [Builtin.zeroCells, nums, hc, Nat.mod_one, List.map_const']
theorem run_append_rowB_zeros {P : Program} {W : World} {B : Nat} {w0 : World} (t u ty e : TypeId) (i : TypeInfo) (h1 : P.underlying t = some (.slice e)) (hu : P.underlying u = some (.int .i64)) (h2 : P.info? e = some i) (h3 : i.zero = some (.int .u8 0)) (h4 : i.size = 1) (h5 : i.bytes = 1)
    {v : Value} {l : List Int} (m : Nat) (hm : m ≤ 4096) (hv : rowB W B v l) (hb : Below B w0 W) (hB : B ≤ W.heap.size) (hfit : l.length ≤ 140737488350000) :
    ∃ v' w', (Builtin.append_ #[t, u] ty #[v, .int .i64 (m : Int)]).run P W = .ok v' w' ∧ rowB w' B v' (l ++ List.replicate m 0) ∧ Below B w0 w' ∧ B ≤ w'.heap.size := by
  have hv2 := hv
  obtain ⟨g, cap, rfl, hg, hl, hcs, hvs⟩ := hv2
  have hw : IntKind.i64.wrap (m : Int) = (m : Int) := by rw [IntKind.wrap_i64]; omega
  have hn0 : ¬ ((m : Int) < 0) := by omega
  have hb48 : ¬ (281474976710656 < (m : Int)) := by omega
  by_cases hm0 : m = 0
  · subst hm0
    refine ⟨.slice (some ⟨g, 0, none⟩) l.length cap, W, ?_, by simpa using hv, hb, hB⟩
    have hw0 : IntKind.i64.wrap 0 = 0 := by rw [IntKind.wrap_i64]; omega
    simp [Builtin.append_, run_underlying h1, run_underlying hu, sizeOf, typeInfo, h2, h4, h5, asInt, asIntOf, hl, storeCells, hw0]
  by_cases hr : l.length + m ≤ cap
  · have hst := run_storeCells_cells (P := P) g l.length (nums .u8 (List.replicate m 0)) 0 W (fun j hj => (hcs _ (by simp [nums] at hj; omega)).1) (fun j hj => (hcs _ (by simp [nums] at hj; omega)).2) (fun x hx => by obtain ⟨y, _, rfl⟩ := List.mem_map.1 hx; rfl)
    simp only [Nat.add_zero] at hst
    refine ⟨.slice (some ⟨g, 0, none⟩) (l.length + m) cap, W.setCells g l.length (nums .u8 (List.replicate m 0)), ?_, ?_, below_setCells hb g hg _ _, ?_⟩
    · simp [Builtin.append_, run_underlying h1, run_underlying hu, sizeOf, typeInfo, zeroValue, h2, h3, h4, h5, asInt, asIntOf, hw, hn0, hb48, hm0, hr, zeroCr, Addr.add_lit, hst]
    · have := rowB_wrote (r := List.replicate m (0 : Int)) hv (by simpa using hr)
      rw [List.length_append, List.length_replicate] at this
      exact this
    · have := (below_setCells (Below.refl B W) g hg (nums .u8 (List.replicate m 0)) l.length).size
      omega
  · have hfo := run_firstCells_some (P := P) W.drew 1 l.length ⟨g, 0, none⟩ l.length cap (nums .u8 l) (by simp [nums]) (by
      intro j u hj
      obtain ⟨hj2, rfl⟩ := nums_getD l j u hj
      rw [add_plain]
      simpa using hvs j hj2)
    have hcapf : Builtin.nextslicecap (l.length + m) cap * 1 ≤ 281474976710656 := growslice_fits (by omega) (by omega)
    have h63' : ¬ (9223372036854775807 < ((l.length : Int) + (m : Int))) := by omega
    have h48' : ¬ (281474976710656 < Builtin.nextslicecap (l.length + m) cap) := by omega
    have hge := grownCap_ge W (l.length + m) cap e
    have hrun : (Builtin.append_ #[t, u] ty #[.slice (some ⟨g, 0, none⟩) l.length cap, .int .i64 (m : Int)]).run P W = .ok (.slice (some ⟨W.heap.size, 0, none⟩) (l.length + m) (grownCap W (l.length + m) cap e))
        (W.drew.alloc (.cells ((nums IntKind.u8 l).toArray ++ (nums .u8 (List.replicate m 0)).toArray ++ (nums .u8 (List.replicate (grownCap W (l.length + m) cap e - (l.length + m)) 0)).toArray) e)) := by
      simp [Builtin.append_, run_underlying h1, run_underlying hu, sizeOf, typeInfo, zeroValue, h2, h3, h4, h5, asInt, asIntOf, hw, hn0, hb48, hm0, hr, h63', h48', Question.forced, hfo, newRow, grownCap, zeroCr]
    refine ⟨_, _, hrun, ?_, (hb.drew).alloc hB _, by simp; omega⟩
    have hh := heap_alloc_new W.drew (.cells ((nums IntKind.u8 l).toArray ++ (nums .u8 (List.replicate m 0)).toArray ++ (nums .u8 (List.replicate (grownCap W (l.length + m) cap e - (l.length + m)) 0)).toArray) e)
    have e2 : (l ++ List.replicate m (0 : Int)).length = l.length + m := by simp
    have e3 : (nums IntKind.u8 l).toArray ++ (nums .u8 (List.replicate m 0)).toArray ++ (nums .u8 (List.replicate (grownCap W (l.length + m) cap e - (l.length + m)) 0)).toArray = (nums .u8 ((l ++ List.replicate m 0) ++ List.replicate (grownCap W (l.length + m) cap e - (l.length + m)) 0)).toArray := by simp [nums]
    rw [e3] at hh ⊢
    refine ⟨W.heap.size, grownCap W (l.length + m) cap e, by rw [e2], hB, by rw [e2]; exact hge, fun j hj => ⟨?_, blk_frozen hh j⟩, fun j hj => ?_⟩
    · have := blk_cell hh j
      rw [show W.drew.heap.size = W.heap.size from rfl] at this
      rw [this, Array.getElem?_eq_getElem (by simp [nums]; omega)]; rfl
    · have := blk_cell hh j
      rw [show W.drew.heap.size = W.heap.size from rfl] at this
      rw [this]
      exact nums_at? _ _ _ _ (by rw [List.getElem?_append_left hj, List.getD_eq_getElem?_getD, List.getElem?_eq_getElem hj]; rfl)
theorem wpList_append_rowB_zeros {P : Program} {W : World} {B : Nat} {w0 : World} {ops : Array Oper} {rest : List Oper} {o : Oper} {ac : Act} {Q : Exit → Act → World → Prop} (hgd : o.guard = none) (s x : Operand) (t u e : TypeId) (ho : o.op = .call { callee := .builtin .append, args := #[s, x], argTypes := #[t, u] })
    (h1 : P.underlying t = some (.slice e)) (hu : P.underlying u = some (.int .i64)) (hi : (P.info? e).map (fun i => (i.zero, i.size, i.bytes)) = some (some (.int .u8 0), 1, 1))
    {v : Value} {l : List Int} (m : Nat) (hm : m ≤ 4096) (hs : ac.eval s = v) (hv : rowB W B v l) (hb : Below B w0 W) (hB : B ≤ W.heap.size) (hx : ac.eval x = .int .i64 (m : Int)) (hfit : l.length ≤ 140737488350000) (lr : List Int) (hlr : lr = l ++ List.replicate m 0)
    (h : ∀ v' w', Aside0 (rowB w' B v' lr) → Aside0 (Below B w0 w') → Aside0 (B ≤ w'.heap.size) → wpList P ops Q rest (ac.put o.dst v') w') : wpList P ops Q (o :: rest) ac W := by
  subst hlr
  obtain ⟨i, h2, h3⟩ := Option.map_eq_some_iff.1 hi
  simp only [Prod.mk.injEq] at h3
  refine wpList_plain hgd fun K hK => ?_
  obtain ⟨v', w', hr, q1, q2, q3⟩ := run_append_rowB_zeros (P := P) t u o.type e i h1 hu h2 h3.1 h3.2.1 h3.2.2 m hm hv hb hB hfit
  unfold Oper.wp execOp
  simp only [ho, resolve, invoke, builtin, Sem.run_bind, Sem.run_pure, Result.andThen_ok, List.map_toArray, List.map_cons, List.map_nil, hs, hx, hr]
  exact hK _ _ (h v' w' ⟨q1⟩ ⟨q2⟩ ⟨q3⟩)
end Go.Proofs.Ytfbggdlidelliaa.P

/- A drawing region walked by an invariant: what holds whichever operations have been done. -/
import Derived.Test.YtfbggdlidelliaaZCdRj
import Derived.Deep.MidRow
import Derived.Great.BuildSlice
namespace Go.Proofs.Ytfbggdlidelliaa.P
open Go.RowKit Go.Proofs.YtfbggdlidelliaaW.PrintWords Go.Proofs.YtfbggdlidelliaaW.PrintLast Go.Proofs.YtfbggdlidelliaaW.PrintMore
set_option linter.unusedVariables false
section
variable {P : Program} {ops : Array Oper} {Q : Exit → Act → World → Prop} {md : Region.Mode}
theorem ready_waits {L : Array Bool} {i : Nat} (h : i ∈ Region.ready md ops L) (j : Nat) (hw : lastWaits md ops i j = true) : L.getD j false = true := by
  obtain ⟨_, o, ho, hall⟩ := mem_ready.1 h
  unfold lastWaits at hw
  rw [ho] at hw
  simp only [Option.any_some, Array.any_eq_true, Bool.and_eq_true, beq_iff_eq] at hw
  obtain ⟨q, hq, hb, he⟩ := hw
  have := hall o.after[q] (Array.getElem_mem hq) hb
  rwa [he] at this
def eldersOk (md : Region.Mode) (ops : Array Oper) : Bool := (List.range ops.size).all fun i => (ops[i]?).any fun o => o.after.all fun e => !Region.binds md e || decide (e.on < i)
theorem done_all {L : Array Bool} (hL : L.size = ops.size) (he : eldersOk md ops = true) (hr : Region.ready md ops L = []) : ∀ i, i < ops.size → L.getD i false = true := by
  intro i
  induction i using Nat.strongRecOn with
  | ind i ih =>
    intro hi
    cases hb : L.getD i false with
    | true => rfl
    | false =>
      exfalso
      have h1 := (List.all_eq_true.1 he) i (List.mem_range.2 hi)
      rw [Array.getElem?_eq_getElem hi, Option.any_some, Array.all_eq_true] at h1
      have hm : i ∈ Region.ready md ops L := by
        refine mem_ready.2 ⟨?_, ops[i], Array.getElem?_eq_getElem hi, ?_⟩
        · simp only [Array.getD, hL, hi, dif_pos] at hb ⊢
          exact hb
        · intro e hem hbe
          obtain ⟨q, hq, rfl⟩ := Array.mem_iff_getElem.1 hem
          have h2 := h1 q hq
          simp only [hbe, Bool.not_true, Bool.false_or, decide_eq_true_eq] at h2
          exact ih _ h2 (by omega)
      rw [hr] at hm
      cases hm
theorem wpAny_inv (I : Array Bool → Act → World → Prop) (he : eldersOk md ops = true)
    (hdone : ∀ L a w, I L a w → L.size = ops.size → (∀ i, i < ops.size → L.getD i false = true) → Q .normal a w)
    (hstep : ∀ L a w i, I L a w → L.size = ops.size → i ∈ Region.ready md ops L → i < ops.size → wpOp P ops Q i (fun a' w' => I (L.setIfInBounds i true) a' w') a w) :
    ∀ (fuel : Nat) (L : Array Bool) (a : Act) (w : World), L.size = ops.size → L.toList.count false ≤ fuel → I L a w → wpAny P md ops Q fuel L a w
  | 0, L, a, w, hL, hc, h => by
    have hall : ∀ i, i < ops.size → L.getD i false = true := fun i hi => by
      have h0 : L.toList.count false = 0 := by omega
      rw [List.count_eq_zero] at h0
      have hiL : i < L.size := by omega
      simp only [Array.getD, hiL, dif_pos]
      cases hb : L[i] with
      | true => exact hb
      | false => exact absurd (by rw [← hb]; exact Array.getElem_mem_toList hiL) h0
    refine ⟨?_, hdone L a w h hL hall⟩
    refine List.eq_nil_iff_forall_not_mem.2 fun i hi => ?_
    obtain ⟨h1, o, ho, _⟩ := mem_ready.1 hi
    have hlt : i < ops.size := (Array.getElem?_eq_some_iff.1 ho).1
    have h2 := hall i hlt
    have hiL : i < L.size := by omega
    simp only [Array.getD, hiL, dif_pos] at h1 h2
    rw [h1] at h2
    cases h2
  | fuel + 1, L, a, w, hL, hc, h => by
    refine ⟨fun hr => hdone L a w h hL (done_all hL he hr), fun i hi => ?_⟩
    obtain ⟨h1, o, ho, _⟩ := mem_ready.1 hi
    have hlt : i < ops.size := (Array.getElem?_eq_some_iff.1 ho).1
    have hiL : i < L.size := by omega
    refine wpOp_mono (fun a' w' h' => wpAny_inv I he hdone hstep fuel _ a' w' (by rw [Array.size_setIfInBounds]; exact hL) ?_ h') (hstep L a w i h hL hi hlt)
    simp only [Array.getD, hiL, dif_pos] at h1
    have hlen : i < L.toList.length := by simpa using hiL
    rw [Array.toList_setIfInBounds, List.count_set hlen]
    have h3 : L.toList[i] = false := by simpa using h1
    have h4 : 0 < L.toList.count false := List.count_pos_iff.2 (by rw [← h3]; exact List.getElem_mem hlen)
    rw [h3]
    simp only [beq_self_eq_true, if_true]
    have h5 : (if (true == false) = true then 1 else 0) = 0 := rfl
    omega
def Kp (w : World) (G : List Nat) (A : World → Prop) : Prop := ∀ W', (∀ k, k < w.heap.size → k ∉ G → W'.heap[k]? = w.heap[k]?) → A W'
theorem Kp.step {w w' : World} {G G' : List Nat} {A : World → Prop} (h : Kp w G A) (hs : w.heap.size ≤ w'.heap.size) (hG : ∀ k ∈ G', k ∈ G ∨ w.heap.size ≤ k) (hk : ∀ k, k < w.heap.size → k ∉ G' → w'.heap[k]? = w.heap[k]?) (hG2 : ∀ k ∈ G, k ∈ G') : Kp w' G' A := fun W' hW => by
  refine h W' fun k h1 h2 => ?_
  have hm : k ∉ G' := fun hm => (hG k hm).elim h2 (by omega)
  exact (hW k (Nat.lt_of_lt_of_le h1 hs) hm).trans (hk k h1 hm)
theorem Kp.here {w : World} {G : List Nat} {A : World → Prop} (h : Kp w G A) : A w := h w fun _ _ _ => rfl
theorem wpOp_wpK {i : Nat} {o : Oper} {a : Act} {w : World} {K0 : Act → World → Prop} (ho : ops[i]? = some o) (hg : o.guard = none) (h : ∀ K : Act → World → Prop, (∀ a' w', K0 a' w' → K a' w') → o.wp P a w K Q) : wpOp P ops Q i K0 a w := by
  unfold wpOp
  simp only [ho, Region.wanted, hg, if_true]
  exact .inl (h K0 fun _ _ h => h)
theorem wpOp_val {i : Nat} {o : Oper} {a : Act} {w w1 : World} {v : Value} {K0 : Act → World → Prop} (ho : ops[i]? = some o) (hg : o.guard = none) (hrun : (execOp a.eval o).run P w = .ok (.value v) w1) (h : K0 (a.put o.dst v) w1) : wpOp P ops Q i K0 a w := by
  refine wpOp_wpK ho hg fun K hK => ?_
  unfold Oper.wp
  rw [hrun]
  exact hK _ _ h
theorem set_bits (L : Array Bool) (i : Nat) (hi : i < L.size) : (fun j => (L.setIfInBounds i true).getD j false) = fun j => if j = i then true else L.getD j false := by
  funext j
  rw [Array.getD_eq_getD_getElem?, Array.getD_eq_getD_getElem?, Array.getElem?_setIfInBounds]
  by_cases h : i = j
  · subst h
    simp [hi]
  · rw [if_neg h, if_neg (fun e => h e.symm)]
theorem load_mid_wp {o : Oper} {a : Act} {w : World} (ty : TypeId) (x : Operand) (ho : o.op = .load ty x) (b off : Nat) (hx : a.eval x = .pointer (some ⟨b, off, none⟩)) (cs : List Value) (d : TypeDesc) (hR : w.rangeAt b off cs)
    (hu : P.underlying ty = some d) (hd : d.isRow = true) (hi : (P.info? ty).map (·.size) = some cs.length) : (execOp a.eval o).run P w = .ok (.value (.agg cs.toArray)) w := by
  unfold execOp
  simp only [ho, hx, Instr.loadAt, Instr.sureAddr, Sem.run_bind, Sem.run_pure, Result.andThen_ok, run_loadVar_mid w b off ty cs d hR hu hd hi]
theorem wpOp_goes {i : Nat} {o : Oper} {a : Act} {w : World} {K0 : Act → World → Prop} {fid : FuncId} {fn : Func} {aa : Array Operand} {ts : Array TypeId} (ho : ops[i]? = some o) (hg : o.guard = none) (hf : P.funcs[fid]? = some fn) (hname : (fn.name == "runtime.NumGoroutine") = false) (hb : fn.body.isSome = true) (args : Array Value)
    (hop : o.op = .call { callee := .value (.func fid), args := aa, argTypes := ts }) (hargs : aa.map a.eval = args)
    (h : Calls P fid args w fun e w' => ∃ v, e = .returned v ∧ K0 (a.put o.dst v) w') : wpOp P ops Q i K0 a w := by
  refine wpOp_wpK ho hg fun K hK => ?_
  have hw : Region.wanted o (yielded #[] a.tmps) = true := by simp [Region.wanted, hg]
  have q := goes_ (ops := #[]) (Q := Q) (K := K) (N := o.dst) hf hname hb args hw rfl hop hargs (h.mono fun e w' ⟨v, e1, h1⟩ => ⟨v, e1, hK _ _ h1⟩)
  rw [if_pos hw] at q
  exact q
theorem wp_store_one {o : Oper} {a : Act} {w : World} {K : Act → World → Prop} (ty : TypeId) (x y : Operand) (ho : o.op = .store ty x y)
    (g : Nat) (v : Value) (hx : a.eval x = .pointer (some ⟨g, 0, none⟩)) (hy : a.eval y = v) (t : TypeId) (old : Value) (hg : w.heap[g]? = some (.cells #[old] t (0, 0))) (hi : (P.info? ty).map (·.size) = some 1) (h1 : v.oneCell' = true)
    (h : K (a.put o.dst undef) (w.setRow g #[v])) : o.wp P a w K Q := by
  unfold Oper.wp execOp
  simp only [ho, hx, hy, Instr.storeAt, Instr.sureAddr, Sem.run_bind, Sem.run_pure, Result.andThen_ok, run_storeVar_one w g t ty old v hg hi h1]
  exact h
end
end Go.Proofs.Ytfbggdlidelliaa.P

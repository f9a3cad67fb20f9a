/- More helper words of this session: strings of bytes cut, cells of rows, rows of bytes written. -/
import Derived.Test.YtfbggdlidelliaaHp
import Derived.Test.YtfbggdlidelliaaAes
namespace Go.Proofs.Ytfbggdlidelliaa.P
open Go.RowKit Go.Proofs.YtfbggdlidelliaaW.PrintWords Go.Proofs.YtfbggdlidelliaaW.PrintLast Go.Proofs.YtfbggdlidelliaaW.PrintMore
set_option linter.unusedVariables false
set_option linter.unusedSimpArgs false
theorem rowB_cut {W : World} {B g n c : Nat} {l : List Int} (h : rowB W B (.slice (some ⟨g, 0, none⟩) n c) l) (o : Nat) (b : List Int) (ho : o + b.length ≤ l.length) (hm : b.length ≤ 140737488355328) (he : ∀ j, j < b.length → b.getD j 0 = l.getD (o + j) 0) : Kd.C (Kd.int .u8) W (some ⟨g, o, none⟩) b.length b := by
  obtain ⟨g2, cap2, e, hg, hl, hc, hv⟩ := h
  injection e with e1 e2 e3
  injection e1 with e1
  injection e1 with e1
  subst e1
  refine C_cells hm fun j hj => ?_
  rw [he j hj]
  exact (congrArg W.cell? (show (⟨g, o, none⟩ : Addr).add j = ⟨g, o + j, none⟩ by unfold Addr.add; split <;> simp_all)).trans (hv (o + j) (by omega))
theorem cell_keep_at {W W' : World} {g q : Nat} {v : Value} (h : W.cell? ((⟨g, 0, none⟩ : Addr).add q) = some v) (hk : g < W.heap.size → W'.heap[g]? = W.heap[g]?) : W'.cell? ((⟨g, 0, none⟩ : Addr).add q) = some v := by
  rw [add_plain] at h ⊢
  exact (World.cell?_of_block (hk (cell_lt (a := ⟨g, q, none⟩) (by rw [h]; rfl)))).trans h
theorem opWp_append_rowB {P : Program} {W : World} {B : Nat} {w0 : World} {o : Oper} {ac : Act} {K : Act → World → Prop} {Q : Exit → Act → World → Prop} (s x : Operand) (t e : TypeId) (ho : o.op = .call { callee := .builtin .append, args := #[s, x], argTypes := #[t, t] })
    (h1 : P.underlying t = some (.slice e)) (hi : (P.info? e).map (fun i => (i.zero, i.size, i.bytes)) = some (some (.int .u8 0), 1, 1))
    {v : Value} {l : List Int} (r : List Int) (hs : ac.eval s = v) (hv : rowB W B v l) (hb : Below B w0 W) (hB : B ≤ W.heap.size) (ad : Addr) (m c : Nat) (hx : ac.eval x = .slice (some ad) m c) (hm : m = r.length) (hc : ∀ j, j < r.length → W.cell? (ad.add j) = some (.int .u8 (r.getD j 0))) (hfit : l.length + r.length ≤ 140737488355328) (lr : List Int) (hlr : lr = l ++ r)
    (h : ∀ v' w', Aside0 (rowB w' B v' lr) → Aside0 (Below B w0 w') → Aside0 (B ≤ w'.heap.size) → K (ac.put o.dst v') w') : o.wp P ac W K Q := by
  subst hlr
  obtain ⟨i, h2, h3⟩ := Option.map_eq_some_iff.1 hi
  simp only [Prod.mk.injEq] at h3
  obtain ⟨v', w', hr, q1, q2, q3⟩ := run_append_rowB (P := P) t o.type e i h1 h2 h3.1 h3.2.1 h3.2.2 hv hb hB ad m c hm hc hfit
  unfold Oper.wp execOp
  simp only [ho, resolve, invoke, builtin, Sem.run_bind, Sem.run_pure, Result.andThen_ok, List.map_toArray, List.map_cons, List.map_nil, hs, hx, hr]
  exact h v' w' ⟨q1⟩ ⟨q2⟩ ⟨q3⟩
theorem rowB_form' {W : World} {B g n c : Nat} {l : List Int} (h : rowB W B (.slice (some ⟨g, 0, none⟩) n c) l) : n ≤ c := by
  obtain ⟨g, cap, e, _, hl, _⟩ := h
  injection e with e1 e2 e3
  omega
theorem rowB_same {W W' : World} {B : Nat} {v : Value} {l : List Int} (h : rowB W B v l) (hk : ∀ k, B ≤ k → k < W.heap.size → W'.heap[k]? = W.heap[k]?) : rowB W' B v l := by
  obtain ⟨g, cap, e, hg, hl, hc, hv⟩ := h
  refine ⟨g, cap, e, hg, hl, fun j hj => ?_, fun j hj => ?_⟩
  · have hlt := cell_lt (hc j hj).1
    have hb := hk g hg hlt
    have h1 : W'.cell? ⟨g, j, none⟩ = W.cell? ⟨g, j, none⟩ := World.cell?_of_block hb
    have h2 : W'.frozen? ⟨g, j, none⟩ = W.frozen? ⟨g, j, none⟩ := by simp only [World.frozen?, hb]
    exact ⟨by rw [h1]; exact (hc j hj).1, by rw [h2]; exact (hc j hj).2⟩
  · have hlt : g < W.heap.size := cell_lt (a := ⟨g, j, none⟩) (hc j (by omega)).1
    have h1 : W'.cell? ⟨g, j, none⟩ = W.cell? ⟨g, j, none⟩ := World.cell?_of_block (hk g hg hlt)
    rw [h1]; exact hv j hj
theorem rowB_blk {W : World} {B g : Nat} {l : List Int} {T : TypeId} (h : W.heap[g]? = some (.cells (nums .u8 l).toArray T (0, 0))) (hB : B ≤ g) : rowB W B (.slice (some ⟨g, 0, none⟩) l.length l.length) l := by
  refine ⟨g, l.length, rfl, hB, Nat.le_refl _, fun j hj => ⟨?_, blk_frozen h j⟩, fun j hj => ?_⟩
  · rw [blk_cell h j, Array.getElem?_eq_getElem (by simp [nums]; omega)]; rfl
  · rw [blk_cell h j]
    exact nums_at? _ _ _ _ (by rw [List.getD_eq_getElem?_getD, List.getElem?_eq_getElem hj]; rfl)
theorem setCells_other : ∀ (vs : List Value) (o : Nat) (w : World) (g i : Nat), i ≠ g → (w.setCells g o vs).heap[i]? = w.heap[i]?
  | [], _, _, _, _, _ => rfl
  | v :: vs, o, w, g, i, h => by
    show ((w.setCell ⟨g, o, none⟩ v).setCells g (o + 1) vs).heap[i]? = _
    rw [setCells_other vs (o + 1) _ g i h]
    exact Below.heap_setCell w ⟨g, o, none⟩ v i h
theorem run_append_rowB2 {P : Program} {W : World} {B : Nat} (t ty e : TypeId) (i : TypeInfo) (h1 : P.underlying t = some (.slice e)) (h2 : P.info? e = some i) (h3 : i.zero = some (.int .u8 0)) (h4 : i.size = 1) (h5 : i.bytes = 1)
    {g n cap : Nat} {l r : List Int} (hn0 : n = l.length) (hv : rowB W B (.slice (some ⟨g, 0, none⟩) l.length cap) l) (hB : B ≤ W.heap.size) (A : Option Addr) (m c : Nat) (hC : Kd.C (Kd.int .u8) W A m r) (hfit : l.length + r.length ≤ 140737488355328) :
    ∃ v' w', (Builtin.append_ #[t, t] ty #[.slice (some ⟨g, 0, none⟩) n cap, .slice A m c]).run P W = .ok v' w' ∧ rowB w' B v' (l ++ r) ∧ Below B W w' ∧ ∀ k, k < W.heap.size → k ≠ g → w'.heap[k]? = W.heap[k]? := by
  subst hn0
  have hm : m = r.length := hC.1.symm
  cases A with
  | none =>
    have h0 : r = [] := by
      rcases Nat.eq_zero_or_pos m with h | h
      · exact List.eq_nil_of_length_eq_zero (by omega)
      · obtain ⟨ad, e, _⟩ := hC.2.2 h
        cases e
    subst h0
    obtain rfl : m = 0 := by simpa using hm
    exact ⟨_, W, run_append_rowB_none (P := P) t ty e i h1 h2 hv c, by rw [List.append_nil]; exact hv, Below.refl _ _, fun _ _ _ => rfl⟩
  | some a =>
    subst hm
    have hn : ∀ j u, (nums IntKind.u8 r)[j]? = some u → W.cell? (a.add j) = some u := fun j u hj => by
      obtain ⟨hj2, rfl⟩ := nums_getD r j u hj
      exact C_u8_cell hC rfl j hj2
    have hnl : (nums IntKind.u8 r).length = r.length * 1 := by simp [nums]
    have hone : ∀ u ∈ nums IntKind.u8 r, u.oneCell' = true := fun u hu => by
      obtain ⟨x, _, rfl⟩ := List.mem_map.1 hu
      rfl
    have hv2 := hv
    obtain ⟨g2, cap2, e0, hg, hl, hcs, hvs⟩ := hv2
    injection e0 with e1 e2 e3
    injection e1 with e1
    injection e1 with e1
    subst e1 e3
    by_cases hr : l.length + r.length ≤ cap
    · refine ⟨_, _, run_append_room_cells W t ty e i h1 h2 g 0 l.length cap a r.length c (nums .u8 r) (by rw [hnl, h4]) hn hone hr ?_ ?_, ?_, ?_, ?_⟩
      · intro j hj
        simp only [h4, Nat.zero_add, Nat.mul_one]
        exact (hcs _ (by omega)).1
      · intro j hj
        simp only [h4, Nat.zero_add, Nat.mul_one]
        exact (hcs _ (by omega)).2
      · have := rowB_wrote hv hr
        simpa [h4] using this
      · simpa [h4] using below_setCells (Below.refl B W) g hg (nums .u8 r) _
      · exact fun k hk hne => setCells_other _ _ W g k hne
    · obtain ⟨v', w', hrun, r1, r2⟩ := run_append_arg_grows (P := P) W t ty e i (.int .u8 0) 1 1 h1 h2 h3 h4 h5 rfl (by decide) ⟨g, 0, none⟩ l.length cap (nums .u8 l) (by simp [nums]) (fun j u hj => by
          obtain ⟨hj2, rfl⟩ := nums_getD l j u hj
          rw [add_plain]
          simpa using hvs j hj2) a r.length c (nums .u8 r) hnl hn (by omega) (by unfold maxLen; omega) (by omega)
      have e1 : nums IntKind.u8 l ++ nums IntKind.u8 r = nums .u8 (l ++ r) := by simp [nums]
      rw [e1, ← List.length_append] at r1
      refine ⟨v', w', hrun, own_rowB (own_mono r1 hB) ?_, (Below.refl B W).grown r2 hB (fun k hk => by cases hk), fun k hk _ => r2.block k hk (by simp)⟩
      rintro rfl
      obtain ⟨hx, ⟨_, h0⟩ | ⟨g3, cap3, cur3, e3, _⟩⟩ := r1
      · rw [List.length_append] at h0; omega
      · cases e3
theorem wpList_append_rowB2 {P : Program} {W : World} {B : Nat} {ops : Array Oper} {rest : List Oper} {o : Oper} {ac : Act} {Q : Exit → Act → World → Prop} (hgd : o.guard = none) (s x : Operand) (t e : TypeId) (ho : o.op = .call { callee := .builtin .append, args := #[s, x], argTypes := #[t, t] })
    (h1 : P.underlying t = some (.slice e)) (hi : (P.info? e).map (fun i => (i.zero, i.size, i.bytes)) = some (some (.int .u8 0), 1, 1))
    {g n cap : Nat} {l : List Int} (r : List Int) (hs : ac.eval s = .slice (some ⟨g, 0, none⟩) n cap) (hn0 : n = l.length) (hv : rowB W B (.slice (some ⟨g, 0, none⟩) l.length cap) l) (hB : B ≤ W.heap.size) (A : Option Addr) (m c : Nat) (hx : ac.eval x = .slice A m c) (hC : Kd.C (Kd.int .u8) W A m r) (hfit : l.length + r.length ≤ 140737488355328) (lr : List Int) (hlr : lr = l ++ r)
    (h : ∀ v' w', Aside0 (rowB w' B v' lr) → Aside0 (Below B W w') → Aside0 (∀ k, k < W.heap.size → k ≠ g → w'.heap[k]? = W.heap[k]?) → wpList P ops Q rest (ac.put o.dst v') w') : wpList P ops Q (o :: rest) ac W := by
  subst hlr
  obtain ⟨i, h2, h3⟩ := Option.map_eq_some_iff.1 hi
  simp only [Prod.mk.injEq] at h3
  refine wpList_plain hgd fun K hK => ?_
  obtain ⟨v', w', hr, q1, q2, q3⟩ := run_append_rowB2 (P := P) t o.type e i h1 h2 h3.1 h3.2.1 h3.2.2 hn0 hv hB A m c hC hfit
  unfold Oper.wp execOp
  simp only [ho, resolve, invoke, builtin, Sem.run_bind, Sem.run_pure, Result.andThen_ok, List.map_toArray, List.map_cons, List.map_nil, hs, hx, hr]
  exact hK _ _ (h v' w' ⟨q1⟩ ⟨q2⟩ ⟨q3⟩)
theorem rowB_cell {W : World} {B g n c : Nat} {l : List Int} (h : rowB W B (.slice (some ⟨g, 0, none⟩) n c) l) (j : Nat) (hj : j < l.length) : W.cell? ⟨g, j, none⟩ = some (.int .u8 (l.getD j 0)) := by
  obtain ⟨g2, cap2, e, hg, hl, hc, hv⟩ := h
  injection e with e1 e2 e3
  injection e1 with e1
  injection e1 with e1
  subst e1
  exact hv j hj
theorem bytes_below {w W : World} {B : Nat} (h : Below B w W) (hB : B ≤ W.heap.size) (e : TypeId) (s : ByteArray) : Below B w (Lib.bytesWorld W e s) :=
  ⟨h.os, h.tape, h.output, Nat.le_trans h.size (by rw [Lib.bytesWorld_size]; omega), fun i hi => (Lib.bytesWorld_at_old W e s i (by omega)).trans (h.block i hi)⟩
theorem zeros_getD (n j : Nat) : (List.replicate n (0 : Int)).getD j 0 = 0 := by
  rw [List.getD_eq_getElem?_getD, List.getElem?_replicate]
  split <;> rfl
theorem str_size (l : List Int) : (strOfNums l).size = l.length := by simp [strOfNums, ByteArray.size]
theorem str_extract2 (l : List Int) (n m : Nat) : (strOfNums l).extract n m = strOfNums ((l.take m).drop n) := by
  have h : ∀ x y : ByteArray, x.data = y.data → x = y := fun x y e => by cases x; cases y; cases e; rfl
  apply h
  simp [strOfNums, ByteArray.extract, ByteArray.copySlice, List.map_take, List.map_drop, List.drop_take]
theorem str_extract (l : List Int) (n : Nat) : (strOfNums l).extract 0 n = strOfNums (l.take n) := by
  rw [str_extract2, List.drop_zero]
theorem C_row_int {k : IntKind} {W : World} {g : Nat} {l : List Int} {T : TypeId} {fr : Nat × Nat} (h : W.heap[g]? = some (.cells (nums k l).toArray T fr)) (hm : l.length ≤ 140737488355328) : Kd.C (Kd.int k) W (some ⟨g, 0, none⟩) l.length l := by
  refine ⟨rfl, by show l.length ≤ 9223372036854775807; omega, fun _ => ⟨⟨g, 0, none⟩, rfl, fun j p hj => ?_⟩⟩
  refine ⟨[.int k p], rfl, rfl, fun i u hu => ?_⟩
  match i, hu with
  | 0, hu =>
    obtain rfl : Value.int k p = u := by simpa using hu
    rw [add_plain]
    show W.cell? ⟨g, j * 1 + 0, none⟩ = _
    rw [show j * 1 + 0 = j from by omega]
    rw [show W.cell? ⟨g, j, none⟩ = (nums k l).toArray[j]? from by simp [World.cell?, h]]
    exact nums_at? k l j p hj
theorem word0_is (l : List Int) (i : Nat) (h : 4 * i + 4 ≤ l.length) : (l.take (4 * i + 4)).drop (4 * i) = Aes.word0 l i := by
  apply List.ext_getElem
  · simp [Aes.word0]; omega
  · intro j h1 h2
    have hj : j < 4 := by simpa [Aes.word0] using h2
    have e2 : (Aes.word0 l i).getD j 0 = l.getD (4 * i + j) 0 := by
      match j, hj with
      | 0, _ => rfl
      | 1, _ => rfl
      | 2, _ => rfl
      | 3, _ => rfl
    rw [List.getD_eq_getElem?_getD, List.getElem?_eq_getElem h2, List.getD_eq_getElem?_getD, List.getElem?_eq_getElem (by omega)] at e2
    simp only [Option.getD_some] at e2
    rw [e2]
    simp
theorem ext4 (s : ByteArray) (i : Nat) (h : 4 * i + 4 ≤ s.size) : s.extract (4 * i) (4 * i + 4) = strOfNums (Aes.word0 (bytesL s) i) := by
  conv => lhs; rw [← str_bytesL s]
  rw [str_extract2, word0_is _ _ (by rw [bytesL_length]; exact h)]
theorem C_str_cell {w : World} {A : Option Addr} {n : Nat} {l : List ByteArray} (h : Kd.C Kd.string w A n l) (j : Nat) (hj : j < l.length) : ∃ ad, A = some ad ∧ w.cell? (ad.add j) = some (.string (l.getD j ⟨#[]⟩)) := by
  obtain ⟨a2, c, e, hs, hk, hcell⟩ := Kd.C_get h ⟨#[]⟩ (j : Int) (by omega) (by have := h.1; omega)
  rw [Int.toNat_natCast] at hk hcell
  have hc : c = [Value.string (l.getD j ⟨#[]⟩)] := hk
  rw [hc] at hcell
  have h1 := hcell 0 _ rfl
  have h2 : j * (Kd.string).sz + 0 = j := by show j * 1 + 0 = _; omega
  rw [h2] at h1
  exact ⟨a2, e, h1⟩
theorem C_int_cell {k : IntKind} {w : World} {A : Option Addr} {n : Nat} {l : List Int} (h : Kd.C (Kd.int k) w A n l) (j : Nat) (hj : j < l.length) : ∃ ad, A = some ad ∧ w.cell? (ad.add j) = some (.int k (l.getD j 0)) := by
  obtain ⟨a2, c, e, hs, hk, hcell⟩ := Kd.C_get h 0 (j : Int) (by omega) (by have := h.1; omega)
  rw [Int.toNat_natCast] at hk hcell
  have hc : c = [Value.int k (l.getD j 0)] := hk
  rw [hc] at hcell
  have h1 := hcell 0 _ rfl
  have h2 : j * (Kd.int k).sz + 0 = j := by show j * 1 + 0 = _; omega
  rw [h2] at h1
  exact ⟨a2, e, h1⟩
theorem rowB_set {W : World} {B g n c : Nat} {l : List Int} (h : rowB W B (.slice (some ⟨g, 0, none⟩) n c) l) (j : Nat) (hj : j < l.length) (x : Int) : rowB (W.setCell ⟨g, j, none⟩ (.int .u8 x)) B (.slice (some ⟨g, 0, none⟩) n c) (l.set j x) := by
  obtain ⟨g2, cap, e, hg, hl, hc, hv⟩ := h
  injection e with e1 e2 e3
  injection e1 with e1
  injection e1 with e1
  subst e1 e2 e3
  have hs : W.setCell ⟨g, j, none⟩ (.int .u8 x) = W.setCells g j [.int .u8 x] := rfl
  have hin := World.cell?_setCells_in g [Value.int .u8 x] j W (fun i hi => by
    have hi0 : i = 0 := by simpa using hi
    subst hi0
    exact (hc _ (by omega)).1) 0 (by simp)
  have hout : ∀ i, i ≠ j → (W.setCells g j [.int .u8 x]).cell? ⟨g, i, none⟩ = W.cell? ⟨g, i, none⟩ := fun i hi => World.cell?_setCells_out g [Value.int .u8 x] j W ⟨g, i, none⟩ (fun _ _ => by show i < j ∨ j + 1 ≤ i; omega)
  rw [hs]
  refine ⟨g, c, by rw [List.length_set], hg, by rw [List.length_set]; exact hl, fun i hi => ⟨?_, ?_⟩, fun i hi => ?_⟩
  · by_cases h : i = j
    · subst h
      rw [show (⟨g, i, none⟩ : Addr) = ⟨g, i + 0, none⟩ from rfl, hin]; rfl
    · rw [hout i h]; exact (hc i hi).1
  · rw [World.frozen?_setCells]; exact (hc i hi).2
  · rw [List.length_set] at hi
    by_cases h : i = j
    · subst h
      rw [show (⟨g, i, none⟩ : Addr) = ⟨g, i + 0, none⟩ from rfl, hin]
      simp [List.getD_eq_getElem?_getD, hi]
    · rw [hout i h, hv i hi]
      simp [List.getD_eq_getElem?_getD, List.getElem?_set, Ne.symm h]
theorem rowB_free {W : World} {B g n c : Nat} {l : List Int} (h : rowB W B (.slice (some ⟨g, 0, none⟩) n c) l) (j : Nat) (hj : j < l.length) : W.frozen? ⟨g, j, none⟩ = false := by
  obtain ⟨g2, cap2, e, hg, hl, hc, hv⟩ := h
  injection e with e1 e2 e3
  injection e1 with e1
  injection e1 with e1
  subst e1
  exact (hc j (by omega)).2
theorem rowB_drewN {W : World} {B : Nat} {v : Value} {l : List Int} (h : rowB W B v l) (n : Nat) : rowB (W.drewN n) B v l := h
end Go.Proofs.Ytfbggdlidelliaa.P

-- Laid by a program of this session (wip/prn) over the translation: functions and their contracts. Lean checks it.
import Derived.Test.YtlfpogbonmddmaaPx0
import Derived.Test.YtlfpogbonmddmaaPx2
import Derived.Test.YtlfpogbonmddmaaPx3
namespace Go.Proofs.Ytlfpogbonmddmaa.P
open Go.RowKit Go.Proofs.YtlfpogbonmddmaaW.PrintWords Go.Proofs.YtlfpogbonmddmaaW.PrintLast Go.Proofs.YtlfpogbonmddmaaW.PrintMore
attribute [local go_sem] max2_int min2_int max_two min_two max_three min_three max_four min_four   -- for this text's walks alone
set_option linter.unusedVariables false
set_option linter.unusedSimpArgs false

/-! ### spec_l03Hmac: function 70 -/
-- HAND rounds=0 making=1 info=5
def spec_l03Hmac.f (l0 l1 : List Int) : Option ByteArray := if u8b l0 = true ∧ u8b l1 = true then (if l0.length ≤ 1099511627776 ∧ l1.length ≤ 1073741824 then some (strOfNums (Sha.hmacL l0 l1)) else none) else none
theorem rowB_blk {W : World} {B g : Nat} {l : List Int} {T : TypeId} (h : W.heap[g]? = some (.cells (nums .u8 l).toArray T (0, 0))) (hB : B ≤ g) : rowB W B (.slice (some ⟨g, 0, none⟩) l.length l.length) l := by
  refine ⟨g, l.length, rfl, hB, Nat.le_refl _, fun j hj => ⟨?_, blk_frozen h j⟩, fun j hj => ?_⟩
  · rw [blk_cell h j, Array.getElem?_eq_getElem (by simp [nums]; omega)]; rfl
  · rw [blk_cell h j]
    exact nums_at? _ _ _ _ (by rw [List.getD_eq_getElem?_getD, List.getElem?_eq_getElem hj]; rfl)
theorem setCells_other : ∀ (vs : List Value) (o : Nat) (w : World) (g i : Nat), i ≠ g → (w.setCells g o vs).heap[i]? = w.heap[i]?
  | [], _, _, _, _, _ => rfl
  | v :: vs, o, w, g, i, h => by
    show ((w.setCell ⟨g, o, none⟩ v).setCells g (o + 1) vs).heap[i]? = _
    rw [setCells_other vs (o + 1) _ g i h]
    exact Below.heap_setCell w ⟨g, o, none⟩ v i h
theorem run_append_rowB2 {P : Program} {W : World} {B : Nat} (t ty e : TypeId) (i : TypeInfo) (h1 : P.underlying t = some (.slice e)) (h2 : P.info? e = some i) (h3 : i.zero = some (.int .u8 0)) (h4 : i.size = 1) (h5 : i.bytes = 1)
    {g n cap : Nat} {l r : List Int} (hn0 : n = l.length) (hv : rowB W B (.slice (some ⟨g, 0, none⟩) l.length cap) l) (hB : B ≤ W.heap.size) (A : Option Addr) (m c : Nat) (hC : Kd.C (Kd.int .u8) W A m r) (hfit : l.length + r.length ≤ 140737488355328) :
    ∃ v' w', (Builtin.append_ #[t, t] ty #[.slice (some ⟨g, 0, none⟩) n cap, .slice A m c]).run P W = .ok v' w' ∧ rowB w' B v' (l ++ r) ∧ Below B W w' ∧ ∀ k, k < W.heap.size → k ≠ g → w'.heap[k]? = W.heap[k]? := by
  subst hn0
  have hm : m = r.length := hC.1.symm
  cases A with
  | none =>
    have h0 : r = [] := by
      rcases Nat.eq_zero_or_pos m with h | h
      · exact List.eq_nil_of_length_eq_zero (by omega)
      · obtain ⟨ad, e, _⟩ := hC.2.2 h
        cases e
    subst h0
    obtain rfl : m = 0 := by simpa using hm
    exact ⟨_, W, run_append_rowB_none (P := P) t ty e i h1 h2 hv c, by rw [List.append_nil]; exact hv, Below.refl _ _, fun _ _ _ => rfl⟩
  | some a =>
    subst hm
    have hn : ∀ j u, (nums IntKind.u8 r)[j]? = some u → W.cell? (a.add j) = some u := fun j u hj => by
      obtain ⟨hj2, rfl⟩ := nums_getD r j u hj
      exact C_u8_cell hC rfl j hj2
    have hnl : (nums IntKind.u8 r).length = r.length * 1 := by simp [nums]
    have hone : ∀ u ∈ nums IntKind.u8 r, u.oneCell' = true := fun u hu => by
      obtain ⟨x, _, rfl⟩ := List.mem_map.1 hu
      rfl
    have hv2 := hv
    obtain ⟨g2, cap2, e0, hg, hl, hcs, hvs⟩ := hv2
    injection e0 with e1 e2 e3
    injection e1 with e1
    injection e1 with e1
    subst e1 e3
    by_cases hr : l.length + r.length ≤ cap
    · refine ⟨_, _, run_append_room_cells W t ty e i h1 h2 g 0 l.length cap a r.length c (nums .u8 r) (by rw [hnl, h4]) hn hone hr ?_ ?_, ?_, ?_, ?_⟩
      · intro j hj
        simp only [h4, Nat.zero_add, Nat.mul_one]
        exact (hcs _ (by omega)).1
      · intro j hj
        simp only [h4, Nat.zero_add, Nat.mul_one]
        exact (hcs _ (by omega)).2
      · have := rowB_wrote hv hr
        simpa [h4] using this
      · simpa [h4] using below_setCells (Below.refl B W) g hg (nums .u8 r) _
      · exact fun k hk hne => setCells_other _ _ W g k hne
    · obtain ⟨v', w', hrun, r1, r2⟩ := run_append_arg_grows (P := P) W t ty e i (.int .u8 0) 1 1 h1 h2 h3 h4 h5 rfl (by decide) ⟨g, 0, none⟩ l.length cap (nums .u8 l) (by simp [nums]) (fun j u hj => by
          obtain ⟨hj2, rfl⟩ := nums_getD l j u hj
          rw [add_plain]
          simpa using hvs j hj2) a r.length c (nums .u8 r) hnl hn (by omega) (by unfold maxLen; omega) (by omega)
      have e1 : nums IntKind.u8 l ++ nums IntKind.u8 r = nums .u8 (l ++ r) := by simp [nums]
      rw [e1, ← List.length_append] at r1
      refine ⟨v', w', hrun, own_rowB (own_mono r1 hB) ?_, (Below.refl B W).grown r2 hB (fun k hk => by cases hk), fun k hk _ => r2.block k hk (by simp)⟩
      rintro rfl
      obtain ⟨hx, ⟨_, h0⟩ | ⟨g3, cap3, cur3, e3, _⟩⟩ := r1
      · rw [List.length_append] at h0; omega
      · cases e3
theorem wpList_append_rowB2 {P : Program} {W : World} {B : Nat} {ops : Array Oper} {rest : List Oper} {o : Oper} {ac : Act} {Q : Exit → Act → World → Prop} (hgd : o.guard = none) (s x : Operand) (t e : TypeId) (ho : o.op = .call { callee := .builtin .append, args := #[s, x], argTypes := #[t, t] })
    (h1 : P.underlying t = some (.slice e)) (hi : (P.info? e).map (fun i => (i.zero, i.size, i.bytes)) = some (some (.int .u8 0), 1, 1))
    {g n cap : Nat} {l : List Int} (r : List Int) (hs : ac.eval s = .slice (some ⟨g, 0, none⟩) n cap) (hn0 : n = l.length) (hv : rowB W B (.slice (some ⟨g, 0, none⟩) l.length cap) l) (hB : B ≤ W.heap.size) (A : Option Addr) (m c : Nat) (hx : ac.eval x = .slice A m c) (hC : Kd.C (Kd.int .u8) W A m r) (hfit : l.length + r.length ≤ 140737488355328) (lr : List Int) (hlr : lr = l ++ r)
    (h : ∀ v' w', Aside0 (rowB w' B v' lr) → Aside0 (Below B W w') → Aside0 (∀ k, k < W.heap.size → k ≠ g → w'.heap[k]? = W.heap[k]?) → wpList P ops Q rest (ac.put o.dst v') w') : wpList P ops Q (o :: rest) ac W := by
  subst hlr
  obtain ⟨i, h2, h3⟩ := Option.map_eq_some_iff.1 hi
  simp only [Prod.mk.injEq] at h3
  refine wpList_plain hgd fun K hK => ?_
  obtain ⟨v', w', hr, q1, q2, q3⟩ := run_append_rowB2 (P := P) t o.type e i h1 h2 h3.1 h3.2.1 h3.2.2 hn0 hv hB A m c hC hfit
  unfold Oper.wp execOp
  simp only [ho, resolve, invoke, builtin, Sem.run_bind, Sem.run_pure, Result.andThen_ok, List.map_toArray, List.map_cons, List.map_nil, hs, hx, hr]
  exact hK _ _ (h v' w' ⟨q1⟩ ⟨q2⟩ ⟨q3⟩)
theorem maskL_length (key : List Int) (m : Int) : (Sha.maskL key m).length = 64 := by simp [Sha.maskL]
theorem maskL_at (key : List Int) (m : Int) (j : Nat) (hj : j < 64) : (Sha.maskL key m).getD j 0 = Go.bits .xor .u8 (key.getD j 0) m := by
  simp [Sha.maskL, List.getD_eq_getElem?_getD, hj]
theorem u8ok_four (n : Int) : u8ok (Sha.four n) := fun x hx => by
  simp only [Sha.four, List.mem_cons, List.not_mem_nil, or_false] at hx
  omega
theorem u8ok_shaL (l : List Int) : u8ok (Sha.shaL l) := fun x hx => by
  obtain ⟨y, _, h⟩ := List.mem_flatMap.1 hx
  exact u8ok_four y x h
theorem shaL_length (l : List Int) : (Sha.shaL l).length = 32 := by simp [Sha.shaL, Sha.four, Sha.V8.l]
theorem rowB_cell {W : World} {B g n c : Nat} {l : List Int} (h : rowB W B (.slice (some ⟨g, 0, none⟩) n c) l) (j : Nat) (hj : j < l.length) : W.cell? ⟨g, j, none⟩ = some (.int .u8 (l.getD j 0)) := by
  obtain ⟨g2, cap2, e, hg, hl, hc, hv⟩ := h
  injection e with e1 e2 e3
  injection e1 with e1
  injection e1 with e1
  subst e1
  exact hv j hj
theorem bytes_below {w W : World} {B : Nat} (h : Below B w W) (hB : B ≤ W.heap.size) (e : TypeId) (s : ByteArray) : Below B w (Lib.bytesWorld W e s) := conv_below w W e s h hB
theorem zeros_getD (n j : Nat) : (List.replicate n (0 : Int)).getD j 0 = 0 := by
  rw [List.getD_eq_getElem?_getD, List.getElem?_replicate]
  split <;> rfl
theorem u8ok_hkey {l : List Int} (h : u8ok l) : u8ok (Sha.hkey l) := by
  unfold Sha.hkey
  split
  · exact u8ok_shaL l
  · exact h
theorem bits_u8 (x m : Int) (hx : 0 ≤ x ∧ x ≤ 255) (hm : m = 54 ∨ m = 92) : 0 ≤ Go.bits .xor .u8 x m ∧ Go.bits .xor .u8 x m ≤ 255 := by
  have h1 : ∀ n : Fin 256, 0 ≤ Go.bits .xor .u8 ((n.val : Nat) : Int) 54 ∧ Go.bits .xor .u8 ((n.val : Nat) : Int) 54 ≤ 255 := by decide +kernel
  have h2 : ∀ n : Fin 256, 0 ≤ Go.bits .xor .u8 ((n.val : Nat) : Int) 92 ∧ Go.bits .xor .u8 ((n.val : Nat) : Int) 92 ≤ 255 := by decide +kernel
  have e : ((⟨x.toNat, by omega⟩ : Fin 256).val : Int) = x := by simp; omega
  rcases hm with rfl | rfl
  · have := h1 ⟨x.toNat, by omega⟩
    rwa [e] at this
  · have := h2 ⟨x.toNat, by omega⟩
    rwa [e] at this
theorem u8ok_mask (l : List Int) (m : Int) (hm : m = 54 ∨ m = 92) (h : u8ok l) : u8ok (Sha.maskL l m) := fun x hx => by
  simp only [Sha.maskL, List.mem_map] at hx
  obtain ⟨i, _, rfl⟩ := hx
  refine bits_u8 _ _ ?_ hm
  rw [List.getD_eq_getElem?_getD]
  cases e : l[i]? with
  | none => exact ⟨by decide, by decide⟩
  | some y => exact h y (List.mem_of_getElem? e)
set_option maxHeartbeats 8000000 in
set_option maxRecDepth 100000 in
theorem spec_l03Hmac_in (A0 : Option Addr) (c0 : Nat) (l0 : List Int) (A1 : Option Addr) (c1 : Nat) (l1 : List Int) (w0 : World) (hr0 : Kd.C (Kd.int .u8) w0 A0 l0.length l0) (hc0 : l0.length ≤ c0) (hr1 : Kd.C (Kd.int .u8) w0 A1 l1.length l1) (hc1 : l1.length ≤ c1) (hu0 : u8ok l0) (hu1 : u8ok l1) (hl0 : l0.length ≤ 1099511627776) (hl1 : l1.length ≤ 1073741824) :
    Calls Try.prog 70 #[.slice A0 l0.length c0, .slice A1 l1.length c1] w0 fun e w' => e = .returned (.string (strOfNums (Sha.hmacL l0 l1))) ∧ Below w0.heap.size w0 w' := by
  have HR1 := Aside0.mk hr1
  have HU1 := Aside0.mk hu1
  have HL1 := Aside0.mk hl1
  have kmk : ∀ V : World, (Instr.makeSlice 22 (.int .i64 64) (.int .i64 64)).run Try.prog V = .ok (.slice (some ⟨V.heap.size, 0, none⟩) 64 64) (V.alloc (.cells (nums .u8 (List.replicate 64 0)).toArray 5)) := fun V => run_make_nums (m := 64) Try.underlying22 (.inl (by kernel_rfl)) (by decide) V
  obtain ⟨MI, hMI⟩ : ∃ M, M = Sha.maskL (Sha.hkey l0) 54 := ⟨_, rfl⟩
  obtain ⟨MO, hMO⟩ : ∃ M, M = Sha.maskL (Sha.hkey l0) 92 := ⟨_, rfl⟩
  have HMac : Aside0 (Sha.hmacL l0 l1 = Sha.shaL (MO ++ Sha.shaL (MI ++ l1))) := ⟨by rw [hMI, hMO]; rfl⟩
  have HMI : Aside0 (MI.length = 64) := ⟨by rw [hMI, maskL_length]⟩
  have HMO : Aside0 (MO.length = 64) := ⟨by rw [hMO, maskL_length]⟩
  have HMIu : Aside0 (u8ok MI) := ⟨by rw [hMI]; exact u8ok_mask _ _ (by simp) (u8ok_hkey hu0)⟩
  have HMOu : Aside0 (u8ok MO) := ⟨by rw [hMO]; exact u8ok_mask _ _ (by simp) (u8ok_hkey hu0)⟩
  have HIat : Aside0 (∀ j, j < 64 → MI.getD j 0 = Go.bits .xor .u8 ((Sha.hkey l0).getD j 0) 54) := ⟨fun j hj => by rw [hMI]; exact maskL_at _ _ j hj⟩
  have HOat : Aside0 (∀ j, j < 64 → MO.getD j 0 = Go.bits .xor .u8 ((Sha.hkey l0).getD j 0) 92) := ⟨fun j hj => by rw [hMO]; exact maskL_at _ _ j hj⟩
  clear hr1 hu1 hl1 hc1 hMI hMO
  by_cases hlong : 64 < l0.length
  · have hd : decide ((l0.length : Int) > 64) = true := decide_eq_true (by omega)
    have HK0 : Aside0 (Sha.hkey l0 = Sha.shaL l0) := ⟨by rw [Sha.hkey, if_pos hlong]⟩
    go_enter Try.func70, Try.ntmps70
    go_wp2_with fail
    refine (spec_l03Hash_in A0 c0 l0 w0 hr0 hc0 hu0 hl0).mono ?_
    rintro e w1 ⟨rfl, hb1⟩
    have kc := Lib.run_convert_string_bytes (P := Try.prog) w1 9 22 5 (strOfNums (Sha.shaL l0)) Try.underlying9 Try.underlying22 Try.underlying5
    have HRB := Aside0.mk (conv_rowB w1 w1.heap.size 5 (strOfNums (Sha.shaL l0)) (Nat.le_refl _))
    have HBW : Aside0 (Below w0.heap.size w0 (Lib.bytesWorld w1 5 (strOfNums (Sha.shaL l0)))) := ⟨bytes_below hb1 hb1.size _ _⟩
    have HSW : Aside0 (w0.heap.size ≤ (Lib.bytesWorld w1 5 (strOfNums (Sha.shaL l0))).heap.size) := ⟨by rw [Lib.bytesWorld_size]; have := hb1.size; omega⟩
    generalize hW1 : Lib.bytesWorld w1 5 (strOfNums (Sha.shaL l0)) = W1 at *
    clear hW1
    obtain ⟨cK, hcK⟩ : ∃ c, c = grownCap w1 (strOfNums (Sha.shaL l0)).size 0 5 := ⟨_, rfl⟩
    rw [← hcK] at kc HRB
    have hsz : (strOfNums (Sha.shaL l0)).size = 32 := by rw [← bytesL_length, bytesL_str _ (u8ok_shaL l0), shaL_length]
    rw [hsz] at kc HRB
    rw [bytesL_str _ (u8ok_shaL l0)] at HRB
    generalize w1.heap.size = gk at kc HRB
    clear hcK hsz hr0 hu0 hl0 hlong hb1
    go_wp2
    clear kc
    go_loopw [7] (fun i wr => ∃ j : Nat, j ≤ 64 ∧ i = .int .i64 (j : Int) ∧ Aside0 (wr.heap[W1.heap.size]? = some (.cells (nums .u8 (MI.take j ++ (List.replicate 64 (0 : Int)).drop j)).toArray 5)) ∧ Aside0 (wr.heap[W1.heap.size + 1]? = some (.cells (nums .u8 (MO.take j ++ (List.replicate 64 (0 : Int)).drop j)).toArray 5)) ∧ Aside0 (Below W1.heap.size W1 wr) ∧ Aside0 (W1.heap.size + 2 ≤ wr.heap.size)) (fun i _ => 64 - (intOf i).toNat)
    case atStart => exact ⟨0, by omega, rfl, ⟨blk_alloc (blk_new W1 _) _⟩, ⟨blk_newB W1 _ _⟩, ⟨below_alloc (below_alloc (Below.refl _ _) _) _⟩, ⟨by simp⟩⟩
    case round =>
      clear kmk
      obtain ⟨j, hj, rfl, G1, G2, HB, HS⟩ := hrel
      by_cases hlt : j < 64
      · have j0 : (0 : Int) ≤ (j : Int) := Int.natCast_nonneg j
        have j1 : (j : Int) < 64 := by omega
        have hd1 : decide ((j : Int) < 64) = true := decide_eq_true j1
        have cI : wr.cell? ⟨W1.heap.size, j, none⟩ = some (.int .u8 0) := by
          rw [blk_cell G1.out j]
          exact nums_at? _ _ _ _ (by rw [td_at MI _ (by rw [HMI.out]; rfl) j (by rw [HMI.out]; exact hlt)]; rw [zeros_getD])
        have cO : wr.cell? ⟨W1.heap.size + 1, j, none⟩ = some (.int .u8 0) := by
          rw [blk_cell G2.out j]
          exact nums_at? _ _ _ _ (by rw [td_at MO _ (by rw [HMO.out]; rfl) j (by rw [HMO.out]; exact hlt)]; rw [zeros_getD])
        have zI := blk_frozen G1.out j
        have zO := blk_frozen G2.out j
        have TI := Aside0.mk (td_set MI (List.replicate 64 (0 : Int)) (by rw [HMI.out]; rfl) j (by rw [HMI.out]; exact hlt))
        have TO := Aside0.mk (td_set MO (List.replicate 64 (0 : Int)) (by rw [HMO.out]; rfl) j (by rw [HMO.out]; exact hlt))
        have hne : W1.heap.size ≠ W1.heap.size + 1 := by omega
        by_cases hk : j < 32
        · have hdk : decide ((j : Int) < (32 : Int)) = true := decide_eq_true (by omega)
          obtain ⟨x, hx⟩ : ∃ x, x = (Sha.shaL l0).getD j 0 := ⟨_, rfl⟩
          have cK : wr.cell? ⟨gk, j, none⟩ = some (.int .u8 x) := by rw [hx]; exact rowB_cell (rowB_below HRB.out HB.out) j (by rw [shaL_length]; exact hk)
          have HX : Aside0 ((Sha.hkey l0).getD j 0 = x) := ⟨by rw [HK0.out, hx]⟩
          clear hx
          go_wp2
          go_roundw
          case rel =>
            refine ⟨j + 1, by omega, by go_num, ⟨?_⟩, ⟨?_⟩, ⟨below_set (below_set HB.out (Nat.le_refl _)) (Nat.le_succ _)⟩, ⟨by have := HS.out; simpa using this⟩⟩
            · rw [← TI.out, HIat.out j hlt, HX.out, ← nums_set]
              exact blk_far (blk_set G1.out j _) hne _
            · rw [← TO.out, HOat.out j hlt, HX.out, ← nums_set]
              exact blk_set (blk_far G2.out (Ne.symm hne) _) j _
          case measure => simp [intOf]; omega
        · have hdk : decide ((j : Int) < (32 : Int)) = false := decide_eq_false (by omega)
          have HX : Aside0 ((Sha.hkey l0).getD j 0 = 0) := ⟨by rw [HK0.out, List.getD_eq_getElem?_getD, List.getElem?_eq_none (by rw [shaL_length]; omega)]; rfl⟩
          go_wp2
          go_roundw
          case rel =>
            refine ⟨j + 1, by omega, by go_num, ⟨?_⟩, ⟨?_⟩, ⟨below_set (below_set HB.out (Nat.le_refl _)) (Nat.le_succ _)⟩, ⟨by have := HS.out; simpa using this⟩⟩
            · rw [← TI.out, HIat.out j hlt, HX.out, ← nums_set]
              exact blk_far (blk_set G1.out j _) hne _
            · rw [← TO.out, HOat.out j hlt, HX.out, ← nums_set]
              exact blk_set (blk_far G2.out (Ne.symm hne) _) j _
          case measure => simp [intOf]; omega
      · have hd1 : decide ((j : Int) < 64) = false := decide_eq_false (by omega)
        have eI : MI.take j ++ (List.replicate 64 (0 : Int)).drop j = MI := by
          rw [List.take_of_length_le (by rw [HMI.out]; omega), List.drop_eq_nil_of_le (by rw [List.length_replicate]; omega), List.append_nil]
        have eO : MO.take j ++ (List.replicate 64 (0 : Int)).drop j = MO := by
          rw [List.take_of_length_le (by rw [HMO.out]; omega), List.drop_eq_nil_of_le (by rw [List.length_replicate]; omega), List.append_nil]
        rw [eI] at G1
        rw [eO] at G2
        clear eI eO
        have HRI : Aside0 (rowB wr W1.heap.size (.slice (some ⟨W1.heap.size, 0, none⟩) MI.length 64) MI) := ⟨by have h := rowB_blk (B := W1.heap.size) G1.out (Nat.le_refl _); rw [HMI.out] at h; rw [HMI.out]; exact h⟩
        have HC1 : Aside0 (Kd.C (Kd.int .u8) wr A1 l1.length l1) := ⟨Kd.C_below HR1.out (HBW.out.trans (HB.out.mono HSW.out))⟩
        obtain ⟨lI, hlI⟩ : ∃ L, L = MI ++ l1 := ⟨_, rfl⟩
        have HLI := Aside0.mk hlI
        have HUI : Aside0 (u8ok lI) := ⟨by rw [hlI]; exact u8ok_append HMIu.out HU1.out⟩
        have HLIl : Aside0 (lI.length ≤ 1099511627776) := ⟨by rw [hlI, List.length_append, HMI.out]; have := HL1.out; omega⟩
        clear hlI
        go_wp2_with ((with_reducible refine gate_dst (N := 42) rfl ?_); refine wpList_append_rowB2 (by rfl) (.tmp 40) (.tmp 41) 22 5 (by rfl) Try.underlying22 info5 (B := W1.heap.size) (n := 64) (l := MI) l1 (by rfl) HMI.out.symm HRI.out (by have := HS.out; omega) A1 l1.length c1 (by rfl) HC1.out (by have := HMI.out; have := HL1.out; omega) lI HLI.out ?_; intro v2 w2 K1 K2 K3; obtain ⟨g2, c2, rfl, hc2⟩ := rowB_form K1.out)
        refine (spec_l03Hash_in (some ⟨g2, 0, none⟩) c2 lI w2 (rowB_C K1.out (by have := HLIl.out; omega)) hc2 HUI.out HLIl.out).mono ?_
        rintro e w3 ⟨rfl, hb3⟩
        have HB3 : Aside0 (Below W1.heap.size W1 w3) := ⟨(HB.out.trans (K2.out.mono (by have := HS.out; omega))).trans (hb3.mono (Nat.le_trans (Nat.le_trans (by have := HS.out; omega) K2.out.size) (Nat.le_refl _)))⟩
        have HS3 : Aside0 (W1.heap.size + 2 ≤ w3.heap.size) := ⟨by have h1 := HS.out; have h2 := K2.out.size; have h3 := hb3.size; omega⟩
        have G3 : Aside0 (w3.heap[W1.heap.size + 1]? = some (.cells (nums .u8 MO).toArray 5)) := ⟨(hb3.block _ (by have h1 := HS.out; have h2 := K2.out.size; omega)).trans ((K3.out _ (by have h1 := HS.out; omega) (by omega)).trans G2.out)⟩
        have HRO : Aside0 (rowB w3 W1.heap.size (.slice (some ⟨W1.heap.size + 1, 0, none⟩) 64 64) MO) := ⟨by have h := rowB_blk (B := W1.heap.size) G3.out (Nat.le_succ _); rw [HMO.out] at h; exact h⟩
        obtain ⟨lO, hlO⟩ : ∃ L, L = MO ++ bytesL (strOfNums (Sha.shaL lI)) := ⟨_, rfl⟩
        have HLO := Aside0.mk hlO
        have eO : lO = MO ++ Sha.shaL lI := by rw [hlO, bytesL_str _ (u8ok_shaL lI)]
        have HUO : Aside0 (u8ok lO) := ⟨by rw [eO]; exact u8ok_append HMOu.out (u8ok_shaL lI)⟩
        have HLOl : Aside0 (lO.length ≤ 1099511627776) := ⟨by rw [eO, List.length_append, HMO.out, shaL_length]; decide⟩
        have HSZ : Aside0 ((strOfNums (Sha.shaL lI)).size = 32) := ⟨by rw [← bytesL_length, bytesL_str _ (u8ok_shaL lI), shaL_length]⟩
        have HFIN : Aside0 (Sha.hmacL l0 l1 = Sha.shaL lO) := ⟨by rw [HMac.out, eO, HLI.out]⟩
        clear hlO eO hb3 K1 K2 K3 G1 G2 HB HS
        go_wp2_with ((with_reducible refine gate_dst (N := 44) rfl ?_); refine wpList_append_rowB_string (by rfl) (.tmp 39) (.tmp 43) 22 9 5 (by rfl) Try.underlying22 Try.underlying9 info5 (strOfNums (Sha.shaL lI)) (by rfl) HRO.out HB3.out (by have := HS3.out; omega) (by rfl) (by have := HMO.out; have := HSZ.out; omega) lO HLO.out ?_; intro v4 w4 K1 K2 K3; obtain ⟨g4, c4, rfl, hc4⟩ := rowB_form K1.out)
        refine (spec_l03Hash_in (some ⟨g4, 0, none⟩) c4 lO w4 (rowB_C K1.out (by have := HLOl.out; omega)) hc4 HUO.out HLOl.out).mono ?_
        rintro e w5 ⟨rfl, hb5⟩
        have HB5 : Aside0 (Below w0.heap.size w0 w5) := ⟨HBW.out.trans ((K2.out.trans (hb5.mono K3.out)).mono HSW.out)⟩
        clear hb5
        go_wp2
        go_ret
        exact ⟨congrArg (fun l => Ending.returned (.string (strOfNums l))) HFIN.out.symm, HB5.out⟩
  · have hd : decide ((l0.length : Int) > 64) = false := decide_eq_false (by omega)
    have HK0 : Aside0 (Sha.hkey l0 = l0) := ⟨by rw [Sha.hkey, if_neg hlong]⟩
    have HR0 := Aside0.mk hr0
    have HU0 := Aside0.mk hu0
    have hl64 : l0.length ≤ 64 := by omega
    clear hr0 hu0 hl0 hlong
    go_enter Try.func70, Try.ntmps70
    go_wp2
    go_loopw [7] (fun i wr => ∃ j : Nat, j ≤ 64 ∧ i = .int .i64 (j : Int) ∧ Aside0 (wr.heap[w0.heap.size]? = some (.cells (nums .u8 (MI.take j ++ (List.replicate 64 (0 : Int)).drop j)).toArray 5)) ∧ Aside0 (wr.heap[w0.heap.size + 1]? = some (.cells (nums .u8 (MO.take j ++ (List.replicate 64 (0 : Int)).drop j)).toArray 5)) ∧ Aside0 (Below w0.heap.size w0 wr) ∧ Aside0 (w0.heap.size + 2 ≤ wr.heap.size)) (fun i _ => 64 - (intOf i).toNat)
    case atStart => exact ⟨0, by omega, rfl, ⟨blk_alloc (blk_new w0 _) _⟩, ⟨blk_newB w0 _ _⟩, ⟨below_alloc (below_alloc (Below.refl _ _) _) _⟩, ⟨by simp⟩⟩
    case round =>
      clear kmk
      obtain ⟨j, hj, rfl, G1, G2, HB, HS⟩ := hrel
      by_cases hlt : j < 64
      · have j0 : (0 : Int) ≤ (j : Int) := Int.natCast_nonneg j
        have j1 : (j : Int) < 64 := by omega
        have hd1 : decide ((j : Int) < 64) = true := decide_eq_true j1
        have cI : wr.cell? ⟨w0.heap.size, j, none⟩ = some (.int .u8 0) := by
          rw [blk_cell G1.out j]
          exact nums_at? _ _ _ _ (by rw [td_at MI _ (by rw [HMI.out]; rfl) j (by rw [HMI.out]; exact hlt)]; rw [zeros_getD])
        have cO : wr.cell? ⟨w0.heap.size + 1, j, none⟩ = some (.int .u8 0) := by
          rw [blk_cell G2.out j]
          exact nums_at? _ _ _ _ (by rw [td_at MO _ (by rw [HMO.out]; rfl) j (by rw [HMO.out]; exact hlt)]; rw [zeros_getD])
        have zI := blk_frozen G1.out j
        have zO := blk_frozen G2.out j
        have TI := Aside0.mk (td_set MI (List.replicate 64 (0 : Int)) (by rw [HMI.out]; rfl) j (by rw [HMI.out]; exact hlt))
        have TO := Aside0.mk (td_set MO (List.replicate 64 (0 : Int)) (by rw [HMO.out]; rfl) j (by rw [HMO.out]; exact hlt))
        have hne : w0.heap.size ≠ w0.heap.size + 1 := by omega
        by_cases hk : j < l0.length
        · have hdk : decide ((j : Int) < (l0.length : Int)) = true := decide_eq_true (by omega)
          obtain ⟨ad, rfl⟩ : ∃ ad, A0 = some ad := by obtain ⟨ad, e, _⟩ := HR0.out.2.2 (by omega); exact ⟨ad, e⟩
          obtain ⟨x, hx⟩ : ∃ x, x = l0.getD j 0 := ⟨_, rfl⟩
          have cK : wr.cell? (ad.add j) = some (.int .u8 x) := by rw [hx]; exact C_u8_cell (Kd.C_below HR0.out HB.out) rfl j hk
          have HX : Aside0 ((Sha.hkey l0).getD j 0 = x) := ⟨by rw [HK0.out, hx]⟩
          clear hx
          go_wp2
          go_roundw
          case rel =>
            refine ⟨j + 1, by omega, by go_num, ⟨?_⟩, ⟨?_⟩, ⟨below_set (below_set HB.out (Nat.le_refl _)) (Nat.le_succ _)⟩, ⟨by have := HS.out; simpa using this⟩⟩
            · rw [← TI.out, HIat.out j hlt, HX.out, ← nums_set]
              exact blk_far (blk_set G1.out j _) hne _
            · rw [← TO.out, HOat.out j hlt, HX.out, ← nums_set]
              exact blk_set (blk_far G2.out (Ne.symm hne) _) j _
          case measure => simp [intOf]; omega
        · have hdk : decide ((j : Int) < (l0.length : Int)) = false := decide_eq_false (by omega)
          have HX : Aside0 ((Sha.hkey l0).getD j 0 = 0) := ⟨by rw [HK0.out, List.getD_eq_getElem?_getD, List.getElem?_eq_none (by omega)]; rfl⟩
          go_wp2
          go_roundw
          case rel =>
            refine ⟨j + 1, by omega, by go_num, ⟨?_⟩, ⟨?_⟩, ⟨below_set (below_set HB.out (Nat.le_refl _)) (Nat.le_succ _)⟩, ⟨by have := HS.out; simpa using this⟩⟩
            · rw [← TI.out, HIat.out j hlt, HX.out, ← nums_set]
              exact blk_far (blk_set G1.out j _) hne _
            · rw [← TO.out, HOat.out j hlt, HX.out, ← nums_set]
              exact blk_set (blk_far G2.out (Ne.symm hne) _) j _
          case measure => simp [intOf]; omega
      · have hd1 : decide ((j : Int) < 64) = false := decide_eq_false (by omega)
        have eI : MI.take j ++ (List.replicate 64 (0 : Int)).drop j = MI := by
          rw [List.take_of_length_le (by rw [HMI.out]; omega), List.drop_eq_nil_of_le (by rw [List.length_replicate]; omega), List.append_nil]
        have eO : MO.take j ++ (List.replicate 64 (0 : Int)).drop j = MO := by
          rw [List.take_of_length_le (by rw [HMO.out]; omega), List.drop_eq_nil_of_le (by rw [List.length_replicate]; omega), List.append_nil]
        rw [eI] at G1
        rw [eO] at G2
        clear eI eO
        have HRI : Aside0 (rowB wr w0.heap.size (.slice (some ⟨w0.heap.size, 0, none⟩) MI.length 64) MI) := ⟨by have h := rowB_blk (B := w0.heap.size) G1.out (Nat.le_refl _); rw [HMI.out] at h; rw [HMI.out]; exact h⟩
        have HC1 : Aside0 (Kd.C (Kd.int .u8) wr A1 l1.length l1) := ⟨Kd.C_below HR1.out HB.out⟩
        obtain ⟨lI, hlI⟩ : ∃ L, L = MI ++ l1 := ⟨_, rfl⟩
        have HLI := Aside0.mk hlI
        have HUI : Aside0 (u8ok lI) := ⟨by rw [hlI]; exact u8ok_append HMIu.out HU1.out⟩
        have HLIl : Aside0 (lI.length ≤ 1099511627776) := ⟨by rw [hlI, List.length_append, HMI.out]; have := HL1.out; omega⟩
        clear hlI
        go_wp2_with ((with_reducible refine gate_dst (N := 42) rfl ?_); refine wpList_append_rowB2 (by rfl) (.tmp 40) (.tmp 41) 22 5 (by rfl) Try.underlying22 info5 (B := w0.heap.size) (n := 64) (l := MI) l1 (by rfl) HMI.out.symm HRI.out (by have := HS.out; omega) A1 l1.length c1 (by rfl) HC1.out (by have := HMI.out; have := HL1.out; omega) lI HLI.out ?_; intro v2 w2 K1 K2 K3; obtain ⟨g2, c2, rfl, hc2⟩ := rowB_form K1.out)
        refine (spec_l03Hash_in (some ⟨g2, 0, none⟩) c2 lI w2 (rowB_C K1.out (by have := HLIl.out; omega)) hc2 HUI.out HLIl.out).mono ?_
        rintro e w3 ⟨rfl, hb3⟩
        have HB3 : Aside0 (Below w0.heap.size w0 w3) := ⟨(HB.out.trans (K2.out.mono (by have := HS.out; omega))).trans (hb3.mono (Nat.le_trans (Nat.le_trans (by have := HS.out; omega) K2.out.size) (Nat.le_refl _)))⟩
        have HS3 : Aside0 (w0.heap.size + 2 ≤ w3.heap.size) := ⟨by have h1 := HS.out; have h2 := K2.out.size; have h3 := hb3.size; omega⟩
        have G3 : Aside0 (w3.heap[w0.heap.size + 1]? = some (.cells (nums .u8 MO).toArray 5)) := ⟨(hb3.block _ (by have h1 := HS.out; have h2 := K2.out.size; omega)).trans ((K3.out _ (by have h1 := HS.out; omega) (by omega)).trans G2.out)⟩
        have HRO : Aside0 (rowB w3 w0.heap.size (.slice (some ⟨w0.heap.size + 1, 0, none⟩) 64 64) MO) := ⟨by have h := rowB_blk (B := w0.heap.size) G3.out (Nat.le_succ _); rw [HMO.out] at h; exact h⟩
        obtain ⟨lO, hlO⟩ : ∃ L, L = MO ++ bytesL (strOfNums (Sha.shaL lI)) := ⟨_, rfl⟩
        have HLO := Aside0.mk hlO
        have eO : lO = MO ++ Sha.shaL lI := by rw [hlO, bytesL_str _ (u8ok_shaL lI)]
        have HUO : Aside0 (u8ok lO) := ⟨by rw [eO]; exact u8ok_append HMOu.out (u8ok_shaL lI)⟩
        have HLOl : Aside0 (lO.length ≤ 1099511627776) := ⟨by rw [eO, List.length_append, HMO.out, shaL_length]; decide⟩
        have HSZ : Aside0 ((strOfNums (Sha.shaL lI)).size = 32) := ⟨by rw [← bytesL_length, bytesL_str _ (u8ok_shaL lI), shaL_length]⟩
        have HFIN : Aside0 (Sha.hmacL l0 l1 = Sha.shaL lO) := ⟨by rw [HMac.out, eO, HLI.out]⟩
        clear hlO eO hb3 K1 K2 K3 G1 G2 HB HS
        go_wp2_with ((with_reducible refine gate_dst (N := 44) rfl ?_); refine wpList_append_rowB_string (by rfl) (.tmp 39) (.tmp 43) 22 9 5 (by rfl) Try.underlying22 Try.underlying9 info5 (strOfNums (Sha.shaL lI)) (by rfl) HRO.out HB3.out (by have := HS3.out; omega) (by rfl) (by have := HMO.out; have := HSZ.out; omega) lO HLO.out ?_; intro v4 w4 K1 K2 K3; obtain ⟨g4, c4, rfl, hc4⟩ := rowB_form K1.out)
        refine (spec_l03Hash_in (some ⟨g4, 0, none⟩) c4 lO w4 (rowB_C K1.out (by have := HLOl.out; omega)) hc4 HUO.out HLOl.out).mono ?_
        rintro e w5 ⟨rfl, hb5⟩
        have HB5 : Aside0 (Below w0.heap.size w0 w5) := ⟨K2.out.trans (hb5.mono K3.out)⟩
        clear hb5
        go_wp2
        go_ret
        exact ⟨congrArg (fun l => Ending.returned (.string (strOfNums l))) HFIN.out.symm, HB5.out⟩
theorem spec_l03Hmac.calls (A0 : Option Addr) (c0 : Nat) (l0 : List Int) (A1 : Option Addr) (c1 : Nat) (l1 : List Int) (r : ByteArray) (w : World) (hr0 : Kd.C (Kd.int .u8) w A0 l0.length l0) (hc0 : l0.length ≤ c0) (hr1 : Kd.C (Kd.int .u8) w A1 l1.length l1) (hc1 : l1.length ≤ c1) (h : spec_l03Hmac.f l0 l1 = some r) :
    Calls Try.prog 70 #[.slice A0 l0.length c0, .slice A1 l1.length c1] w fun e w' => e = .returned (.string r) ∧ Below w.heap.size w w' := by
  unfold spec_l03Hmac.f at h
  split at h
  · rename_i h1
    split at h
    · rename_i h2
      injection h with h
      subst h
      exact spec_l03Hmac_in A0 c0 l0 A1 c1 l1 w hr0 hc0 hr1 hc1 (u8b_ok h1.1) (u8b_ok h1.2) h2.1 h2.2
    · cases h
  · cases h

/-! ### spec_l03Expand: function 72 -/
-- HAND rounds=0 making=1 info=5
def spec_l03Expand.f (s0 : ByteArray) (l1 : List Int) (n : Int) : Option ByteArray := if u8b l1 = true then (if s0.size ≤ 1048576 ∧ l1.length ≤ 1048576 ∧ 0 ≤ n ∧ n ≤ 8160 then some (strOfNums (Sha.expandL (bytesL s0) l1 n.toNat)) else none) else none
theorem hmacL_length (a b : List Int) : (Sha.hmacL a b).length = 32 := shaL_length _
theorem u8ok_hmacL (a b : List Int) : u8ok (Sha.hmacL a b) := u8ok_shaL _
theorem exp_len (K info : List Int) (j : Nat) : (Sha.exp K info j).1.length = 32 * j := by
  induction j with
  | zero => rfl
  | succ j ih =>
    simp only [Sha.exp]
    rw [List.length_append, ih, hmacL_length]; omega
theorem exp_last (K info : List Int) (j : Nat) : (Sha.exp K info j).2.length ≤ 32 := by
  cases j with
  | zero => show 0 ≤ 32; decide
  | succ j =>
    simp only [Sha.exp]
    rw [hmacL_length]; exact Nat.le_refl _
theorem exp_u8 (K info : List Int) (j : Nat) : u8ok (Sha.exp K info j).1 ∧ u8ok (Sha.exp K info j).2 := by
  induction j with
  | zero => exact ⟨fun x hx => (by cases hx), fun x hx => (by cases hx)⟩
  | succ j ih =>
    simp only [Sha.exp]
    exact ⟨u8ok_append ih.1 (u8ok_hmacL _ _), u8ok_hmacL _ _⟩
theorem exp_more (K info : List Int) (j d : Nat) : ∃ r, (Sha.exp K info (j + d)).1 = (Sha.exp K info j).1 ++ r := by
  induction d with
  | zero => exact ⟨[], (List.append_nil _).symm⟩
  | succ d ih =>
    obtain ⟨r, hr⟩ := ih
    refine ⟨r ++ Sha.hmacL K ((Sha.exp K info (j + d)).2 ++ info ++ [((j + d + 1 : Nat) : Int) % 256]), ?_⟩
    rw [← List.append_assoc, ← hr]
    rfl
theorem exp_take (K info : List Int) (n j : Nat) (h : n ≤ 32 * j) (hj : j ≤ n + 31) : Sha.expandL K info n = (Sha.exp K info j).1.take n := by
  obtain ⟨r, hr⟩ := exp_more K info j (n + 31 - j)
  rw [show j + (n + 31 - j) = n + 31 from by omega] at hr
  rw [Sha.expandL, hr, List.take_append_of_le_length (by rw [exp_len]; exact h)]
theorem str_extract (l : List Int) (n : Nat) : (strOfNums l).extract 0 n = strOfNums (l.take n) := by
  have h : ∀ x y : ByteArray, x.data = y.data → x = y := fun x y e => by cases x; cases y; cases e; rfl
  apply h
  simp [strOfNums, ByteArray.extract, ByteArray.copySlice, List.map_take]
theorem str_size (l : List Int) : (strOfNums l).size = l.length := by simp [strOfNums, ByteArray.size]
set_option maxHeartbeats 8000000 in
set_option maxRecDepth 100000 in
theorem spec_l03Expand_in (s0 : ByteArray) (A1 : Option Addr) (c1 : Nat) (l1 : List Int) (N : Nat) (w0 : World) (hr1 : Kd.C (Kd.int .u8) w0 A1 l1.length l1) (hc1 : l1.length ≤ c1) (hu1 : u8ok l1) (hl0 : s0.size ≤ 1048576) (hl1 : l1.length ≤ 1048576) (hN : N ≤ 8160) :
    Calls Try.prog 72 #[.string s0, .slice A1 l1.length c1, .int .i64 (N : Int)] w0 fun e w' => e = .returned (.string (strOfNums (Sha.expandL (bytesL s0) l1 N))) ∧ Below w0.heap.size w0 w' := by
  have HR1 := Aside0.mk hr1
  have HU1 := Aside0.mk hu1
  have HL0 := Aside0.mk hl0
  have HL1 := Aside0.mk hl1
  have HN := Aside0.mk hN
  clear hr1 hu1 hl0 hl1 hc1 hN
  go_enter Try.func72, Try.ntmps72
  go_wp2
  go_loopw [7, 8, 9] (fun vo vl vi wr => ∃ (j p : Nat) (so sl : ByteArray), vo = .string so ∧ vl = .string sl ∧ vi = .int .i64 (p : Int) ∧ p = j + 1 ∧ j ≤ 255 ∧ j ≤ N + 31 ∧ Aside0 (so = strOfNums (Sha.exp (bytesL s0) l1 j).1) ∧ Aside0 (sl = strOfNums (Sha.exp (bytesL s0) l1 j).2) ∧ Aside0 (Below w0.heap.size w0 wr))
    (fun _ _ i _ => 300 - (intOf i).toNat)
  case atStart => exact ⟨0, 1, _, _, rfl, rfl, rfl, rfl, by omega, by omega, ⟨rfl⟩, ⟨rfl⟩, ⟨Below.refl _ _⟩⟩
  case round =>
    obtain ⟨j, p, so, sl, rfl, rfl, rfl, hp, hj, hjN, HSO, HSL, HB⟩ := hrel
    have hso : so.size = 32 * j := by rw [HSO.out, str_size, exp_len]
    have hsl : sl.size ≤ 32 := by rw [HSL.out, str_size]; exact exp_last _ _ _
    by_cases hlt : 32 * j < N
    · have hd : decide ((so.size : Int) < (N : Int)) = true := decide_eq_true (by omega)
      have kc1 := Lib.run_convert_string_bytes (P := Try.prog) wr 9 22 5 s0 Try.underlying9 Try.underlying22 Try.underlying5
      have HR0 := Aside0.mk (conv_rowB wr wr.heap.size 5 s0 (Nat.le_refl _))
      have HW1 : Aside0 (Below wr.heap.size wr (Lib.bytesWorld wr 5 s0)) := ⟨bytes_below (Below.refl _ _) (Nat.le_refl _) _ _⟩
      generalize hW1 : Lib.bytesWorld wr 5 s0 = W1 at *
      obtain ⟨cK, hcK⟩ : ∃ c, c = grownCap wr s0.size 0 5 := ⟨_, rfl⟩
      rw [← hcK] at kc1 HR0
      have HGK : Aside0 (wr.heap.size < W1.heap.size) := ⟨by rw [← hW1, Lib.bytesWorld_size]; omega⟩
      clear hW1 hcK
      rw [← bytesL_length] at kc1 HR0
      have kc2 := Lib.run_convert_string_bytes (P := Try.prog) W1 9 22 5 sl Try.underlying9 Try.underlying22 Try.underlying5
      have HR2 := Aside0.mk (conv_rowB W1 W1.heap.size 5 sl (Nat.le_refl _))
      have HW2 : Aside0 (Below W1.heap.size W1 (Lib.bytesWorld W1 5 sl)) := ⟨bytes_below (Below.refl _ _) (Nat.le_refl _) _ _⟩
      generalize hW2 : Lib.bytesWorld W1 5 sl = W2 at *
      obtain ⟨cL, hcL⟩ : ∃ c, c = grownCap W1 sl.size 0 5 := ⟨_, rfl⟩
      rw [← hcL] at kc2 HR2
      clear hW2 hcL
      rw [← bytesL_length] at kc2 HR2
      have hslb : bytesL sl = (Sha.exp (bytesL s0) l1 j).2 := by rw [HSL.out, bytesL_str _ (exp_u8 _ _ _).2]
      obtain ⟨lB, hlB⟩ : ∃ L, L = bytesL sl ++ l1 := ⟨_, rfl⟩
      obtain ⟨lC, hlC⟩ : ∃ L, L = lB ++ [(p : Int) % 256] := ⟨_, rfl⟩
      have HLB := Aside0.mk hlB
      have HLC := Aside0.mk hlC
      have HLBl : Aside0 (lB.length ≤ 1048608) := ⟨by rw [hlB, List.length_append, hslb]; have := HL1.out; have := exp_last (bytesL s0) l1 j; omega⟩
      have HLCl : Aside0 (lC.length ≤ 1048609) := ⟨by rw [hlC, List.length_append]; have := HLBl.out; simp; omega⟩
      have HUC : Aside0 (u8ok lC) := ⟨by rw [hlC, hlB]; exact u8ok_append (u8ok_append (u8ok_bytesL _) HU1.out) (fun x hx => by obtain rfl := List.mem_singleton.1 hx; omega)⟩
      have HNX : Aside0 (Sha.exp (bytesL s0) l1 (j + 1) = ((Sha.exp (bytesL s0) l1 j).1 ++ Sha.hmacL (bytesL s0) lC, Sha.hmacL (bytesL s0) lC)) := ⟨by rw [hlC, hlB, hslb, hp]; rfl⟩
      have HSLl : Aside0 ((bytesL sl).length ≤ 32) := ⟨by rw [bytesL_length]; exact hsl⟩
      have HP := Aside0.mk hp
      have HSOs := Aside0.mk hso
      have hcat : so.size + 32 ≤ 9223372036854775807 := by omega
      clear hlB hlC hslb hsl hp
      have HC1 : Aside0 (Kd.C (Kd.int .u8) W2 A1 l1.length l1) := ⟨Kd.C_below (Kd.C_below (Kd.C_below HR1.out HB.out) HW1.out) HW2.out⟩
      go_wp2_with (first
        | ((with_reducible refine gate_dst (N := 21) rfl ?_); refine wpList_append_rowB_C (by rfl) (.tmp 19) (.tmp 20) 22 5 (by rfl) Try.underlying22 info5 l1 (w0 := W1) (B := W1.heap.size) (by rfl) HR2.out HW2.out HW2.out.size A1 _ _ (by rfl) HC1.out (by have := HSLl.out; have := HL1.out; omega) lB HLB.out ?_; intro v3 w3 H1 H2 H3; obtain ⟨g3, c3, rfl, hc3⟩ := rowB_form H1.out)
        | ((with_reducible refine gate_dst (N := 25) rfl ?_); refine wpList_append_rowB (by rfl) (.tmp 21) (.tmp 24) 22 5 (by rfl) Try.underlying22 info5 [(p : Int) % 256] (by rfl) (rowB_below H1.out (below_alloc (Below.refl _ _) _)) (H2.out.alloc H3.out _) (by have := H3.out; simp; omega) ⟨w3.heap.size, 0, none⟩ 1 1 (by rfl) rfl (cell_lit1 _ _ _ _) (by have := HLBl.out; simp; omega) lC HLC.out ?_; intro v4 w4 K1 K2 K3; obtain ⟨g4, c4, rfl, hc4⟩ := rowB_form K1.out))
      refine (spec_l03Hmac_in (some ⟨wr.heap.size, 0, none⟩) cK (bytesL s0) (some ⟨g4, 0, none⟩) c4 lC w4 (rowB_C (rowB_below HR0.out K2.out) (by rw [bytesL_length]; have := HL0.out; omega)) (rowB_form' HR0.out) (rowB_C K1.out (by have := HLCl.out; omega)) hc4 (u8ok_bytesL s0) HUC.out (by rw [bytesL_length]; have := HL0.out; omega) (by have := HLCl.out; omega)).mono ?_
      rintro e w5 ⟨rfl, hb5⟩
      obtain ⟨sn, hsn⟩ : ∃ s, s = strOfNums (Sha.hmacL (bytesL s0) lC) := ⟨_, rfl⟩
      have HSN := Aside0.mk hsn
      have hsz : sn.size = 32 := by rw [hsn, str_size, hmacL_length]
      rw [← hsn]
      have HB5 : Aside0 (Below w0.heap.size w0 w5) := ⟨(HB.out.trans (HW1.out.mono HB.out.size)).trans ((K2.out.mono (Nat.le_trans HB.out.size HW1.out.size)).trans (hb5.mono (Nat.le_trans (Nat.le_trans HB.out.size HW1.out.size) K3.out)))⟩
      clear hsn hb5 kc1 kc2
      have hc1 : so.size + sn.size ≤ 9223372036854775807 := by omega
      have c9b0 := eq_true hc1
      have c9b1 : decide (so.size + sn.size ≤ 9223372036854775807) = true := decide_eq_true hc1
      have c9b2 : (9223372036854775807 < so.size + sn.size) = False := eq_false (Nat.not_lt.2 hc1)
      have hw : wrap64 ((p : Int) + 1) = ((p + 1 : Nat) : Int) := by unfold wrap64; have := HP.out; omega
      go_wp2
      rw [hw]
      clear hw
      go_roundw
      case rel => exact ⟨j + 1, p + 1, so ++ sn, sn, rfl, rfl, rfl, by have := HP.out; omega, by have := HN.out; omega, by omega, ⟨by rw [HSO.out, HSN.out, strOfNums_append, HNX.out]⟩, ⟨by rw [HSN.out, HNX.out]⟩, HB5⟩
      case measure => simp [intOf]; have := HP.out; omega
    · have hd : decide ((so.size : Int) < (N : Int)) = false := decide_eq_false (by omega)
      have c1b0 : (0 : Int) ≤ (N : Int) := by omega
      have c2b0 : (N : Int) ≤ (so.size : Int) := by omega
      have HFI : Aside0 (so.extract 0 N = strOfNums (Sha.expandL (bytesL s0) l1 N)) := ⟨by rw [exp_take (bytesL s0) l1 N j (by omega) hjN, HSO.out, str_extract]⟩
      clear hp hj hjN hso hlt
      go_wp2
      go_ret
      exact ⟨congrArg (fun s => Ending.returned (.string s)) HFI.out, HB.out⟩
theorem spec_l03Expand.calls (s0 : ByteArray) (A1 : Option Addr) (c1 : Nat) (l1 : List Int) (n : Int) (r : ByteArray) (w : World) (hr1 : Kd.C (Kd.int .u8) w A1 l1.length l1) (hc1 : l1.length ≤ c1) (h : spec_l03Expand.f s0 l1 n = some r) :
    Calls Try.prog 72 #[.string s0, .slice A1 l1.length c1, .int .i64 n] w fun e w' => e = .returned (.string r) ∧ Below w.heap.size w w' := by
  unfold spec_l03Expand.f at h
  split at h
  · rename_i h1
    split at h
    · rename_i h2
      obtain ⟨h2, h3, h4, h5⟩ := h2
      obtain ⟨N, rfl⟩ : ∃ N : Nat, n = (N : Int) := ⟨n.toNat, by omega⟩
      rw [Int.toNat_natCast] at h
      injection h with h
      subst h
      exact spec_l03Expand_in s0 A1 c1 l1 N w hr1 hc1 (u8b_ok h1) h2 h3 (by omega)
    · cases h
  · cases h

/-! ### spec_l04Keys: function 62 -/
-- HAND rounds=0 making=1 info=5
def keysK (s0 : ByteArray) : List Int := Sha.expandL (Sha.hmacL [115, 101, 97, 108] (bytesL s0)) [107, 101, 121, 115] 64
def spec_l04Keys.f (s0 : ByteArray) : Option (ByteArray × ByteArray) := if s0.size ≤ 1048576 then some (strOfNums ((keysK s0).take 32), strOfNums ((keysK s0).drop 32)) else none
theorem str_extract2 (l : List Int) (n m : Nat) : (strOfNums l).extract n m = strOfNums ((l.take m).drop n) := by
  have h : ∀ x y : ByteArray, x.data = y.data → x = y := fun x y e => by cases x; cases y; cases e; rfl
  apply h
  simp [strOfNums, ByteArray.extract, ByteArray.copySlice, List.map_take, List.map_drop, List.drop_take]
theorem keysK_length (s0 : ByteArray) : (keysK s0).length = 64 := by
  rw [keysK, exp_take _ _ 64 2 (by decide) (by decide), List.length_take, exp_len]
  decide
theorem C_row_int {k : IntKind} {W : World} {g : Nat} {l : List Int} {T : TypeId} {fr : Nat × Nat} (h : W.heap[g]? = some (.cells (nums k l).toArray T fr)) (hm : l.length ≤ 140737488355328) : Kd.C (Kd.int k) W (some ⟨g, 0, none⟩) l.length l := by
  refine ⟨rfl, by show l.length ≤ 9223372036854775807; omega, fun _ => ⟨⟨g, 0, none⟩, rfl, fun j p hj => ?_⟩⟩
  refine ⟨[.int k p], rfl, rfl, fun i u hu => ?_⟩
  match i, hu with
  | 0, hu =>
    obtain rfl : Value.int k p = u := by simpa using hu
    rw [add_plain]
    show W.cell? ⟨g, j * 1 + 0, none⟩ = _
    rw [show j * 1 + 0 = j from by omega]
    rw [show W.cell? ⟨g, j, none⟩ = (nums k l).toArray[j]? from by simp [World.cell?, h]]
    exact nums_at? k l j p hj
set_option maxHeartbeats 8000000 in
set_option maxRecDepth 100000 in
theorem spec_l04Keys_in (s0 : ByteArray) (w0 : World) (hl0 : s0.size ≤ 1048576) :
    Calls Try.prog 62 #[.string s0] w0 fun e w' => e = .returned (.tuple #[.string (strOfNums ((keysK s0).take 32)), .string (strOfNums ((keysK s0).drop 32))]) ∧ Below w0.heap.size w0 w' := by
  have HL0 := Aside0.mk hl0
  obtain ⟨W0, hW0⟩ : ∃ W, W = w0.alloc (.cells #[.int .u8 115, .int .u8 101, .int .u8 97, .int .u8 108] 5 (4, 5)) := ⟨_, rfl⟩
  have kcA : (convert 22 22 (.slice (some ⟨w0.heap.size, 0, none⟩) 4 4)).run Try.prog (w0.alloc (.cells #[.int .u8 115, .int .u8 101, .int .u8 97, .int .u8 108] 5)) = .ok (.slice (some ⟨w0.heap.size, 0, none⟩) 4 4) W0 := by
    rw [hW0]; exact Lib.run_convert_bytes_const w0 _ _ _ 4 4 Try.underlying22 Try.underlying5
  have kc1 := Lib.run_convert_string_bytes (P := Try.prog) W0 9 22 5 s0 Try.underlying9 Try.underlying22 Try.underlying5
  have HR0 := Aside0.mk (conv_rowB W0 W0.heap.size 5 s0 (Nat.le_refl _))
  have HW1 : Aside0 (Below W0.heap.size W0 (Lib.bytesWorld W0 5 s0)) := ⟨bytes_below (Below.refl _ _) (Nat.le_refl _) _ _⟩
  generalize hW1 : Lib.bytesWorld W0 5 s0 = W1 at *
  obtain ⟨cK, hcK⟩ : ∃ c, c = grownCap W0 s0.size 0 5 := ⟨_, rfl⟩
  rw [← hcK] at kc1 HR0
  rw [← bytesL_length] at kc1 HR0
  have HA : Aside0 (W0.heap[w0.heap.size]? = some (.cells (nums .u8 [115, 101, 97, 108]).toArray 5 (4, 5))) := ⟨by rw [hW0]; exact blk_new w0 _⟩
  have HB0 : Aside0 (Below w0.heap.size w0 W0) := ⟨by rw [hW0]; exact below_alloc (Below.refl _ _) _⟩
  have HS0 : Aside0 (w0.heap.size < W0.heap.size) := ⟨by rw [hW0]; simp⟩
  have HC0 : Aside0 (Kd.C (Kd.int .u8) W1 (some ⟨w0.heap.size, 0, none⟩) 4 [115, 101, 97, 108]) := ⟨Kd.C_below (C_row_int HA.out (by decide)) HW1.out⟩
  clear hW1 hcK hl0 hW0 HA
  generalize hga : W0.heap.size = ga at kc1 HR0
  go_enter Try.func62, Try.ntmps62
  go_wp2_with fail
  refine (spec_l03Hmac_in (some ⟨w0.heap.size, 0, none⟩) 4 [115, 101, 97, 108] (some ⟨ga, 0, none⟩) cK (bytesL s0) W1 HC0.out (by decide) (rowB_C HR0.out (by rw [bytesL_length]; have := HL0.out; omega)) (rowB_form' HR0.out) (fun x hx => by simp only [List.mem_cons, List.not_mem_nil, or_false] at hx; omega) (u8ok_bytesL s0) (by decide) (by rw [bytesL_length]; have := HL0.out; omega)).mono ?_
  rintro e w2 ⟨rfl, hb2⟩
  have HB2 : Aside0 (Below w0.heap.size w0 w2) := ⟨(HB0.out.trans (HW1.out.mono HB0.out.size)).trans (hb2.mono (Nat.le_trans HB0.out.size HW1.out.size))⟩
  obtain ⟨sm, hsm⟩ : ∃ s, s = strOfNums (Sha.hmacL [115, 101, 97, 108] (bytesL s0)) := ⟨_, rfl⟩
  have hbm : bytesL sm = Sha.hmacL [115, 101, 97, 108] (bytesL s0) := by rw [hsm, bytesL_str _ (u8ok_hmacL _ _)]
  have hzm : sm.size = 32 := by rw [hsm, str_size, hmacL_length]
  rw [← hsm]
  clear hsm kc1 kcA hb2 HC0 HR0
  obtain ⟨W2, hW2⟩ : ∃ W, W = w2.alloc (.cells #[.int .u8 107, .int .u8 101, .int .u8 121, .int .u8 115] 5 (4, 5)) := ⟨_, rfl⟩
  have kcB : (convert 22 22 (.slice (some ⟨w2.heap.size, 0, none⟩) 4 4)).run Try.prog (w2.alloc (.cells #[.int .u8 107, .int .u8 101, .int .u8 121, .int .u8 115] 5)) = .ok (.slice (some ⟨w2.heap.size, 0, none⟩) 4 4) W2 := by
    rw [hW2]; exact Lib.run_convert_bytes_const w2 _ _ _ 4 4 Try.underlying22 Try.underlying5
  have HC2 : Aside0 (Kd.C (Kd.int .u8) W2 (some ⟨w2.heap.size, 0, none⟩) 4 [107, 101, 121, 115]) := ⟨C_row_int (l := [107, 101, 121, 115]) (by rw [hW2]; exact blk_new w2 _) (by decide)⟩
  have HB3 : Aside0 (Below w0.heap.size w0 W2) := ⟨by rw [hW2]; exact HB2.out.alloc HB2.out.size _⟩
  clear hW2
  have HBM := Aside0.mk hbm
  have HZM := Aside0.mk hzm
  clear hbm hzm
  go_wp2_with fail
  refine (spec_l03Expand_in sm (some ⟨w2.heap.size, 0, none⟩) 4 [107, 101, 121, 115] 64 W2 HC2.out (by decide) (fun x hx => by simp only [List.mem_cons, List.not_mem_nil, or_false] at hx; omega) (by rw [HZM.out]; decide) (by decide) (by decide)).mono ?_
  rintro e w3 ⟨rfl, hb3⟩
  have HB4 : Aside0 (Below w0.heap.size w0 w3) := ⟨HB3.out.trans (hb3.mono HB3.out.size)⟩
  obtain ⟨sa, hsa⟩ : ∃ s, s = strOfNums (Sha.expandL (bytesL sm) [107, 101, 121, 115] 64) := ⟨_, rfl⟩
  have HSA : Aside0 (sa = strOfNums (keysK s0)) := ⟨by rw [hsa, HBM.out]; rfl⟩
  rw [← hsa]
  have hza : sa.size = 64 := by rw [HSA.out, str_size, keysK_length]
  have hz2 : (sa.size : Int) = 64 := by omega
  have F1 : Aside0 (sa.extract 0 32 = strOfNums ((keysK s0).take 32)) := ⟨by rw [HSA.out, str_extract]⟩
  have F2 : Aside0 (sa.extract 32 64 = strOfNums ((keysK s0).drop 32)) := ⟨by rw [HSA.out, str_extract2, List.take_of_length_le (by rw [keysK_length]; decide)]⟩
  clear hsa hb3 kcB HC2
  go_wp2
  go_region
  go_wp2
  go_ret2
  exact ⟨by rw [F1.out, F2.out]; rfl, HB4.out.drew⟩
theorem spec_l04Keys.calls (s0 : ByteArray) (r1 r2 : ByteArray) (w : World) (h : spec_l04Keys.f s0 = some (r1, r2)) :
    Calls Try.prog 62 #[.string s0] w fun e w' => e = .returned (.tuple #[.string r1, .string r2]) ∧ Below w.heap.size w w' := by
  unfold spec_l04Keys.f at h
  split at h
  · rename_i h1
    injection h with h
    injection h with h2 h3
    subst h2 h3
    exact spec_l04Keys_in s0 w h1
  · cases h

/-! ### spec_SealKeys: function 29 -/
def spec_SealKeys.f (a0 : ByteArray) : Option (ByteArray × ByteArray × Int) := if (a0.size : Int) > 65536 then (some ((⟨#[]⟩ : ByteArray), (⟨#[]⟩ : ByteArray), 2)) else (if (a0.size : Int) = 32 then ((spec_l04Keys.f a0).bind fun bt124 => (some (bt124.1, bt124.2, 0))) else (some ((⟨#[]⟩ : ByteArray), (⟨#[]⟩ : ByteArray), 1)))
set_option maxHeartbeats 8000000 in
set_option maxRecDepth 100000 in
theorem spec_SealKeys.calls (a0 : ByteArray) (r1 : ByteArray) (r2 : ByteArray) (r3 : Int) (w : World) (h : spec_SealKeys.f a0 = some (r1, r2, r3)) :
    Calls Try.prog 29 #[.string a0] w fun e w' => e = .returned (.tuple #[.string r1, .string r2, .int .i64 r3]) ∧ Below w.heap.size w w' := by
  have HB := Aside0.mk (Below.refl w.heap.size w)
  have H : (if (a0.size : Int) > 65536 then (some ((⟨#[]⟩ : ByteArray), (⟨#[]⟩ : ByteArray), 2)) else (if (a0.size : Int) = 32 then ((spec_l04Keys.f a0).bind fun bt124 => (some (bt124.1, bt124.2, 0))) else (some ((⟨#[]⟩ : ByteArray), (⟨#[]⟩ : ByteArray), 1)))) = some (r1, r2, r3) := h
  clear h
  by_cases c2 : (a0.size : Int) > 65536
  · rw [if_pos c2] at H
    have c2b0 : decide (65536 < (a0.size : Int)) = true := decide_eq_true c2
    have c2b1 : decide (65536 < a0.size) = true := decide_eq_true (by omega)
    clear c2
    simp only [Option.some.injEq, Prod.mk.injEq] at H
    obtain ⟨rfl, rfl, rfl⟩ := H
    go_enter Try.func29, Try.ntmps29
    go_wp2
    go_ret3
    exact ⟨by first | rfl | (simp [errW_none, errW_some] <;> rfl) | (simp [*, errW_none, errW_some] <;> rfl), by repeat (first | (with_reducible first | exact HB.out | apply below_alloc | apply pw_below_drewN | apply below_drew1) | exact HB.out)⟩
  · rw [if_neg c2] at H
    have c2b0 : decide (65536 < (a0.size : Int)) = false := decide_eq_false c2
    have c2b1 : decide (65536 < a0.size) = false := decide_eq_false (by omega)
    clear c2
    by_cases c3 : (a0.size : Int) = 32
    · rw [if_pos c3] at H
      have c3b0 : ((a0.size : Int) == 32) = true := beq_iff_eq.mpr c3
      have c3b1 : ((a0.size : Int) != 32) = false := bne_eq_false_iff_eq.mpr c3
      clear c3
      replace H := Option.bind_eq_some_iff.mp H
      obtain ⟨⟨t124, t125⟩, A40, H⟩ := H
      replace H : (some (t124, t125, 0)) = some (r1, r2, r3) := H
      have A4 := Aside0.mk A40
      clear A40
      simp only [Option.some.injEq, Prod.mk.injEq] at H
      obtain ⟨rfl, rfl, rfl⟩ := H
      go_enter Try.func29, Try.ntmps29
      go_wp2_with (first | ((with_reducible refine gate_callee (f := 62) rfl ?_); refine goesL_ (some 15) rfl rfl Try.func62 (by kernel_rfl) rfl #[.string a0] rfl (by (try simp only [List.map_toArray, List.map_cons, List.map_nil]); first | done | rfl | (simp only [List.length_drop, List.length_take]; rfl)) ?_; (with_reducible refine (spec_l04Keys.calls a0 t124 t125 _ A4.out).mono ?_); rintro e w5 ⟨rfl, hb⟩; refine ⟨_, rfl, ?_⟩; have n0_ := Aside0.mk (below_step (by repeat (first | (with_reducible first | exact HB.out | apply below_alloc | apply pw_below_drewN | apply below_drew1) | exact HB.out)) hb); clear HB; have HB := n0_; clear n0_; (try clear hb); (try clear hb2); (try clear hk); (try clear hi)))
      go_ret3
      exact ⟨by first | rfl | (simp [errW_none, errW_some] <;> rfl) | (simp [*, errW_none, errW_some] <;> rfl), by repeat (first | (with_reducible first | exact HB.out | apply below_alloc | apply pw_below_drewN | apply below_drew1) | exact HB.out)⟩
    · rw [if_neg c3] at H
      have c3b0 : ((a0.size : Int) == 32) = false := beq_eq_false_iff_ne.mpr c3
      have c3b1 : ((a0.size : Int) != 32) = true := bne_iff_ne.mpr c3
      simp only [Option.some.injEq, Prod.mk.injEq] at H
      obtain ⟨rfl, rfl, rfl⟩ := H
      go_enter Try.func29, Try.ntmps29
      go_wp2
      go_ret3
      exact ⟨by first | rfl | (simp [errW_none, errW_some] <;> rfl) | (simp [*, errW_none, errW_some] <;> rfl), by repeat (first | (with_reducible first | exact HB.out | apply below_alloc | apply pw_below_drewN | apply below_drew1) | exact HB.out)⟩

/-! ### laws_FnExactSealKeys: function 10 -/
def laws_FnExactSealKeys.f (k : Nat) (a0 : ByteArray) : Option (Bool) := if (a0.size : Int) > 1048576 then (some true) else ((spec_SealKeys.f a0).bind fun bt126 => ((impl_SealKeys.f k a0).bind fun bt129 => (if bt129.1.toList = bt126.1.toList then (if bt129.2.1.toList = bt126.2.1.toList then (if bt129.2.2 = bt126.2.2 then (some true) else (some false)) else (some false)) else (some false))))
theorem laws_FnExactSealKeys.mono : ∀ a0 k, LeO (laws_FnExactSealKeys.f k a0) (laws_FnExactSealKeys.f (k + 1) a0) := by
  intro a0 k
  unfold laws_FnExactSealKeys.f
  repeat' first
      | (with_reducible exact impl_SealKeys.mono _ _)
      | (with_reducible exact LeO.refl _)
      | (with_reducible exact LeO.none _)
      | (with_reducible refine LeO.ite ?_ ?_)
      | (with_reducible refine LeO.bind ?_ (fun _ => ?_))
      | exact impl_SealKeys.mono _ _
      | exact LeO.none _
      | refine LeO.ite ?_ ?_
      | refine LeO.bind ?_ (fun _ => ?_)
set_option maxHeartbeats 8000000 in
set_option maxRecDepth 100000 in
theorem laws_FnExactSealKeys.calls (k : Nat) (a0 : ByteArray) (r : Bool) (w : World) (h : laws_FnExactSealKeys.f k a0 = some r) :
    Calls Try.prog 10 #[.string a0] w fun e w' => e = .returned (.bool r) ∧ Below w.heap.size w w' := by
  have HB := Aside0.mk (Below.refl w.heap.size w)
  have H : (if (a0.size : Int) > 1048576 then (some true) else ((spec_SealKeys.f a0).bind fun bt126 => ((impl_SealKeys.f k a0).bind fun bt129 => (if bt129.1.toList = bt126.1.toList then (if bt129.2.1.toList = bt126.2.1.toList then (if bt129.2.2 = bt126.2.2 then (some true) else (some false)) else (some false)) else (some false))))) = some r := h
  clear h
  by_cases c2 : (a0.size : Int) > 1048576
  · rw [if_pos c2] at H
    have c2b0 : decide (1048576 < (a0.size : Int)) = true := decide_eq_true c2
    have c2b1 : decide (1048576 < a0.size) = true := decide_eq_true (by omega)
    clear c2
    obtain rfl := Option.some.inj H
    go_enter Try.func10, Try.ntmps10
    go_wp2
    go_ret
    exact ⟨by first | rfl | (simp [errW_none, errW_some] <;> rfl) | (simp [*, errW_none, errW_some] <;> rfl), by repeat (first | (with_reducible first | exact HB.out | apply below_alloc | apply pw_below_drewN | apply below_drew1) | exact HB.out)⟩
  · rw [if_neg c2] at H
    have c2b0 : decide (1048576 < (a0.size : Int)) = false := decide_eq_false c2
    have c2b1 : decide (1048576 < a0.size) = false := decide_eq_false (by omega)
    clear c2
    replace H := Option.bind_eq_some_iff.mp H
    obtain ⟨⟨t126, t127, t128⟩, A30, H⟩ := H
    replace H : ((impl_SealKeys.f k a0).bind fun bt129 => (if bt129.1.toList = t126.toList then (if bt129.2.1.toList = t127.toList then (if bt129.2.2 = t128 then (some true) else (some false)) else (some false)) else (some false))) = some r := H
    have A3 := Aside0.mk A30
    clear A30
    replace H := Option.bind_eq_some_iff.mp H
    obtain ⟨⟨t129, t130, t131⟩, A40, H⟩ := H
    replace H : (if t129.toList = t126.toList then (if t130.toList = t127.toList then (if t131 = t128 then (some true) else (some false)) else (some false)) else (some false)) = some r := H
    have A4 := Aside0.mk A40
    clear A40
    by_cases c5 : t129.toList = t126.toList
    · rw [if_pos c5] at H
      have c5b0 : (t129.toList == t126.toList) = true := beq_iff_eq.mpr c5
      have c5b1 : (t129.toList != t126.toList) = false := bne_eq_false_iff_eq.mpr c5
      clear c5
      by_cases c6 : t130.toList = t127.toList
      · rw [if_pos c6] at H
        have c6b0 : (t130.toList == t127.toList) = true := beq_iff_eq.mpr c6
        have c6b1 : (t130.toList != t127.toList) = false := bne_eq_false_iff_eq.mpr c6
        clear c6
        by_cases c7 : t131 = t128
        · rw [if_pos c7] at H
          have c7b0 : (t131 == t128) = true := beq_iff_eq.mpr c7
          have c7b1 : (t131 != t128) = false := bne_eq_false_iff_eq.mpr c7
          clear c7
          obtain rfl := Option.some.inj H
          go_enter Try.func10, Try.ntmps10
          go_wp2_with (first | ((with_reducible refine gate_callee (f := 29) rfl ?_); refine goesL_ (some 14) rfl rfl Try.func29 (by kernel_rfl) rfl #[.string a0] rfl (by (try simp only [List.map_toArray, List.map_cons, List.map_nil]); first | done | rfl | (simp only [List.length_drop, List.length_take]; rfl)) ?_; (with_reducible refine (spec_SealKeys.calls a0 t126 t127 t128 _ A3.out).mono ?_); rintro e w8 ⟨rfl, hb⟩; refine ⟨_, rfl, ?_⟩; have n0_ := Aside0.mk (below_step (by repeat (first | (with_reducible first | exact HB.out | apply below_alloc | apply pw_below_drewN | apply below_drew1) | exact HB.out)) hb); clear HB; have HB := n0_; clear n0_; (try clear hb); (try clear hb2); (try clear hk); (try clear hi)) | ((with_reducible refine gate_callee (f := 28) rfl ?_); refine goesL_ (some 20) rfl rfl Try.func28 (by kernel_rfl) rfl #[.string a0] rfl (by (try simp only [List.map_toArray, List.map_cons, List.map_nil]); first | done | rfl | (simp only [List.length_drop, List.length_take]; rfl)) ?_; (with_reducible refine (impl_SealKeys.calls k a0 t129 t130 t131 _ A4.out).mono ?_); rintro e w9 ⟨rfl, hb⟩; refine ⟨_, rfl, ?_⟩; have n0_ := Aside0.mk (below_step (by repeat (first | (with_reducible first | exact HB.out | apply below_alloc | apply pw_below_drewN | apply below_drew1) | exact HB.out)) hb); clear HB; have HB := n0_; clear n0_; (try clear hb); (try clear hb2); (try clear hk); (try clear hi)))
          go_ret
          exact ⟨by first | rfl | (simp [errW_none, errW_some] <;> rfl) | (simp [*, errW_none, errW_some] <;> rfl), by repeat (first | (with_reducible first | exact HB.out | apply below_alloc | apply pw_below_drewN | apply below_drew1) | exact HB.out)⟩
        · rw [if_neg c7] at H
          have c7b0 : (t131 == t128) = false := beq_eq_false_iff_ne.mpr c7
          have c7b1 : (t131 != t128) = true := bne_iff_ne.mpr c7
          obtain rfl := Option.some.inj H
          go_enter Try.func10, Try.ntmps10
          go_wp2_with (first | ((with_reducible refine gate_callee (f := 29) rfl ?_); refine goesL_ (some 14) rfl rfl Try.func29 (by kernel_rfl) rfl #[.string a0] rfl (by (try simp only [List.map_toArray, List.map_cons, List.map_nil]); first | done | rfl | (simp only [List.length_drop, List.length_take]; rfl)) ?_; (with_reducible refine (spec_SealKeys.calls a0 t126 t127 t128 _ A3.out).mono ?_); rintro e w10 ⟨rfl, hb⟩; refine ⟨_, rfl, ?_⟩; have n0_ := Aside0.mk (below_step (by repeat (first | (with_reducible first | exact HB.out | apply below_alloc | apply pw_below_drewN | apply below_drew1) | exact HB.out)) hb); clear HB; have HB := n0_; clear n0_; (try clear hb); (try clear hb2); (try clear hk); (try clear hi)) | ((with_reducible refine gate_callee (f := 28) rfl ?_); refine goesL_ (some 20) rfl rfl Try.func28 (by kernel_rfl) rfl #[.string a0] rfl (by (try simp only [List.map_toArray, List.map_cons, List.map_nil]); first | done | rfl | (simp only [List.length_drop, List.length_take]; rfl)) ?_; (with_reducible refine (impl_SealKeys.calls k a0 t129 t130 t131 _ A4.out).mono ?_); rintro e w11 ⟨rfl, hb⟩; refine ⟨_, rfl, ?_⟩; have n0_ := Aside0.mk (below_step (by repeat (first | (with_reducible first | exact HB.out | apply below_alloc | apply pw_below_drewN | apply below_drew1) | exact HB.out)) hb); clear HB; have HB := n0_; clear n0_; (try clear hb); (try clear hb2); (try clear hk); (try clear hi)))
          go_ret
          exact ⟨by first | rfl | (simp [errW_none, errW_some] <;> rfl) | (simp [*, errW_none, errW_some] <;> rfl), by repeat (first | (with_reducible first | exact HB.out | apply below_alloc | apply pw_below_drewN | apply below_drew1) | exact HB.out)⟩
      · rw [if_neg c6] at H
        have c6b0 : (t130.toList == t127.toList) = false := beq_eq_false_iff_ne.mpr c6
        have c6b1 : (t130.toList != t127.toList) = true := bne_iff_ne.mpr c6
        obtain rfl := Option.some.inj H
        go_enter Try.func10, Try.ntmps10
        go_wp2_with (first | ((with_reducible refine gate_callee (f := 29) rfl ?_); refine goesL_ (some 14) rfl rfl Try.func29 (by kernel_rfl) rfl #[.string a0] rfl (by (try simp only [List.map_toArray, List.map_cons, List.map_nil]); first | done | rfl | (simp only [List.length_drop, List.length_take]; rfl)) ?_; (with_reducible refine (spec_SealKeys.calls a0 t126 t127 t128 _ A3.out).mono ?_); rintro e w12 ⟨rfl, hb⟩; refine ⟨_, rfl, ?_⟩; have n0_ := Aside0.mk (below_step (by repeat (first | (with_reducible first | exact HB.out | apply below_alloc | apply pw_below_drewN | apply below_drew1) | exact HB.out)) hb); clear HB; have HB := n0_; clear n0_; (try clear hb); (try clear hb2); (try clear hk); (try clear hi)) | ((with_reducible refine gate_callee (f := 28) rfl ?_); refine goesL_ (some 20) rfl rfl Try.func28 (by kernel_rfl) rfl #[.string a0] rfl (by (try simp only [List.map_toArray, List.map_cons, List.map_nil]); first | done | rfl | (simp only [List.length_drop, List.length_take]; rfl)) ?_; (with_reducible refine (impl_SealKeys.calls k a0 t129 t130 t131 _ A4.out).mono ?_); rintro e w13 ⟨rfl, hb⟩; refine ⟨_, rfl, ?_⟩; have n0_ := Aside0.mk (below_step (by repeat (first | (with_reducible first | exact HB.out | apply below_alloc | apply pw_below_drewN | apply below_drew1) | exact HB.out)) hb); clear HB; have HB := n0_; clear n0_; (try clear hb); (try clear hb2); (try clear hk); (try clear hi)))
        go_ret
        exact ⟨by first | rfl | (simp [errW_none, errW_some] <;> rfl) | (simp [*, errW_none, errW_some] <;> rfl), by repeat (first | (with_reducible first | exact HB.out | apply below_alloc | apply pw_below_drewN | apply below_drew1) | exact HB.out)⟩
    · rw [if_neg c5] at H
      have c5b0 : (t129.toList == t126.toList) = false := beq_eq_false_iff_ne.mpr c5
      have c5b1 : (t129.toList != t126.toList) = true := bne_iff_ne.mpr c5
      obtain rfl := Option.some.inj H
      go_enter Try.func10, Try.ntmps10
      go_wp2_with (first | ((with_reducible refine gate_callee (f := 29) rfl ?_); refine goesL_ (some 14) rfl rfl Try.func29 (by kernel_rfl) rfl #[.string a0] rfl (by (try simp only [List.map_toArray, List.map_cons, List.map_nil]); first | done | rfl | (simp only [List.length_drop, List.length_take]; rfl)) ?_; (with_reducible refine (spec_SealKeys.calls a0 t126 t127 t128 _ A3.out).mono ?_); rintro e w14 ⟨rfl, hb⟩; refine ⟨_, rfl, ?_⟩; have n0_ := Aside0.mk (below_step (by repeat (first | (with_reducible first | exact HB.out | apply below_alloc | apply pw_below_drewN | apply below_drew1) | exact HB.out)) hb); clear HB; have HB := n0_; clear n0_; (try clear hb); (try clear hb2); (try clear hk); (try clear hi)) | ((with_reducible refine gate_callee (f := 28) rfl ?_); refine goesL_ (some 20) rfl rfl Try.func28 (by kernel_rfl) rfl #[.string a0] rfl (by (try simp only [List.map_toArray, List.map_cons, List.map_nil]); first | done | rfl | (simp only [List.length_drop, List.length_take]; rfl)) ?_; (with_reducible refine (impl_SealKeys.calls k a0 t129 t130 t131 _ A4.out).mono ?_); rintro e w15 ⟨rfl, hb⟩; refine ⟨_, rfl, ?_⟩; have n0_ := Aside0.mk (below_step (by repeat (first | (with_reducible first | exact HB.out | apply below_alloc | apply pw_below_drewN | apply below_drew1) | exact HB.out)) hb); clear HB; have HB := n0_; clear n0_; (try clear hb); (try clear hb2); (try clear hk); (try clear hi)))
      go_ret
      exact ⟨by first | rfl | (simp [errW_none, errW_some] <;> rfl) | (simp [*, errW_none, errW_some] <;> rfl), by repeat (first | (with_reducible first | exact HB.out | apply below_alloc | apply pw_below_drewN | apply below_drew1) | exact HB.out)⟩

/-- THE ONE PURE STATEMENT of laws_FnExactSealKeys: yours. -/
def laws_FnExactSealKeys.Pure : Prop := ∀ (a0 : ByteArray), a0.size ≤ 140737488351232 → ∃ k, laws_FnExactSealKeys.f k a0 = some true
theorem laws_FnExactSealKeys.walk (P : laws_FnExactSealKeys.Pure) (a0 : ByteArray) (w : World) (w0 : a0.size ≤ 140737488351232) :
    Calls Try.prog 10 #[.string a0] w fun e w' => e = .returned (.bool true) ∧ Below w.heap.size w w' := by
  obtain ⟨k, h⟩ := P a0 w0
  refine (laws_FnExactSealKeys.calls k a0 true w h).mono ?_
  rintro e w' ⟨rfl, hd⟩
  exact ⟨rfl, hd⟩

end Go.Proofs.Ytlfpogbonmddmaa.P

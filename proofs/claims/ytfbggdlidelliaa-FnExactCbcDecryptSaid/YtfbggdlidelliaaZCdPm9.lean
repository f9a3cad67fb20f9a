/- Laid by a program of this session: of Pm9 what this law uses. -/
import Derived.Test.YtfbggdlidelliaaZCdPm0
namespace Go.Proofs.Ytfbggdlidelliaa.P
open Go.RowKit Go.Proofs.YtfbggdlidelliaaW.PrintWords Go.Proofs.YtfbggdlidelliaaW.PrintLast Go.Proofs.YtfbggdlidelliaaW.PrintMore
attribute [local go_sem] min2_int min_two
set_option linter.unusedVariables false
set_option linter.unusedSimpArgs false
def xorL (a b : List Int) : List Int := List.zipWith (fun x y => Go.bits .xor .u8 x y) a b
def xorTo (a b : List Int) (k : Nat) : List Int := (xorL a b).take k ++ a.drop k
theorem impl_xor_info : (Try.prog.info? 52).map (·.size) = some 16 := by kernel_rfl
theorem xorL_length (a b : List Int) (h : a.length = b.length) : (xorL a b).length = a.length := by simp [xorL, h]
theorem xorTo_zero (a b : List Int) : xorTo a b 0 = a := by simp [xorTo]
theorem xorTo_length (a b : List Int) (h : a.length = b.length) (k : Nat) (hk : k ≤ a.length) : (xorTo a b k).length = a.length := by
  simp [xorTo, xorL_length a b h]; omega
theorem xorTo_at (a b : List Int) (h : a.length = b.length) (k : Nat) (hk : k < a.length) (hx : k < (xorTo a b k).length) : (xorTo a b k)[k] = a[k] := by
  have hl := xorL_length a b h
  simp only [xorTo]
  rw [List.getElem_append_right (by simp; omega)]
  simp [hl, Nat.min_eq_left (Nat.le_of_lt hk)]
theorem xorTo_set (a b : List Int) (h : a.length = b.length) (k : Nat) (hk : k < a.length) : (xorTo a b k).set k (Go.bits .xor .u8 a[k] (b[k]'(by omega))) = xorTo a b (k + 1) := by
  have hl := xorL_length a b h
  apply List.ext_getElem
  · simp [xorTo, hl]; omega
  · intro j h1 h2
    simp only [xorTo]
    rcases Nat.lt_trichotomy j k with e | e | e
    · rw [List.getElem_set_ne (by omega), List.getElem_append_left (by simp [hl]; omega), List.getElem_append_left (by simp [hl]; omega)]
      simp
    · subst e
      rw [List.getElem_set_self, List.getElem_append_left (by simp [hl]; omega)]
      simp [xorL]
    · rw [List.getElem_set_ne (by omega), List.getElem_append_right (by simp; omega), List.getElem_append_right (by simp; omega)]
      simp only [List.getElem_drop]
      congr 1
      simp [hl]; omega
theorem xorTo_end (a b : List Int) (h : a.length = b.length) : xorTo a b a.length = xorL a b := by
  simp [xorTo, List.take_of_length_le, xorL_length a b h]
set_option maxHeartbeats 1000000 in
theorem impl_xor.calls (a b : List Int) (w : World) (ha : a.length = 16) (hb : b.length = 16) :
    Calls Try.prog 57 #[arr8 a, arr8 b] w fun e w' => e = .returned (arr8 (xorL a b)) ∧ Below w.heap.size w w' := by
  have hab : a.length = b.length := by omega
  have HA := Aside0.mk ha
  have HBl := Aside0.mk hb
  have HAB := Aside0.mk hab
  clear ha hb hab
  unfold arr8
  go_enter Try.func57, Try.ntmps57
  go_wp2
  go_loopw [6] (fun i wr => ∃ k : Nat, k ≤ 16 ∧ i = .int .i64 k ∧ Aside0 (wr.heap[w.heap.size]? = some (.cells (nums .u8 (xorTo a b k)).toArray 52 (0, 0))) ∧ Aside0 (wr.heap[w.heap.size + 1]? = some (.cells (nums .u8 b).toArray 52 (0, 0)))
      ∧ Aside0 (wr.heap[w.heap.size + 1 + 1]? = some (.cells (nums .u8 (List.replicate 16 0)).toArray 52 (0, 0))) ∧ Aside0 (Below w.heap.size w wr)) (fun i _ => 16 - (intOf i).toNat)
  case atStart => exact ⟨0, by omega, rfl, ⟨by rw [xorTo_zero]; exact blk_alloc (blk_alloc (blk_new w _) _) _⟩, ⟨blk_alloc (blk_new2 w _ _) _⟩, ⟨blk_new3 w _ _ _⟩, ⟨below_alloc (below_alloc (below_alloc (Below.refl w.heap.size w) _) _) _⟩⟩
  case round =>
    obtain ⟨k, hk, rfl, G1, G2, G3, HB⟩ := hrel
    by_cases hlt : k < 16
    · have hx : k < (xorTo a b k).length := by rw [xorTo_length a b HAB.out k (by have := HA.out; omega)]; have := HA.out; omega
      have hka : k < a.length := by have := HA.out; omega
      have hkb : k < b.length := by have := HBl.out; omega
      have cA : wr.cell? ⟨w.heap.size, k, none⟩ = some (.int .u8 a[k]) := by
        rw [blk_cell G1.out k, nums_at hx, xorTo_at a b HAB.out k hka]
      have zA := blk_frozen G1.out k
      have cB : wr.cell? ⟨w.heap.size + 1, k, none⟩ = some (.int .u8 b[k]) := by rw [blk_cell G2.out k, nums_at hkb]
      have i0 : (0 : Int) ≤ (k : Int) := Int.natCast_nonneg k
      have i1 : (k : Int) < 16 := by omega
      have hd : decide ((k : Int) < 16) = true := decide_eq_true i1
      go_wp2
      go_region
      all_goals go_wp2
      go_roundw
      case rel =>
        refine ⟨k + 1, by omega, by go_num, ⟨?_⟩, ⟨blk_far (blk_drew G2.out) (by simp <;> omega) _⟩, ⟨blk_far (blk_drew G3.out) (by simp <;> omega) _⟩, ⟨below_set (below_drew1 HB.out) (Nat.le_refl _)⟩⟩
        rw [← xorTo_set a b HAB.out k hka, ← nums_set]
        exact blk_set (blk_drew G1.out) k _
      case measure => simp [intOf]; omega
    · have e16 : xorTo a b k = xorL a b := by
        obtain rfl : k = 16 := by omega
        rw [← HA.out]; exact xorTo_end a b HAB.out
      rw [e16] at G1
      clear e16
      have hl16 : (nums IntKind.u8 (xorL a b)).toArray.size = 16 := by have := HA.out; simp [nums, xorL_length a b HAB.out]; omega
      have HL := Aside0.mk hl16
      clear hl16
      have hd : decide ((k : Int) < 16) = false := decide_eq_false (by omega)
      have GR := Aside0.mk (setRow_heap wr (w.heap.size + 1 + 1) _ (nums IntKind.u8 (xorL a b)).toArray _ _ G3.out)
      go_wp2_with (first
        | (refine wpList_load_row (by rfl) 52 (.tmp 2) (by rfl) _ (by rfl) 52 _ (0, 0) _ G1.out Try.underlying52 rfl (by rw [HL.out]; exact impl_xor_info) ?_)
        | (refine wpList_store_row (by rfl) 52 (.tmp 4) (.tmp 18) (by rfl) (w.heap.size + 1 + 1) _ (by rfl) (by rfl) 52 _ G3.out (by rw [HL.out]; exact impl_xor_info) (by rw [HL.out]; rfl) (nums_one _ _) ?_))
      refine bodyPost_ret (v := arr8 (xorL a b)) ?_ rfl ?_
      · exact results_cell_row (fn := Try.f57) (p := 4) (ty := 52) Try.results57 _ _ _ 52 _ (0, 0) _ (by rfl) GR.out Try.underlying52 rfl (by rw [HL.out]; exact impl_xor_info)
      · exact ⟨rfl, below_row HB.out (by omega) _⟩
theorem xorL_S (a b : List Int) (ha : a.length = 16) (hb : b.length = 16) : xorL a b = Aes.xorS a b := by
  refine Aes.st_is _ _ (by rw [xorL_length a b (by omega), ha]) fun j hj => ?_
  simp only [xorL, List.getD_eq_getElem?_getD, List.getElem?_zipWith]
  rw [List.getElem?_eq_getElem (by omega), List.getElem?_eq_getElem (by omega)]
  rfl
theorem run_conv_op {P : Program} {o : Oper} {a : Act} {w : World} (src dst e : TypeId) (x : Operand) (s : ByteArray) {u : TypeDesc} (ho : o.op = .convert src dst x) (hx : a.eval x = .string s)
    (hs : P.underlying src = some u) (hd : P.underlying dst = some (.slice e)) (he : P.underlying e = some (.int .u8)) :
    (execOp a.eval o).run P w = .ok (.value (.slice (some ⟨w.heap.size, 0, none⟩) s.size (grownCap w s.size 0 e))) (Lib.bytesWorld w e s) := by
  have h := Lib.run_convert_string_bytes (P := P) w src dst e s hs hd he
  unfold execOp
  simp only [ho, hx, Sem.run_bind, h, Result.andThen_ok, Sem.run_pure]
theorem arr_at_wp {P : Program} {o : Oper} {a : Act} {w : World} (t : TypeId) (x : Operand) (A : Option Addr) (len c : Nat) (m : Nat) {e : TypeId} (ho : o.op = .sliceToArrayPointer t x) (hx : a.eval x = .slice A len c) (hu : P.underlying t = some (.array m e)) (hm : m ≤ len) :
    (execOp a.eval o).run P w = .ok (.value (.pointer A)) w := by
  unfold execOp
  simp only [ho, hx, Instr.arrayAt, Sem.run_bind, run_underlying hu, Result.andThen_ok, Sem.run_pure, if_neg (show ¬ len < m by omega)]
theorem bytes_range (W : World) (e : TypeId) (s : ByteArray) : (Lib.bytesWorld W e s).rangeAt W.heap.size 0 (nums .u8 (bytesL s)) := fun j v hv => by
  rw [Nat.zero_add]
  have hl : (nums IntKind.u8 (bytesL s)).length = s.size := by simp [nums, bytesL_length]
  have hj : j < s.size := by rw [← hl]; exact (List.getElem?_eq_some_iff.1 hv).1
  rw [Lib.bytesWorld_cell W e s j hj]
  rw [← hv]
  have h' : j < s.data.toList.length := by rw [data_length]; exact hj
  simp [nums, bytesL, List.getD_eq_getElem?_getD, List.getElem?_eq_getElem h']
theorem range_below {W W' : World} {g o : Nat} {cs : List Value} (h : W.rangeAt g o cs) (hb : Below W.heap.size W W') : W'.rangeAt g o cs := fun j v hv => by
  have hc := h j v hv
  exact (hb.cell (cell_lt (by rw [hc]; rfl))).trans hc
theorem xor_u (a b : List Int) (w : World) (ha : a.length = 16) (hb : b.length = 16) :
    Calls Try.prog 57 #[.agg (nums .u8 a).toArray, .agg (nums .u8 b).toArray] w fun e w' => e = .returned (.agg (nums .u8 (Aes.xorS a b)).toArray) ∧ Below w.heap.size w w' := by
  have h := impl_xor.calls a b w ha hb
  rw [xorL_S a b ha hb] at h
  exact h
theorem opWp_copy_row {P : Program} {W : World} {o : Oper} {ac : Act} {K : Act → World → Prop} {Q : Exit → Act → World → Prop} (s x : Operand) (dT sT elem : TypeId) (ho : o.op = .call { callee := .builtin .copy, args := #[s, x], argTypes := #[dT, sT] })
    (g off dLen dCap : Nat) (a : Addr) (sLen sCap : Nat) (cur : Array Value) (t : TypeId) (cs : List Value) (hs : ac.eval s = .slice (some ⟨g, off, none⟩) dLen dCap) (hx : ac.eval x = .slice (some a) sLen sCap)
    (hu : P.underlying dT = some (.slice elem)) (hsz : (P.info? elem).map (·.size) = some 1) (hg : W.heap[g]? = some (.cells cur t (0, 0))) (hn : cs.length = Nat.min sLen dLen)
    (hsrc : ∀ j v, cs[j]? = some v → W.cell? (a.add j) = some v) (hfit : off + cs.length ≤ cur.size) (h1 : ∀ v ∈ cs, v.oneCell' = true)
    (h : K (ac.put o.dst (goInt cs.length)) (W.setRow g (cur.toList.take off ++ cs ++ cur.toList.drop (off + cs.length)).toArray)) : o.wp P ac W K Q := by
  have hr := run_copy_row (P := P) W dT sT o.type elem g off dLen dCap a sLen sCap cur t cs hu hsz hg hn hsrc hfit h1
  unfold Oper.wp execOp
  simp only [ho, resolve, invoke, builtin, Sem.run_bind, Sem.run_pure, Result.andThen_ok, List.map_toArray, List.map_cons, List.map_nil, hs, hx, hr]
  exact h
theorem take_part (R X : List Int) (p : Nat) (hR : p + 4 ≤ R.length) (hX : X.length = 4) (h : ∀ j, j < 4 → R.getD (p + j) 0 = X.getD j 0) : R.take (p + 4) = R.take p ++ X := by
  rw [List.take_add]
  congr 1
  apply List.ext_getElem
  · simp; omega
  · intro j h1 h2
    have hj : j < 4 := by omega
    have := h j hj
    rw [List.getD_eq_getElem?_getD, List.getElem?_eq_getElem (by omega), List.getD_eq_getElem?_getD, List.getElem?_eq_getElem h2] at this
    simp only [Option.getD_some] at this
    rw [List.getElem_take, List.getElem_drop]
    exact this
theorem row_part (R X b : List Int) (p : Nat) (hR : R.length = 16) (hb : b.length = 16) (hX : X.length = 4) (hp : p + 4 ≤ 16) (h : ∀ j, j < 4 → R.getD (p + j) 0 = X.getD j 0) :
    ((nums IntKind.u8 (R.take p ++ b.drop p)).toArray.toList.take p ++ nums .u8 X ++ (nums .u8 (R.take p ++ b.drop p)).toArray.toList.drop (p + (nums IntKind.u8 X).length)).toArray = (nums .u8 (R.take (p + 4) ++ b.drop (p + 4))).toArray := by
  have hl : (R.take p).length = p := by rw [List.length_take, hR]; omega
  have e1 : (R.take p ++ b.drop p).take p = R.take p := by rw [List.take_append_of_le_length (by omega), List.take_of_length_le (by omega)]
  have e2 : (R.take p ++ b.drop p).drop (p + 4) = b.drop (p + 4) := by
    rw [List.drop_append, hl, List.drop_eq_nil_of_le (by omega), List.nil_append, List.drop_drop]
    congr 1; omega
  have hn : (nums IntKind.u8 X).length = 4 := by simp [nums, hX]
  rw [hn, take_part R X p (by omega) hX h]
  congr 1
  simp only [nums]
  rw [← List.map_take, ← List.map_drop, e1, e2, List.map_append, List.map_append]
theorem arr4_at (a : Addr) (c : Nat) (W : World) : (Instr.arrayAt 74 (.slice (some a) 4 c)).run Try.prog W = .ok (.pointer (some a)) W := by
  simp [Instr.arrayAt, run_underlying Try.underlying74]
theorem nums_oneC {k : IntKind} {l : List Int} {u : Value} (h : u ∈ nums k l) : u.oneCell' = true := by
  obtain ⟨x, _, rfl⟩ := List.mem_map.1 h
  rfl
def clm_T5 : Bool × List (List Nat × List Nat) := (true, [([], []), ([0], [0]), ([], []), ([1, 2], [1, 2])])
def clm_B5 : List Nat := [0, 1, 0, 7]
theorem clm_tab5 : rtab .any (opsOf Try.f81 5) = clm_T5 := by kernel_rfl
theorem clm_bits5 : waitsOk clm_T5.2 clm_B5 = true := by kernel_rfl
end Go.Proofs.Ytfbggdlidelliaa.P

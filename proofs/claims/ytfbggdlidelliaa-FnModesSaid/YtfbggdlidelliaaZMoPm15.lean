/- Laid by a program of this session: of Pm15 what this law uses. -/
import Derived.Test.YtfbggdlidelliaaZMoM11
import Derived.Test.YtfbggdlidelliaaZMoPm2
import Derived.Test.YtfbggdlidelliaaZMoPm3
import Derived.Test.YtfbggdlidelliaaZMoPm6
import Derived.Test.YtfbggdlidelliaaZMoPm7
import Derived.Test.YtfbggdlidelliaaZMoPm4
import Derived.Test.YtfbggdlidelliaaZMoM22
namespace Go.Proofs.Ytfbggdlidelliaa.P
open Go.RowKit Go.Proofs.YtfbggdlidelliaaW.PrintWords Go.Proofs.YtfbggdlidelliaaW.PrintLast Go.Proofs.YtfbggdlidelliaaW.PrintMore
attribute [local go_sem] min2_int min_two
set_option linter.unusedVariables false
set_option linter.unusedSimpArgs false
def mpart (c f : List Int) (i : Nat) : Nat → Int
  | 0 => 0
  | k + 1 => Go.bits .xor .u8 (mpart c f i k) (tm (c.getD ((i + k) % 4) 0) (f.getD k 0))
def mixedL (c f : List Int) : List Int := [mpart c f 0 4, mpart c f 1 4, mpart c f 2 4, mpart c f 3 4]
def bytesOk (l : List Int) : Prop := ∀ x ∈ l, byteOk x
instance (x : Int) : Decidable (byteOk x) := by unfold byteOk; infer_instance
instance (l : List Int) : Decidable (bytesOk l) := by unfold bytesOk; infer_instance
theorem bytesOk_getD {l : List Int} (h : bytesOk l) (i : Nat) : byteOk (l.getD i 0) := by
  rcases Nat.lt_or_ge i l.length with hi | hi
  · rw [List.getD_eq_getElem?_getD, List.getElem?_eq_getElem hi]
    exact h _ (List.getElem_mem hi)
  · rw [List.getD_eq_getElem?_getD, List.getElem?_eq_none hi]
    exact ⟨by decide, by decide⟩
def mixedTo (c f : List Int) (i k : Nat) : List Int := (List.range 4).map fun j => if j < i then mpart c f j 4 else if j = i then mpart c f i k else 0
theorem mixedTo_length (c f : List Int) (i k : Nat) : (mixedTo c f i k).length = 4 := by simp [mixedTo]
theorem mixedTo_at (c f : List Int) (i k : Nat) (hi : i < 4) (h : i < (mixedTo c f i k).length) : (mixedTo c f i k)[i] = mpart c f i k := by
  simp [mixedTo]
theorem mixedTo_set (c f : List Int) (i k : Nat) (hi : i < 4) : (mixedTo c f i k).set i (mpart c f i (k + 1)) = mixedTo c f i (k + 1) := by
  apply List.ext_getElem
  · simp [mixedTo]
  · intro j h1 h2
    rw [List.getElem_set]
    have h4 : j < 4 := by simpa [mixedTo] using h2
    split
    · subst_vars; simp [mixedTo]
    · simp only [mixedTo, List.getElem_map, List.getElem_range]
      split
      · rfl
      · rw [if_neg (by omega), if_neg (by omega)]
theorem mixedTo_next (c f : List Int) (i : Nat) (hi : i < 4) : mixedTo c f i 4 = mixedTo c f (i + 1) 0 := by
  apply List.ext_getElem
  · simp [mixedTo]
  · intro j h1 h2
    simp only [mixedTo, List.getElem_map, List.getElem_range]
    by_cases e : j < i
    · rw [if_pos e, if_pos (by omega)]
    · by_cases e2 : j = i
      · subst e2; rw [if_neg (by omega), if_pos rfl, if_pos (by omega)]
      · rw [if_neg e, if_neg e2, if_neg (by omega)]
        split
        · subst_vars; rfl
        · rfl
theorem mix_info : (Try.prog.info? 74).map (·.size) = some 4 := by kernel_rfl
set_option maxHeartbeats 4000000 in
theorem impl_mixed_in (c f ml : List Int) (w : World) (hml : mixedL c f = ml) (hc : c.length = 4) (hf : f.length = 4) (oc : bytesOk c) (of : bytesOk f) :
    Calls Try.prog 104 #[arr8 c, arr8 f] w fun e w' => e = .returned (arr8 ml) ∧ Below w.heap.size w w' := by
  have HML := Aside0.mk hml
  have HLm : Aside0 ((nums IntKind.u8 ml).toArray.size = 4) := ⟨by rw [← hml]; rfl⟩
  clear hml
  have HC := Aside0.mk hc
  have HF := Aside0.mk hf
  have OC := Aside0.mk oc
  have OF := Aside0.mk of
  have HLc : Aside0 ((nums IntKind.u8 c).toArray.size = 4) := ⟨by simp [nums, hc]⟩
  have HLf : Aside0 ((nums IntKind.u8 f).toArray.size = 4) := ⟨by simp [nums, hf]⟩
  clear hc hf oc of
  unfold arr8
  go_enter Try.func104, Try.ntmps104
  go_wp2
  go_loopw [9] (fun i wr => ∃ k : Nat, k ≤ 4 ∧ i = .int .i64 k ∧ Aside0 (wr.heap[w.heap.size]? = some (.cells (nums .u8 c).toArray 74 (0, 0))) ∧ Aside0 (wr.heap[w.heap.size + 1]? = some (.cells (nums .u8 f).toArray 74 (0, 0)))
      ∧ Aside0 (wr.heap[w.heap.size + 1 + 1]? = some (.cells (nums .u8 [0, 0, 0, 0]).toArray 74 (0, 0))) ∧ Aside0 (wr.heap[w.heap.size + 1 + 1 + 1]? = some (.cells (nums .u8 (mixedTo c f k 0)).toArray 74 (0, 0))) ∧ Aside0 (Below w.heap.size w wr)) (fun i _ => 4 - (intOf i).toNat)
  case atStart => exact ⟨0, by omega, rfl, ⟨blk_alloc (blk_alloc (blk_alloc (blk_new w _) _) _) _⟩, ⟨blk_alloc (blk_alloc (blk_new2 w _ _) _) _⟩, ⟨blk_alloc (blk_new3 w _ _ _) _⟩, ⟨blk_new4 w _ _ _ _⟩, ⟨below_alloc (below_alloc (below_alloc (below_alloc (Below.refl w.heap.size w) _) _) _) _⟩⟩
  case round =>
    obtain ⟨i, hi, rfl, G1, G2, G3, G4, HB⟩ := hrel
    by_cases hlt : i < 4
    · have i0 : (0 : Int) ≤ (i : Int) := Int.natCast_nonneg i
      have i1 : (i : Int) < 4 := by omega
      have hd : decide ((i : Int) < 4) = true := decide_eq_true i1
      obtain ⟨wo, rfl⟩ : ∃ wo, wo = wr := ⟨_, rfl⟩
      go_wp2_with (refine wpList_load_row (by rfl) 74 (.tmp 3) (by rfl) _ (by rfl) 74 _ (0, 0) _ G2.out Try.underlying74 rfl (by rw [HLf.out]; exact mix_info) ?_)
      go_loopw [13] (fun j wr => ∃ k : Nat, k ≤ 4 ∧ j = .int .i64 k ∧ Aside0 (wr.heap[w.heap.size]? = some (.cells (nums .u8 c).toArray 74 (0, 0))) ∧ Aside0 (wr.heap[w.heap.size + 1]? = some (.cells (nums .u8 f).toArray 74 (0, 0)))
        ∧ Aside0 (wr.heap[w.heap.size + 1 + 1]? = some (.cells (nums .u8 [0, 0, 0, 0]).toArray 74 (0, 0))) ∧ Aside0 (wr.heap[w.heap.size + 1 + 1 + 1]? = some (.cells (nums .u8 (mixedTo c f i k)).toArray 74 (0, 0))) ∧ Aside0 (Below w.heap.size w wr)) (fun j _ => 4 - (intOf j).toNat)
      case atStart => exact ⟨0, by omega, rfl, G1, G2, G3, G4, HB⟩
      case round =>
        clear G1 G2 G3 G4 HB
        obtain ⟨k, hk, rfl, G1, G2, G3, G4, HB⟩ := hrel
        by_cases hlk : k < 4
        · have k0 : (0 : Int) ≤ (k : Int) := Int.natCast_nonneg k
          have k1 : (k : Int) < 4 := by omega
          have hdk : decide ((k : Int) < 4) = true := decide_eq_true k1
          have kx := run_index_agg (P := Try.prog) (xs := f) Try.underlying74 Try.underlying5 (by kernel_rfl) k hlk HF.out
          obtain ⟨m, hm⟩ : ∃ m, (i + k) % 4 = m := ⟨_, rfl⟩
          have hm4 : m < 4 := by omega
          have cO : wr.cell? ⟨w.heap.size + 1 + 1 + 1, i, none⟩ = some (.int .u8 (mpart c f i k)) := by
            rw [blk_cell G4.out i, nums_at (by rw [mixedTo_length]; exact hlt), mixedTo_at c f i k hlt]
          have zO := blk_frozen G4.out i
          have cA : wr.cell? ⟨w.heap.size, m, none⟩ = some (.int .u8 (c.getD m 0)) := by
            rw [blk_cell G1.out m, nums_at (by have := HC.out; omega)]
            simp [List.getD_eq_getElem?_getD, show m < c.length by have := HC.out; omega]
          have hmod : ((i : Int) + (k : Int)) % 4 = (m : Int) := by omega
          have m0 : (0 : Int) ≤ (m : Int) := Int.natCast_nonneg m
          have m1 : (m : Int) < 4 := by omega
          have HM := Aside0.mk hm
          clear hm
          go_wp2
          have htm : ((i : Int) + (k : Int)).tmod 4 = (m : Int) := by rw [Int.tmod_eq_emod_of_nonneg (by omega)]; exact hmod
          have hwm : IntKind.i64.wrap (m : Int) = (m : Int) := IntWalk.i64_in _ (by omega)
          have hws : IntKind.i64.wrap ((i : Int) + (k : Int)) = (i : Int) + (k : Int) := IntWalk.i64_in _ (by omega)
          go_region_with (go_at_call 73; refine (times_calls _ _ _ (bytesOk_getD OC.out m) (bytesOk_getD OF.out k)).mono ?_; rintro e w' ⟨rfl, ⟨⟨n, rfl⟩⟩⟩)
          all_goals
            clear htm hwm hws
            go_wp2
            go_roundw
            case rel =>
              refine ⟨k + 1, by omega, by go_num, ⟨blk_far (blk_drewN G1.out _) (by simp <;> omega) _⟩, ⟨blk_far (blk_drewN G2.out _) (by simp <;> omega) _⟩, ⟨blk_far (blk_drewN G3.out _) (by simp <;> omega) _⟩, ⟨?_⟩, ⟨below_set (pw_below_drewN HB.out _) (by omega)⟩⟩
              rw [← mixedTo_set c f i k hlt, ← nums_set]
              have e1 : mpart c f i (k + 1) = Go.bits .xor .u8 (mpart c f i k) (tm (c[m]?.getD 0) (f[k]?.getD 0)) := by
                simp only [mpart, HM.out, List.getD_eq_getElem?_getD]
              rw [e1]
              exact blk_set (blk_drewN G4.out _) i _
            case measure => simp [intOf]; omega
        · have hdk : decide ((k : Int) < 4) = false := decide_eq_false (by omega)
          have e4 : mixedTo c f i k = mixedTo c f (i + 1) 0 := by
            obtain rfl : k = 4 := by omega
            exact mixedTo_next c f i hlt
          rw [e4] at G4
          clear e4
          go_wp2
          go_roundw
          case rel => exact ⟨i + 1, by omega, by go_num, G1, G2, G3, G4, HB⟩
          case measure => simp [intOf]; omega
    · have hd : decide ((i : Int) < 4) = false := decide_eq_false (by omega)
      have e4 : mixedTo c f i 0 = ml := by
        obtain rfl : i = 4 := by omega
        exact HML.out
      rw [e4] at G4
      clear e4
      have GR := Aside0.mk (setRow_heap wr (w.heap.size + 1 + 1) _ (nums IntKind.u8 (ml)).toArray _ _ G3.out)
      go_wp2_with (first
        | (refine wpList_load_row (by rfl) 74 (.tmp 5) (by rfl) _ (by rfl) 74 _ (0, 0) _ G4.out Try.underlying74 rfl (by rw [HLm.out]; exact mix_info) ?_)
        | (refine wpList_store_row (by rfl) 74 (.tmp 4) (.tmp 32) (by rfl) (w.heap.size + 1 + 1) _ (by rfl) (by rfl) 74 _ G3.out (by rw [HLm.out]; exact mix_info) (by rw [HLm.out]; rfl) (nums_one _ _) ?_))
      refine bodyPost_ret (v := arr8 (ml)) ?_ rfl ?_
      · exact results_cell_row (fn := Try.f104) (p := 4) (ty := 74) Try.results104 _ _ _ 74 _ (0, 0) _ (by rfl) GR.out Try.underlying74 rfl (by rw [HLm.out]; exact mix_info)
      · exact ⟨rfl, below_row HB.out (by omega) _⟩
theorem impl_mixed.calls (c f : List Int) (w : World) (hc : c.length = 4) (hf : f.length = 4) (oc : bytesOk c) (of : bytesOk f) :
    Calls Try.prog 104 #[arr8 c, arr8 f] w fun e w' => e = .returned (arr8 (mixedL c f)) ∧ Below w.heap.size w w' := impl_mixed_in c f _ w rfl hc hf oc of
set_option maxHeartbeats 1000000 in
theorem impl_unmix.calls (c : List Int) (w : World) (hc : c.length = 4) (oc : bytesOk c) :
    Calls Try.prog 85 #[arr8 c] w fun e w' => e = .returned (arr8 (mixedL c [14, 11, 13, 9])) ∧ Below w.heap.size w w' := by
  have HC := Aside0.mk hc
  have HLc : Aside0 ((nums IntKind.u8 c).toArray.size = 4) := ⟨by simp [nums, hc]⟩
  have OC := Aside0.mk oc
  obtain ⟨ml, hml⟩ : ∃ ml, mixedL c [14, 11, 13, 9] = ml := ⟨_, rfl⟩
  have HLm : Aside0 ((nums IntKind.u8 ml).toArray.size = 4) := ⟨by rw [← hml]; rfl⟩
  rw [hml]
  have HML := Aside0.mk hml
  clear hc oc hml
  unfold arr8
  have G1 := Aside0.mk (blk_alloc (blk_new w (Obj.cells (nums .u8 c).toArray 74)) (Obj.cells (nums .u8 [0, 0, 0, 0]).toArray 74))
  have G2 := Aside0.mk (blk_new2 w (Obj.cells (nums .u8 c).toArray 74) (Obj.cells (nums .u8 [0, 0, 0, 0]).toArray 74))
  have HB0 := Aside0.mk (below_alloc (below_alloc (Below.refl w.heap.size w) (Obj.cells (nums .u8 c).toArray 74)) (Obj.cells (nums .u8 [0, 0, 0, 0]).toArray 74))
  have HZ : Aside0 (((w.alloc (Obj.cells (nums .u8 c).toArray 74)).alloc (Obj.cells (nums .u8 [0, 0, 0, 0]).toArray 74)).heap.size = w.heap.size + 2) := ⟨by simp⟩
  go_enter Try.func85, Try.ntmps85
  go_wp2_with (refine wpList_load_row (by rfl) 74 (.tmp 1) (by rfl) _ (by rfl) 74 _ (0, 0) _ G1.out Try.underlying74 rfl (by rw [HLc.out]; exact mix_info) ?_)
  refine (impl_mixed.calls c [14, 11, 13, 9] _ HC.out rfl OC.out (by decide)).mono ?_
  rw [HML.out]
  rintro e w' ⟨rfl, hb⟩
  unfold arr8
  have G3 := Aside0.mk (blk_below G2.out hb)
  have HB1 := Aside0.mk (below_then HB0.out HB0.out.size hb)
  have GR := Aside0.mk (setRow_heap w' (w.heap.size + 1) _ (nums IntKind.u8 ml).toArray _ _ G3.out)
  clear hb
  go_wp2_with (refine wpList_store_row (by rfl) 74 (.tmp 2) (.tmp 5) (by rfl) (w.heap.size + 1) _ (by rfl) (by rfl) 74 _ G3.out (by rw [HLm.out]; exact mix_info) (by rw [HLm.out]; rfl) (nums_one _ _) ?_)
  refine bodyPost_ret (v := arr8 ml) ?_ rfl ?_
  · exact results_cell_row (fn := Try.f85) (p := 2) (ty := 74) Try.results85 _ _ _ 74 _ (0, 0) _ (by rfl) GR.out Try.underlying74 rfl (by rw [HLm.out]; exact mix_info)
  · exact ⟨rfl, below_row HB1.out (by omega) _⟩
end Go.Proofs.Ytfbggdlidelliaa.P

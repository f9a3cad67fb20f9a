/- Laid by a program of this session: of Ph4 what this law uses. -/
import Derived.Test.YtlfpogbonmddmaaZHkM9
import Derived.Test.YtlfpogbonmddmaaZHkPh2
import Derived.Test.YtlfpogbonmddmaaZHkPh3
namespace Go.Proofs.Ytlfpogbonmddmaa.P
open Go.RowKit Go.Proofs.YtlfpogbonmddmaaW.PrintWords Go.Proofs.YtlfpogbonmddmaaW.PrintLast Go.Proofs.YtlfpogbonmddmaaW.PrintMore
attribute [local go_sem] min2_int min_two
set_option linter.unusedVariables false
set_option linter.unusedSimpArgs false
def impl_masked.f (a0 : ByteArray) (a1 : Int) : Option ByteArray := if a0.size ≤ 64 then some (strOfNums (Sha.maskL (bytesL a0) a1)) else none
theorem maskB (w : World) (s : ByteArray) (W : World) (g : Nat) (hs : s.size ≤ 64) (hg : W.heap[g]? = some (.cells (nums .u8 (List.replicate 64 0)).toArray 5 (0, 0))) (ty : TypeId) :
    (Builtin.copy_ #[22, 9] ty #[.slice (some ⟨g, 0, none⟩) 64 64, .string s]).run Try.prog W = .ok (.int .i64 (s.size : Int)) (W.setRow g (nums .u8 (bytesL s ++ List.replicate (64 - s.size) 0)).toArray) := by
  have h := Lib.run_copy_row_string (P := Try.prog) W 22 9 ty 5 g 0 64 64 s _ _ Try.underlying22 (by kernel_rfl) hg hs (by simp [nums]; exact hs)
  rw [h]
  have e : ∀ n : Nat, (List.take 0 (nums IntKind.u8 (List.replicate n 0)).toArray.toList ++ Lib.byteCells s.data.toList ++ List.drop (0 + s.size) (nums IntKind.u8 (List.replicate n 0)).toArray.toList) = nums .u8 (bytesL s ++ List.replicate (n - s.size) 0) := fun n => by
    simp [nums, bytesL, Lib.byteCells, List.map_map, Function.comp_def]
  rw [e 64]
  rfl
set_option maxHeartbeats 4000000 in
set_option maxRecDepth 100000 in
theorem impl_masked_in (s : ByteArray) (m : Int) (w : World) (hs : s.size ≤ 64) :
    Calls Try.prog 93 #[.string s, .int .u8 m] w fun e w' => e = .returned (.string (strOfNums (Sha.maskL (bytesL s) m))) ∧ Below w.heap.size w w' := by
  have HSZ := Aside0.mk hs
  clear hs
  obtain ⟨L0, hL0⟩ : ∃ L, L = bytesL s ++ List.replicate (64 - s.size) (0 : Int) := ⟨_, rfl⟩
  obtain ⟨M, hM⟩ : ∃ M, M = Sha.maskL (bytesL s) m := ⟨_, rfl⟩
  have hl0 : L0.length = 64 := by rw [hL0, List.length_append, bytesL_length, List.length_replicate]; have := HSZ.out; omega
  have hlm : M.length = 64 := by rw [hM]; simp [Sha.maskL]
  have HMat : Aside0 (∀ j, j < 64 → M.getD j 0 = Go.bits .xor .u8 (L0.getD j 0) m) := ⟨fun j hj => by
    have e : L0.getD j 0 = (bytesL s).getD j 0 := by
      rw [hL0, List.getD_eq_getElem?_getD, List.getD_eq_getElem?_getD]
      rcases Nat.lt_or_ge j (bytesL s).length with h | h
      · rw [List.getElem?_append_left h]
      · rw [List.getElem?_append_right h, List.getElem?_eq_none h, List.getElem?_replicate]
        split <;> rfl
    rw [e, hM]
    simp [Sha.maskL, List.getD_eq_getElem?_getD, hj]⟩
  rw [← hM]
  have HL0 := Aside0.mk hl0
  have HLM := Aside0.mk hlm
  have HLL : Aside0 (M.length = L0.length) := ⟨by rw [hl0, hlm]⟩
  have HE0 := Aside0.mk hL0
  clear hL0 hM hl0 hlm
  have HCP := Aside0.mk (fun (W : World) (hg : W.heap[w.heap.size]? = some (.cells (nums .u8 (List.replicate 64 0)).toArray 5 (0, 0))) (ty : TypeId) => maskB w s W w.heap.size HSZ.out hg ty)
  rw [← HE0.out] at HCP
  have HR1 := Aside0.mk (setRow_heap _ w.heap.size _ (nums .u8 L0).toArray _ _ (blk_new w (Obj.cells (nums .u8 (List.replicate 64 0)).toArray 5 (0, 0))))
  have HB1 : Aside0 (Below w.heap.size w ((w.alloc (Obj.cells (nums .u8 (List.replicate 64 0)).toArray 5 (0, 0))).setRow w.heap.size (nums .u8 L0).toArray)) := ⟨below_row (below_alloc (Below.refl _ _) _) (Nat.le_refl _) _⟩
  have kmk : ∀ V : World, (Instr.makeSlice 22 (.int .i64 64) (.int .i64 64)).run Try.prog V = .ok (.slice (some ⟨V.heap.size, 0, none⟩) 64 64) (V.alloc (.cells (nums .u8 (List.replicate 64 0)).toArray 5)) := fun V => run_make_nums (m := 64) Try.underlying22 (.inl (by kernel_rfl)) (by decide) V
  go_enter Try.func93, Try.ntmps93
  go_wp2_with ((with_reducible refine gate_builtin (b := .copy) (xs := #[.tmp 8, .tmp 9]) rfl ?_); refine Lib.wpList_copy_run _ rfl (.tmp 8) (.tmp 9) 22 9 rfl _ _ (by rfl) (by rfl) (HCP.out _ (by exact blk_new w _) _) ?_)
  clear kmk
  go_loopw [13] (fun i wr => ∃ j : Nat, j ≤ 64 ∧ i = .int .i64 j ∧ Aside0 (wr.heap[w.heap.size]? = some (.cells (nums .u8 (M.take j ++ L0.drop j)).toArray 5 (0, 0))) ∧ Aside0 (Below w.heap.size w wr)) (fun i _ => 64 - (intOf i).toNat)
  case atStart => exact ⟨0, by omega, rfl, HR1, HB1⟩
  case round =>
    obtain ⟨j, hj, rfl, G, HB⟩ := hrel
    by_cases hlt : j < 64
    · have j0 : (0 : Int) ≤ (j : Int) := Int.natCast_nonneg j
      have j1 : (j : Int) < 64 := by omega
      have hd : decide ((j : Int) < 64) = true := decide_eq_true j1
      obtain ⟨x, hx⟩ : ∃ x, x = L0.getD j 0 := ⟨_, rfl⟩
      have HX : Aside0 (M.getD j 0 = Go.bits .xor .u8 x m) := ⟨by rw [hx]; exact HMat.out j hlt⟩
      have cA : wr.cell? ⟨w.heap.size, j, none⟩ = some (.int .u8 x) := by
        rw [blk_cell G.out j]
        exact nums_at? _ _ _ _ (by rw [td_at M L0 HLL.out j (by rw [HLM.out]; exact hlt), hx])
      have zA := blk_frozen G.out j
      have HTD := Aside0.mk (td_set M L0 HLL.out j (by rw [HLM.out]; exact hlt))
      clear hx
      go_wp2
      go_roundw
      case rel =>
        refine ⟨j + 1, by omega, by go_num, ⟨?_⟩, ⟨below_set HB.out (Nat.le_refl _)⟩⟩
        rw [← HTD.out, HX.out, ← nums_set]
        exact blk_set G.out j _
      case measure => simp [intOf]; omega
    · have hd : decide ((j : Int) < 64) = false := decide_eq_false (by omega)
      have e64 : M.take j ++ L0.drop j = M := by
        have h1 := HLM.out
        have h2 := HL0.out
        rw [List.take_of_length_le (by omega), List.drop_eq_nil_of_le (by omega), List.append_nil]
      rw [e64] at G
      clear e64
      have HC : Aside0 (Kd.C (Kd.int .u8) wr (some ⟨w.heap.size, 0, none⟩) 64 M) := ⟨by
        have h := C_cells (W := wr) (ad := ⟨w.heap.size, 0, none⟩) (b := M) (by rw [HLM.out]; decide) (fun i hi => by
          rw [add_plain, blk_cell G.out i]
          exact nums_at? _ _ _ _ (by rw [List.getD_eq_getElem?_getD, List.getElem?_eq_getElem hi]; rfl))
        rw [HLM.out] at h
        exact h⟩
      have ks := Kd.C_string (P := Try.prog) (dst := 9) (src := 22) (c := 64) Try.underlying22 Try.underlying5 Try.underlying9 HC.out
      go_wp2
      go_ret
      exact ⟨rfl, HB.out⟩
theorem impl_masked.calls (a0 : ByteArray) (a1 : Int) (r : ByteArray) (w : World) (h : impl_masked.f a0 a1 = some r) :
    Calls Try.prog 93 #[.string a0, .int .u8 a1] w fun e w' => e = .returned (.string r) ∧ Below w.heap.size w w' := by
  unfold impl_masked.f at h
  split at h
  · rename_i h1
    injection h with h
    subst h
    exact impl_masked_in a0 a1 w h1
  · cases h
def impl_hmac.j0 : Nat → ByteArray → ByteArray → Option (ByteArray)
  | 0, _, _ => none
  | k + 1, x0, x1 => (impl_masked.f x0 92).bind fun t152 => ((impl_masked.f x0 54).bind fun t153 => (if t153.size + x1.size ≤ 9223372036854775807 then ((impl_hash.f (t153 ++ x1)).bind fun t154 => (if t152.size + t154.size ≤ 9223372036854775807 then ((impl_hash.f (t152 ++ t154)).bind fun t155 => (some t155)) else (none))) else (none)))
def impl_hmac.f (k : Nat) (a0 : ByteArray) (a1 : ByteArray) : Option (ByteArray) := if (a0.size : Int) > 64 then ((impl_hash.f a0).bind fun t151 => (impl_hmac.j0 k t151 a1)) else (impl_hmac.j0 k a0 a1)
set_option maxHeartbeats 8000000 in
set_option maxRecDepth 100000 in
theorem impl_hmac.calls (k : Nat) (a0 : ByteArray) (a1 : ByteArray) (r : ByteArray) (w : World) (h : impl_hmac.f k a0 a1 = some r) :
    Calls Try.prog 71 #[.string a0, .string a1] w fun e w' => e = .returned (.string r) ∧ Below w.heap.size w w' := by
  have HB := Aside0.mk (Below.refl w.heap.size w)
  have H : (if (a0.size : Int) > 64 then ((impl_hash.f a0).bind fun t151 => (impl_hmac.j0 k t151 a1)) else (impl_hmac.j0 k a0 a1)) = some r := h
  clear h
  have HC3 := Aside0.mk H
  clear H
  go_enter Try.func71, Try.ntmps71
  go_upto_if 7 with (fail)
  go_cut [0] (fun v0 wc => ∃ (kq : Nat) (x0_2 : ByteArray), v0 = .string x0_2 ∧ Aside0 (impl_hmac.j0 kq x0_2 a1 = some r) ∧ Aside0 (kq ≤ k) ∧ Aside0 (Below w.heap.size w wc))
  case first =>
    have H := HC3.out
    clear HC3
    by_cases c4 : (a0.size : Int) > 64
    · rw [if_pos c4] at H
      have c4b0 : decide (64 < (a0.size : Int)) = true := decide_eq_true c4
      have c4b1 : decide (64 < a0.size) = true := decide_eq_true (by omega)
      clear c4
      (first | rw [c4b0] | (simp only [i64_w, i32_w]; rw [c4b0]) | skip)
      replace H := Option.bind_eq_some_iff.mp H
      obtain ⟨t151, A50, H⟩ := H
      replace H : (impl_hmac.j0 k t151 a1) = some r := H
      have A5 := Aside0.mk A50
      clear A50
      have H' := Aside0.mk H
      clear H
      go_wp2_with (first | ((with_reducible refine gate_callee (f := 69) rfl ?_); refine goesL_ (some 9) rfl rfl Try.func69 (by kernel_rfl) rfl #[.string a0] rfl (by (try simp only [List.map_toArray, List.map_cons, List.map_nil]); first | done | rfl | (simp only [List.length_drop, List.length_take]; rfl)) ?_; (with_reducible refine (impl_hash.calls a0 t151 _ A5.out).mono ?_); rintro e w6 ⟨rfl, hb⟩; refine ⟨_, rfl, ?_⟩; have n0_ := Aside0.mk (below_step (by repeat (first | (with_reducible first | exact HB.out | apply below_alloc | apply pw_below_drewN | apply below_drew1) | exact HB.out)) hb); clear HB; have HB := n0_; clear n0_; (try clear hb); (try clear hb2); (try clear hk); (try clear hi)))
      go_meet
      case rel => exact ⟨_, (t151), (by first | rfl | (simp; done) | (simp [*]; done)), H', ⟨by first | omega | exact Nat.le_refl _⟩, ⟨by repeat (first | (with_reducible first | exact HB.out | apply below_alloc | apply pw_below_drewN | apply below_drew1) | exact HB.out)⟩⟩
    · rw [if_neg c4] at H
      have c4b0 : decide (64 < (a0.size : Int)) = false := decide_eq_false c4
      have c4b1 : decide (64 < a0.size) = false := decide_eq_false (by omega)
      clear c4
      (first | rw [c4b0] | (simp only [i64_w, i32_w]; rw [c4b0]) | skip)
      have H' := Aside0.mk H
      clear H
      go_wp2
      go_meet
      case rel => exact ⟨_, (a0), (by first | rfl | (simp; done) | (simp [*]; done)), H', ⟨by first | omega | exact Nat.le_refl _⟩, ⟨by repeat (first | (with_reducible first | exact HB.out | apply below_alloc | apply pw_below_drewN | apply below_drew1) | exact HB.out)⟩⟩
  case rest =>
    clear HC3
    try clear p2
    try clear c4
    try clear c4b0
    try clear c4b1
    try clear c6
    obtain ⟨kq, x0_2, rfl, HA, HJ2, HB⟩ := hcut
    cases kq with
    | zero => exact absurd HA.out (by simp [impl_hmac.j0])
    | succ kj2 =>
      have H := HA.out
      clear HA
      simp only [impl_hmac.j0] at H
      replace H := Option.bind_eq_some_iff.mp H
      obtain ⟨t152, A70, H⟩ := H
      replace H : ((impl_masked.f x0_2 54).bind fun t153 => (if t153.size + a1.size ≤ 9223372036854775807 then ((impl_hash.f (t153 ++ a1)).bind fun t154 => (if t152.size + t154.size ≤ 9223372036854775807 then ((impl_hash.f (t152 ++ t154)).bind fun t155 => (some t155)) else (none))) else (none))) = some r := H
      have A7 := Aside0.mk A70
      clear A70
      replace H := Option.bind_eq_some_iff.mp H
      obtain ⟨t153, A80, H⟩ := H
      replace H : (if t153.size + a1.size ≤ 9223372036854775807 then ((impl_hash.f (t153 ++ a1)).bind fun t154 => (if t152.size + t154.size ≤ 9223372036854775807 then ((impl_hash.f (t152 ++ t154)).bind fun t155 => (some t155)) else (none))) else (none)) = some r := H
      have A8 := Aside0.mk A80
      clear A80
      by_cases c9 : t153.size + a1.size ≤ 9223372036854775807
      · rw [if_pos c9] at H
        have c9b0 := eq_true c9
        have c9b1 : decide (t153.size + a1.size ≤ 9223372036854775807) = true := decide_eq_true c9
        try have c9b2 : (9223372036854775807 < t153.size + a1.size) = False := eq_false (Nat.not_lt.2 c9)
        replace H := Option.bind_eq_some_iff.mp H
        obtain ⟨t154, A100, H⟩ := H
        replace H : (if t152.size + t154.size ≤ 9223372036854775807 then ((impl_hash.f (t152 ++ t154)).bind fun t155 => (some t155)) else (none)) = some r := H
        have A10 := Aside0.mk A100
        clear A100
        by_cases c11 : t152.size + t154.size ≤ 9223372036854775807
        · rw [if_pos c11] at H
          have c11b0 := eq_true c11
          have c11b1 : decide (t152.size + t154.size ≤ 9223372036854775807) = true := decide_eq_true c11
          try have c11b2 : (9223372036854775807 < t152.size + t154.size) = False := eq_false (Nat.not_lt.2 c11)
          replace H := Option.bind_eq_some_iff.mp H
          obtain ⟨t155, A120, H⟩ := H
          replace H : (some t155) = some r := H
          have A12 := Aside0.mk A120
          clear A120
          obtain rfl := Option.some.inj H
          go_wp2_with (first | ((with_reducible refine gate_callee (f := 93) rfl ?_); refine goesL_ (some 11) rfl rfl Try.func93 (by kernel_rfl) rfl #[.string x0_2, .int .u8 92] rfl (by (try simp only [List.map_toArray, List.map_cons, List.map_nil]); first | done | rfl | (simp only [List.length_drop, List.length_take]; rfl)) ?_; (with_reducible refine (impl_masked.calls x0_2 92 t152 _ A7.out).mono ?_); rintro e w13 ⟨rfl, hb⟩; refine ⟨_, rfl, ?_⟩; have n0_ := Aside0.mk (below_step (by repeat (first | (with_reducible first | exact HB.out | apply below_alloc | apply pw_below_drewN | apply below_drew1) | exact HB.out)) hb); clear HB; have HB := n0_; clear n0_; (try clear hb); (try clear hb2); (try clear hk); (try clear hi)) | ((with_reducible refine gate_callee (f := 93) rfl ?_); refine goesL_ (some 13) rfl rfl Try.func93 (by kernel_rfl) rfl #[.string x0_2, .int .u8 54] rfl (by (try simp only [List.map_toArray, List.map_cons, List.map_nil]); first | done | rfl | (simp only [List.length_drop, List.length_take]; rfl)) ?_; (with_reducible refine (impl_masked.calls x0_2 54 t153 _ A8.out).mono ?_); rintro e w14 ⟨rfl, hb⟩; refine ⟨_, rfl, ?_⟩; have n0_ := Aside0.mk (below_step (by repeat (first | (with_reducible first | exact HB.out | apply below_alloc | apply pw_below_drewN | apply below_drew1) | exact HB.out)) hb); clear HB; have HB := n0_; clear n0_; (try clear hb); (try clear hb2); (try clear hk); (try clear hi)) | ((with_reducible refine gate_callee (f := 69) rfl ?_); refine goesL_ (some 16) rfl rfl Try.func69 (by kernel_rfl) rfl #[.string (t153 ++ a1)] rfl (by (try simp only [List.map_toArray, List.map_cons, List.map_nil]); first | done | rfl | (simp only [List.length_drop, List.length_take]; rfl)) ?_; (with_reducible refine (impl_hash.calls (t153 ++ a1) t154 _ A10.out).mono ?_); rintro e w15 ⟨rfl, hb⟩; refine ⟨_, rfl, ?_⟩; have n0_ := Aside0.mk (below_step (by repeat (first | (with_reducible first | exact HB.out | apply below_alloc | apply pw_below_drewN | apply below_drew1) | exact HB.out)) hb); clear HB; have HB := n0_; clear n0_; (try clear hb); (try clear hb2); (try clear hk); (try clear hi)) | ((with_reducible refine gate_callee (f := 69) rfl ?_); refine goesL_ (some 18) rfl rfl Try.func69 (by kernel_rfl) rfl #[.string (t152 ++ t154)] rfl (by (try simp only [List.map_toArray, List.map_cons, List.map_nil]); first | done | rfl | (simp only [List.length_drop, List.length_take]; rfl)) ?_; (with_reducible refine (impl_hash.calls (t152 ++ t154) t155 _ A12.out).mono ?_); rintro e w16 ⟨rfl, hb⟩; refine ⟨_, rfl, ?_⟩; have n0_ := Aside0.mk (below_step (by repeat (first | (with_reducible first | exact HB.out | apply below_alloc | apply pw_below_drewN | apply below_drew1) | exact HB.out)) hb); clear HB; have HB := n0_; clear n0_; (try clear hb); (try clear hb2); (try clear hk); (try clear hi)))
          go_ret
          exact ⟨by first | rfl | (simp [errW_none, errW_some] <;> rfl) | (simp [*, errW_none, errW_some] <;> rfl), by repeat (first | (with_reducible first | exact HB.out | apply below_alloc | apply pw_below_drewN | apply below_drew1) | exact HB.out)⟩
        · rw [if_neg c11] at H
          exact absurd H (by simp)
      · rw [if_neg c9] at H
        exact absurd H (by simp)
def impl_Hmac.f (k : Nat) (l0 : List Int) (l1 : List Int) : Option (ByteArray × Int) := (impl_isLong_byte.f (([l0, l1] : List (List Int)))).bind fun t159 => (if t159 = true then (some ((⟨#[]⟩ : ByteArray), 2)) else ((impl_hmac.f k (strOfNums l0) (strOfNums l1)).bind fun t160 => (some (t160, 0))))
set_option maxHeartbeats 8000000 in
set_option maxRecDepth 100000 in
theorem impl_Hmac.calls (k : Nat) (P0_ : Nat → Prop) (A0 : Option Addr) (c0 : Nat) (l0 : List Int) (P1_ : Nat → Prop) (A1 : Option Addr) (c1 : Nat) (l1 : List Int) (r1 : ByteArray) (r2 : Int) (w : World) (hs0 : Kd.V (Kd.int .u8) 5 w w.heap.size (fun k_ => P0_ k_) (.slice A0 l0.length c0) l0) (hs1 : Kd.V (Kd.int .u8) 5 w w.heap.size (fun k_ => P1_ k_) (.slice A1 l1.length c1) l1) (h : impl_Hmac.f k l0 l1 = some (r1, r2)) :
    Calls Try.prog 37 #[.slice A0 l0.length c0, .slice A1 l1.length c1] w fun e w' => e = .returned (.tuple #[.string r1, .int .i64 r2]) ∧ Below w.heap.size w w' := by
  have HO0 := Aside0.mk (show Kd.V (Kd.int .u8) 5 w w.heap.size (fun k_ => ((P0_ k_ ∨ P1_ k_) ∨ w.heap.size ≤ k_)) (.slice A0 l0.length c0) l0 from Kd.V_mono hs0 (fun k_ hk => .inl (.inl hk)))
  have HO1 := Aside0.mk (show Kd.V (Kd.int .u8) 5 w w.heap.size (fun k_ => ((P0_ k_ ∨ P1_ k_) ∨ w.heap.size ≤ k_)) (.slice A1 l1.length c1) l1 from Kd.V_mono hs1 (fun k_ hk => .inl (.inr hk)))
  have HB := Aside0.mk (Below.refl w.heap.size w)
  have H : ((impl_isLong_byte.f (([l0, l1] : List (List Int)))).bind fun t159 => (if t159 = true then (some ((⟨#[]⟩ : ByteArray), 2)) else ((impl_hmac.f k (strOfNums l0) (strOfNums l1)).bind fun t160 => (some (t160, 0))))) = some (r1, r2) := h
  clear h
  obtain ⟨y156, hy156⟩ : ∃ y_ : List (List Int), y_ = (([l0, l1] : List (List Int))) := ⟨_, rfl⟩
  replace H : ((impl_isLong_byte.f y156).bind fun t159 => (if t159 = true then (some ((⟨#[]⟩ : ByteArray), 2)) else ((impl_hmac.f k (strOfNums l0) (strOfNums l1)).bind fun t160 => (some (t160, 0))))) = some (r1, r2) := by first | (rw [hy156]; with_reducible exact H) | (have H2_ := (Option.bind_some _ _).symm.trans H; rw [hy156]; with_reducible exact H2_) | (have H2_ := (Option.bind_some _ _).symm.trans H; with_reducible exact H2_) | with_reducible exact H | (rw [hy156]; exact H) | exact H
  have Ny156 := Aside0.mk hy156
  clear hy156
  replace H := Option.bind_eq_some_iff.mp H
  obtain ⟨t159, A30, H⟩ := H
  replace H : (if t159 = true then (some ((⟨#[]⟩ : ByteArray), 2)) else ((impl_hmac.f k (strOfNums l0) (strOfNums l1)).bind fun t160 => (some (t160, 0)))) = some (r1, r2) := H
  have A3 := Aside0.mk A30
  clear A30
  by_cases c4 : t159 = true
  · subst c4
    have H1 : (some ((⟨#[]⟩ : ByteArray), 2)) = some (r1, r2) := by rw [if_pos rfl] at H; exact H
    clear H
    have H := H1
    clear H1
    simp only [Option.some.injEq, Prod.mk.injEq] at H
    obtain ⟨rfl, rfl⟩ := H
    go_enter Try.func37, Try.ntmps37
    go_wp2_with (first | ((with_reducible refine gate_dst (N := 8) rfl ?_); refine Kd.N_lit (Kd.slice 5 (Kd.int .u8)) _ 22 ?hg (N' := 8) ?hd (xs := ([l0, l1] : List (List Int))) (inner := [.slice A0 l0.length c0, .slice A1 l1.length c1]) (ok := (fun k_ => ((P0_ k_ ∨ P1_ k_) ∨ w.heap.size ≤ k_))) (okp := (fun k_ => ((P0_ k_ ∨ P1_ k_) ∨ w.heap.size ≤ k_))) ?hr ?hp (fun _ hk => hk) ((show ∀ k_, w.heap.size ≤ k_ → (fun k_ => ((P0_ k_ ∨ P1_ k_) ∨ w.heap.size ≤ k_)) k_ from fun k_ hk => (.inr (Nat.le_trans (below_size (by repeat (first | (with_reducible first | exact HB.out | apply below_alloc | apply pw_below_drewN | apply below_drew1) | exact HB.out))) hk))) _ (Nat.le_refl _)) (Below.refl _ _) (Nat.le_refl _) (by simp) ?_; (case hd => rfl); (case hg => rfl); (case hr => first | (go_simp; done) | (go_simp; rfl)); (case hp => exact (Reps.one (show Kd.FK (Kd.slice 5 (Kd.int .u8)) _ _ l0 [.slice A0 l0.length c0] from (Kd.FK_slice_mk (Kd.V_reads' (Kd.V_mono (ok' := (fun k_ => ((P0_ k_ ∨ P1_ k_) ∨ w.heap.size ≤ k_))) (HO0.out) (fun k_ hk => hk))).2.1 (Kd.V_F (Kd.V_mono (ok' := (fun k_ => ((P0_ k_ ∨ P1_ k_) ∨ w.heap.size ≤ k_))) (HO0.out) (fun k_ hk => hk))))) (Reps.one (show Kd.FK (Kd.slice 5 (Kd.int .u8)) _ _ l1 [.slice A1 l1.length c1] from (Kd.FK_slice_mk (Kd.V_reads' (Kd.V_mono (ok' := (fun k_ => ((P0_ k_ ∨ P1_ k_) ∨ w.heap.size ≤ k_))) (HO1.out) (fun k_ hk => hk))).2.1 (Kd.V_F (Kd.V_mono (ok' := (fun k_ => ((P0_ k_ ∨ P1_ k_) ∨ w.heap.size ≤ k_))) (HO1.out) (fun k_ hk => hk))))) (Reps.none _ _)))); intro v157 w5 ho6 hb hg_ hnew_; clear hg_ hnew_; (first | rw [← Ny156.out] at ho6 | (simp only [Int.reduceToNat] at ho6; rw [← Ny156.out] at ho6)); have n0_ := Aside0.mk (Kd.V_elder' (by (with_reducible repeat (first | apply Kd.V_alloc | apply Kd.V_drewN | apply Kd.V_drew)); exact HO0.out) (Kd.N_base ho6) hb); have n1_ := Aside0.mk (Kd.V_elder' (by (with_reducible repeat (first | apply Kd.V_alloc | apply Kd.V_drewN | apply Kd.V_drew)); exact HO1.out) (Kd.N_base ho6) hb); have n2_ := Aside0.mk (Kd.N_lower ho6 (below_size (by repeat (first | (with_reducible first | exact HB.out | apply below_alloc | apply pw_below_drewN | apply below_drew1) | exact HB.out)))); have n3_ := Aside0.mk (below_step (by repeat (first | (with_reducible first | exact HB.out | apply below_alloc | apply pw_below_drewN | apply below_drew1) | exact HB.out)) hb); clear HO0; clear HO1; clear HB; have HO0 := n0_; have HO1 := n1_; have HO158 := n2_; have HB := n3_; clear n0_ n1_ n2_ n3_; clear hb ho6; obtain ⟨Ao7, co7, eo7⟩ := Kd.N_slice HO158.out; subst eo7) | ((with_reducible refine gate_callee (f := 49) rfl ?_); refine goesL_ (some 9) rfl rfl Try.func49 (by kernel_rfl) rfl #[.slice Ao7 y156.length co7] rfl (by (try simp only [List.map_toArray, List.map_cons, List.map_nil]); first | done | rfl | (simp only [List.length_drop, List.length_take]; rfl)) ?_; (with_reducible refine (impl_isLong_byte.calls _ _ y156 true _ ?side1 ?side2 A3.out).mono ?_); (case side1 => repeat (first | exact (Kd.N_reads' HO158.out).2.2 | (with_reducible refine Kd.C_alloc ?_ _) | (with_reducible refine Kd.C_drewN ?_ _) | (with_reducible refine Kd.C_drew ?_))); (case side2 => exact (Kd.N_reads' HO158.out).2.1); rintro e w' ⟨rfl, ⟨nd, rfl⟩⟩; refine ⟨_, rfl, ?_⟩))
    go_ret2
    exact ⟨by first | rfl | (simp [errW_none, errW_some] <;> rfl) | (simp [*, errW_none, errW_some] <;> rfl), by repeat (first | (with_reducible first | exact HB.out | apply below_alloc | apply pw_below_drewN | apply below_drew1) | exact HB.out)⟩
  · replace c4 := Bool.eq_false_iff.mpr c4
    subst c4
    have H1 : ((impl_hmac.f k (strOfNums l0) (strOfNums l1)).bind fun t160 => (some (t160, 0))) = some (r1, r2) := by rw [if_neg (show ¬ (false = true) by decide)] at H; exact H
    clear H
    have H := H1
    clear H1
    replace H := Option.bind_eq_some_iff.mp H
    obtain ⟨t160, A80, H⟩ := H
    replace H : (some (t160, 0)) = some (r1, r2) := H
    have A8 := Aside0.mk A80
    clear A80
    simp only [Option.some.injEq, Prod.mk.injEq] at H
    obtain ⟨rfl, rfl⟩ := H
    go_enter Try.func37, Try.ntmps37
    go_wp2_with (first | ((with_reducible refine gate_dst (N := 8) rfl ?_); refine Kd.N_lit (Kd.slice 5 (Kd.int .u8)) _ 22 ?hg (N' := 8) ?hd (xs := ([l0, l1] : List (List Int))) (inner := [.slice A0 l0.length c0, .slice A1 l1.length c1]) (ok := (fun k_ => ((P0_ k_ ∨ P1_ k_) ∨ w.heap.size ≤ k_))) (okp := (fun k_ => ((P0_ k_ ∨ P1_ k_) ∨ w.heap.size ≤ k_))) ?hr ?hp (fun _ hk => hk) ((show ∀ k_, w.heap.size ≤ k_ → (fun k_ => ((P0_ k_ ∨ P1_ k_) ∨ w.heap.size ≤ k_)) k_ from fun k_ hk => (.inr (Nat.le_trans (below_size (by repeat (first | (with_reducible first | exact HB.out | apply below_alloc | apply pw_below_drewN | apply below_drew1) | exact HB.out))) hk))) _ (Nat.le_refl _)) (Below.refl _ _) (Nat.le_refl _) (by simp) ?_; (case hd => rfl); (case hg => rfl); (case hr => first | (go_simp; done) | (go_simp; rfl)); (case hp => exact (Reps.one (show Kd.FK (Kd.slice 5 (Kd.int .u8)) _ _ l0 [.slice A0 l0.length c0] from (Kd.FK_slice_mk (Kd.V_reads' (Kd.V_mono (ok' := (fun k_ => ((P0_ k_ ∨ P1_ k_) ∨ w.heap.size ≤ k_))) (HO0.out) (fun k_ hk => hk))).2.1 (Kd.V_F (Kd.V_mono (ok' := (fun k_ => ((P0_ k_ ∨ P1_ k_) ∨ w.heap.size ≤ k_))) (HO0.out) (fun k_ hk => hk))))) (Reps.one (show Kd.FK (Kd.slice 5 (Kd.int .u8)) _ _ l1 [.slice A1 l1.length c1] from (Kd.FK_slice_mk (Kd.V_reads' (Kd.V_mono (ok' := (fun k_ => ((P0_ k_ ∨ P1_ k_) ∨ w.heap.size ≤ k_))) (HO1.out) (fun k_ hk => hk))).2.1 (Kd.V_F (Kd.V_mono (ok' := (fun k_ => ((P0_ k_ ∨ P1_ k_) ∨ w.heap.size ≤ k_))) (HO1.out) (fun k_ hk => hk))))) (Reps.none _ _)))); intro v157 w9 ho10 hb hg_ hnew_; clear hg_ hnew_; (first | rw [← Ny156.out] at ho10 | (simp only [Int.reduceToNat] at ho10; rw [← Ny156.out] at ho10)); have n0_ := Aside0.mk (Kd.V_elder' (by (with_reducible repeat (first | apply Kd.V_alloc | apply Kd.V_drewN | apply Kd.V_drew)); exact HO0.out) (Kd.N_base ho10) hb); have n1_ := Aside0.mk (Kd.V_elder' (by (with_reducible repeat (first | apply Kd.V_alloc | apply Kd.V_drewN | apply Kd.V_drew)); exact HO1.out) (Kd.N_base ho10) hb); have n2_ := Aside0.mk (Kd.N_lower ho10 (below_size (by repeat (first | (with_reducible first | exact HB.out | apply below_alloc | apply pw_below_drewN | apply below_drew1) | exact HB.out)))); have n3_ := Aside0.mk (below_step (by repeat (first | (with_reducible first | exact HB.out | apply below_alloc | apply pw_below_drewN | apply below_drew1) | exact HB.out)) hb); clear HO0; clear HO1; clear HB; have HO0 := n0_; have HO1 := n1_; have HO158 := n2_; have HB := n3_; clear n0_ n1_ n2_ n3_; clear hb ho10; obtain ⟨Ao11, co11, eo11⟩ := Kd.N_slice HO158.out; subst eo11) | ((with_reducible refine gate_callee (f := 49) rfl ?_); refine goesL_ (some 9) rfl rfl Try.func49 (by kernel_rfl) rfl #[.slice Ao11 y156.length co11] rfl (by (try simp only [List.map_toArray, List.map_cons, List.map_nil]); first | done | rfl | (simp only [List.length_drop, List.length_take]; rfl)) ?_; (with_reducible refine (impl_isLong_byte.calls _ _ y156 false _ ?side1 ?side2 A3.out).mono ?_); (case side1 => repeat (first | exact (Kd.N_reads' HO158.out).2.2 | (with_reducible refine Kd.C_alloc ?_ _) | (with_reducible refine Kd.C_drewN ?_ _) | (with_reducible refine Kd.C_drew ?_))); (case side2 => exact (Kd.N_reads' HO158.out).2.1); rintro e w' ⟨rfl, ⟨nd, rfl⟩⟩; refine ⟨_, rfl, ?_⟩; have hcv12 := Kd.C_string (P := Try.prog) (dst := 9) (src := 22) (c := c0) Try.underlying22 Try.underlying5 Try.underlying9 (Kd.C_drewN (Kd.V_reads' HO0.out).2.2 nd); have hcv13 := Kd.C_string (P := Try.prog) (dst := 9) (src := 22) (c := c1) Try.underlying22 Try.underlying5 Try.underlying9 (Kd.C_drewN (Kd.V_reads' HO1.out).2.2 nd)) | ((with_reducible refine gate_callee (f := 71) rfl ?_); refine goesL_ (some 14) rfl rfl Try.func71 (by kernel_rfl) rfl #[.string (strOfNums l0), .string (strOfNums l1)] rfl (by (try simp only [List.map_toArray, List.map_cons, List.map_nil]); first | done | rfl | (simp only [List.length_drop, List.length_take]; rfl)) ?_; (with_reducible refine (impl_hmac.calls k (strOfNums l0) (strOfNums l1) t160 _ A8.out).mono ?_); rintro e w14 ⟨rfl, hb⟩; refine ⟨_, rfl, ?_⟩; have n0_ := Aside0.mk (Kd.V_below (by (with_reducible repeat (first | apply Kd.V_alloc | apply Kd.V_drewN | apply Kd.V_drew)); exact HO0.out) hb); have n1_ := Aside0.mk (Kd.V_below (by (with_reducible repeat (first | apply Kd.V_alloc | apply Kd.V_drewN | apply Kd.V_drew)); exact HO1.out) hb); have n2_ := Aside0.mk (Kd.N_below (by (with_reducible repeat (first | apply Kd.N_alloc | apply Kd.N_drewN | apply Kd.N_drew)); exact HO158.out) hb); have n3_ := Aside0.mk (below_step (by repeat (first | (with_reducible first | exact HB.out | apply below_alloc | apply pw_below_drewN | apply below_drew1) | exact HB.out)) hb); clear HO0; clear HO1; clear HO158; clear HB; have HO0 := n0_; have HO1 := n1_; have HO158 := n2_; have HB := n3_; clear n0_ n1_ n2_ n3_; (try clear hb); (try clear hb2); (try clear hk); (try clear hi)))
    go_ret2
    exact ⟨by first | rfl | (simp [errW_none, errW_some] <;> rfl) | (simp [*, errW_none, errW_some] <;> rfl), by repeat (first | (with_reducible first | exact HB.out | apply below_alloc | apply pw_below_drewN | apply below_drew1) | exact HB.out)⟩
def impl_HkdfExtract.f (k : Nat) (l0 : List Int) (l1 : List Int) : Option (ByteArray × Int) := (impl_Hmac.f k l0 l1).bind fun bt161 => (some (bt161.1, bt161.2))
set_option maxHeartbeats 8000000 in
set_option maxRecDepth 100000 in
theorem impl_HkdfExtract.calls (k : Nat) (A0 : Option Addr) (c0 : Nat) (l0 : List Int) (A1 : Option Addr) (c1 : Nat) (l1 : List Int) (r1 : ByteArray) (r2 : Int) (w : World) (hr0 : Kd.C (Kd.int .u8) w A0 l0.length l0) (hc0 : l0.length ≤ c0) (hr1 : Kd.C (Kd.int .u8) w A1 l1.length l1) (hc1 : l1.length ≤ c1) (h : impl_HkdfExtract.f k l0 l1 = some (r1, r2)) :
    Calls Try.prog 39 #[.slice A0 l0.length c0, .slice A1 l1.length c1] w fun e w' => e = .returned (.tuple #[.string r1, .int .i64 r2]) ∧ Below w.heap.size w w' := by
  have HR0 := Aside0.mk hr0
  have HC0 := Aside0.mk hc0
  clear hr0 hc0
  have HR1 := Aside0.mk hr1
  have HC1 := Aside0.mk hc1
  clear hr1 hc1
  have HB := Aside0.mk (Below.refl w.heap.size w)
  have H : ((impl_Hmac.f k l0 l1).bind fun bt161 => (some (bt161.1, bt161.2))) = some (r1, r2) := h
  clear h
  replace H := Option.bind_eq_some_iff.mp H
  obtain ⟨⟨t161, t162⟩, A30, H⟩ := H
  replace H : (some (t161, t162)) = some (r1, r2) := H
  have A3 := Aside0.mk A30
  clear A30
  simp only [Option.some.injEq, Prod.mk.injEq] at H
  obtain ⟨rfl, rfl⟩ := H
  go_enter Try.func39, Try.ntmps39
  go_wp2_with (first | ((with_reducible refine gate_callee (f := 37) rfl ?_); refine goesL_ (some 8) rfl rfl Try.func37 (by kernel_rfl) rfl #[.slice A0 l0.length c0, .slice A1 l1.length c1] rfl (by (try simp only [List.map_toArray, List.map_cons, List.map_nil]); first | done | rfl | (simp only [List.length_drop, List.length_take]; rfl)) ?_; (with_reducible refine (impl_Hmac.calls k (fun k_ => k_ < w.heap.size) _ _ l0 (fun k_ => k_ < w.heap.size) _ _ l1 t161 t162 _ ?side1 ?side2 A3.out).mono ?_); (case side1 => exact Kd.V_mk HC0.out (Kd.F_below (Kd.C_F (Kd.heap_int .u8) HR0.out) (by repeat (first | (with_reducible first | exact HB.out | apply below_alloc | apply pw_below_drewN | apply below_drew1) | exact HB.out)))); (case side2 => exact Kd.V_mk HC1.out (Kd.F_below (Kd.C_F (Kd.heap_int .u8) HR1.out) (by repeat (first | (with_reducible first | exact HB.out | apply below_alloc | apply pw_below_drewN | apply below_drew1) | exact HB.out)))); rintro e w4 ⟨rfl, hb⟩; refine ⟨_, rfl, ?_⟩; have n0_ := Aside0.mk (below_step (by repeat (first | (with_reducible first | exact HB.out | apply below_alloc | apply pw_below_drewN | apply below_drew1) | exact HB.out)) hb); clear HB; have HB := n0_; clear n0_; (try clear hb); (try clear hb2); (try clear hk); (try clear hi)))
  go_ret2
  exact ⟨by first | rfl | (simp [errW_none, errW_some] <;> rfl) | (simp [*, errW_none, errW_some] <;> rfl), by repeat (first | (with_reducible first | exact HB.out | apply below_alloc | apply pw_below_drewN | apply below_drew1) | exact HB.out)⟩
def spec_l01In.f (a0 : Int) (a1 : Int) (a2 : Int) : Option (Bool) := if a0 ≥ a1 then (some (decide (a0 ≤ a2))) else (some false)
set_option maxHeartbeats 8000000 in
set_option maxRecDepth 100000 in
theorem spec_l01In.calls (a0 : Int) (a1 : Int) (a2 : Int) (r : Bool) (w : World) (h : spec_l01In.f a0 a1 a2 = some r) :
    Calls Try.prog 57 #[.int .i64 a0, .int .i64 a1, .int .i64 a2] w fun e w' => e = .returned (.bool r) ∧ Drawn0 w w' := by
  have H : (if a0 ≥ a1 then (some (decide (a0 ≤ a2))) else (some false)) = some r := h
  clear h
  by_cases c4 : a0 ≥ a1
  · rw [if_pos c4] at H
    have c4b0 : decide (a1 ≤ a0) = true := decide_eq_true c4
    clear c4
    obtain rfl := Option.some.inj H
    go_enter Try.func57, Try.ntmps57
    go_wp2
    go_ret
    exact ⟨by first | rfl | (simp; done) | (simp [*]; done), by repeat (first | exact Drawn0.refl _ | apply Drawn0.step)⟩
  · rw [if_neg c4] at H
    have c4b0 : decide (a1 ≤ a0) = false := decide_eq_false c4
    clear c4
    obtain rfl := Option.some.inj H
    go_enter Try.func57, Try.ntmps57
    go_wp2
    go_ret
    exact ⟨by first | rfl | (simp; done) | (simp [*]; done), by repeat (first | exact Drawn0.refl _ | apply Drawn0.step)⟩
def spec_l03Hmac.f (l0 l1 : List Int) : Option ByteArray := if u8b l0 = true ∧ u8b l1 = true then (if l0.length ≤ 1099511627776 ∧ l1.length ≤ 1073741824 then some (strOfNums (Sha.hmacL l0 l1)) else none) else none
theorem maskL_length (key : List Int) (m : Int) : (Sha.maskL key m).length = 64 := by simp [Sha.maskL]
theorem maskL_at (key : List Int) (m : Int) (j : Nat) (hj : j < 64) : (Sha.maskL key m).getD j 0 = Go.bits .xor .u8 (key.getD j 0) m := by
  simp [Sha.maskL, List.getD_eq_getElem?_getD, hj]
theorem u8ok_four (n : Int) : u8ok (Sha.four n) := fun x hx => by
  simp only [Sha.four, List.mem_cons, List.not_mem_nil, or_false] at hx
  omega
theorem u8ok_shaL (l : List Int) : u8ok (Sha.shaL l) := fun x hx => by
  obtain ⟨y, _, h⟩ := List.mem_flatMap.1 hx
  exact u8ok_four y x h
theorem shaL_length (l : List Int) : (Sha.shaL l).length = 32 := by simp [Sha.shaL, Sha.four, Sha.V8.l]
theorem u8ok_hkey {l : List Int} (h : u8ok l) : u8ok (Sha.hkey l) := by
  unfold Sha.hkey
  split
  · exact u8ok_shaL l
  · exact h
theorem bits_u8 (x m : Int) (hx : 0 ≤ x ∧ x ≤ 255) (hm : m = 54 ∨ m = 92) : 0 ≤ Go.bits .xor .u8 x m ∧ Go.bits .xor .u8 x m ≤ 255 := by
  have h1 : ∀ n : Fin 256, 0 ≤ Go.bits .xor .u8 ((n.val : Nat) : Int) 54 ∧ Go.bits .xor .u8 ((n.val : Nat) : Int) 54 ≤ 255 := by decide +kernel
  have h2 : ∀ n : Fin 256, 0 ≤ Go.bits .xor .u8 ((n.val : Nat) : Int) 92 ∧ Go.bits .xor .u8 ((n.val : Nat) : Int) 92 ≤ 255 := by decide +kernel
  have e : ((⟨x.toNat, by omega⟩ : Fin 256).val : Int) = x := by simp; omega
  rcases hm with rfl | rfl
  · have := h1 ⟨x.toNat, by omega⟩
    rwa [e] at this
  · have := h2 ⟨x.toNat, by omega⟩
    rwa [e] at this
theorem u8ok_mask (l : List Int) (m : Int) (hm : m = 54 ∨ m = 92) (h : u8ok l) : u8ok (Sha.maskL l m) := fun x hx => by
  simp only [Sha.maskL, List.mem_map] at hx
  obtain ⟨i, _, rfl⟩ := hx
  refine bits_u8 _ _ ?_ hm
  rw [List.getD_eq_getElem?_getD]
  cases e : l[i]? with
  | none => exact ⟨by decide, by decide⟩
  | some y => exact h y (List.mem_of_getElem? e)
set_option maxHeartbeats 8000000 in
set_option maxRecDepth 100000 in
theorem spec_l03Hmac_in (A0 : Option Addr) (c0 : Nat) (l0 : List Int) (A1 : Option Addr) (c1 : Nat) (l1 : List Int) (w0 : World) (hr0 : Kd.C (Kd.int .u8) w0 A0 l0.length l0) (hc0 : l0.length ≤ c0) (hr1 : Kd.C (Kd.int .u8) w0 A1 l1.length l1) (hc1 : l1.length ≤ c1) (hu0 : u8ok l0) (hu1 : u8ok l1) (hl0 : l0.length ≤ 1099511627776) (hl1 : l1.length ≤ 1073741824) :
    Calls Try.prog 70 #[.slice A0 l0.length c0, .slice A1 l1.length c1] w0 fun e w' => e = .returned (.string (strOfNums (Sha.hmacL l0 l1))) ∧ Below w0.heap.size w0 w' := by
  have HR1 := Aside0.mk hr1
  have HU1 := Aside0.mk hu1
  have HL1 := Aside0.mk hl1
  have kmk : ∀ V : World, (Instr.makeSlice 22 (.int .i64 64) (.int .i64 64)).run Try.prog V = .ok (.slice (some ⟨V.heap.size, 0, none⟩) 64 64) (V.alloc (.cells (nums .u8 (List.replicate 64 0)).toArray 5)) := fun V => run_make_nums (m := 64) Try.underlying22 (.inl (by kernel_rfl)) (by decide) V
  obtain ⟨MI, hMI⟩ : ∃ M, M = Sha.maskL (Sha.hkey l0) 54 := ⟨_, rfl⟩
  obtain ⟨MO, hMO⟩ : ∃ M, M = Sha.maskL (Sha.hkey l0) 92 := ⟨_, rfl⟩
  have HMac : Aside0 (Sha.hmacL l0 l1 = Sha.shaL (MO ++ Sha.shaL (MI ++ l1))) := ⟨by rw [hMI, hMO]; rfl⟩
  have HMI : Aside0 (MI.length = 64) := ⟨by rw [hMI, maskL_length]⟩
  have HMO : Aside0 (MO.length = 64) := ⟨by rw [hMO, maskL_length]⟩
  have HMIu : Aside0 (u8ok MI) := ⟨by rw [hMI]; exact u8ok_mask _ _ (by simp) (u8ok_hkey hu0)⟩
  have HMOu : Aside0 (u8ok MO) := ⟨by rw [hMO]; exact u8ok_mask _ _ (by simp) (u8ok_hkey hu0)⟩
  have HIat : Aside0 (∀ j, j < 64 → MI.getD j 0 = Go.bits .xor .u8 ((Sha.hkey l0).getD j 0) 54) := ⟨fun j hj => by rw [hMI]; exact maskL_at _ _ j hj⟩
  have HOat : Aside0 (∀ j, j < 64 → MO.getD j 0 = Go.bits .xor .u8 ((Sha.hkey l0).getD j 0) 92) := ⟨fun j hj => by rw [hMO]; exact maskL_at _ _ j hj⟩
  clear hr1 hu1 hl1 hc1 hMI hMO
  by_cases hlong : 64 < l0.length
  · have hd : decide ((l0.length : Int) > 64) = true := decide_eq_true (by omega)
    have HK0 : Aside0 (Sha.hkey l0 = Sha.shaL l0) := ⟨by rw [Sha.hkey, if_pos hlong]⟩
    go_enter Try.func70, Try.ntmps70
    go_wp2_with fail
    refine (spec_l03Hash_in A0 c0 l0 w0 hr0 hc0 hu0 hl0).mono ?_
    rintro e w1 ⟨rfl, hb1⟩
    have kc := Lib.run_convert_string_bytes (P := Try.prog) w1 9 22 5 (strOfNums (Sha.shaL l0)) Try.underlying9 Try.underlying22 Try.underlying5
    have HRB := Aside0.mk (conv_rowB w1 w1.heap.size 5 (strOfNums (Sha.shaL l0)) (Nat.le_refl _))
    have HBW : Aside0 (Below w0.heap.size w0 (Lib.bytesWorld w1 5 (strOfNums (Sha.shaL l0)))) := ⟨bytes_below hb1 hb1.size _ _⟩
    have HSW : Aside0 (w0.heap.size ≤ (Lib.bytesWorld w1 5 (strOfNums (Sha.shaL l0))).heap.size) := ⟨by rw [Lib.bytesWorld_size]; have := hb1.size; omega⟩
    generalize hW1 : Lib.bytesWorld w1 5 (strOfNums (Sha.shaL l0)) = W1 at *
    clear hW1
    obtain ⟨cK, hcK⟩ : ∃ c, c = grownCap w1 (strOfNums (Sha.shaL l0)).size 0 5 := ⟨_, rfl⟩
    rw [← hcK] at kc HRB
    have hsz : (strOfNums (Sha.shaL l0)).size = 32 := by rw [← bytesL_length, bytesL_str _ (u8ok_shaL l0), shaL_length]
    rw [hsz] at kc HRB
    rw [bytesL_str _ (u8ok_shaL l0)] at HRB
    generalize w1.heap.size = gk at kc HRB
    clear hcK hsz hr0 hu0 hl0 hlong hb1
    go_wp2
    clear kc
    go_loopw [7] (fun i wr => ∃ j : Nat, j ≤ 64 ∧ i = .int .i64 (j : Int) ∧ Aside0 (wr.heap[W1.heap.size]? = some (.cells (nums .u8 (MI.take j ++ (List.replicate 64 (0 : Int)).drop j)).toArray 5)) ∧ Aside0 (wr.heap[W1.heap.size + 1]? = some (.cells (nums .u8 (MO.take j ++ (List.replicate 64 (0 : Int)).drop j)).toArray 5)) ∧ Aside0 (Below W1.heap.size W1 wr) ∧ Aside0 (W1.heap.size + 2 ≤ wr.heap.size)) (fun i _ => 64 - (intOf i).toNat)
    case atStart => exact ⟨0, by omega, rfl, ⟨blk_alloc (blk_new W1 _) _⟩, ⟨blk_newB W1 _ _⟩, ⟨below_alloc (below_alloc (Below.refl _ _) _) _⟩, ⟨by simp⟩⟩
    case round =>
      clear kmk
      obtain ⟨j, hj, rfl, G1, G2, HB, HS⟩ := hrel
      by_cases hlt : j < 64
      · have j0 : (0 : Int) ≤ (j : Int) := Int.natCast_nonneg j
        have j1 : (j : Int) < 64 := by omega
        have hd1 : decide ((j : Int) < 64) = true := decide_eq_true j1
        have cI : wr.cell? ⟨W1.heap.size, j, none⟩ = some (.int .u8 0) := by
          rw [blk_cell G1.out j]
          exact nums_at? _ _ _ _ (by rw [td_at MI _ (by rw [HMI.out]; rfl) j (by rw [HMI.out]; exact hlt)]; rw [zeros_getD])
        have cO : wr.cell? ⟨W1.heap.size + 1, j, none⟩ = some (.int .u8 0) := by
          rw [blk_cell G2.out j]
          exact nums_at? _ _ _ _ (by rw [td_at MO _ (by rw [HMO.out]; rfl) j (by rw [HMO.out]; exact hlt)]; rw [zeros_getD])
        have zI := blk_frozen G1.out j
        have zO := blk_frozen G2.out j
        have TI := Aside0.mk (td_set MI (List.replicate 64 (0 : Int)) (by rw [HMI.out]; rfl) j (by rw [HMI.out]; exact hlt))
        have TO := Aside0.mk (td_set MO (List.replicate 64 (0 : Int)) (by rw [HMO.out]; rfl) j (by rw [HMO.out]; exact hlt))
        have hne : W1.heap.size ≠ W1.heap.size + 1 := by omega
        by_cases hk : j < 32
        · have hdk : decide ((j : Int) < (32 : Int)) = true := decide_eq_true (by omega)
          obtain ⟨x, hx⟩ : ∃ x, x = (Sha.shaL l0).getD j 0 := ⟨_, rfl⟩
          have cK : wr.cell? ⟨gk, j, none⟩ = some (.int .u8 x) := by rw [hx]; exact rowB_cell (rowB_below HRB.out HB.out) j (by rw [shaL_length]; exact hk)
          have HX : Aside0 ((Sha.hkey l0).getD j 0 = x) := ⟨by rw [HK0.out, hx]⟩
          clear hx
          go_wp2
          go_roundw
          case rel =>
            refine ⟨j + 1, by omega, by go_num, ⟨?_⟩, ⟨?_⟩, ⟨below_set (below_set HB.out (Nat.le_refl _)) (Nat.le_succ _)⟩, ⟨by have := HS.out; simpa using this⟩⟩
            · rw [← TI.out, HIat.out j hlt, HX.out, ← nums_set]
              exact blk_far (blk_set G1.out j _) hne _
            · rw [← TO.out, HOat.out j hlt, HX.out, ← nums_set]
              exact blk_set (blk_far G2.out (Ne.symm hne) _) j _
          case measure => simp [intOf]; omega
        · have hdk : decide ((j : Int) < (32 : Int)) = false := decide_eq_false (by omega)
          have HX : Aside0 ((Sha.hkey l0).getD j 0 = 0) := ⟨by rw [HK0.out, List.getD_eq_getElem?_getD, List.getElem?_eq_none (by rw [shaL_length]; omega)]; rfl⟩
          go_wp2
          go_roundw
          case rel =>
            refine ⟨j + 1, by omega, by go_num, ⟨?_⟩, ⟨?_⟩, ⟨below_set (below_set HB.out (Nat.le_refl _)) (Nat.le_succ _)⟩, ⟨by have := HS.out; simpa using this⟩⟩
            · rw [← TI.out, HIat.out j hlt, HX.out, ← nums_set]
              exact blk_far (blk_set G1.out j _) hne _
            · rw [← TO.out, HOat.out j hlt, HX.out, ← nums_set]
              exact blk_set (blk_far G2.out (Ne.symm hne) _) j _
          case measure => simp [intOf]; omega
      · have hd1 : decide ((j : Int) < 64) = false := decide_eq_false (by omega)
        have eI : MI.take j ++ (List.replicate 64 (0 : Int)).drop j = MI := by
          rw [List.take_of_length_le (by rw [HMI.out]; omega), List.drop_eq_nil_of_le (by rw [List.length_replicate]; omega), List.append_nil]
        have eO : MO.take j ++ (List.replicate 64 (0 : Int)).drop j = MO := by
          rw [List.take_of_length_le (by rw [HMO.out]; omega), List.drop_eq_nil_of_le (by rw [List.length_replicate]; omega), List.append_nil]
        rw [eI] at G1
        rw [eO] at G2
        clear eI eO
        have HRI : Aside0 (rowB wr W1.heap.size (.slice (some ⟨W1.heap.size, 0, none⟩) MI.length 64) MI) := ⟨by have h := rowB_blk (B := W1.heap.size) G1.out (Nat.le_refl _); rw [HMI.out] at h; rw [HMI.out]; exact h⟩
        have HC1 : Aside0 (Kd.C (Kd.int .u8) wr A1 l1.length l1) := ⟨Kd.C_below HR1.out (HBW.out.trans (HB.out.mono HSW.out))⟩
        obtain ⟨lI, hlI⟩ : ∃ L, L = MI ++ l1 := ⟨_, rfl⟩
        have HLI := Aside0.mk hlI
        have HUI : Aside0 (u8ok lI) := ⟨by rw [hlI]; exact u8ok_append HMIu.out HU1.out⟩
        have HLIl : Aside0 (lI.length ≤ 1099511627776) := ⟨by rw [hlI, List.length_append, HMI.out]; have := HL1.out; omega⟩
        clear hlI
        go_wp2_with ((with_reducible refine gate_dst (N := 42) rfl ?_); refine wpList_append_rowB2 (by rfl) (.tmp 40) (.tmp 41) 22 5 (by rfl) Try.underlying22 info5 (B := W1.heap.size) (n := 64) (l := MI) l1 (by rfl) HMI.out.symm HRI.out (by have := HS.out; omega) A1 l1.length c1 (by rfl) HC1.out (by have := HMI.out; have := HL1.out; omega) lI HLI.out ?_; intro v2 w2 K1 K2 K3; obtain ⟨g2, c2, rfl, hc2⟩ := rowB_form K1.out)
        refine (spec_l03Hash_in (some ⟨g2, 0, none⟩) c2 lI w2 (rowB_C K1.out (by have := HLIl.out; omega)) hc2 HUI.out HLIl.out).mono ?_
        rintro e w3 ⟨rfl, hb3⟩
        have HB3 : Aside0 (Below W1.heap.size W1 w3) := ⟨(HB.out.trans (K2.out.mono (by have := HS.out; omega))).trans (hb3.mono (Nat.le_trans (Nat.le_trans (by have := HS.out; omega) K2.out.size) (Nat.le_refl _)))⟩
        have HS3 : Aside0 (W1.heap.size + 2 ≤ w3.heap.size) := ⟨by have h1 := HS.out; have h2 := K2.out.size; have h3 := hb3.size; omega⟩
        have G3 : Aside0 (w3.heap[W1.heap.size + 1]? = some (.cells (nums .u8 MO).toArray 5)) := ⟨(hb3.block _ (by have h1 := HS.out; have h2 := K2.out.size; omega)).trans ((K3.out _ (by have h1 := HS.out; omega) (by omega)).trans G2.out)⟩
        have HRO : Aside0 (rowB w3 W1.heap.size (.slice (some ⟨W1.heap.size + 1, 0, none⟩) 64 64) MO) := ⟨by have h := rowB_blk (B := W1.heap.size) G3.out (Nat.le_succ _); rw [HMO.out] at h; exact h⟩
        obtain ⟨lO, hlO⟩ : ∃ L, L = MO ++ bytesL (strOfNums (Sha.shaL lI)) := ⟨_, rfl⟩
        have HLO := Aside0.mk hlO
        have eO : lO = MO ++ Sha.shaL lI := by rw [hlO, bytesL_str _ (u8ok_shaL lI)]
        have HUO : Aside0 (u8ok lO) := ⟨by rw [eO]; exact u8ok_append HMOu.out (u8ok_shaL lI)⟩
        have HLOl : Aside0 (lO.length ≤ 1099511627776) := ⟨by rw [eO, List.length_append, HMO.out, shaL_length]; decide⟩
        have HSZ : Aside0 ((strOfNums (Sha.shaL lI)).size = 32) := ⟨by rw [← bytesL_length, bytesL_str _ (u8ok_shaL lI), shaL_length]⟩
        have HFIN : Aside0 (Sha.hmacL l0 l1 = Sha.shaL lO) := ⟨by rw [HMac.out, eO, HLI.out]⟩
        clear hlO eO hb3 K1 K2 K3 G1 G2 HB HS
        go_wp2_with ((with_reducible refine gate_dst (N := 44) rfl ?_); refine wpList_append_rowB_string (by rfl) (.tmp 39) (.tmp 43) 22 9 5 (by rfl) Try.underlying22 Try.underlying9 info5 (strOfNums (Sha.shaL lI)) (by rfl) HRO.out HB3.out (by have := HS3.out; omega) (by rfl) (by have := HMO.out; have := HSZ.out; omega) lO HLO.out ?_; intro v4 w4 K1 K2 K3; obtain ⟨g4, c4, rfl, hc4⟩ := rowB_form K1.out)
        refine (spec_l03Hash_in (some ⟨g4, 0, none⟩) c4 lO w4 (rowB_C K1.out (by have := HLOl.out; omega)) hc4 HUO.out HLOl.out).mono ?_
        rintro e w5 ⟨rfl, hb5⟩
        have HB5 : Aside0 (Below w0.heap.size w0 w5) := ⟨HBW.out.trans ((K2.out.trans (hb5.mono K3.out)).mono HSW.out)⟩
        clear hb5
        go_wp2
        go_ret
        exact ⟨congrArg (fun l => Ending.returned (.string (strOfNums l))) HFIN.out.symm, HB5.out⟩
  · have hd : decide ((l0.length : Int) > 64) = false := decide_eq_false (by omega)
    have HK0 : Aside0 (Sha.hkey l0 = l0) := ⟨by rw [Sha.hkey, if_neg hlong]⟩
    have HR0 := Aside0.mk hr0
    have HU0 := Aside0.mk hu0
    have hl64 : l0.length ≤ 64 := by omega
    clear hr0 hu0 hl0 hlong
    go_enter Try.func70, Try.ntmps70
    go_wp2
    go_loopw [7] (fun i wr => ∃ j : Nat, j ≤ 64 ∧ i = .int .i64 (j : Int) ∧ Aside0 (wr.heap[w0.heap.size]? = some (.cells (nums .u8 (MI.take j ++ (List.replicate 64 (0 : Int)).drop j)).toArray 5)) ∧ Aside0 (wr.heap[w0.heap.size + 1]? = some (.cells (nums .u8 (MO.take j ++ (List.replicate 64 (0 : Int)).drop j)).toArray 5)) ∧ Aside0 (Below w0.heap.size w0 wr) ∧ Aside0 (w0.heap.size + 2 ≤ wr.heap.size)) (fun i _ => 64 - (intOf i).toNat)
    case atStart => exact ⟨0, by omega, rfl, ⟨blk_alloc (blk_new w0 _) _⟩, ⟨blk_newB w0 _ _⟩, ⟨below_alloc (below_alloc (Below.refl _ _) _) _⟩, ⟨by simp⟩⟩
    case round =>
      clear kmk
      obtain ⟨j, hj, rfl, G1, G2, HB, HS⟩ := hrel
      by_cases hlt : j < 64
      · have j0 : (0 : Int) ≤ (j : Int) := Int.natCast_nonneg j
        have j1 : (j : Int) < 64 := by omega
        have hd1 : decide ((j : Int) < 64) = true := decide_eq_true j1
        have cI : wr.cell? ⟨w0.heap.size, j, none⟩ = some (.int .u8 0) := by
          rw [blk_cell G1.out j]
          exact nums_at? _ _ _ _ (by rw [td_at MI _ (by rw [HMI.out]; rfl) j (by rw [HMI.out]; exact hlt)]; rw [zeros_getD])
        have cO : wr.cell? ⟨w0.heap.size + 1, j, none⟩ = some (.int .u8 0) := by
          rw [blk_cell G2.out j]
          exact nums_at? _ _ _ _ (by rw [td_at MO _ (by rw [HMO.out]; rfl) j (by rw [HMO.out]; exact hlt)]; rw [zeros_getD])
        have zI := blk_frozen G1.out j
        have zO := blk_frozen G2.out j
        have TI := Aside0.mk (td_set MI (List.replicate 64 (0 : Int)) (by rw [HMI.out]; rfl) j (by rw [HMI.out]; exact hlt))
        have TO := Aside0.mk (td_set MO (List.replicate 64 (0 : Int)) (by rw [HMO.out]; rfl) j (by rw [HMO.out]; exact hlt))
        have hne : w0.heap.size ≠ w0.heap.size + 1 := by omega
        by_cases hk : j < l0.length
        · have hdk : decide ((j : Int) < (l0.length : Int)) = true := decide_eq_true (by omega)
          obtain ⟨ad, rfl⟩ : ∃ ad, A0 = some ad := by obtain ⟨ad, e, _⟩ := HR0.out.2.2 (by omega); exact ⟨ad, e⟩
          obtain ⟨x, hx⟩ : ∃ x, x = l0.getD j 0 := ⟨_, rfl⟩
          have cK : wr.cell? (ad.add j) = some (.int .u8 x) := by rw [hx]; exact C_u8_cell (Kd.C_below HR0.out HB.out) rfl j hk
          have HX : Aside0 ((Sha.hkey l0).getD j 0 = x) := ⟨by rw [HK0.out, hx]⟩
          clear hx
          go_wp2
          go_roundw
          case rel =>
            refine ⟨j + 1, by omega, by go_num, ⟨?_⟩, ⟨?_⟩, ⟨below_set (below_set HB.out (Nat.le_refl _)) (Nat.le_succ _)⟩, ⟨by have := HS.out; simpa using this⟩⟩
            · rw [← TI.out, HIat.out j hlt, HX.out, ← nums_set]
              exact blk_far (blk_set G1.out j _) hne _
            · rw [← TO.out, HOat.out j hlt, HX.out, ← nums_set]
              exact blk_set (blk_far G2.out (Ne.symm hne) _) j _
          case measure => simp [intOf]; omega
        · have hdk : decide ((j : Int) < (l0.length : Int)) = false := decide_eq_false (by omega)
          have HX : Aside0 ((Sha.hkey l0).getD j 0 = 0) := ⟨by rw [HK0.out, List.getD_eq_getElem?_getD, List.getElem?_eq_none (by omega)]; rfl⟩
          go_wp2
          go_roundw
          case rel =>
            refine ⟨j + 1, by omega, by go_num, ⟨?_⟩, ⟨?_⟩, ⟨below_set (below_set HB.out (Nat.le_refl _)) (Nat.le_succ _)⟩, ⟨by have := HS.out; simpa using this⟩⟩
            · rw [← TI.out, HIat.out j hlt, HX.out, ← nums_set]
              exact blk_far (blk_set G1.out j _) hne _
            · rw [← TO.out, HOat.out j hlt, HX.out, ← nums_set]
              exact blk_set (blk_far G2.out (Ne.symm hne) _) j _
          case measure => simp [intOf]; omega
      · have hd1 : decide ((j : Int) < 64) = false := decide_eq_false (by omega)
        have eI : MI.take j ++ (List.replicate 64 (0 : Int)).drop j = MI := by
          rw [List.take_of_length_le (by rw [HMI.out]; omega), List.drop_eq_nil_of_le (by rw [List.length_replicate]; omega), List.append_nil]
        have eO : MO.take j ++ (List.replicate 64 (0 : Int)).drop j = MO := by
          rw [List.take_of_length_le (by rw [HMO.out]; omega), List.drop_eq_nil_of_le (by rw [List.length_replicate]; omega), List.append_nil]
        rw [eI] at G1
        rw [eO] at G2
        clear eI eO
        have HRI : Aside0 (rowB wr w0.heap.size (.slice (some ⟨w0.heap.size, 0, none⟩) MI.length 64) MI) := ⟨by have h := rowB_blk (B := w0.heap.size) G1.out (Nat.le_refl _); rw [HMI.out] at h; rw [HMI.out]; exact h⟩
        have HC1 : Aside0 (Kd.C (Kd.int .u8) wr A1 l1.length l1) := ⟨Kd.C_below HR1.out HB.out⟩
        obtain ⟨lI, hlI⟩ : ∃ L, L = MI ++ l1 := ⟨_, rfl⟩
        have HLI := Aside0.mk hlI
        have HUI : Aside0 (u8ok lI) := ⟨by rw [hlI]; exact u8ok_append HMIu.out HU1.out⟩
        have HLIl : Aside0 (lI.length ≤ 1099511627776) := ⟨by rw [hlI, List.length_append, HMI.out]; have := HL1.out; omega⟩
        clear hlI
        go_wp2_with ((with_reducible refine gate_dst (N := 42) rfl ?_); refine wpList_append_rowB2 (by rfl) (.tmp 40) (.tmp 41) 22 5 (by rfl) Try.underlying22 info5 (B := w0.heap.size) (n := 64) (l := MI) l1 (by rfl) HMI.out.symm HRI.out (by have := HS.out; omega) A1 l1.length c1 (by rfl) HC1.out (by have := HMI.out; have := HL1.out; omega) lI HLI.out ?_; intro v2 w2 K1 K2 K3; obtain ⟨g2, c2, rfl, hc2⟩ := rowB_form K1.out)
        refine (spec_l03Hash_in (some ⟨g2, 0, none⟩) c2 lI w2 (rowB_C K1.out (by have := HLIl.out; omega)) hc2 HUI.out HLIl.out).mono ?_
        rintro e w3 ⟨rfl, hb3⟩
        have HB3 : Aside0 (Below w0.heap.size w0 w3) := ⟨(HB.out.trans (K2.out.mono (by have := HS.out; omega))).trans (hb3.mono (Nat.le_trans (Nat.le_trans (by have := HS.out; omega) K2.out.size) (Nat.le_refl _)))⟩
        have HS3 : Aside0 (w0.heap.size + 2 ≤ w3.heap.size) := ⟨by have h1 := HS.out; have h2 := K2.out.size; have h3 := hb3.size; omega⟩
        have G3 : Aside0 (w3.heap[w0.heap.size + 1]? = some (.cells (nums .u8 MO).toArray 5)) := ⟨(hb3.block _ (by have h1 := HS.out; have h2 := K2.out.size; omega)).trans ((K3.out _ (by have h1 := HS.out; omega) (by omega)).trans G2.out)⟩
        have HRO : Aside0 (rowB w3 w0.heap.size (.slice (some ⟨w0.heap.size + 1, 0, none⟩) 64 64) MO) := ⟨by have h := rowB_blk (B := w0.heap.size) G3.out (Nat.le_succ _); rw [HMO.out] at h; exact h⟩
        obtain ⟨lO, hlO⟩ : ∃ L, L = MO ++ bytesL (strOfNums (Sha.shaL lI)) := ⟨_, rfl⟩
        have HLO := Aside0.mk hlO
        have eO : lO = MO ++ Sha.shaL lI := by rw [hlO, bytesL_str _ (u8ok_shaL lI)]
        have HUO : Aside0 (u8ok lO) := ⟨by rw [eO]; exact u8ok_append HMOu.out (u8ok_shaL lI)⟩
        have HLOl : Aside0 (lO.length ≤ 1099511627776) := ⟨by rw [eO, List.length_append, HMO.out, shaL_length]; decide⟩
        have HSZ : Aside0 ((strOfNums (Sha.shaL lI)).size = 32) := ⟨by rw [← bytesL_length, bytesL_str _ (u8ok_shaL lI), shaL_length]⟩
        have HFIN : Aside0 (Sha.hmacL l0 l1 = Sha.shaL lO) := ⟨by rw [HMac.out, eO, HLI.out]⟩
        clear hlO eO hb3 K1 K2 K3 G1 G2 HB HS
        go_wp2_with ((with_reducible refine gate_dst (N := 44) rfl ?_); refine wpList_append_rowB_string (by rfl) (.tmp 39) (.tmp 43) 22 9 5 (by rfl) Try.underlying22 Try.underlying9 info5 (strOfNums (Sha.shaL lI)) (by rfl) HRO.out HB3.out (by have := HS3.out; omega) (by rfl) (by have := HMO.out; have := HSZ.out; omega) lO HLO.out ?_; intro v4 w4 K1 K2 K3; obtain ⟨g4, c4, rfl, hc4⟩ := rowB_form K1.out)
        refine (spec_l03Hash_in (some ⟨g4, 0, none⟩) c4 lO w4 (rowB_C K1.out (by have := HLOl.out; omega)) hc4 HUO.out HLOl.out).mono ?_
        rintro e w5 ⟨rfl, hb5⟩
        have HB5 : Aside0 (Below w0.heap.size w0 w5) := ⟨K2.out.trans (hb5.mono K3.out)⟩
        clear hb5
        go_wp2
        go_ret
        exact ⟨congrArg (fun l => Ending.returned (.string (strOfNums l))) HFIN.out.symm, HB5.out⟩
theorem spec_l03Hmac.calls (A0 : Option Addr) (c0 : Nat) (l0 : List Int) (A1 : Option Addr) (c1 : Nat) (l1 : List Int) (r : ByteArray) (w : World) (hr0 : Kd.C (Kd.int .u8) w A0 l0.length l0) (hc0 : l0.length ≤ c0) (hr1 : Kd.C (Kd.int .u8) w A1 l1.length l1) (hc1 : l1.length ≤ c1) (h : spec_l03Hmac.f l0 l1 = some r) :
    Calls Try.prog 70 #[.slice A0 l0.length c0, .slice A1 l1.length c1] w fun e w' => e = .returned (.string r) ∧ Below w.heap.size w w' := by
  unfold spec_l03Hmac.f at h
  split at h
  · rename_i h1
    split at h
    · rename_i h2
      injection h with h
      subst h
      exact spec_l03Hmac_in A0 c0 l0 A1 c1 l1 w hr0 hc0 hr1 hc1 (u8b_ok h1.1) (u8b_ok h1.2) h2.1 h2.2
    · cases h
  · cases h
def spec_l03Expand.f (s0 : ByteArray) (l1 : List Int) (n : Int) : Option ByteArray := if u8b l1 = true then (if s0.size ≤ 1048576 ∧ l1.length ≤ 1048576 ∧ 0 ≤ n ∧ n ≤ 8160 then some (strOfNums (Sha.expandL (bytesL s0) l1 n.toNat)) else none) else none
theorem hmacL_length (a b : List Int) : (Sha.hmacL a b).length = 32 := shaL_length _
theorem u8ok_hmacL (a b : List Int) : u8ok (Sha.hmacL a b) := u8ok_shaL _
theorem exp_len (K info : List Int) (j : Nat) : (Sha.exp K info j).1.length = 32 * j := by
  induction j with
  | zero => rfl
  | succ j ih =>
    simp only [Sha.exp]
    rw [List.length_append, ih, hmacL_length]; omega
theorem exp_last (K info : List Int) (j : Nat) : (Sha.exp K info j).2.length ≤ 32 := by
  cases j with
  | zero => show 0 ≤ 32; decide
  | succ j =>
    simp only [Sha.exp]
    rw [hmacL_length]; exact Nat.le_refl _
theorem exp_u8 (K info : List Int) (j : Nat) : u8ok (Sha.exp K info j).1 ∧ u8ok (Sha.exp K info j).2 := by
  induction j with
  | zero => exact ⟨fun x hx => (by cases hx), fun x hx => (by cases hx)⟩
  | succ j ih =>
    simp only [Sha.exp]
    exact ⟨u8ok_append ih.1 (u8ok_hmacL _ _), u8ok_hmacL _ _⟩
theorem exp_more (K info : List Int) (j d : Nat) : ∃ r, (Sha.exp K info (j + d)).1 = (Sha.exp K info j).1 ++ r := by
  induction d with
  | zero => exact ⟨[], (List.append_nil _).symm⟩
  | succ d ih =>
    obtain ⟨r, hr⟩ := ih
    refine ⟨r ++ Sha.hmacL K ((Sha.exp K info (j + d)).2 ++ info ++ [((j + d + 1 : Nat) : Int) % 256]), ?_⟩
    rw [← List.append_assoc, ← hr]
    rfl
theorem exp_take (K info : List Int) (n j : Nat) (h : n ≤ 32 * j) (hj : j ≤ n + 31) : Sha.expandL K info n = (Sha.exp K info j).1.take n := by
  obtain ⟨r, hr⟩ := exp_more K info j (n + 31 - j)
  rw [show j + (n + 31 - j) = n + 31 from by omega] at hr
  rw [Sha.expandL, hr, List.take_append_of_le_length (by rw [exp_len]; exact h)]
set_option maxHeartbeats 8000000 in
set_option maxRecDepth 100000 in
theorem spec_l03Expand_in (s0 : ByteArray) (A1 : Option Addr) (c1 : Nat) (l1 : List Int) (N : Nat) (w0 : World) (hr1 : Kd.C (Kd.int .u8) w0 A1 l1.length l1) (hc1 : l1.length ≤ c1) (hu1 : u8ok l1) (hl0 : s0.size ≤ 1048576) (hl1 : l1.length ≤ 1048576) (hN : N ≤ 8160) :
    Calls Try.prog 72 #[.string s0, .slice A1 l1.length c1, .int .i64 (N : Int)] w0 fun e w' => e = .returned (.string (strOfNums (Sha.expandL (bytesL s0) l1 N))) ∧ Below w0.heap.size w0 w' := by
  have HR1 := Aside0.mk hr1
  have HU1 := Aside0.mk hu1
  have HL0 := Aside0.mk hl0
  have HL1 := Aside0.mk hl1
  have HN := Aside0.mk hN
  clear hr1 hu1 hl0 hl1 hc1 hN
  go_enter Try.func72, Try.ntmps72
  go_wp2
  go_loopw [7, 8, 9] (fun vo vl vi wr => ∃ (j p : Nat) (so sl : ByteArray), vo = .string so ∧ vl = .string sl ∧ vi = .int .i64 (p : Int) ∧ p = j + 1 ∧ j ≤ 255 ∧ j ≤ N + 31 ∧ Aside0 (so = strOfNums (Sha.exp (bytesL s0) l1 j).1) ∧ Aside0 (sl = strOfNums (Sha.exp (bytesL s0) l1 j).2) ∧ Aside0 (Below w0.heap.size w0 wr))
    (fun _ _ i _ => 300 - (intOf i).toNat)
  case atStart => exact ⟨0, 1, _, _, rfl, rfl, rfl, rfl, by omega, by omega, ⟨rfl⟩, ⟨rfl⟩, ⟨Below.refl _ _⟩⟩
  case round =>
    obtain ⟨j, p, so, sl, rfl, rfl, rfl, hp, hj, hjN, HSO, HSL, HB⟩ := hrel
    have hso : so.size = 32 * j := by rw [HSO.out, str_size, exp_len]
    have hsl : sl.size ≤ 32 := by rw [HSL.out, str_size]; exact exp_last _ _ _
    by_cases hlt : 32 * j < N
    · have hd : decide ((so.size : Int) < (N : Int)) = true := decide_eq_true (by omega)
      have kc1 := Lib.run_convert_string_bytes (P := Try.prog) wr 9 22 5 s0 Try.underlying9 Try.underlying22 Try.underlying5
      have HR0 := Aside0.mk (conv_rowB wr wr.heap.size 5 s0 (Nat.le_refl _))
      have HW1 : Aside0 (Below wr.heap.size wr (Lib.bytesWorld wr 5 s0)) := ⟨bytes_below (Below.refl _ _) (Nat.le_refl _) _ _⟩
      generalize hW1 : Lib.bytesWorld wr 5 s0 = W1 at *
      obtain ⟨cK, hcK⟩ : ∃ c, c = grownCap wr s0.size 0 5 := ⟨_, rfl⟩
      rw [← hcK] at kc1 HR0
      have HGK : Aside0 (wr.heap.size < W1.heap.size) := ⟨by rw [← hW1, Lib.bytesWorld_size]; omega⟩
      clear hW1 hcK
      rw [← bytesL_length] at kc1 HR0
      have kc2 := Lib.run_convert_string_bytes (P := Try.prog) W1 9 22 5 sl Try.underlying9 Try.underlying22 Try.underlying5
      have HR2 := Aside0.mk (conv_rowB W1 W1.heap.size 5 sl (Nat.le_refl _))
      have HW2 : Aside0 (Below W1.heap.size W1 (Lib.bytesWorld W1 5 sl)) := ⟨bytes_below (Below.refl _ _) (Nat.le_refl _) _ _⟩
      generalize hW2 : Lib.bytesWorld W1 5 sl = W2 at *
      obtain ⟨cL, hcL⟩ : ∃ c, c = grownCap W1 sl.size 0 5 := ⟨_, rfl⟩
      rw [← hcL] at kc2 HR2
      clear hW2 hcL
      rw [← bytesL_length] at kc2 HR2
      have hslb : bytesL sl = (Sha.exp (bytesL s0) l1 j).2 := by rw [HSL.out, bytesL_str _ (exp_u8 _ _ _).2]
      obtain ⟨lB, hlB⟩ : ∃ L, L = bytesL sl ++ l1 := ⟨_, rfl⟩
      obtain ⟨lC, hlC⟩ : ∃ L, L = lB ++ [(p : Int) % 256] := ⟨_, rfl⟩
      have HLB := Aside0.mk hlB
      have HLC := Aside0.mk hlC
      have HLBl : Aside0 (lB.length ≤ 1048608) := ⟨by rw [hlB, List.length_append, hslb]; have := HL1.out; have := exp_last (bytesL s0) l1 j; omega⟩
      have HLCl : Aside0 (lC.length ≤ 1048609) := ⟨by rw [hlC, List.length_append]; have := HLBl.out; simp; omega⟩
      have HUC : Aside0 (u8ok lC) := ⟨by rw [hlC, hlB]; exact u8ok_append (u8ok_append (u8ok_bytesL _) HU1.out) (fun x hx => by obtain rfl := List.mem_singleton.1 hx; omega)⟩
      have HNX : Aside0 (Sha.exp (bytesL s0) l1 (j + 1) = ((Sha.exp (bytesL s0) l1 j).1 ++ Sha.hmacL (bytesL s0) lC, Sha.hmacL (bytesL s0) lC)) := ⟨by rw [hlC, hlB, hslb, hp]; rfl⟩
      have HSLl : Aside0 ((bytesL sl).length ≤ 32) := ⟨by rw [bytesL_length]; exact hsl⟩
      have HP := Aside0.mk hp
      have HSOs := Aside0.mk hso
      have hcat : so.size + 32 ≤ 9223372036854775807 := by omega
      clear hlB hlC hslb hsl hp
      have HC1 : Aside0 (Kd.C (Kd.int .u8) W2 A1 l1.length l1) := ⟨Kd.C_below (Kd.C_below (Kd.C_below HR1.out HB.out) HW1.out) HW2.out⟩
      go_wp2_with (first
        | ((with_reducible refine gate_dst (N := 21) rfl ?_); refine wpList_append_rowB_C (by rfl) (.tmp 19) (.tmp 20) 22 5 (by rfl) Try.underlying22 info5 l1 (w0 := W1) (B := W1.heap.size) (by rfl) HR2.out HW2.out HW2.out.size A1 _ _ (by rfl) HC1.out (by have := HSLl.out; have := HL1.out; omega) lB HLB.out ?_; intro v3 w3 H1 H2 H3; obtain ⟨g3, c3, rfl, hc3⟩ := rowB_form H1.out)
        | ((with_reducible refine gate_dst (N := 25) rfl ?_); refine wpList_append_rowB (by rfl) (.tmp 21) (.tmp 24) 22 5 (by rfl) Try.underlying22 info5 [(p : Int) % 256] (by rfl) (rowB_below H1.out (below_alloc (Below.refl _ _) _)) (H2.out.alloc H3.out _) (by have := H3.out; simp; omega) ⟨w3.heap.size, 0, none⟩ 1 1 (by rfl) rfl (cell_lit1 _ _ _ _) (by have := HLBl.out; simp; omega) lC HLC.out ?_; intro v4 w4 K1 K2 K3; obtain ⟨g4, c4, rfl, hc4⟩ := rowB_form K1.out))
      refine (spec_l03Hmac_in (some ⟨wr.heap.size, 0, none⟩) cK (bytesL s0) (some ⟨g4, 0, none⟩) c4 lC w4 (rowB_C (rowB_below HR0.out K2.out) (by rw [bytesL_length]; have := HL0.out; omega)) (rowB_form' HR0.out) (rowB_C K1.out (by have := HLCl.out; omega)) hc4 (u8ok_bytesL s0) HUC.out (by rw [bytesL_length]; have := HL0.out; omega) (by have := HLCl.out; omega)).mono ?_
      rintro e w5 ⟨rfl, hb5⟩
      obtain ⟨sn, hsn⟩ : ∃ s, s = strOfNums (Sha.hmacL (bytesL s0) lC) := ⟨_, rfl⟩
      have HSN := Aside0.mk hsn
      have hsz : sn.size = 32 := by rw [hsn, str_size, hmacL_length]
      rw [← hsn]
      have HB5 : Aside0 (Below w0.heap.size w0 w5) := ⟨(HB.out.trans (HW1.out.mono HB.out.size)).trans ((K2.out.mono (Nat.le_trans HB.out.size HW1.out.size)).trans (hb5.mono (Nat.le_trans (Nat.le_trans HB.out.size HW1.out.size) K3.out)))⟩
      clear hsn hb5 kc1 kc2
      have hc1 : so.size + sn.size ≤ 9223372036854775807 := by omega
      have c9b0 := eq_true hc1
      have c9b1 : decide (so.size + sn.size ≤ 9223372036854775807) = true := decide_eq_true hc1
      have c9b2 : (9223372036854775807 < so.size + sn.size) = False := eq_false (Nat.not_lt.2 hc1)
      have hw : wrap64 ((p : Int) + 1) = ((p + 1 : Nat) : Int) := by unfold wrap64; have := HP.out; omega
      go_wp2
      rw [hw]
      clear hw
      go_roundw
      case rel => exact ⟨j + 1, p + 1, so ++ sn, sn, rfl, rfl, rfl, by have := HP.out; omega, by have := HN.out; omega, by omega, ⟨by rw [HSO.out, HSN.out, strOfNums_append, HNX.out]⟩, ⟨by rw [HSN.out, HNX.out]⟩, HB5⟩
      case measure => simp [intOf]; have := HP.out; omega
    · have hd : decide ((so.size : Int) < (N : Int)) = false := decide_eq_false (by omega)
      have c1b0 : (0 : Int) ≤ (N : Int) := by omega
      have c2b0 : (N : Int) ≤ (so.size : Int) := by omega
      have HFI : Aside0 (so.extract 0 N = strOfNums (Sha.expandL (bytesL s0) l1 N)) := ⟨by rw [exp_take (bytesL s0) l1 N j (by omega) hjN, HSO.out, str_extract]⟩
      clear hp hj hjN hso hlt
      go_wp2
      go_ret
      exact ⟨congrArg (fun s => Ending.returned (.string s)) HFI.out, HB.out⟩
theorem spec_l03Expand.calls (s0 : ByteArray) (A1 : Option Addr) (c1 : Nat) (l1 : List Int) (n : Int) (r : ByteArray) (w : World) (hr1 : Kd.C (Kd.int .u8) w A1 l1.length l1) (hc1 : l1.length ≤ c1) (h : spec_l03Expand.f s0 l1 n = some r) :
    Calls Try.prog 72 #[.string s0, .slice A1 l1.length c1, .int .i64 n] w fun e w' => e = .returned (.string r) ∧ Below w.heap.size w w' := by
  unfold spec_l03Expand.f at h
  split at h
  · rename_i h1
    split at h
    · rename_i h2
      obtain ⟨h2, h3, h4, h5⟩ := h2
      obtain ⟨N, rfl⟩ : ∃ N : Nat, n = (N : Int) := ⟨n.toNat, by omega⟩
      rw [Int.toNat_natCast] at h
      injection h with h
      subst h
      exact spec_l03Expand_in s0 A1 c1 l1 N w hr1 hc1 (u8b_ok h1) h2 h3 (by omega)
    · cases h
  · cases h
end Go.Proofs.Ytlfpogbonmddmaa.P

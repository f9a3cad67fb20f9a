/- Laid by a program of this session: of Pm6 what this law uses. -/
import Derived.Test.YtfbggdlidelliaaZCdPm0
import Derived.Test.YtfbggdlidelliaaZCdPm3
import Derived.Test.YtfbggdlidelliaaZCdPm4
namespace Go.Proofs.Ytfbggdlidelliaa.P
open Go.RowKit Go.Proofs.YtfbggdlidelliaaW.PrintWords Go.Proofs.YtfbggdlidelliaaW.PrintLast Go.Proofs.YtfbggdlidelliaaW.PrintMore
attribute [local go_sem] min2_int min_two
set_option linter.unusedVariables false
set_option linter.unusedSimpArgs false
def spec_l01Text.l0 : Nat → List Int → List Int → Int → Option (ByteArray)
  | 0, _, _, _ => none
  | k + 1, x0, x3, x4 => if x4 < 16 then (if 0 ≤ x4 then (if x4 < (x0.length : Int) then (if x3.length < 140737488355328 then (spec_l01Text.l0 k x0 (x3 ++ [(rd x0 x4) % 256]) (wrap64 (x4 + 1))) else (none)) else (none)) else (none)) else (some (strOfNums x3))
def spec_l01Text.f (k : Nat) (l0 : List Int) : Option (ByteArray) := spec_l01Text.l0 k l0 (([] : List Int)) 0
set_option maxHeartbeats 8000000 in
set_option maxRecDepth 100000 in
theorem spec_l01Text.calls (k : Nat) (A0 : Option Addr) (c0 : Nat) (l0 : List Int) (r : ByteArray) (w : World) (hr0 : Kd.C (Kd.int .i64) w A0 l0.length l0) (hc0 : l0.length ≤ c0) (h : spec_l01Text.f k l0 = some r) :
    Calls Try.prog 80 #[.slice A0 l0.length c0] w fun e w' => e = .returned (.string r) ∧ Below w.heap.size w w' := by
  have HR0 := Aside0.mk hr0
  have HC0 := Aside0.mk hc0
  clear hr0 hc0
  have HB := Aside0.mk (Below.refl w.heap.size w)
  have H : (spec_l01Text.l0 k l0 (([] : List Int)) 0) = some r := h
  clear h
  obtain ⟨y149, hy149⟩ : ∃ y_ : List Int, y_ = (([] : List Int)) := ⟨_, rfl⟩
  replace H : (spec_l01Text.l0 k l0 y149 0) = some r := by first | (rw [hy149]; with_reducible exact H) | (have H2_ := (Option.bind_some _ _).symm.trans H; rw [hy149]; with_reducible exact H2_) | (have H2_ := (Option.bind_some _ _).symm.trans H; with_reducible exact H2_) | with_reducible exact H | (rw [hy149]; exact H) | exact H
  have Ny149 := Aside0.mk hy149
  clear hy149
  have H' := Aside0.mk H
  clear H
  go_enter Try.func80, Try.ntmps80
  go_wp2_with (first | ((with_reducible refine gate_dst (N := 5) rfl ?_); refine Kd.R_lit (Kd.int .u8) _ 5 ?hg (N := 5) ?hd (xs := ([] : List Int)) (inner := []) (ok := fun _ => True) (okp := fun _ => True) ?hr ?hp (fun _ hk => hk) trivial (Below.refl _ _) (Nat.le_refl _) (by simp) ?_; (case hd => rfl); (case hg => rfl); (case hr => first | (go_simp; done) | (go_simp; rfl)); (case hp => exact (Reps.none _ _)); intro v150 w2 ho3 hb hg_ hnew_; clear hg_ hnew_; (first | rw [← Ny149.out] at ho3 | (simp only [Int.reduceToNat] at ho3; rw [← Ny149.out] at ho3)); have n0_ := Aside0.mk (Kd.R_lower ho3 (below_size (by repeat (first | (with_reducible first | exact HB.out | apply below_alloc | apply pw_below_drewN | apply below_drew1) | exact HB.out)))); have n1_ := Aside0.mk (below_step (by repeat (first | (with_reducible first | exact HB.out | apply below_alloc | apply pw_below_drewN | apply below_drew1) | exact HB.out)) hb); clear HB; have HO151 := n0_; have HB := n1_; clear n0_ n1_; clear hb ho3))
  go_loopg [3, 4] k (fun kq v3 v4 w' => ∃ (x3_1 : List Int) (x4_1 : Int), v4 = .int .i64 x4_1 ∧ Aside0 (spec_l01Text.l0 kq l0 x3_1 x4_1 = some r) ∧ Aside0 (kq ≤ k) ∧ Aside0 (Kd.R (Kd.int .u8) 5 w' w.heap.size (fun _ => True) v3 x3_1) ∧ Aside0 (Below w.heap.size w w'))
  case atStart => exact ⟨(y149), (0), (by first | rfl | (simp; done) | (simp [*]; done)), H', ⟨Nat.le_refl _⟩, ⟨by (with_reducible repeat (first | apply Kd.R_alloc | apply Kd.R_drewN | apply Kd.R_drew)); exact HO151.out⟩, ⟨by repeat (first | (with_reducible first | exact HB.out | apply below_alloc | apply pw_below_drewN | apply below_drew1) | exact HB.out)⟩⟩
  case round =>
    clear H'
    try clear p2
    obtain ⟨x3_1, x4_1, rfl, HA, HK1, HO_3, HB⟩ := hrel
    cases gk with
    | zero => exact absurd HA.out (by simp [spec_l01Text.l0])
    | succ k1 =>
      have H := HA.out
      clear HA
      simp only [spec_l01Text.l0] at H
      by_cases c4 : x4_1 < 16
      · rw [if_pos c4] at H
        have c4b0 : decide (x4_1 < 16) = true := decide_eq_true c4
        clear c4
        by_cases c5 : 0 ≤ x4_1
        · rw [if_pos c5] at H
          have c5b0 : decide (0 ≤ x4_1) = true := decide_eq_true c5
          clear c5
          by_cases c6 : x4_1 < (l0.length : Int)
          · rw [if_pos c6] at H
            have c6b0 : decide (x4_1 < (l0.length : Int)) = true := decide_eq_true c6
            clear c6
            by_cases c7 : x3_1.length < 140737488355328
            · rw [if_pos c7] at H
              have LMc7 := Aside0.mk c7
              clear c7
              obtain ⟨y153, hy153⟩ : ∃ y_ : List Int, y_ = (x3_1 ++ [(rd l0 x4_1) % 256]) := ⟨_, rfl⟩
              replace H : (spec_l01Text.l0 k1 l0 y153 (wrap64 (x4_1 + 1))) = some r := by first | (rw [hy153]; with_reducible exact H) | (have H2_ := (Option.bind_some _ _).symm.trans H; rw [hy153]; with_reducible exact H2_) | (have H2_ := (Option.bind_some _ _).symm.trans H; with_reducible exact H2_) | with_reducible exact H | (rw [hy153]; exact H) | exact H
              have Ny153 := Aside0.mk hy153
              clear hy153
              have H' := Aside0.mk H
              clear H
              have p152 : 0 ≤ (x4_1 : Int) := of_decide_eq_true (by first | (with_reducible assumption) | assumption)
              have q152 : x4_1 < (l0.length : Int) := of_decide_eq_true (by first | (with_reducible assumption) | assumption)
              obtain ⟨ad152, e152, hx152_0⟩ := Kd.at_int HR0.out x4_1 p152 q152
              cases e152
              replace hx152_0 := (HB.out.cell (World.block_lt_of_cell? w _ hx152_0)).trans hx152_0
              replace p152 := eq_true p152
              replace q152 := eq_true q152
              go_wp2_with (first | ((with_reducible refine gate_builtin (b := .append) (xs := #[.tmp 10, .tmp 16]) rfl ?_); at_builtin; refine Kd.R_append (Kd.int .u8) (w0 := w) w.heap.size rfl (.tmp 10) (.tmp 16) 28 5 (.int .u8 0) 1 rfl Try.underlying28 info5 rfl (by decide) (by omega) u3 x3_1 ((rd l0 x4_1) % 256) [.int .u8 ((rd l0 x4_1) % 256)] (fun _ => True) (fun _ => False) rfl rfl ?aP (fun _ hk => hk.elim) ?aF ?aO ?aB ?aS ?aL ?_; (case aP => exact rfl); (case aB => exact (by repeat (first | (with_reducible first | exact HB.out | apply below_alloc | apply pw_below_drewN | apply below_drew1) | exact HB.out))); (case aF => exact (fun _ _ => trivial)); (case aO => exact (by (with_reducible repeat (first | apply Kd.R_alloc | apply Kd.R_drewN | apply Kd.R_drew)); exact HO_3.out)); (case aS => exact (below_size (by repeat (first | (with_reducible first | exact HB.out | apply below_alloc | apply pw_below_drewN | apply below_drew1) | exact HB.out)))); (case aL => have := LMc7.out; omega); intro v154 w8 ho hb hg hat; rw [← Ny153.out] at ho; have n0_ := Aside0.mk (hb); have n1_ := Aside0.mk (ho); clear HB; clear HO_3; have HB := n0_; have HO155 := n1_; clear n0_ n1_; clear ho hb hg hat))
              go_roundg k1
              case measure => have := HK1.out; omega
              case rel => exact ⟨(y153), (wrap64 (x4_1 + 1)), (by first | rfl | (simp; done) | (simp [*]; done)), H', ⟨by have := HK1.out; omega⟩, ⟨by (with_reducible repeat (first | apply Kd.R_alloc | apply Kd.R_drewN | apply Kd.R_drew)); exact HO155.out⟩, ⟨by repeat (first | (with_reducible first | exact HB.out | apply below_alloc | apply pw_below_drewN | apply below_drew1) | exact HB.out)⟩⟩
            · rw [if_neg c7] at H
              exact absurd H (by simp)
          · rw [if_neg c6] at H
            exact absurd H (by simp)
        · rw [if_neg c5] at H
          exact absurd H (by simp)
      · rw [if_neg c4] at H
        have c4b0 : decide (x4_1 < 16) = false := decide_eq_false c4
        clear c4
        obtain rfl := Option.some.inj H
        have hcv9 := own_string (P := Try.prog) Try.underlying28 Try.underlying5 Try.underlying9 (Kd.own_of_R HO_3.out)
        go_wp2
        go_ret
        exact ⟨by first | rfl | (simp [errW_none, errW_some] <;> rfl) | (simp [*, errW_none, errW_some] <;> rfl), by repeat (first | (with_reducible first | exact HB.out | apply below_alloc | apply pw_below_drewN | apply below_drew1) | exact HB.out)⟩
theorem suc64 (i : Nat) (h : i < 1000000) : wrap64 ((i : Int) + 1) = ((i + 1 : Nat) : Int) := by unfold wrap64; omega
theorem w64b {x : Int} (h : Aes.by_ x) : wrap64 x = x := by unfold Aes.by_ at h; unfold wrap64; omega
theorem rdn (l : List Int) (i : Nat) : rd l (i : Int) = l.getD i 0 := rfl
theorem take_one (l : List Int) (i : Nat) (h : i < l.length) : l.take i ++ [l.getD i 0] = l.take (i + 1) := by
  rw [List.take_add_one, List.getElem?_eq_getElem h, List.getD_eq_getElem?_getD, List.getElem?_eq_getElem h]
  rfl
theorem ok_bytesL (s : ByteArray) : Aes.ok (bytesL s) := u8ok_bytesL s
theorem state_run (s : ByteArray) (hs : s.size = 16) (d : Nat) : ∀ k i, i + d = 16 → d < k → spec_l01State.l0 k s ((bytesL s).take i) (i : Int) = some (bytesL s) := by
  have hl := bytesL_length s
  induction d with
  | zero =>
    intro k i hi hk
    obtain ⟨k, rfl⟩ : ∃ m, k = m + 1 := ⟨k - 1, by omega⟩
    simp only [spec_l01State.l0]
    rw [if_neg (by omega), List.take_of_length_le (by omega)]
  | succ d ih =>
    intro k i hi hk
    obtain ⟨k, rfl⟩ : ∃ m, k = m + 1 := ⟨k - 1, by omega⟩
    simp only [spec_l01State.l0]
    rw [if_pos (by omega), if_pos (by omega), if_pos (by omega), if_pos (by rw [List.length_take]; omega), suc64 i (by omega), ← bytesL_getD s i (by omega), w64b (Aes.at_by (ok_bytesL s) i), take_one _ i (by omega)]
    exact ih k (i + 1) (by omega) (by omega)
theorem state_eq (k : Nat) (hk : 16 < k) (s : ByteArray) (hs : s.size = 16) : spec_l01State.f k s = some (bytesL s) := state_run s hs 16 k 0 rfl hk
theorem xorS_run (a : List Int) (s : ByteArray) (ha : a.length = 16) (oa : Aes.ok a) (hs : s.size = 16) (d : Nat) : ∀ k i, i + d = 16 → d < k → spec_l01Xor.l0 k ((Aes.xorS a (bytesL s)).take i ++ a.drop i) s (i : Int) = some (Aes.xorS a (bytesL s)) := by
  have hX := Aes.xorS_length a (bytesL s)
  induction d with
  | zero =>
    intro k i hi hk
    obtain ⟨k, rfl⟩ : ∃ m, k = m + 1 := ⟨k - 1, by omega⟩
    simp only [spec_l01Xor.l0]
    rw [if_neg (by omega), List.take_of_length_le (by omega), List.drop_eq_nil_of_le (by omega), List.append_nil]
  | succ d ih =>
    intro k i hi hk
    obtain ⟨k, rfl⟩ : ∃ m, k = m + 1 := ⟨k - 1, by omega⟩
    have hd : ((Aes.xorS a (bytesL s)).take i ++ a.drop i).length = 16 := by rw [List.length_append, List.length_take, List.length_drop, hX]; omega
    have e1 : ((Aes.xorS a (bytesL s)).take i ++ a.drop i).getD i 0 = a.getD i 0 := by
      rw [List.getD_eq_getElem?_getD, td_at _ a (by omega) i (by omega)]; rfl
    have e2 := td_set (Aes.xorS a (bytesL s)) a (by omega) i (by omega)
    have e3 : (Aes.xorS a (bytesL s)).getD i 0 = Aes.xr (a.getD i 0) ((bytesL s).getD i 0) := by rw [Aes.xorS, Aes.st_at _ i (by omega)]
    rw [e3] at e2
    simp only [spec_l01Xor.l0]
    rw [if_pos (by omega), if_pos (by omega), if_pos (by omega), if_pos (by omega), suc64 i (by omega), rdn, e1, ← bytesL_getD s i (by omega), w64b (Aes.at_by (ok_bytesL s) i), Aes.xr_i64 (Aes.at_by oa i) (Aes.at_by (ok_bytesL s) i), Int.toNat_natCast, e2]
    exact ih k (i + 1) (by omega) (by omega)
theorem xor_eq (k : Nat) (hk : 16 < k) (a : List Int) (s : ByteArray) (ha : a.length = 16) (oa : Aes.ok a) (hs : s.size = 16) : spec_l01Xor.f k a s = some (Aes.xorS a (bytesL s)) := by
  have := xorS_run a s ha oa hs 16 k 0 rfl hk
  rw [List.take_zero, List.nil_append, List.drop_zero] at this
  exact this
theorem swap_run (T : List Int) (f : Int → Int) (hT : T.length = 256) (hf : ∀ x, Aes.by_ x → T.getD x.toNat 0 = f x) (a : List Int) (ha : a.length = 16) (oa : Aes.ok a) (d : Nat) : ∀ k i, i + d = 16 → d < k →
    spec_l01Swap.l0 k ((Aes.st fun i => f (a.getD i 0)).take i ++ a.drop i) T (i : Int) = some (Aes.st fun i => f (a.getD i 0)) := by
  have hX := Aes.st_length fun i => f (a.getD i 0)
  induction d with
  | zero =>
    intro k i hi hk
    obtain ⟨k, rfl⟩ : ∃ m, k = m + 1 := ⟨k - 1, by omega⟩
    simp only [spec_l01Swap.l0]
    rw [if_neg (by omega), List.take_of_length_le (by omega), List.drop_eq_nil_of_le (by omega), List.append_nil]
  | succ d ih =>
    intro k i hi hk
    obtain ⟨k, rfl⟩ : ∃ m, k = m + 1 := ⟨k - 1, by omega⟩
    have hd : ((Aes.st fun i => f (a.getD i 0)).take i ++ a.drop i).length = 16 := by rw [List.length_append, List.length_take, List.length_drop, hX]; omega
    have e1 : ((Aes.st fun i => f (a.getD i 0)).take i ++ a.drop i).getD i 0 = a.getD i 0 := by
      rw [List.getD_eq_getElem?_getD, td_at _ a (by omega) i (by omega)]; rfl
    have e2 := td_set (Aes.st fun i => f (a.getD i 0)) a (by omega) i (by omega)
    rw [Aes.st_at _ i (by omega)] at e2
    have hb := Aes.at_by oa i
    have e3 : rd T (a.getD i 0) = f (a.getD i 0) := hf _ hb
    unfold Aes.by_ at hb
    simp only [spec_l01Swap.l0]
    rw [if_pos (by omega), if_pos (by omega), if_pos (by omega), rdn, e1, if_pos (by omega), if_pos (by omega), suc64 i (by omega), e3, Int.toNat_natCast, e2]
    exact ih k (i + 1) (by omega) (by omega)
theorem swap_eq (k : Nat) (hk : 16 < k) (T : List Int) (f : Int → Int) (hT : T.length = 256) (hf : ∀ x, Aes.by_ x → T.getD x.toNat 0 = f x) (a : List Int) (ha : a.length = 16) (oa : Aes.ok a) : spec_l01Swap.f k a T = some (Aes.st fun i => f (a.getD i 0)) := by
  have := swap_run T f hT hf a ha oa 16 k 0 rfl hk
  rw [List.take_zero, List.nil_append, List.drop_zero] at this
  exact this
theorem text_run (a : List Int) (ha : a.length = 16) (oa : Aes.ok a) (d : Nat) : ∀ k i, i + d = 16 → d < k → spec_l01Text.l0 k a (a.take i) (i : Int) = some (strOfNums a) := by
  induction d with
  | zero =>
    intro k i hi hk
    obtain ⟨k, rfl⟩ : ∃ m, k = m + 1 := ⟨k - 1, by omega⟩
    simp only [spec_l01Text.l0]
    rw [if_neg (by omega), List.take_of_length_le (by omega)]
  | succ d ih =>
    intro k i hi hk
    obtain ⟨k, rfl⟩ : ∃ m, k = m + 1 := ⟨k - 1, by omega⟩
    have hb := Aes.at_by oa i
    have e : a.getD i 0 % 256 = a.getD i 0 := by unfold Aes.by_ at hb; omega
    simp only [spec_l01Text.l0]
    rw [if_pos (by omega), if_pos (by omega), if_pos (by omega), if_pos (by rw [List.length_take]; omega), suc64 i (by omega), rdn, e, take_one _ i (by omega)]
    exact ih k (i + 1) (by omega) (by omega)
theorem text_eq (k : Nat) (hk : 16 < k) (a : List Int) (ha : a.length = 16) (oa : Aes.ok a) : spec_l01Text.f k a = some (strOfNums a) := text_run a ha oa 16 k 0 rfl hk
theorem rdK (keys : List (List Int)) (r : Nat) (hr : r < keys.length) : rdOf ByteArray.empty (keys.map strOfNums) (r : Int) = strOfNums (keys.getD r []) := by
  unfold rdOf
  rw [Int.toNat_natCast, List.getD_eq_getElem?_getD, List.getElem?_map, List.getElem?_eq_getElem hr, List.getD_eq_getElem?_getD, List.getElem?_eq_getElem hr]
  rfl
theorem key_at {keys : List (List Int)} (h : Aes.keysOk keys) (r : Nat) (hr : r < keys.length) : (keys.getD r []).length = 16 ∧ Aes.ok (keys.getD r []) := by
  rw [List.getD_eq_getElem?_getD, List.getElem?_eq_getElem hr]
  exact h _ (List.getElem_mem hr)
theorem xorK (k : Nat) (hk : 16 < k) {keys : List (List Int)} (h : Aes.keysOk keys) (r : Nat) (hr : r < keys.length) (a : List Int) (ha : a.length = 16) (oa : Aes.ok a) :
    spec_l01Xor.f k a (rdOf ByteArray.empty (keys.map strOfNums) (r : Int)) = some (Aes.xorS a (keys.getD r [])) := by
  have hk2 := key_at h r hr
  rw [rdK keys r hr, xor_eq k hk a _ ha oa (by rw [str_size]; exact hk2.1), bytesL_str _ hk2.2]
theorem keysL_good (key : ByteArray) : Aes.keysOk (Aes.keysL (bytesL key)) := Aes.keysL_ok (ok_bytesL key)
def spec_l02Both.f (s0 : ByteArray) (l1 : List Int) : Option ByteArray := if u8b l1 = true ∧ s0.size = 16 ∧ l1.length = 16 then some (strOfNums (Aes.xorS (bytesL s0) l1)) else none
set_option maxHeartbeats 2000000 in
set_option maxRecDepth 100000 in
theorem spec_l02Both.calls (s0 : ByteArray) (A1 : Option Addr) (c1 : Nat) (l1 : List Int) (r : ByteArray) (w0 : World) (hr1 : Kd.C (Kd.int .u8) w0 A1 l1.length l1) (hc1 : l1.length ≤ c1) (h : spec_l02Both.f s0 l1 = some r) :
    Calls Try.prog 61 #[.string s0, .slice A1 l1.length c1] w0 fun e w' => e = .returned (.string r) ∧ Below w0.heap.size w0 w' := by
  unfold spec_l02Both.f at h
  by_cases hg : u8b l1 = true ∧ s0.size = 16 ∧ l1.length = 16
  · rw [if_pos hg] at h
    injection h with h
    subst h
    obtain ⟨hu, hs, hl⟩ := hg
    have HU := Aside0.mk (u8b_ok hu)
    have HR1 := Aside0.mk hr1
    have HL := Aside0.mk hl
    obtain ⟨b, hb⟩ : ∃ b, b = bytesL s0 := ⟨_, rfl⟩
    obtain ⟨X, hX⟩ : ∃ X, X = Aes.xorS (bytesL s0) l1 := ⟨_, rfl⟩
    have HBL : Aside0 (b.length = 16) := ⟨by rw [hb, bytesL_length, hs]⟩
    have HXL : Aside0 (X.length = 16) := ⟨by rw [hX]; exact Aes.xorS_length _ _⟩
    have HXA : Aside0 (∀ j, j < 16 → X.getD j 0 = Go.bits .xor .u8 (b.getD j 0) (l1.getD j 0)) := ⟨fun j hj => by rw [hX, Aes.xorS, Aes.st_at _ j hj, hb]; rfl⟩
    obtain ⟨ad, had, _⟩ := hr1.2.2 (by omega)
    subst had
    have kc := Lib.run_convert_string_bytes (P := Try.prog) w0 9 28 5 s0 Try.underlying9 Try.underlying28 Try.underlying5
    have hrow := conv_rowB w0 w0.heap.size 5 s0 (Nat.le_refl _)
    have hb1 : Below w0.heap.size w0 (Lib.bytesWorld w0 5 s0) := bytes_below (Below.refl _ _) (Nat.le_refl _) _ _
    rw [hs] at kc hrow
    rw [← hb] at hrow
    rw [hl, ← hX]
    generalize Lib.bytesWorld w0 5 s0 = w1 at kc hrow hb1
    generalize grownCap w0 16 0 5 = cb at kc hrow
    obtain ⟨gb, hgb⟩ : ∃ g, g = w0.heap.size := ⟨_, rfl⟩
    have HGB : Aside0 (w0.heap.size ≤ gb) := ⟨by omega⟩
    rw [← hgb] at kc
    have hrow2 : rowB w1 w0.heap.size (.slice (some ⟨gb, 0, none⟩) 16 cb) (X.take 0 ++ b.drop 0) := by rw [hgb]; exact hrow
    have HROW := Aside0.mk hrow2
    have HB := Aside0.mk hb1
    have HTL : Aside0 (∀ k, (X.take k ++ b.drop k).length = 16) := ⟨fun k => by rw [List.length_append, List.length_take, List.length_drop, HXL.out, HBL.out]; omega⟩
    clear hrow hrow2 hb1 hgb hb hX hu hs hr1 hc1 hl
    go_enter Try.func61, Try.ntmps61
    go_wp2_with fail
    clear kc
    go_loopw [6] (fun vi wr => ∃ k : Nat, k ≤ 16 ∧ vi = .int .i64 (k : Int) ∧ Aside0 (rowB wr w0.heap.size (.slice (some ⟨gb, 0, none⟩) 16 cb) (X.take k ++ b.drop k)) ∧ Aside0 (Below w0.heap.size w0 wr)) (fun i _ => 16 - (intOf i).toNat)
    case atStart => exact ⟨0, by omega, rfl, HROW, HB⟩
    case round =>
      clear HROW HB
      obtain ⟨k, hk, rfl, HROW, HB⟩ := hrel
      by_cases hlt : k < 16
      · have hd : decide (k < 16) = true := decide_eq_true hlt
        have hd2 : decide ((k : Int) < 16) = true := decide_eq_true (by omega)
        have HLT := Aside0.mk hlt
        obtain ⟨x, hx⟩ : ∃ x, x = b.getD k 0 := ⟨_, rfl⟩
        obtain ⟨y, hy⟩ : ∃ y, y = l1.getD k 0 := ⟨_, rfl⟩
        have cA : wr.cell? ⟨gb, k, none⟩ = some (.int .u8 x) := by
          rw [rowB_cell HROW.out k (by rw [HTL.out]; exact hlt), hx]
          congr 2
          rw [List.getD_eq_getElem?_getD, td_at X b (by rw [HXL.out, HBL.out]) k (by rw [HXL.out]; exact hlt)]; rfl
        have zA : wr.frozen? ⟨gb, k, none⟩ = false := rowB_free HROW.out k (by rw [HTL.out]; exact hlt)
        have cB : wr.cell? (ad.add k) = some (.int .u8 y) := by rw [hy]; exact C_u8_cell (Kd.C_below HR1.out HB.out) rfl k (by rw [HL.out]; exact hlt)
        have i0 : (0 : Int) ≤ (k : Int) := Int.natCast_nonneg k
        have i1 : (k : Int) < 16 := by omega
        have hne : ad.block ≠ gb := by
          have hlt2 : ad.block < w0.heap.size := by
            have h := C_u8_cell HR1.out rfl 0 (by rw [HL.out]; decide)
            have h2 := cell_lt (a := ad.add 0) (by rw [h]; rfl)
            rwa [add_block] at h2
          have := HGB.out
          omega
        have HV : Aside0 (X.getD k 0 = Go.bits .xor .u8 x y) := ⟨by rw [HXA.out k hlt, hx, hy]⟩
        clear hx hy hlt hk
        go_wp2
        go_region
        all_goals go_wp2
        have hw : wrap64 ((k : Int) + 1) = ((k + 1 : Nat) : Int) := by have := HLT.out; unfold wrap64; omega
        try rw [hw]
        clear hw
        go_roundw
        case rel =>
          refine ⟨k + 1, HLT.out, rfl, ⟨?_⟩, ⟨below_drew1 (below_set HB.out HGB.out)⟩⟩
          have h1 := rowB_set HROW.out k (by rw [HTL.out]; exact HLT.out) (Go.bits .xor .u8 x y)
          rw [← HV.out, td_set X b (by rw [HXL.out, HBL.out]) k (by rw [HXL.out]; exact HLT.out), HV.out] at h1
          exact rowB_below h1 (below_drew (Below.refl _ _))
        case measure => simp [intOf]; have := HLT.out; omega
      · have hd : decide (k < 16) = false := decide_eq_false hlt
        have hd2 : decide ((k : Int) < 16) = false := decide_eq_false (by omega)
        have e16 : X.take k ++ b.drop k = X := by rw [List.take_of_length_le (by rw [HXL.out]; omega), List.drop_eq_nil_of_le (by rw [HBL.out]; omega), List.append_nil]
        rw [e16] at HROW
        have ks := Kd.C_string (P := Try.prog) (dst := 9) (src := 28) (c := cb) Try.underlying28 Try.underlying5 Try.underlying9 (rowB_str HROW.out HXL.out.symm (by rw [HXL.out]; decide))
        rw [HXL.out] at ks
        obtain rfl : k = 16 := by omega
        clear e16 hlt hk hd hd2
        go_wp2
        go_ret
        exact ⟨rfl, HB.out⟩
  · rw [if_neg hg] at h
    cases h
end Go.Proofs.Ytfbggdlidelliaa.P

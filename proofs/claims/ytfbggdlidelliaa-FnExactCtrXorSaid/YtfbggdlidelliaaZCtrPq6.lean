/- Laid by a program of this session: of Pq6 what this law uses. -/
import Derived.Test.YtfbggdlidelliaaZCtrPq0
import Derived.Test.YtfbggdlidelliaaZCtrPq1
import Derived.Test.YtfbggdlidelliaaZCtrPq3
import Derived.Test.YtfbggdlidelliaaZCtrPq4
import Derived.Test.YtfbggdlidelliaaZCtrPq5
namespace Go.Proofs.Ytfbggdlidelliaa.P
open Go.RowKit Go.Proofs.YtfbggdlidelliaaW.PrintWords Go.Proofs.YtfbggdlidelliaaW.PrintLast Go.Proofs.YtfbggdlidelliaaW.PrintMore
attribute [local go_sem] min2_int min_two
set_option linter.unusedVariables false
set_option linter.unusedSimpArgs false
def bytes_Clone.f (l0 : List Int) : Option (List Int) := if l0.length < 140737488355328 then some l0 else none
set_option maxHeartbeats 4000000 in
set_option maxRecDepth 100000 in
theorem bytes_Clone.calls (A0 : Option Addr) (c0 : Nat) (l0 : List Int) (r : List Int) (w : World) (hr0 : Kd.C (Kd.int .u8) w A0 l0.length l0) (hc0 : l0.length ≤ c0) (h : bytes_Clone.f l0 = some r) :
    Calls Try.prog 64 #[.slice A0 l0.length c0] w fun e w' => ∃ v0_ : Value, e = .returned (v0_) ∧ Kd.R (Kd.int .u8) 5 w' w.heap.size (fun _ => True) v0_ r ∧ Below w.heap.size w w' := by
  have HR0 := Aside0.mk hr0
  have HC0 := Aside0.mk hc0
  have HB := Aside0.mk (Below.refl w.heap.size w)
  unfold bytes_Clone.f at h
  by_cases c2 : l0.length < 140737488355328
  · rw [if_pos c2] at h
    injection h with h
    subst h
    have LMc2 := Aside0.mk c2
    clear c2
    have q22 : ∀ (w : World) (a : Option Addr) (n c n' c' : Nat), (binOp .eql 28 (.slice a n c) (.slice none n' c')).run Try.prog w = .ok (.bool a.isNone) w := fun w a n c n' c' => Lib.run_eql_slice_nil w _ _ a n c n' c' Try.underlying28
    cases A0 with
    | none =>
      have h0 : l0 = [] := by
        rcases Nat.eq_zero_or_pos l0.length with e | e
        · exact List.eq_nil_of_length_eq_zero e
        · obtain ⟨ad, e1, _⟩ := hr0.2.2 e
          cases e1
      subst h0
      clear hr0 hc0
      go_enter Try.func64, Try.ntmps64
      go_wp2
      go_ret
      exact ⟨_, rfl, Kd.R_nil _ _ _ _ _, HB.out⟩
    | some ad =>
      clear hr0 hc0
      obtain ⟨y101, hy101⟩ : ∃ y_ : List Int, y_ = (([] : List Int)) := ⟨_, rfl⟩
      have Ny101 := Aside0.mk hy101
      obtain ⟨y104, hy104⟩ : ∃ y_ : List Int, y_ = (y101 ++ l0) := ⟨_, rfl⟩
      have Ny104 := Aside0.mk hy104
      clear hy101 hy104
      go_enter Try.func64, Try.ntmps64
      go_wp2_with (first | ((with_reducible refine gate_dst (N := 5) rfl ?_); refine Kd.R_lit (Kd.int .u8) _ 5 ?hg (N := 5) ?hd (xs := ([] : List Int)) (inner := []) (ok := fun _ => True) (okp := fun _ => True) ?hr ?hp (fun _ hk => hk) trivial (Below.refl _ _) (Nat.le_refl _) (by simp) ?_; (case hd => rfl); (case hg => rfl); (case hr => first | (go_simp; done) | (go_simp; rfl)); (case hp => exact (Reps.none _ _)); intro v102 w3 ho4 hb hg_ hnew_; clear hg_ hnew_; (first | rw [← Ny101.out] at ho4 | (simp only [Int.reduceToNat] at ho4; rw [← Ny101.out] at ho4)); have n0_ := Aside0.mk (Kd.R_lower ho4 (below_size HB.out)); have n1_ := Aside0.mk (below_step HB.out hb); clear HB; have HO103 := n0_; have HB := n1_; clear n0_ n1_; clear hb ho4) | ((with_reducible refine gate_builtin (b := .append) (xs := #[.tmp 5, .tmp 6]) rfl ?_); at_builtin; refine Kd.R_append_rows (Kd.int .u8) (w0 := w) w.heap.size rfl (.tmp 5) (.tmp 6) 28 5 (.int .u8 0) 1 rfl Try.underlying28 info5 rfl (by decide) (by omega) v102 y101 l0 _ _ _ (fun _ => True) (fun _ => False) rfl rfl ?aO ?aR (fun _ _ h => h) (fun _ h => h.elim) ?aF ?aB ?aS ?aL ?_; (case aR => exact (Kd.C_below HR0.out HB.out)); (case aB => exact HB.out); (case aF => exact (fun _ _ => trivial)); (case aO => exact HO103.out); (case aS => exact (below_size HB.out)); (case aL => have := LMc2.out; have e := Ny101.out; subst e; simp; omega); intro v105 w5 ho hb hg hat; rw [← Ny104.out] at ho; have n0_ := Aside0.mk (hb); have n1_ := Aside0.mk (ho); clear HB; clear HO103; have HB := n0_; have HO106 := n1_; clear n0_ n1_; clear ho hb hg hat))
      go_ret
      have e1 := Ny104.out
      have e2 := Ny101.out
      subst e2
      simp only [List.nil_append] at e1
      subst e1
      exact ⟨_, rfl, HO106.out, HB.out⟩
  · rw [if_neg c2] at h
    exact absurd h (by simp)
def impl_bytesOf.l0 : Nat → Int → List Int → Int → Option (ByteArray)
  | 0, _, _, _ => none
  | k + 1, x0, x5, x6 => if x6 ≥ 0 then (if 0 ≤ x6 then (if x6 < (x5.length : Int) then (impl_bytesOf.l0 k (x0 / 256) (x5.set (x6 : Int).toNat ((x0) % 256)) (wrap64 (x6 - 1))) else (none)) else (none)) else (some (strOfNums x5))
def impl_bytesOf.f (k : Nat) (a0 : Int) (a1 : Int) : Option (ByteArray) := if 0 ≤ a1 then (if (a1 : Int).toNat ≤ 281474976710656 then (impl_bytesOf.l0 k a0 (List.replicate (a1 : Int).toNat 0) (wrap64 (a1 - 1))) else (none)) else (none)
set_option maxHeartbeats 8000000 in
set_option maxRecDepth 100000 in
theorem impl_bytesOf.calls (k : Nat) (a0 : Int) (a1 : Int) (r : ByteArray) (w : World) (h : impl_bytesOf.f k a0 a1 = some r) :
    Calls Try.prog 96 #[.int .i64 a0, .int .i64 a1] w fun e w' => e = .returned (.string r) ∧ Below w.heap.size w w' := by
  have HB := Aside0.mk (Below.refl w.heap.size w)
  have H : (if 0 ≤ a1 then (if (a1 : Int).toNat ≤ 281474976710656 then (impl_bytesOf.l0 k a0 (List.replicate (a1 : Int).toNat 0) (wrap64 (a1 - 1))) else (none)) else (none)) = some r := h
  clear h
  by_cases c3 : 0 ≤ a1
  · rw [if_pos c3] at H
    have c3b0 := eq_true c3
    have c3b1 : decide (0 ≤ a1) = true := decide_eq_true c3
    clear c3
    by_cases c4 : (a1 : Int).toNat ≤ 281474976710656
    · rw [if_pos c4] at H
      have c4b0 := eq_true c4
      have c4b1 : decide ((a1 : Int).toNat ≤ 281474976710656) = true := decide_eq_true c4
      clear c4
      obtain ⟨y117, hy117⟩ : ∃ y_ : List Int, y_ = (List.replicate (a1 : Int).toNat 0) := ⟨_, rfl⟩
      replace H : (impl_bytesOf.l0 k a0 y117 (wrap64 (a1 - 1))) = some r := by first | (rw [hy117]; with_reducible exact H) | (have H2_ := (Option.bind_some _ _).symm.trans H; rw [hy117]; with_reducible exact H2_) | (have H2_ := (Option.bind_some _ _).symm.trans H; with_reducible exact H2_) | with_reducible exact H | (rw [hy117]; exact H) | exact H
      have Ny117 := Aside0.mk hy117
      clear hy117
      have H' := Aside0.mk H
      clear H
      go_enter Try.func96, Try.ntmps96
      go_wp2_with (first | ((with_reducible refine gate_dst (N := 8) rfl ?_); refine Kd.R_make (Kd.int .u8) _ 5 rfl (N := 8) rfl 28 _ _ rfl a1 rfl rfl Try.underlying28 (.int .u8 0) 1 info5 rfl (by decide) (by omega) 0 (ok := fun _ => True) (okp := fun _ => True) rfl (fun _ hk => hk) trivial (of_decide_eq_true (by first | (with_reducible assumption) | assumption)) (Nat.le_trans (Nat.mul_le_mul_right _ (of_decide_eq_true (by first | (with_reducible assumption) | assumption) : a1.toNat ≤ 281474976710656)) (by omega)) (Below.refl _ _) (Nat.le_refl _) ?_; intro v118 w5 ho6 hb hg_ hnew_; clear hg_ hnew_; (first | rw [← Ny117.out] at ho6 | (simp only [Int.reduceToNat] at ho6; rw [← Ny117.out] at ho6)); have n0_ := Aside0.mk (Kd.R_lower ho6 (below_size (by repeat (first | (with_reducible first | exact HB.out | apply below_alloc | apply pw_below_drewN | apply below_drew1) | exact HB.out)))); have n1_ := Aside0.mk (below_step (by repeat (first | (with_reducible first | exact HB.out | apply below_alloc | apply pw_below_drewN | apply below_drew1) | exact HB.out)) hb); clear HB; have HO119 := n0_; have HB := n1_; clear n0_ n1_; clear hb ho6))
      go_loopg [0, 6] k (fun kq v0 v6 w' => ∃ (x0_1 : Int) (x5_1 : List Int) (x6_1 : Int), v0 = .int .i64 x0_1 ∧ v6 = .int .i64 x6_1 ∧ Aside0 (impl_bytesOf.l0 kq x0_1 x5_1 x6_1 = some r) ∧ Aside0 (kq ≤ k) ∧ Aside0 (Kd.R (Kd.int .u8) 5 w' w.heap.size (fun _ => True) v118 x5_1) ∧ Aside0 (Below w.heap.size w w'))
      case atStart => exact ⟨(a0), (y117), (wrap64 (a1 - 1)), (by first | rfl | (simp; done) | (simp [*]; done)), (by first | rfl | (simp; done) | (simp [*]; done)), H', ⟨Nat.le_refl _⟩, ⟨by (with_reducible repeat (first | apply Kd.R_alloc | apply Kd.R_drewN | apply Kd.R_drew)); exact HO119.out⟩, ⟨by repeat (first | (with_reducible first | exact HB.out | apply below_alloc | apply pw_below_drewN | apply below_drew1) | exact HB.out)⟩⟩
      case round =>
        clear H'
        try clear p2
        try clear c3
        try clear c3b0
        try clear c3b1
        try clear c4
        try clear c4b0
        try clear c4b1
        try clear p6
        obtain ⟨x0_1, x5_1, x6_1, rfl, rfl, HA, HK1, HO_5, HB⟩ := hrel
        cases gk with
        | zero => exact absurd HA.out (by simp [impl_bytesOf.l0])
        | succ k1 =>
          have H := HA.out
          clear HA
          simp only [impl_bytesOf.l0] at H
          by_cases c7 : x6_1 ≥ 0
          · rw [if_pos c7] at H
            have c7b0 : decide (0 ≤ x6_1) = true := decide_eq_true c7
            clear c7
            by_cases c8 : 0 ≤ x6_1
            · rw [if_pos c8] at H
              have c8b0 : decide (0 ≤ x6_1) = true := decide_eq_true c8
              clear c8
              by_cases c9 : x6_1 < (x5_1.length : Int)
              · rw [if_pos c9] at H
                have c9b0 : decide (x6_1 < (x5_1.length : Int)) = true := decide_eq_true c9
                clear c9
                obtain ⟨y120, hy120⟩ : ∃ y_ : List Int, y_ = (x5_1.set (x6_1 : Int).toNat ((x0_1) % 256)) := ⟨_, rfl⟩
                replace H : (impl_bytesOf.l0 k1 (x0_1 / 256) y120 (wrap64 (x6_1 - 1))) = some r := by first | (rw [hy120]; with_reducible exact H) | (have H2_ := (Option.bind_some _ _).symm.trans H; rw [hy120]; with_reducible exact H2_) | (have H2_ := (Option.bind_some _ _).symm.trans H; with_reducible exact H2_) | with_reducible exact H | (rw [hy120]; exact H) | exact H
                have Ny120 := Aside0.mk hy120
                clear hy120
                have H' := Aside0.mk H
                clear H
                have p10 : 0 ≤ (x6_1 : Int) := of_decide_eq_true (by first | (with_reducible assumption) | assumption)
                have q10 : (x6_1 : Int) < ((x5_1.length : Int) : Int) := of_decide_eq_true (by first | (with_reducible assumption) | assumption)
                obtain ⟨go10, co10, eo10, gb10, gl10, cl10, HG10⟩ := Kd.R_form HO_5.out (by omega)
                (first | cases eo10 | (injection eo10 with ea_ en_ ec_; (first | subst ea_ | (injection ea_ with ea_; subst ea_)); subst ec_; clear en_))
                have GB10 := Aside0.mk gb10
                have GG10 := Aside0.mk HG10
                clear gb10 gl10 HG10
                obtain ⟨hx10_0, hf10_0⟩ := Kd.R_celln 0 HO_5.out (x6_1 : Int) p10 q10
                replace p10 := eq_true p10
                replace q10 := eq_true q10
                have HP11 := Kd.R_putg HO_5.out (x6_1 : Int) ((x0_1) % 256)
                go_wp2_with (first | ((with_reducible refine gate_store (t := 5) (p := 19) rfl ?_); refine store_event (t := 5) (p := 19) (v := ?vo_w12) (w1 := (wr.setCell ⟨go10, (x6_1 : Int).toNat, none⟩ (.int .u8 ((x0_1) % 256)))) ?hg ?ho ?hn ?hr ?_; (case ho => rfl); (case hg => rfl); (case hn => rfl); (case hr => first | (go_simp; done) | (go_simp; rfl)); intro w12 hw; have hg : wr.grownBy w12 (some go10) := (by rw [hw]; exact HP11.2); have hp_ : Kd.R (Kd.int .u8) 5 w12 w.heap.size (fun _ => True) (.slice (some ⟨go10, 0, none⟩) x5_1.length co10) y120 := (by rw [hw, Ny120.out]; exact HP11.1); clear HP11; have n0_ := Aside0.mk (hp_); have n1_ := Aside0.mk ((by rw [hw]; exact below_set (HB.out) GB10.out : Below w.heap.size w w12)); clear HO_5; clear HB; have HO_5 := n0_; have HB := n1_; clear n0_ n1_; clear hg hw hp_))
                go_roundg k1
                case measure => have := HK1.out; omega
                case rel => exact ⟨(x0_1 / 256), (y120), (wrap64 (x6_1 - 1)), (by first | rfl | (simp; done) | (simp [*]; done)), (by first | rfl | (simp; done) | (simp [*]; done)), H', ⟨by have := HK1.out; omega⟩, ⟨by (with_reducible repeat (first | apply Kd.R_alloc | apply Kd.R_drewN | apply Kd.R_drew)); exact HO_5.out⟩, ⟨by repeat (first | (with_reducible first | exact HB.out | apply below_alloc | apply pw_below_drewN | apply below_drew1) | exact HB.out)⟩⟩
              · rw [if_neg c9] at H
                exact absurd H (by simp)
            · rw [if_neg c8] at H
              exact absurd H (by simp)
          · rw [if_neg c7] at H
            have c7b0 : decide (0 ≤ x6_1) = false := decide_eq_false c7
            clear c7
            obtain rfl := Option.some.inj H
            have hcv13 := own_string (P := Try.prog) Try.underlying28 Try.underlying5 Try.underlying9 (Kd.own_of_R HO_5.out)
            go_wp2
            go_ret
            exact ⟨by first | rfl | (simp [errW_none, errW_some] <;> rfl) | (simp [*, errW_none, errW_some] <;> rfl), by repeat (first | (with_reducible first | exact HB.out | apply below_alloc | apply pw_below_drewN | apply below_drew1) | exact HB.out)⟩
    · rw [if_neg c4] at H
      exact absurd H (by simp)
  · rw [if_neg c3] at H
    exact absurd H (by simp)
theorem bo4 (n : Int) : impl_bytesOf.f 6 n 4 = some (strOfNums (Sha.four n)) := by
  have w3 : wrap64 3 = 3 := by unfold wrap64; omega
  have w2 : wrap64 2 = 2 := by unfold wrap64; omega
  have w1 : wrap64 1 = 1 := by unfold wrap64; omega
  have w0 : wrap64 0 = 0 := by unfold wrap64; omega
  have wm : wrap64 (-1) = -1 := by unfold wrap64; omega
  have e : n / 65536 / 256 = n / 16777216 := by omega
  have e2 : n / 256 / 256 = n / 65536 := by omega
  simp [impl_bytesOf.f, impl_bytesOf.l0, w3, w2, w1, w0, wm, Sha.four, List.replicate, e, e2]
theorem bo4_calls (n : Int) (w : World) : Calls Try.prog 96 #[.int .i64 n, .int .i64 4] w fun e w' => e = .returned (.string (strOfNums (Sha.four n))) ∧ Below w.heap.size w w' := impl_bytesOf.calls 6 n 4 _ w (bo4 n)
def impl_ctr.f (a0 a1 : ByteArray) (l2 : List Int) : Option (List Int) := if u8b l2 = true ∧ (a0.size = 16 ∨ a0.size = 32) ∧ a1.size = 12 ∧ l2.length ≤ 1048576 then some (Md.ctrL (Aes.keysL (bytesL a0)) (bytesL a1) l2) else none
set_option maxHeartbeats 8000000 in
set_option maxRecDepth 100000 in
theorem impl_ctr_in (a0 a1 : ByteArray) (n : Nat) (A2 : Option Addr) (c2 : Nat) (l2 : List Int) (w0 : World) (hr2 : Kd.C (Kd.int .u8) w0 A2 l2.length l2) (hc2 : l2.length ≤ c2) (hu2 : u8ok l2) (hl2 : l2.length ≤ 1048576) (hn : n = 4 ∨ n = 8) (hs0 : a0.size = 4 * n) (hs1 : a1.size = 12) :
    Calls Try.prog 65 #[.string a0, .string a1, .slice A2 l2.length c2] w0 fun e w' => ∃ v0_ : Value, e = .returned (v0_) ∧ Kd.R (Kd.int .u8) 5 w' w0.heap.size (fun _ => True) v0_ (Md.ctrL (Aes.keysL (bytesL a0)) (bytesL a1) l2) ∧ Below w0.heap.size w0 w' := by
  obtain ⟨keys, hkeys⟩ : ∃ K, K = Aes.keysL (bytesL a0) := ⟨_, rfl⟩
  obtain ⟨nonce, hnonce⟩ : ∃ K, K = bytesL a1 := ⟨_, rfl⟩
  obtain ⟨R, hR⟩ : ∃ R, R = Md.ctrL keys nonce l2 := ⟨_, rfl⟩
  have HKL : Aside0 (keys.length = n + 7) := ⟨by rw [hkeys, Aes.keysL_length, bytesL_length, hs0]; omega⟩
  have HKN : Aside0 (0 < keys.length ∧ keys.length ≤ 100) := ⟨by rw [HKL.out]; omega⟩
  have HRL : Aside0 (R.length = l2.length) := ⟨by rw [hR, Md.ctrL_length]⟩
  have HRA : Aside0 (∀ j, j < l2.length → R.getD j 0 = Aes.xr (l2.getD j 0) ((Md.ctrB keys nonce (j / 16)).getD (j % 16) 0)) := ⟨fun j hj => by rw [hR]; exact Md.ctrL_at keys nonce l2 j hj⟩
  have HN := Aside0.mk hn
  have HSN := Aside0.mk hs0
  have HKE := Aside0.mk hkeys
  have HNL : Aside0 (nonce.length = 12) := ⟨by rw [hnonce, bytesL_length, hs1]⟩
  have HNO : Aside0 (Aes.ok nonce) := ⟨by rw [hnonce]; exact u8ok_bytesL a1⟩
  have HNE : Aside0 (a1 = strOfNums nonce) := ⟨by rw [hnonce, str_bytesL]⟩
  have HR2 := Aside0.mk hr2
  have HC2 := Aside0.mk hc2
  have HU2 := Aside0.mk hu2
  have HL2 := Aside0.mk hl2
  have hs1' : a1.size = 12 := hs1
  rw [← hkeys, ← hnonce, ← hR]
  clear hR hkeys hnonce hn hs0 hr2 hc2 hu2 hl2 hs1
  go_enter Try.func65, Try.ntmps65
  go_wp2_with fail
  with_reducible refine (impl_cipherOf_in a0 n _ HN.out HSN.out).mono ?_
  rintro e w1 ⟨gc, rfl, hC, hb1⟩
  rw [← HKE.out] at hC
  have HC := Aside0.mk hC
  have HB1 := Aside0.mk hb1
  clear hC hb1
  go_wp2_with fail
  refine (bytes_Clone.calls A2 c2 l2 l2 w1 (Kd.C_below HR2.out HB1.out) HC2.out (by unfold bytes_Clone.f; rw [if_pos (by have := HL2.out; omega)])).mono ?_
  rintro e w2 ⟨v2, rfl, hr, hb2⟩
  have HRR := Aside0.mk hr
  have HB2 := Aside0.mk hb2
  have HLEN : Aside0 (∀ p, (R.take p ++ l2.drop p).length = l2.length) := ⟨fun p => by rw [List.length_append, List.length_take, List.length_drop, HRL.out]; omega⟩
  by_cases hnil : l2.length = 0
  · obtain ⟨A3, c3, hv3⟩ := Kd.R_slice hr
    subst hv3
    clear hr hb2
    have HNIL := Aside0.mk hnil
    have HRF : Aside0 (R = l2) := ⟨by
      have h1 : R = [] := List.eq_nil_of_length_eq_zero (by rw [HRL.out, hnil])
      rw [h1, List.eq_nil_of_length_eq_zero hnil]⟩
    rw [hnil] at HRR ⊢
    clear hnil
    go_wp2_with fail
    go_loopw [9] (fun vi wr => vi = .int .i64 0 ∧ wr = w2) (fun _ _ => 0)
    case atStart => exact ⟨rfl, rfl⟩
    case round =>
      obtain ⟨rfl, rfl⟩ := hrel
      go_wp2
      go_ret
      refine ⟨_, rfl, ?_, HB1.out.trans (HB2.out.mono HB1.out.size)⟩
      rw [HRF.out]
      exact Kd.R_lower HRR.out HB1.out.size
  · obtain ⟨g, cg, hv3, hgB, hgl, -⟩ := Kd.R_form hr (by omega)
    subst hv3
    have HGB := Aside0.mk hgB
    have HPOS : Aside0 (0 < l2.length) := ⟨by omega⟩
    clear hr hb2 hgB hgl hnil
    have HCB : Aside0 (∀ W, Below w1.heap.size w1 W → cipherAt W w0.heap.size gc keys) := ⟨fun W h => cipherAt_below HC.out HKN.out.1 h⟩
    have HR0 : Aside0 (Kd.R (Kd.int .u8) 5 w2 w1.heap.size (fun _ => True) (.slice (some ⟨g, 0, none⟩) (R.take 0 ++ l2.drop 0).length cg) (R.take 0 ++ l2.drop 0)) := ⟨HRR.out⟩
    clear HRR HC
    go_wp2_with fail
    go_loopw [9] (fun vi wr => ∃ q p : Nat, vi = .int .i64 (p : Int) ∧ p = 16 * q ∧ p ≤ l2.length + 15 ∧ Aside0 (Kd.R (Kd.int .u8) 5 wr w1.heap.size (fun _ => True) (.slice (some ⟨g, 0, none⟩) (R.take p ++ l2.drop p).length cg) (R.take p ++ l2.drop p)) ∧ Aside0 (Below w1.heap.size w1 wr)) (fun i _ => l2.length + 20 - (intOf i).toNat)
    case atStart => exact ⟨0, 0, rfl, rfl, Nat.zero_le _, HR0, HB2⟩
    case round =>
      clear HR0 HB2
      obtain ⟨q, p, rfl, hp, hpl, HR, HB⟩ := hrel
      obtain ⟨wR, rfl⟩ : ∃ W, W = wr := ⟨_, rfl⟩
      have HP := Aside0.mk hp
      by_cases hlt : p < l2.length
      · have HLT := Aside0.mk hlt
        have hd : decide (p < l2.length) = true := decide_eq_true hlt
        have hd2 : decide ((p : Int) < (l2.length : Int)) = true := decide_eq_true (by omega)
        have e1 : Int.tdiv (p : Int) 16 = (q : Int) := by rw [Int.tdiv_eq_ediv_of_nonneg (Int.natCast_nonneg _)]; omega
        have e1' : (p : Int) / 16 = (q : Int) := by omega
        have e2 : wrap64 (q : Int) = (q : Int) := by have := HL2.out; unfold wrap64; omega
        have e3 : wrap64 ((q : Int) + 1) = ((q + 1 : Nat) : Int) := by have := HL2.out; unfold wrap64; omega
        clear hp hpl hlt
        go_wp2_with fail
        refine (bo4_calls _ _).mono ?_
        rintro e w3 ⟨rfl, hb3⟩
        have HB3 := Aside0.mk (HB.out.trans (hb3.mono HB.out.size))
        have HR3 := Aside0.mk (Kd.R_below HR.out hb3)
        rw [e3]
        obtain ⟨sf, hsf⟩ : ∃ s, s = strOfNums (Sha.four ((q : Int) + 1)) := ⟨_, rfl⟩
        rw [← hsf]
        replace hsf : sf = strOfNums (Sha.four ((q + 1 : Nat) : Int)) := hsf
        have hsz4 : sf.size = 4 := by rw [hsf, str_size]; rfl
        have hcat : a1.size + sf.size ≤ 9223372036854775807 := by omega
        have hcat0 := eq_true hcat
        have hcat1 : decide (a1.size + sf.size ≤ 9223372036854775807) = true := decide_eq_true hcat
        have hcat2 : (9223372036854775807 < a1.size + sf.size) = False := eq_false (Nat.not_lt.2 hcat)
        have hszs : (a1 ++ sf).size = 16 := by rw [ByteArray.size_append]; omega
        obtain ⟨blk, hblk⟩ : ∃ l, l = nonce ++ Sha.four ((q + 1 : Nat) : Int) := ⟨_, rfl⟩
        have hbl : bytesL (a1 ++ sf) = blk := by
          rw [hsf, HNE.out, strOfNums_append, ← hblk]
          exact bytesL_str _ (by rw [hblk]; exact Aes.ok_append HNO.out (Md.four_by _))
        have HBE := Aside0.mk hblk
        have HBL : Aside0 (blk.length = 16) := ⟨by rw [hblk, List.length_append, HNL.out]; rfl⟩
        have HBO : Aside0 (Aes.ok blk) := ⟨by rw [hblk]; exact Aes.ok_append HNO.out (Md.four_by _)⟩
        have HNB : Aside0 ((nums IntKind.u8 blk).length = 16) := ⟨by simp [nums, HBL.out]⟩
        have kc := Lib.run_convert_string_bytes (P := Try.prog) w3 9 28 5 (a1 ++ sf) Try.underlying9 Try.underlying28 Try.underlying5
        have hrg := bytes_range w3 5 (a1 ++ sf)
        have hb4 : Below w3.heap.size w3 (Lib.bytesWorld w3 5 (a1 ++ sf)) := bytes_below (Below.refl _ _) (Nat.le_refl _) _ _
        rw [hszs] at kc
        rw [hbl] at hrg
        generalize Lib.bytesWorld w3 5 (a1 ++ sf) = w4 at kc hrg hb4
        generalize grownCap w3 16 0 5 = cb at kc
        have HB4 := Aside0.mk (HB3.out.trans (hb4.mono HB3.out.size))
        have HR4 := Aside0.mk (Kd.R_below HR3.out hb4)
        have HRG := Aside0.mk hrg
        generalize w3.heap.size = gb at kc HRG
        clear hblk hbl hszs hsf hb3 hb4 hrg e1 e1' e2 e3 HB3 HR3 HB HR
        have k16 := k16_at
        go_wp2_with (refine wpList_load_mid (by rfl) 52 (.tmp 30) (by rfl) gb 0 (by rfl) (nums .u8 blk) _ HRG.out Try.underlying52 rfl (key_size blk HNB.out) ?_)
        obtain ⟨E, hE⟩ : ∃ E, E = Aes.encL keys blk := ⟨_, rfl⟩
        have HE : Aside0 (E = Md.ctrB keys nonce q) := ⟨by rw [hE, HBE.out]; rfl⟩
        have HEL : Aside0 (E.length = 16) := ⟨by rw [hE]; exact Aes.encL_length _ _⟩
        have HEO : Aside0 (Aes.ok E) := ⟨by rw [hE]; exact Aes.encL_ok (cipherAt_ok (HCB.out w4 HB4.out)) HBO.out⟩
        have HES : Aside0 ((nums IntKind.u8 E).toArray.size = 16) := ⟨by simp [nums, HEL.out]⟩
        with_reducible refine (enc_u keys _ gc blk _ (HCB.out w4 HB4.out) HKN.out HBL.out HBO.out).mono ?_
        rintro e w5 ⟨rfl, hb5⟩
        rw [← hE]
        have HB5 := Aside0.mk (HB4.out.trans (hb5.mono HB4.out.size))
        have HR5 := Aside0.mk (Kd.R_below HR4.out hb5)
        clear hE hb5 HB4 HR4 HRG kc
        go_wp2_with (refine wpList_store_row (by rfl) 52 (.tmp 10) (.tmp 32) (by rfl) w5.heap.size (nums .u8 E).toArray (by rfl) (by rfl) 52 _ (blk_new w5 _) (by rw [HES.out]; kernel_rfl) (by rw [HES.out]; rfl) (nums_one _ _) ?_)
        show Code.wp _ _ _ _ ((w5.alloc (.cells (nums .u8 (List.replicate 16 0)).toArray 52)).setRow w5.heap.size (nums .u8 E).toArray)
        obtain ⟨gE, hgE⟩ : ∃ g, g = w5.heap.size := ⟨_, rfl⟩
        have hb6 : Below w5.heap.size w5 ((w5.alloc (.cells (nums .u8 (List.replicate 16 0)).toArray 52)).setRow w5.heap.size (nums .u8 E).toArray) := below_row (below_alloc (Below.refl _ _) _) (Nat.le_refl _) _
        have hG6 : ((w5.alloc (.cells (nums .u8 (List.replicate 16 0)).toArray 52)).setRow w5.heap.size (nums .u8 E).toArray).heap[w5.heap.size]? = some (.cells (nums .u8 E).toArray 52 (0, 0)) := setRow_heap _ _ _ _ _ _ (blk_new w5 _)
        have hgg : g < w5.heap.size := by obtain ⟨_, _, hh, _, hlt, _⟩ := Kd.R_form HR5.out (by rw [HLEN.out]; exact HPOS.out); injection hh with h1; injection h1 with h1; injection h1 with h1; rw [h1]; exact hlt
        have HNE2 : Aside0 (g ≠ gE) := ⟨by omega⟩
        obtain ⟨w6, hw6⟩ : ∃ w, w = (w5.alloc (.cells (nums .u8 (List.replicate 16 0)).toArray 52)).setRow w5.heap.size (nums .u8 E).toArray := ⟨_, rfl⟩
        rw [← hw6] at hb6 hG6 ⊢
        have HB6 := Aside0.mk (HB5.out.trans (hb6.mono HB5.out.size))
        have HR6 := Aside0.mk (Kd.R_below HR5.out hb6)
        rw [← hgE] at hG6 ⊢
        have HG6 := Aside0.mk hG6
        clear hw6 hgE hb6 hG6 hgg HB5 HR5
        obtain ⟨p16, hp16⟩ : ∃ x, x = p + 16 := ⟨_, rfl⟩
        obtain ⟨ed, hed⟩ : ∃ x, x = if l2.length < p16 then l2.length else p16 := ⟨_, rfl⟩
        have hmin1 : (if l2.length < p16 then (l2.length : Int) else (p16 : Int)) = (ed : Int) := by rw [hed]; split <;> rfl
        have hmin2 : (if (l2.length : Int) < (p16 : Int) then (l2.length : Int) else (p16 : Int)) = (ed : Int) := by rw [← hmin1]; simp only [Int.ofNat_lt]
        have e16 : wrap64 ((p : Int) + 16) = (p16 : Int) := by have := HL2.out; have := HLT.out; unfold wrap64; omega
        have HED : Aside0 (ed ≤ l2.length ∧ ed ≤ p + 16 ∧ p < ed ∧ (ed = l2.length ∨ ed = p + 16)) := ⟨by rw [hed]; have := HLT.out; split <;> omega⟩
        clear hed hp16
        go_loopw [11] (fun vk wr => ∃ k : Nat, vk = .int .i64 (k : Int) ∧ p ≤ k ∧ k ≤ ed ∧ Aside0 (Kd.R (Kd.int .u8) 5 wr w1.heap.size (fun _ => True) (.slice (some ⟨g, 0, none⟩) (R.take k ++ l2.drop k).length cg) (R.take k ++ l2.drop k)) ∧ Aside0 (Below w1.heap.size w1 wr) ∧ Aside0 (wr.heap[gE]? = some (.cells (nums .u8 E).toArray 52 (0, 0)))) (fun i _ => l2.length + 20 - (intOf i).toNat)
        case atStart => exact ⟨p, rfl, Nat.le_refl _, by have := HED.out; omega, HR6, HB6, HG6⟩
        case round =>
          clear HR6 HB6 HG6
          obtain ⟨k, rfl, hpk, hke, HR, HB, HG⟩ := hrel
          by_cases hlt : k < ed
          · have hdk : decide (k < ed) = true := decide_eq_true hlt
            have hdk2 : decide ((k : Int) < (ed : Int)) = true := decide_eq_true (by omega)
            have HLT2 := Aside0.mk hlt
            obtain ⟨i, hi⟩ : ∃ i, i = k - p := ⟨_, rfl⟩
            have hkl : k < l2.length := by have := HED.out; omega
            have hi16 : i < 16 := by have := HED.out; omega
            have hcell := Kd.R_cell (0 : Int) HR.out (k : Int) (Int.natCast_nonneg k) (by rw [HLEN.out]; omega)
            rw [Int.toNat_natCast] at hcell
            have hval : rdOf (0 : Int) (R.take k ++ l2.drop k) (k : Int) = l2.getD k 0 := by
              unfold rdOf
              rw [Int.toNat_natCast, List.getD_eq_getElem?_getD, td_at R l2 HRL.out k (by rw [HRL.out]; exact hkl)]; rfl
            rw [hval] at hcell
            obtain ⟨x, hx⟩ : ∃ x, x = l2.getD k 0 := ⟨_, rfl⟩
            obtain ⟨y, hy⟩ : ∃ y, y = E.getD i 0 := ⟨_, rfl⟩
            rw [← hx] at hcell
            have cA : wr.cell? ⟨g, k, none⟩ = some (.int .u8 x) := hcell.1
            have zA : wr.frozen? ⟨g, k, none⟩ = false := hcell.2
            have cE : wr.cell? ⟨gE, i, none⟩ = some (.int .u8 y) := by
              rw [blk_cell HG.out, hy]
              exact nums_at? _ _ _ _ (by rw [List.getD_eq_getElem?_getD, List.getElem?_eq_getElem (by rw [HEL.out]; exact hi16)]; rfl)
            have HV : Aside0 (R.getD k 0 = Go.bits .xor .u8 x y) := ⟨by
              rw [HRA.out k hkl, hx, hy, HE.out]
              have h1 : k / 16 = q := by have := HP.out; have := HED.out; omega
              have h2 : k % 16 = i := by have := HP.out; omega
              rw [h1, h2]; rfl⟩
            have ei : wrap64 ((k : Int) - (p : Int)) = (i : Int) := by have := HL2.out; unfold wrap64; omega
            have i0 : (0 : Int) ≤ (i : Int) := Int.natCast_nonneg i
            have i1 : (i : Int) < 16 := by omega
            have k0 : (0 : Int) ≤ (k : Int) := Int.natCast_nonneg k
            have k1 : (k : Int) < (l2.length : Int) := by omega
            have k2 : k < l2.length := hkl
            have i2 : i < 16 := hi16
            have HPK := Aside0.mk hpk
            clear hcell hval hx hy hi hlt hpk hke hkl hi16
            go_wp2
            go_region
            clear ei i0 i1 k0 k1 k2 i2 cA zA cE
            all_goals go_wp2
            have hw : wrap64 ((k : Int) + 1) = ((k + 1 : Nat) : Int) := by have := HLT2.out; have := HED.out; have := HL2.out; unfold wrap64; omega
            rw [hw]
            clear hw
            go_roundw
            case rel =>
              have hp2 := Kd.R_put HR.out (k : Int) (Go.bits .xor .u8 x y)
              rw [Int.toNat_natCast] at hp2
              have hset : (R.take k ++ l2.drop k).set k (Go.bits .xor .u8 x y) = R.take (k + 1) ++ l2.drop (k + 1) := by
                rw [← HV.out]
                exact td_set R l2 HRL.out k (by rw [HRL.out]; have := HLT2.out; have := HED.out; omega)
              have h1 := hp2.1
              have hl1 : (R.take k ++ l2.drop k).length = (R.take (k + 1) ++ l2.drop (k + 1)).length := by rw [HLEN.out, HLEN.out]
              rw [hset, hl1] at h1
              exact ⟨k + 1, rfl, by have := HPK.out; omega, HLT2.out, ⟨Kd.R_drew h1⟩, ⟨below_drew1 (below_set HB.out HGB.out)⟩, ⟨blk_drew (blk_far HG.out (Ne.symm HNE2.out) _)⟩⟩
            case measure => simp [intOf]; have := HLT2.out; have := HED.out; omega
          · have hdk : decide (k < ed) = false := decide_eq_false hlt
            have hdk2 : decide ((k : Int) < (ed : Int)) = false := decide_eq_false (by omega)
            obtain rfl : k = ed := by omega
            clear hmin1 hlt
            go_wp2
            have hw : wrap64 ((p : Int) + 16) = ((p + 16 : Nat) : Int) := by have := HL2.out; have := HLT.out; unfold wrap64; omega
            rw [hw]
            clear hw
            have hrow : R.take k ++ l2.drop k = R.take (p + 16) ++ l2.drop (p + 16) := by
              have h := HED.out
              rcases h.2.2.2 with e | e
              · rw [List.take_of_length_le (by rw [HRL.out]; omega), List.drop_eq_nil_of_le (by omega), List.take_of_length_le (by rw [HRL.out]; omega), List.drop_eq_nil_of_le (by omega)]
              · rw [e]
            rw [hrow] at HR
            exact ⟨⟨q + 1, p + 16, rfl, by have := HP.out; omega, by have := HLT.out; omega, HR, HB⟩, by simp [intOf]; have := HLT.out; omega⟩
      · have hd : decide (p < l2.length) = false := decide_eq_false hlt
        have hd2 : decide ((p : Int) < (l2.length : Int)) = false := decide_eq_false (by omega)
        have eR : R.take p ++ l2.drop p = R := by rw [List.take_of_length_le (by rw [HRL.out]; omega), List.drop_eq_nil_of_le (by omega), List.append_nil]
        rw [eR] at HR
        have HRL2 := HRL.out
        rw [HRL2] at HR
        clear eR hp hpl hlt HRL2
        go_wp2
        go_ret
        exact ⟨_, rfl, Kd.R_lower HR.out HB1.out.size, HB1.out.trans (HB.out.mono HB1.out.size)⟩
theorem impl_ctr.calls (a0 a1 : ByteArray) (A2 : Option Addr) (c2 : Nat) (l2 : List Int) (r : List Int) (w : World) (hr2 : Kd.C (Kd.int .u8) w A2 l2.length l2) (hc2 : l2.length ≤ c2) (h : impl_ctr.f a0 a1 l2 = some r) :
    Calls Try.prog 65 #[.string a0, .string a1, .slice A2 l2.length c2] w fun e w' => ∃ v0_ : Value, e = .returned (v0_) ∧ Kd.R (Kd.int .u8) 5 w' w.heap.size (fun _ => True) v0_ r ∧ Below w.heap.size w w' := by
  unfold impl_ctr.f at h
  split at h
  · rename_i h1
    obtain ⟨hu, hk, hn, hl⟩ := h1
    injection h with h
    subst h
    rcases hk with e | e
    · exact impl_ctr_in a0 a1 4 A2 c2 l2 w hr2 hc2 (u8b_ok hu) hl (.inl rfl) e hn
    · exact impl_ctr_in a0 a1 8 A2 c2 l2 w hr2 hc2 (u8b_ok hu) hl (.inr rfl) e hn
  · cases h
def impl_CtrXor.f (a0 a1 : ByteArray) (l2 : List Int) : Option (List Int × Int) := if u8b l2 = true then (if 65536 < a0.size ∨ 65536 < a1.size ∨ 65536 < l2.length then some ([], 2) else if (a0.size = 16 ∨ a0.size = 32) ∧ a1.size = 12 then some (Md.ctrL (Aes.keysL (bytesL a0)) (bytesL a1) l2, 0) else some ([], 1)) else none
theorem long2_f (a0 a1 : ByteArray) (b : Bool) (h : b = decide (65536 < a0.size ∨ 65536 < a1.size)) : impl_isLong_string.f [a0, a1] = some b := by
  subst h
  unfold impl_isLong_string.f
  congr 1
  simp only [List.any_cons, List.any_nil, Bool.or_false]
  rw [Bool.decide_or]
  congr 1
  · exact decide_eq_decide.2 (by omega)
  · exact decide_eq_decide.2 (by omega)
theorem longB_f (l : List Int) (b : Bool) (h : b = decide (65536 < l.length)) : impl_isLong_byte.f [l] = some b := by
  subst h
  unfold impl_isLong_byte.f
  congr 1
  simp only [List.any_cons, List.any_nil, Bool.or_false]
  exact decide_eq_decide.2 (by omega)
theorem isKey_f (s : ByteArray) (b : Bool) (h : b = decide (s.size = 16 ∨ s.size = 32)) : impl_isKey.f s = some b := by
  subst h
  unfold impl_isKey.f
  by_cases h : s.size = 16
  · rw [if_pos (by omega), decide_eq_true (.inl h)]
  · rw [if_neg (by omega)]
    congr 1
    by_cases h2 : s.size = 32
    · rw [decide_eq_true (.inr h2), h2]; rfl
    · rw [decide_eq_false (by omega), beq_eq_false_iff_ne]; omega
set_option maxHeartbeats 4000000 in
set_option maxRecDepth 100000 in
theorem impl_CtrXor.calls (a0 a1 : ByteArray) (A2 : Option Addr) (c2 : Nat) (l2 : List Int) (r1 : List Int) (r2 : Int) (w0 : World) (hr2 : Kd.C (Kd.int .u8) w0 A2 l2.length l2) (hc2 : l2.length ≤ c2) (h : impl_CtrXor.f a0 a1 l2 = some (r1, r2)) :
    Calls Try.prog 37 #[.string a0, .string a1, .slice A2 l2.length c2] w0 fun e w' => ∃ v0_ : Value, e = .returned (.tuple #[v0_, .int .i64 r2]) ∧ Kd.R (Kd.int .u8) 5 w' w0.heap.size (fun _ => True) v0_ r1 ∧ Below w0.heap.size w0 w' := by
  have HR2 := Aside0.mk hr2
  have HC2 := Aside0.mk hc2
  clear hr2 hc2
  unfold impl_CtrXor.f at h
  by_cases hu : u8b l2 = true
  · rw [if_pos hu] at h
    have HU := Aside0.mk (u8b_ok hu)
    by_cases h1 : 65536 < a0.size ∨ 65536 < a1.size
    · rw [if_pos (by omega)] at h
      obtain ⟨rfl, rfl⟩ : ([] : List Int) = r1 ∧ (2 : Int) = r2 := by simpa using h
      have HF := Aside0.mk (long2_f a0 a1 true (decide_eq_true h1).symm)
      clear h h1 hu
      go_enter Try.func37, Try.ntmps37
      go_wp2_with fail
      refine (impl_isLong_string.calls _ _ [a0, a1] true _ (C_two_string (g := w0.heap.size) (T := 9) (fr := (0, 0)) (blk_new w0 _)) (Nat.le_refl _) HF.out).mono ?_
      rintro e wa ⟨rfl, hd⟩
      have HBa := Aside0.mk (below_then (below_alloc (Below.refl _ _) _) (by simp) hd.below : Below w0.heap.size w0 wa)
      clear hd
      go_wp2
      go_ret2
      exact ⟨_, rfl, Kd.R_nil _ _ _ _ _, HBa.out⟩
    have HF := Aside0.mk (long2_f a0 a1 false (decide_eq_false h1).symm)
    by_cases h2 : 65536 < l2.length
    · rw [if_pos (by omega)] at h
      obtain ⟨rfl, rfl⟩ : ([] : List Int) = r1 ∧ (2 : Int) = r2 := by simpa using h
      have HF2 := Aside0.mk (longB_f l2 true (decide_eq_true h2).symm)
      clear h h1 h2 hu
      go_enter Try.func37, Try.ntmps37
      go_wp2_with fail
      refine (impl_isLong_string.calls _ _ [a0, a1] false _ (C_two_string (g := w0.heap.size) (T := 9) (fr := (0, 0)) (blk_new w0 _)) (Nat.le_refl _) HF.out).mono ?_
      rintro e wa ⟨rfl, hd⟩
      have HBa := Aside0.mk (below_then (below_alloc (Below.refl _ _) _) (by simp) hd.below : Below w0.heap.size w0 wa)
      clear hd
      go_wp2_with fail
      have hC := C_one_slice (c := c2) (xs := l2) (blk_new wa (Obj.cells #[Value.slice A2 l2.length c2] 28)) rfl HC2.out (Kd.C_alloc (Kd.C_below HR2.out HBa.out) _)
      refine (impl_isLong_byte.calls _ 1 [l2] _ _ hC (Nat.le_refl _) HF2.out).mono ?_
      rintro e wb ⟨rfl, hd⟩
      have HBb := Aside0.mk (below_then (below_alloc HBa.out _) (by have := HBa.out.size; simp; omega) hd.below : Below w0.heap.size w0 wb)
      clear hd hC HBa
      go_wp2
      go_ret2
      exact ⟨_, rfl, Kd.R_nil _ _ _ _ _, HBb.out⟩
    have HF2 := Aside0.mk (longB_f l2 false (decide_eq_false h2).symm)
    rw [if_neg (by omega)] at h
    by_cases h3 : a0.size = 16 ∨ a0.size = 32
    · have HK := Aside0.mk (isKey_f a0 true (decide_eq_true h3).symm)
      by_cases h4 : a1.size = 12
      · rw [if_pos ⟨h3, h4⟩] at h
        obtain ⟨rfl, rfl⟩ : Md.ctrL (Aes.keysL (bytesL a0)) (bytesL a1) l2 = r1 ∧ (0 : Int) = r2 := by simpa using h
        obtain ⟨R, hR⟩ : ∃ R, R = Md.ctrL (Aes.keysL (bytesL a0)) (bytesL a1) l2 := ⟨_, rfl⟩
        have HCT : Aside0 (impl_ctr.f a0 a1 l2 = some R) := ⟨by unfold impl_ctr.f; rw [if_pos ⟨hu, h3, h4, by omega⟩, hR]⟩
        have hn : ((a1.size : Int) != 12) = false := by rw [h4]; rfl
        have h4' : (a1.size : Int) = 12 := by omega
        rw [← hR]
        clear hR h h1 h2 hu h3 h4
        go_enter Try.func37, Try.ntmps37
        go_wp2_with fail
        refine (impl_isLong_string.calls _ _ [a0, a1] false _ (C_two_string (g := w0.heap.size) (T := 9) (fr := (0, 0)) (blk_new w0 _)) (Nat.le_refl _) HF.out).mono ?_
        rintro e wa ⟨rfl, hd⟩
        have HBa := Aside0.mk (below_then (below_alloc (Below.refl _ _) _) (by simp) hd.below : Below w0.heap.size w0 wa)
        clear hd
        go_wp2_with fail
        have hC := C_one_slice (c := c2) (xs := l2) (blk_new wa (Obj.cells #[Value.slice A2 l2.length c2] 28)) rfl HC2.out (Kd.C_alloc (Kd.C_below HR2.out HBa.out) _)
        refine (impl_isLong_byte.calls _ 1 [l2] _ _ hC (Nat.le_refl _) HF2.out).mono ?_
        rintro e wb ⟨rfl, hd⟩
        have HBb := Aside0.mk (below_then (below_alloc HBa.out _) (by have := HBa.out.size; simp; omega) hd.below : Below w0.heap.size w0 wb)
        clear hd hC HBa
        go_wp2_with fail
        refine (impl_isKey.calls a0 true _ HK.out).mono ?_
        rintro e wc ⟨rfl, ⟨nd, rfl⟩⟩
        have HBc : Aside0 (Below w0.heap.size w0 (wb.drewN nd)) := ⟨pw_below_drewN HBb.out nd⟩
        go_wp2_with fail
        refine (impl_ctr.calls a0 a1 A2 c2 l2 R _ (Kd.C_below HR2.out HBc.out) HC2.out HCT.out).mono ?_
        rintro e wd ⟨v, rfl, hv, hb⟩
        have HBd := Aside0.mk (HBc.out.trans (hb.mono HBc.out.size))
        have HV := Aside0.mk (Kd.R_lower hv HBc.out.size)
        clear hv hb
        go_wp2
        go_ret2
        exact ⟨_, rfl, HV.out, HBd.out⟩
      · rw [if_neg (fun h => h4 h.2)] at h
        obtain ⟨rfl, rfl⟩ : ([] : List Int) = r1 ∧ (1 : Int) = r2 := by simpa using h
        have hn : ((a1.size : Int) != 12) = true := by rw [bne_iff_ne]; omega
        clear h h1 h2 hu h3 h4
        go_enter Try.func37, Try.ntmps37
        go_wp2_with fail
        refine (impl_isLong_string.calls _ _ [a0, a1] false _ (C_two_string (g := w0.heap.size) (T := 9) (fr := (0, 0)) (blk_new w0 _)) (Nat.le_refl _) HF.out).mono ?_
        rintro e wa ⟨rfl, hd⟩
        have HBa := Aside0.mk (below_then (below_alloc (Below.refl _ _) _) (by simp) hd.below : Below w0.heap.size w0 wa)
        clear hd
        go_wp2_with fail
        have hC := C_one_slice (c := c2) (xs := l2) (blk_new wa (Obj.cells #[Value.slice A2 l2.length c2] 28)) rfl HC2.out (Kd.C_alloc (Kd.C_below HR2.out HBa.out) _)
        refine (impl_isLong_byte.calls _ 1 [l2] _ _ hC (Nat.le_refl _) HF2.out).mono ?_
        rintro e wb ⟨rfl, hd⟩
        have HBb := Aside0.mk (below_then (below_alloc HBa.out _) (by have := HBa.out.size; simp; omega) hd.below : Below w0.heap.size w0 wb)
        clear hd hC HBa
        go_wp2_with fail
        refine (impl_isKey.calls a0 true _ HK.out).mono ?_
        rintro e wc ⟨rfl, ⟨nd, rfl⟩⟩
        have HBc : Aside0 (Below w0.heap.size w0 (wb.drewN nd)) := ⟨pw_below_drewN HBb.out nd⟩
        go_wp2
        go_ret2
        exact ⟨_, rfl, Kd.R_nil _ _ _ _ _, HBc.out⟩
    · have HK := Aside0.mk (isKey_f a0 false (decide_eq_false h3).symm)
      rw [if_neg (fun h => h3 h.1)] at h
      obtain ⟨rfl, rfl⟩ : ([] : List Int) = r1 ∧ (1 : Int) = r2 := by simpa using h
      clear h h1 h2 hu h3
      go_enter Try.func37, Try.ntmps37
      go_wp2_with fail
      refine (impl_isLong_string.calls _ _ [a0, a1] false _ (C_two_string (g := w0.heap.size) (T := 9) (fr := (0, 0)) (blk_new w0 _)) (Nat.le_refl _) HF.out).mono ?_
      rintro e wa ⟨rfl, hd⟩
      have HBa := Aside0.mk (below_then (below_alloc (Below.refl _ _) _) (by simp) hd.below : Below w0.heap.size w0 wa)
      clear hd
      go_wp2_with fail
      have hC := C_one_slice (c := c2) (xs := l2) (blk_new wa (Obj.cells #[Value.slice A2 l2.length c2] 28)) rfl HC2.out (Kd.C_alloc (Kd.C_below HR2.out HBa.out) _)
      refine (impl_isLong_byte.calls _ 1 [l2] _ _ hC (Nat.le_refl _) HF2.out).mono ?_
      rintro e wb ⟨rfl, hd⟩
      have HBb := Aside0.mk (below_then (below_alloc HBa.out _) (by have := HBa.out.size; simp; omega) hd.below : Below w0.heap.size w0 wb)
      clear hd hC HBa
      go_wp2_with fail
      refine (impl_isKey.calls a0 false _ HK.out).mono ?_
      rintro e wc ⟨rfl, ⟨nd, rfl⟩⟩
      have HBc : Aside0 (Below w0.heap.size w0 (wb.drewN nd)) := ⟨pw_below_drewN HBb.out nd⟩
      go_wp2
      go_ret2
      exact ⟨_, rfl, Kd.R_nil _ _ _ _ _, HBc.out⟩
  · rw [if_neg hu] at h
    cases h
def spec_l01Key.f (a0 : ByteArray) : Option (Bool) := if (a0.size : Int) = 16 then (some true) else (some ((a0.size : Int) == 32))
set_option maxHeartbeats 8000000 in
set_option maxRecDepth 100000 in
theorem spec_l01Key.calls (a0 : ByteArray) (r : Bool) (w : World) (h : spec_l01Key.f a0 = some r) :
    Calls Try.prog 39 #[.string a0] w fun e w' => e = .returned (.bool r) ∧ Drawn0 w w' := by
  have H : (if (a0.size : Int) = 16 then (some true) else (some ((a0.size : Int) == 32))) = some r := h
  clear h
  by_cases c2 : (a0.size : Int) = 16
  · rw [if_pos c2] at H
    have c2b0 : ((a0.size : Int) == 16) = true := beq_iff_eq.mpr c2
    have c2b1 : ((a0.size : Int) != 16) = false := bne_eq_false_iff_eq.mpr c2
    clear c2
    obtain rfl := Option.some.inj H
    go_enter Try.func39, Try.ntmps39
    go_wp2
    go_ret
    exact ⟨by first | rfl | (simp; done) | (simp [*]; done), by repeat (first | exact Drawn0.refl _ | apply Drawn0.step)⟩
  · rw [if_neg c2] at H
    have c2b0 : ((a0.size : Int) == 16) = false := beq_eq_false_iff_ne.mpr c2
    have c2b1 : ((a0.size : Int) != 16) = true := bne_iff_ne.mpr c2
    obtain rfl := Option.some.inj H
    go_enter Try.func39, Try.ntmps39
    go_wp2
    go_ret
    exact ⟨by first | rfl | (simp; done) | (simp [*]; done), by repeat (first | exact Drawn0.refl _ | apply Drawn0.step)⟩
def spec_l01Mul.l0 : Nat → Int → Int → Int → Int → Option (Int)
  | 0, _, _, _, _ => none
  | k + 1, x0, x1, x5, x6 => if x6 < 8 then (if 0 ≤ (IntKind.u64.wrap (x6)) then (if (Go.bits .and .i64 (shr .i64 x1 (IntKind.u64.wrap (x6))) 1) = 1 then (if (wrap64 (x0 * 2)) > 255 then (spec_l01Mul.l0 k (Go.bits .xor .i64 (wrap64 (x0 * 2)) 283) x1 (Go.bits .xor .i64 x5 x0) (wrap64 (x6 + 1))) else (spec_l01Mul.l0 k (wrap64 (x0 * 2)) x1 (Go.bits .xor .i64 x5 x0) (wrap64 (x6 + 1)))) else (if (wrap64 (x0 * 2)) > 255 then (spec_l01Mul.l0 k (Go.bits .xor .i64 (wrap64 (x0 * 2)) 283) x1 x5 (wrap64 (x6 + 1))) else (spec_l01Mul.l0 k (wrap64 (x0 * 2)) x1 x5 (wrap64 (x6 + 1))))) else (none)) else (some x5)
def spec_l01Mul.f (k : Nat) (a0 : Int) (a1 : Int) : Option (Int) := spec_l01Mul.l0 k a0 a1 0 0
set_option maxHeartbeats 8000000 in
set_option maxRecDepth 100000 in
theorem spec_l01Mul.calls (k : Nat) (a0 : Int) (a1 : Int) (r : Int) (w : World) (h : spec_l01Mul.f k a0 a1 = some r) :
    Calls Try.prog 67 #[.int .i64 a0, .int .i64 a1] w fun e w' => e = .returned (.int .i64 r) ∧ Drawn0 w w' := by
  have H : (spec_l01Mul.l0 k a0 a1 0 0) = some r := h
  clear h
  have H' := Aside0.mk H
  clear H
  go_enter Try.func67, Try.ntmps67
  go_wp2
  go_loopg [0, 5, 6] k (fun kq v0 v5 v6 w' => ∃ (x0_1 : Int) (x5_1 : Int) (x6_1 : Int), v0 = .int .i64 x0_1 ∧ v5 = .int .i64 x5_1 ∧ v6 = .int .i64 x6_1 ∧ Aside0 (spec_l01Mul.l0 kq x0_1 a1 x5_1 x6_1 = some r) ∧ Aside0 (kq ≤ k) ∧ Drawn0 w w')
  case atStart => exact ⟨(a0), (0), (0), (by first | rfl | (simp; done) | (simp [*]; done)), (by first | rfl | (simp; done) | (simp [*]; done)), (by first | rfl | (simp; done) | (simp [*]; done)), H', ⟨Nat.le_refl _⟩, by repeat (first | exact Drawn0.refl _ | apply Drawn0.step)⟩
  case round =>
    clear H'
    try clear p2
    obtain ⟨x0_1, x5_1, x6_1, rfl, rfl, rfl, HA, HK1, ⟨m1, rfl⟩⟩ := hrel
    cases gk with
    | zero => exact absurd HA.out (by simp [spec_l01Mul.l0])
    | succ k1 =>
      have H := HA.out
      clear HA
      simp only [spec_l01Mul.l0] at H
      by_cases c3 : x6_1 < 8
      · rw [if_pos c3] at H
        have c3b0 : decide (x6_1 < 8) = true := decide_eq_true c3
        clear c3
        obtain ⟨ji4, hji4⟩ : ∃ j_ : Int, (IntKind.u64.wrap (x6_1)) = j_ := ⟨_, rfl⟩
        replace H : (if 0 ≤ (ji4) then (if (Go.bits .and .i64 (shr .i64 a1 (ji4)) 1) = 1 then (if (wrap64 (x0_1 * 2)) > 255 then (spec_l01Mul.l0 k1 (Go.bits .xor .i64 (wrap64 (x0_1 * 2)) 283) a1 (Go.bits .xor .i64 x5_1 x0_1) (wrap64 (x6_1 + 1))) else (spec_l01Mul.l0 k1 (wrap64 (x0_1 * 2)) a1 (Go.bits .xor .i64 x5_1 x0_1) (wrap64 (x6_1 + 1)))) else (if (wrap64 (x0_1 * 2)) > 255 then (spec_l01Mul.l0 k1 (Go.bits .xor .i64 (wrap64 (x0_1 * 2)) 283) a1 x5_1 (wrap64 (x6_1 + 1))) else (spec_l01Mul.l0 k1 (wrap64 (x0_1 * 2)) a1 x5_1 (wrap64 (x6_1 + 1))))) else (none)) = some r := by first | (rw [hji4] at H; exact H) | (simp only [hji4] at H ⊢; exact H)
        by_cases c5 : 0 ≤ (ji4)
        · rw [if_pos c5] at H
          have c5b0 := eq_true c5
          have c5b1 : decide (0 ≤ (ji4)) = true := decide_eq_true c5
          clear c5
          obtain ⟨ji6, hji6⟩ : ∃ j_ : Int, (shr .i64 a1 (ji4)) = j_ := ⟨_, rfl⟩
          replace H : (if (Go.bits .and .i64 (ji6) 1) = 1 then (if (wrap64 (x0_1 * 2)) > 255 then (spec_l01Mul.l0 k1 (Go.bits .xor .i64 (wrap64 (x0_1 * 2)) 283) a1 (Go.bits .xor .i64 x5_1 x0_1) (wrap64 (x6_1 + 1))) else (spec_l01Mul.l0 k1 (wrap64 (x0_1 * 2)) a1 (Go.bits .xor .i64 x5_1 x0_1) (wrap64 (x6_1 + 1)))) else (if (wrap64 (x0_1 * 2)) > 255 then (spec_l01Mul.l0 k1 (Go.bits .xor .i64 (wrap64 (x0_1 * 2)) 283) a1 x5_1 (wrap64 (x6_1 + 1))) else (spec_l01Mul.l0 k1 (wrap64 (x0_1 * 2)) a1 x5_1 (wrap64 (x6_1 + 1))))) = some r := by first | (rw [hji6] at H; exact H) | (simp only [hji6] at H ⊢; exact H)
          have hji6_ : (a1 / 2 ^ min (ji4).toNat 64) = ji6 := hji6
          have hji6z : (ji4) ≤ 64 → (a1 / 2 ^ (ji4).toNat) = ji6 := shr_small hji6
          by_cases c7 : (Go.bits .and .i64 (ji6) 1) = 1
          · rw [if_pos c7] at H
            have c7b0 : ((Go.bits .and .i64 (ji6) 1) == 1) = true := beq_iff_eq.mpr c7
            have c7b1 : ((Go.bits .and .i64 (ji6) 1) != 1) = false := bne_eq_false_iff_eq.mpr c7
            clear c7
            by_cases c8 : (wrap64 (x0_1 * 2)) > 255
            · rw [if_pos c8] at H
              have c8b0 : decide (255 < (wrap64 (x0_1 * 2))) = true := decide_eq_true c8
              clear c8
              have H' := Aside0.mk H
              clear H
              go_wp2
              go_roundg k1
              case measure => have := HK1.out; omega
              case rel => exact ⟨(Go.bits .xor .i64 (wrap64 (x0_1 * 2)) 283), (Go.bits .xor .i64 x5_1 x0_1), (wrap64 (x6_1 + 1)), (by first | rfl | (simp; done) | (simp [*]; done)), (by first | rfl | (simp; done) | (simp [*]; done)), (by first | rfl | (simp; done) | (simp [*]; done)), H', ⟨by have := HK1.out; omega⟩, by repeat (first | exact Drawn0.refl _ | apply Drawn0.step)⟩
            · rw [if_neg c8] at H
              have c8b0 : decide (255 < (wrap64 (x0_1 * 2))) = false := decide_eq_false c8
              clear c8
              have H' := Aside0.mk H
              clear H
              go_wp2
              go_roundg k1
              case measure => have := HK1.out; omega
              case rel => exact ⟨(wrap64 (x0_1 * 2)), (Go.bits .xor .i64 x5_1 x0_1), (wrap64 (x6_1 + 1)), (by first | rfl | (simp; done) | (simp [*]; done)), (by first | rfl | (simp; done) | (simp [*]; done)), (by first | rfl | (simp; done) | (simp [*]; done)), H', ⟨by have := HK1.out; omega⟩, by repeat (first | exact Drawn0.refl _ | apply Drawn0.step)⟩
          · rw [if_neg c7] at H
            have c7b0 : ((Go.bits .and .i64 (ji6) 1) == 1) = false := beq_eq_false_iff_ne.mpr c7
            have c7b1 : ((Go.bits .and .i64 (ji6) 1) != 1) = true := bne_iff_ne.mpr c7
            by_cases c9 : (wrap64 (x0_1 * 2)) > 255
            · rw [if_pos c9] at H
              have c9b0 : decide (255 < (wrap64 (x0_1 * 2))) = true := decide_eq_true c9
              clear c9
              have H' := Aside0.mk H
              clear H
              go_wp2
              go_roundg k1
              case measure => have := HK1.out; omega
              case rel => exact ⟨(Go.bits .xor .i64 (wrap64 (x0_1 * 2)) 283), (x5_1), (wrap64 (x6_1 + 1)), (by first | rfl | (simp; done) | (simp [*]; done)), (by first | rfl | (simp; done) | (simp [*]; done)), (by first | rfl | (simp; done) | (simp [*]; done)), H', ⟨by have := HK1.out; omega⟩, by repeat (first | exact Drawn0.refl _ | apply Drawn0.step)⟩
            · rw [if_neg c9] at H
              have c9b0 : decide (255 < (wrap64 (x0_1 * 2))) = false := decide_eq_false c9
              clear c9
              have H' := Aside0.mk H
              clear H
              go_wp2
              go_roundg k1
              case measure => have := HK1.out; omega
              case rel => exact ⟨(wrap64 (x0_1 * 2)), (x5_1), (wrap64 (x6_1 + 1)), (by first | rfl | (simp; done) | (simp [*]; done)), (by first | rfl | (simp; done) | (simp [*]; done)), (by first | rfl | (simp; done) | (simp [*]; done)), H', ⟨by have := HK1.out; omega⟩, by repeat (first | exact Drawn0.refl _ | apply Drawn0.step)⟩
        · rw [if_neg c5] at H
          exact absurd H (by simp)
      · rw [if_neg c3] at H
        have c3b0 : decide (x6_1 < 8) = false := decide_eq_false c3
        clear c3
        obtain rfl := Option.some.inj H
        go_wp2
        go_ret
        exact ⟨by first | rfl | (simp; done) | (simp [*]; done), by repeat (first | exact Drawn0.refl _ | apply Drawn0.step)⟩
end Go.Proofs.Ytfbggdlidelliaa.P

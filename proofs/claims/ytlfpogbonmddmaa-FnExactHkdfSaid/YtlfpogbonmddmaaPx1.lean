-- Laid by a program of this session (wip/prn) over the translation: functions and their contracts. Lean checks it.
import Derived.Test.YtlfpogbonmddmaaPx0
namespace Go.Proofs.Ytlfpogbonmddmaa.P
open Go.RowKit Go.Proofs.YtlfpogbonmddmaaW.PrintWords Go.Proofs.YtlfpogbonmddmaaW.PrintLast Go.Proofs.YtlfpogbonmddmaaW.PrintMore
attribute [local go_sem] max2_int min2_int max_two min_two max_three min_three max_four min_four   -- for this text's walks alone
set_option linter.unusedVariables false
set_option linter.unusedSimpArgs false

/-! ### laws_toByteS: function 15 -/
def laws_toByteS.l0 : Nat → List Int → List Int → Int → Option (List Int)
  | 0, _, _, _ => none
  | k + 1, x0, x3, x4 => if x4 < (x0.length : Int) then (if 0 ≤ x4 then (if x4 < (x3.length : Int) then (laws_toByteS.l0 k x0 (x3.set (x4 : Int).toNat (rd x0 x4)) (wrap64 (x4 + 1))) else (none)) else (none)) else (some x3)
def laws_toByteS.f (k : Nat) (l0 : List Int) : Option (List Int) := if 0 ≤ (l0.length : Int) then (if ((l0.length : Int) : Int).toNat ≤ 281474976710656 then (laws_toByteS.l0 k l0 (List.replicate ((l0.length : Int) : Int).toNat 0) 0) else (none)) else (none)
theorem laws_toByteS.mono_l : ∀ k, (∀ y0 y1 y2, LeO (laws_toByteS.l0 k y0 y1 y2) (laws_toByteS.l0 (k + 1) y0 y1 y2))
  | 0 => fun _ _ _ r h => by simp [laws_toByteS.l0] at h
  | k + 1 => by
    have ih0 := laws_toByteS.mono_l k
    · intro y0 y1 y2
      unfold laws_toByteS.l0
      repeat' first
      | (with_reducible exact ih0 _ _ _)
      | (with_reducible exact LeO.refl _)
      | (with_reducible exact LeO.none _)
      | (with_reducible refine LeO.ite ?_ ?_)
      | (with_reducible refine LeO.bind ?_ (fun _ => ?_))
      | exact ih0 _ _ _
      | exact LeO.none _
      | refine LeO.ite ?_ ?_
      | refine LeO.bind ?_ (fun _ => ?_)
theorem laws_toByteS.mono : ∀ a0 k, LeO (laws_toByteS.f k a0) (laws_toByteS.f (k + 1) a0) := by
  intro a0 k
  have ih0 := laws_toByteS.mono_l k
  unfold laws_toByteS.f
  repeat' first
      | (with_reducible exact ih0 _ _ _)
      | (with_reducible exact LeO.refl _)
      | (with_reducible exact LeO.none _)
      | (with_reducible refine LeO.ite ?_ ?_)
      | (with_reducible refine LeO.bind ?_ (fun _ => ?_))
      | exact ih0 _ _ _
      | exact LeO.none _
      | refine LeO.ite ?_ ?_
      | refine LeO.bind ?_ (fun _ => ?_)
set_option maxHeartbeats 8000000 in
set_option maxRecDepth 100000 in
theorem laws_toByteS.calls (k : Nat) (A0 : Option Addr) (c0 : Nat) (l0 : List Int) (r : List Int) (w : World) (hr0 : Kd.C (Kd.int .u8) w A0 l0.length l0) (hc0 : l0.length ≤ c0) (h : laws_toByteS.f k l0 = some r) :
    Calls Try.prog 15 #[.slice A0 l0.length c0] w fun e w' => ∃ v0_ : Value, e = .returned (v0_) ∧ Kd.R (Kd.int .u8) 5 w' w.heap.size (fun _ => True) v0_ r ∧ Below w.heap.size w w' := by
  have HR0 := Aside0.mk hr0
  have HC0 := Aside0.mk hc0
  clear hr0 hc0
  have HB := Aside0.mk (Below.refl w.heap.size w)
  have H : (if 0 ≤ (l0.length : Int) then (if ((l0.length : Int) : Int).toNat ≤ 281474976710656 then (laws_toByteS.l0 k l0 (List.replicate ((l0.length : Int) : Int).toNat 0) 0) else (none)) else (none)) = some r := h
  clear h
  by_cases c2 : 0 ≤ (l0.length : Int)
  · rw [if_pos c2] at H
    have c2b0 := eq_true c2
    have c2b1 : decide (0 ≤ (l0.length : Int)) = true := decide_eq_true c2
    clear c2
    by_cases c3 : ((l0.length : Int) : Int).toNat ≤ 281474976710656
    · rw [if_pos c3] at H
      have c3b0 := eq_true c3
      have c3b1 : decide (((l0.length : Int) : Int).toNat ≤ 281474976710656) = true := decide_eq_true c3
      clear c3
      obtain ⟨y101, hy101⟩ : ∃ y_ : List Int, y_ = (List.replicate ((l0.length : Int) : Int).toNat 0) := ⟨_, rfl⟩
      replace H : (laws_toByteS.l0 k l0 y101 0) = some r := by first | (rw [hy101]; with_reducible exact H) | (have H2_ := (Option.bind_some _ _).symm.trans H; rw [hy101]; with_reducible exact H2_) | (have H2_ := (Option.bind_some _ _).symm.trans H; with_reducible exact H2_) | with_reducible exact H | (rw [hy101]; exact H) | exact H
      have Ny101 := Aside0.mk hy101
      clear hy101
      have H' := Aside0.mk H
      clear H
      go_enter Try.func15, Try.ntmps15
      go_wp2_with (first | ((with_reducible refine gate_dst (N := 7) rfl ?_); refine Kd.R_make (Kd.int .u8) _ 5 rfl (N := 7) rfl 22 _ _ rfl (l0.length : Int) rfl rfl Try.underlying22 (.int .u8 0) 1 info5 rfl (by decide) (by omega) 0 (ok := fun _ => True) (okp := fun _ => True) rfl (fun _ hk => hk) trivial (of_decide_eq_true (by first | (with_reducible assumption) | assumption)) (Nat.le_trans (Nat.mul_le_mul_right _ (of_decide_eq_true (by first | (with_reducible assumption) | assumption) : (l0.length : Int).toNat ≤ 281474976710656)) (by omega)) (Below.refl _ _) (Nat.le_refl _) ?_; intro v102 w4 ho5 hb hg_ hnew_; clear hg_ hnew_; (first | rw [← Ny101.out] at ho5 | (simp only [Int.reduceToNat] at ho5; rw [← Ny101.out] at ho5)); have n0_ := Aside0.mk (Kd.R_lower ho5 (below_size (by repeat (first | (with_reducible first | exact HB.out | apply below_alloc | apply pw_below_drewN | apply below_drew1) | exact HB.out)))); have n1_ := Aside0.mk (below_step (by repeat (first | (with_reducible first | exact HB.out | apply below_alloc | apply pw_below_drewN | apply below_drew1) | exact HB.out)) hb); clear HB; have HO103 := n0_; have HB := n1_; clear n0_ n1_; clear hb ho5))
      go_loopg [4] k (fun kq v4 w' => ∃ (x3_1 : List Int) (x4_1 : Int), v4 = .int .i64 x4_1 ∧ Aside0 (laws_toByteS.l0 kq l0 x3_1 x4_1 = some r) ∧ Aside0 (kq ≤ k) ∧ Aside0 (Kd.R (Kd.int .u8) 5 w' w.heap.size (fun _ => True) v102 x3_1) ∧ Aside0 (Below w.heap.size w w'))
      case atStart => exact ⟨(y101), (0), (by first | rfl | (simp; done) | (simp [*]; done)), H', ⟨Nat.le_refl _⟩, ⟨by (with_reducible repeat (first | apply Kd.R_alloc | apply Kd.R_drewN | apply Kd.R_drew)); exact HO103.out⟩, ⟨by repeat (first | (with_reducible first | exact HB.out | apply below_alloc | apply pw_below_drewN | apply below_drew1) | exact HB.out)⟩⟩
      case round =>
        clear H'
        try clear c1
        try clear c2
        try clear c2b0
        try clear c2b1
        try clear p2
        try clear c3
        try clear c3b0
        try clear c3b1
        obtain ⟨x3_1, x4_1, rfl, HA, HK1, HO_3, HB⟩ := hrel
        cases gk with
        | zero => exact absurd HA.out (by simp [laws_toByteS.l0])
        | succ k1 =>
          have H := HA.out
          clear HA
          simp only [laws_toByteS.l0] at H
          by_cases c6 : x4_1 < (l0.length : Int)
          · rw [if_pos c6] at H
            have c6b0 : decide (x4_1 < (l0.length : Int)) = true := decide_eq_true c6
            clear c6
            by_cases c7 : 0 ≤ x4_1
            · rw [if_pos c7] at H
              have c7b0 : decide (0 ≤ x4_1) = true := decide_eq_true c7
              clear c7
              by_cases c8 : x4_1 < (x3_1.length : Int)
              · rw [if_pos c8] at H
                have c8b0 : decide (x4_1 < (x3_1.length : Int)) = true := decide_eq_true c8
                clear c8
                obtain ⟨y105, hy105⟩ : ∃ y_ : List Int, y_ = (x3_1.set (x4_1 : Int).toNat (rd l0 x4_1)) := ⟨_, rfl⟩
                replace H : (laws_toByteS.l0 k1 l0 y105 (wrap64 (x4_1 + 1))) = some r := by first | (rw [hy105]; with_reducible exact H) | (have H2_ := (Option.bind_some _ _).symm.trans H; rw [hy105]; with_reducible exact H2_) | (have H2_ := (Option.bind_some _ _).symm.trans H; with_reducible exact H2_) | with_reducible exact H | (rw [hy105]; exact H) | exact H
                have Ny105 := Aside0.mk hy105
                clear hy105
                have H' := Aside0.mk H
                clear H
                have p104 : 0 ≤ (x4_1 : Int) := of_decide_eq_true (by first | (with_reducible assumption) | assumption)
                have q104 : x4_1 < (l0.length : Int) := of_decide_eq_true (by first | (with_reducible assumption) | assumption)
                obtain ⟨ad104, e104, hx104_0⟩ := Kd.at_int HR0.out x4_1 p104 q104
                cases e104
                replace hx104_0 := (HB.out.cell (World.block_lt_of_cell? w _ hx104_0)).trans hx104_0
                replace p104 := eq_true p104
                replace q104 := eq_true q104
                have p9 : 0 ≤ (x4_1 : Int) := of_decide_eq_true (by first | (with_reducible assumption) | assumption)
                have q9 : (x4_1 : Int) < ((x3_1.length : Int) : Int) := of_decide_eq_true (by first | (with_reducible assumption) | assumption)
                obtain ⟨go9, co9, eo9, gb9, gl9, cl9, HG9⟩ := Kd.R_form HO_3.out (by omega)
                (first | cases eo9 | (injection eo9 with ea_ en_ ec_; (first | subst ea_ | (injection ea_ with ea_; subst ea_)); subst ec_; clear en_))
                have GB9 := Aside0.mk gb9
                have GG9 := Aside0.mk HG9
                clear gb9 gl9 HG9
                obtain ⟨hx9_0, hf9_0⟩ := Kd.R_celln 0 HO_3.out (x4_1 : Int) p9 q9
                replace p9 := eq_true p9
                replace q9 := eq_true q9
                have HP10 := Kd.R_putg HO_3.out (x4_1 : Int) (rd l0 x4_1)
                go_wp2_with (first | ((with_reducible refine gate_store (t := 5) (p := 20) rfl ?_); refine store_event (t := 5) (p := 20) (v := ?vo_w11) (w1 := (wr.setCell ⟨go9, (x4_1 : Int).toNat, none⟩ (.int .u8 (rd l0 x4_1)))) ?hg ?ho ?hn ?hr ?_; (case ho => rfl); (case hg => rfl); (case hn => rfl); (case hr => first | (go_simp; done) | (go_simp; rfl)); intro w11 hw; have hg : wr.grownBy w11 (some go9) := (by rw [hw]; exact HP10.2); have hp_ : Kd.R (Kd.int .u8) 5 w11 w.heap.size (fun _ => True) (.slice (some ⟨go9, 0, none⟩) x3_1.length co9) y105 := (by rw [hw, Ny105.out]; exact HP10.1); clear HP10; have n0_ := Aside0.mk (hp_); have n1_ := Aside0.mk ((by rw [hw]; exact below_set (HB.out) GB9.out : Below w.heap.size w w11)); clear HO_3; clear HB; have HO_3 := n0_; have HB := n1_; clear n0_ n1_; clear hg hw hp_))
                go_roundg k1
                case measure => have := HK1.out; omega
                case rel => exact ⟨(y105), (wrap64 (x4_1 + 1)), (by first | rfl | (simp; done) | (simp [*]; done)), H', ⟨by have := HK1.out; omega⟩, ⟨by (with_reducible repeat (first | apply Kd.R_alloc | apply Kd.R_drewN | apply Kd.R_drew)); exact HO_3.out⟩, ⟨by repeat (first | (with_reducible first | exact HB.out | apply below_alloc | apply pw_below_drewN | apply below_drew1) | exact HB.out)⟩⟩
              · rw [if_neg c8] at H
                exact absurd H (by simp)
            · rw [if_neg c7] at H
              exact absurd H (by simp)
          · rw [if_neg c6] at H
            have c6b0 : decide (x4_1 < (l0.length : Int)) = false := decide_eq_false c6
            clear c6
            obtain rfl := Option.some.inj H
            go_wp2
            go_ret
            exact ⟨_, by first | rfl | (simp [errW_none, errW_some] <;> rfl) | (simp [*, errW_none, errW_some] <;> rfl), by (with_reducible repeat (first | apply Kd.R_alloc | apply Kd.R_drewN | apply Kd.R_drew)); exact HO_3.out, by repeat (first | (with_reducible first | exact HB.out | apply below_alloc | apply pw_below_drewN | apply below_drew1) | exact HB.out)⟩
    · rw [if_neg c3] at H
      exact absurd H (by simp)
  · rw [if_neg c2] at H
    exact absurd H (by simp)

/-! ### laws_eqByteS: function 17 -/
def laws_eqByteS.l0 : Nat → List Int → List Int → Int → Option (Bool)
  | 0, _, _, _ => none
  | k + 1, x0, x1, x5 => if x5 < (x0.length : Int) then (if 0 ≤ x5 then (if x5 < (x1.length : Int) then (if (rd x0 x5) = (rd x1 x5) then (laws_eqByteS.l0 k x0 x1 (wrap64 (x5 + 1))) else (some false)) else (none)) else (none)) else (some true)
def laws_eqByteS.f (k : Nat) (l0 : List Int) (l1 : List Int) : Option (Bool) := if (l0.length : Int) = (l1.length : Int) then (laws_eqByteS.l0 k l0 l1 0) else (some false)
theorem laws_eqByteS.mono_l : ∀ k, (∀ y0 y1 y2, LeO (laws_eqByteS.l0 k y0 y1 y2) (laws_eqByteS.l0 (k + 1) y0 y1 y2))
  | 0 => fun _ _ _ r h => by simp [laws_eqByteS.l0] at h
  | k + 1 => by
    have ih0 := laws_eqByteS.mono_l k
    · intro y0 y1 y2
      unfold laws_eqByteS.l0
      repeat' first
      | (with_reducible exact ih0 _ _ _)
      | (with_reducible exact LeO.refl _)
      | (with_reducible exact LeO.none _)
      | (with_reducible refine LeO.ite ?_ ?_)
      | (with_reducible refine LeO.bind ?_ (fun _ => ?_))
      | exact ih0 _ _ _
      | exact LeO.none _
      | refine LeO.ite ?_ ?_
      | refine LeO.bind ?_ (fun _ => ?_)
theorem laws_eqByteS.mono : ∀ a0 a1 k, LeO (laws_eqByteS.f k a0 a1) (laws_eqByteS.f (k + 1) a0 a1) := by
  intro a0 a1 k
  have ih0 := laws_eqByteS.mono_l k
  unfold laws_eqByteS.f
  repeat' first
      | (with_reducible exact ih0 _ _ _)
      | (with_reducible exact LeO.refl _)
      | (with_reducible exact LeO.none _)
      | (with_reducible refine LeO.ite ?_ ?_)
      | (with_reducible refine LeO.bind ?_ (fun _ => ?_))
      | exact ih0 _ _ _
      | exact LeO.none _
      | refine LeO.ite ?_ ?_
      | refine LeO.bind ?_ (fun _ => ?_)
set_option maxHeartbeats 8000000 in
set_option maxRecDepth 100000 in
theorem laws_eqByteS.calls (k : Nat) (A0 : Option Addr) (c0 : Nat) (l0 : List Int) (A1 : Option Addr) (c1 : Nat) (l1 : List Int) (r : Bool) (w : World) (hr0 : Kd.C (Kd.int .u8) w A0 l0.length l0) (hc0 : l0.length ≤ c0) (hr1 : Kd.C (Kd.int .u8) w A1 l1.length l1) (hc1 : l1.length ≤ c1) (h : laws_eqByteS.f k l0 l1 = some r) :
    Calls Try.prog 17 #[.slice A0 l0.length c0, .slice A1 l1.length c1] w fun e w' => e = .returned (.bool r) ∧ Drawn0 w w' := by
  have HR0 := Aside0.mk hr0
  have HC0 := Aside0.mk hc0
  clear hr0 hc0
  have HR1 := Aside0.mk hr1
  have HC1 := Aside0.mk hc1
  clear hr1 hc1
  have H : (if (l0.length : Int) = (l1.length : Int) then (laws_eqByteS.l0 k l0 l1 0) else (some false)) = some r := h
  clear h
  by_cases c3 : (l0.length : Int) = (l1.length : Int)
  · rw [if_pos c3] at H
    have c3b0 : ((l0.length : Int) == (l1.length : Int)) = true := beq_iff_eq.mpr c3
    have c3b1 : ((l0.length : Int) != (l1.length : Int)) = false := bne_eq_false_iff_eq.mpr c3
    have c3b2 : (l0.length == l1.length) = true := by first | simpa using c3 | (simp at c3 ⊢; omega)
    clear c3
    have H' := Aside0.mk H
    clear H
    go_enter Try.func17, Try.ntmps17
    go_wp2
    repeat (go_quiet (fail); try go_wp2)
    go_loopg [5] k (fun kq v5 w' => ∃ (x5_1 : Int), v5 = .int .i64 x5_1 ∧ Aside0 (laws_eqByteS.l0 kq l0 l1 x5_1 = some r) ∧ Aside0 (kq ≤ k) ∧ Drawn0 w w')
    case atStart => exact ⟨(0), (by first | rfl | (simp; done) | (simp [*]; done)), H', ⟨Nat.le_refl _⟩, by repeat (first | exact Drawn0.refl _ | apply Drawn0.step)⟩
    case round =>
      clear H'
      try clear c1
      try clear p2
      try clear c3
      try clear c3b0
      try clear c3b1
      try clear c3b2
      obtain ⟨x5_1, rfl, HA, HK1, ⟨m1, rfl⟩⟩ := hrel
      cases gk with
      | zero => exact absurd HA.out (by simp [laws_eqByteS.l0])
      | succ k1 =>
        have H := HA.out
        clear HA
        simp only [laws_eqByteS.l0] at H
        by_cases c4 : x5_1 < (l0.length : Int)
        · rw [if_pos c4] at H
          have c4b0 : decide (x5_1 < (l0.length : Int)) = true := decide_eq_true c4
          clear c4
          by_cases c5 : 0 ≤ x5_1
          · rw [if_pos c5] at H
            have c5b0 : decide (0 ≤ x5_1) = true := decide_eq_true c5
            clear c5
            by_cases c6 : x5_1 < (l1.length : Int)
            · rw [if_pos c6] at H
              have c6b0 : decide (x5_1 < (l1.length : Int)) = true := decide_eq_true c6
              clear c6
              by_cases c7 : (rd l0 x5_1) = (rd l1 x5_1)
              · rw [if_pos c7] at H
                have c7b0 : ((rd l0 x5_1) == (rd l1 x5_1)) = true := beq_iff_eq.mpr c7
                have c7b1 : ((rd l0 x5_1) != (rd l1 x5_1)) = false := bne_eq_false_iff_eq.mpr c7
                clear c7
                have H' := Aside0.mk H
                clear H
                have p106 : 0 ≤ (x5_1 : Int) := of_decide_eq_true (by first | (with_reducible assumption) | assumption)
                have q106 : x5_1 < (l0.length : Int) := of_decide_eq_true (by first | (with_reducible assumption) | assumption)
                obtain ⟨ad106, e106, hx106_0⟩ := Kd.at_int HR0.out x5_1 p106 q106
                cases e106
                replace p106 := eq_true p106
                replace q106 := eq_true q106
                have p107 : 0 ≤ (x5_1 : Int) := of_decide_eq_true (by first | (with_reducible assumption) | assumption)
                have q107 : x5_1 < (l1.length : Int) := of_decide_eq_true (by first | (with_reducible assumption) | assumption)
                obtain ⟨ad107, e107, hx107_0⟩ := Kd.at_int HR1.out x5_1 p107 q107
                cases e107
                replace p107 := eq_true p107
                replace q107 := eq_true q107
                go_wp2
                repeat (go_quiet (fail); try go_wp2)
                go_roundg k1
                case measure => have := HK1.out; omega
                case rel => exact ⟨(wrap64 (x5_1 + 1)), (by first | rfl | (simp; done) | (simp [*]; done)), H', ⟨by have := HK1.out; omega⟩, by repeat (first | exact Drawn0.refl _ | apply Drawn0.step)⟩
              · rw [if_neg c7] at H
                have c7b0 : ((rd l0 x5_1) == (rd l1 x5_1)) = false := beq_eq_false_iff_ne.mpr c7
                have c7b1 : ((rd l0 x5_1) != (rd l1 x5_1)) = true := bne_iff_ne.mpr c7
                obtain rfl := Option.some.inj H
                have p106 : 0 ≤ (x5_1 : Int) := of_decide_eq_true (by first | (with_reducible assumption) | assumption)
                have q106 : x5_1 < (l0.length : Int) := of_decide_eq_true (by first | (with_reducible assumption) | assumption)
                obtain ⟨ad106, e106, hx106_0⟩ := Kd.at_int HR0.out x5_1 p106 q106
                cases e106
                replace p106 := eq_true p106
                replace q106 := eq_true q106
                have p107 : 0 ≤ (x5_1 : Int) := of_decide_eq_true (by first | (with_reducible assumption) | assumption)
                have q107 : x5_1 < (l1.length : Int) := of_decide_eq_true (by first | (with_reducible assumption) | assumption)
                obtain ⟨ad107, e107, hx107_0⟩ := Kd.at_int HR1.out x5_1 p107 q107
                cases e107
                replace p107 := eq_true p107
                replace q107 := eq_true q107
                go_wp2
                repeat (go_quiet (fail); try go_wp2)
                go_ret
                exact ⟨by first | rfl | (simp; done) | (simp [*]; done), by repeat (first | exact Drawn0.refl _ | apply Drawn0.step)⟩
            · rw [if_neg c6] at H
              exact absurd H (by simp)
          · rw [if_neg c5] at H
            exact absurd H (by simp)
        · rw [if_neg c4] at H
          have c4b0 : decide (x5_1 < (l0.length : Int)) = false := decide_eq_false c4
          clear c4
          obtain rfl := Option.some.inj H
          go_wp2
          repeat (go_quiet (fail); try go_wp2)
          go_ret
          exact ⟨by first | rfl | (simp; done) | (simp [*]; done), by repeat (first | exact Drawn0.refl _ | apply Drawn0.step)⟩
  · rw [if_neg c3] at H
    have c3b0 : ((l0.length : Int) == (l1.length : Int)) = false := beq_eq_false_iff_ne.mpr c3
    have c3b1 : ((l0.length : Int) != (l1.length : Int)) = true := bne_iff_ne.mpr c3
    have c3b2 : (l0.length == l1.length) = false := by first | simpa using c3 | (simp at c3 ⊢; omega)
    obtain rfl := Option.some.inj H
    go_enter Try.func17, Try.ntmps17
    go_wp2
    repeat (go_quiet (fail); try go_wp2)
    go_ret
    exact ⟨by first | rfl | (simp; done) | (simp [*]; done), by repeat (first | exact Drawn0.refl _ | apply Drawn0.step)⟩

/-! ### spec_l01In: function 57 -/
def spec_l01In.f (a0 : Int) (a1 : Int) (a2 : Int) : Option (Bool) := if a0 ≥ a1 then (some (decide (a0 ≤ a2))) else (some false)
set_option maxHeartbeats 8000000 in
set_option maxRecDepth 100000 in
theorem spec_l01In.calls (a0 : Int) (a1 : Int) (a2 : Int) (r : Bool) (w : World) (h : spec_l01In.f a0 a1 a2 = some r) :
    Calls Try.prog 57 #[.int .i64 a0, .int .i64 a1, .int .i64 a2] w fun e w' => e = .returned (.bool r) ∧ Drawn0 w w' := by
  have H : (if a0 ≥ a1 then (some (decide (a0 ≤ a2))) else (some false)) = some r := h
  clear h
  by_cases c4 : a0 ≥ a1
  · rw [if_pos c4] at H
    have c4b0 : decide (a1 ≤ a0) = true := decide_eq_true c4
    clear c4
    obtain rfl := Option.some.inj H
    go_enter Try.func57, Try.ntmps57
    go_wp2
    go_ret
    exact ⟨by first | rfl | (simp; done) | (simp [*]; done), by repeat (first | exact Drawn0.refl _ | apply Drawn0.step)⟩
  · rw [if_neg c4] at H
    have c4b0 : decide (a1 ≤ a0) = false := decide_eq_false c4
    clear c4
    obtain rfl := Option.some.inj H
    go_enter Try.func57, Try.ntmps57
    go_wp2
    go_ret
    exact ⟨by first | rfl | (simp; done) | (simp [*]; done), by repeat (first | exact Drawn0.refl _ | apply Drawn0.step)⟩

/-! ### spec_l03Consts: function 87 -/
def spec_l03Consts.f  : Option (List Int) := some (([1116352408, 1899447441, 3049323471, 3921009573, 961987163, 1508970993, 2453635748, 2870763221, 3624381080, 310598401, 607225278, 1426881987, 1925078388, 2162078206, 2614888103, 3248222580, 3835390401, 4022224774, 264347078, 604807628, 770255983, 1249150122, 1555081692, 1996064986, 2554220882, 2821834349, 2952996808, 3210313671, 3336571891, 3584528711, 113926993, 338241895, 666307205, 773529912, 1294757372, 1396182291, 1695183700, 1986661051, 2177026350, 2456956037, 2730485921, 2820302411, 3259730800, 3345764771, 3516065817, 3600352804, 4094571909, 275423344, 430227734, 506948616, 659060556, 883997877, 958139571, 1322822218, 1537002063, 1747873779, 1955562222, 2024104815, 2227730452, 2361852424, 2428436474, 2756734187, 3204031479, 3329325298] : List Int))
set_option maxHeartbeats 8000000 in
set_option maxRecDepth 100000 in
theorem spec_l03Consts.calls  (r : List Int) (w : World) (h : spec_l03Consts.f  = some r) :
    Calls Try.prog 87 #[] w fun e w' => ∃ v0_ : Value, e = .returned (v0_) ∧ Kd.R (Kd.int .u32) 90 w' w.heap.size (fun _ => True) v0_ r ∧ Below w.heap.size w w' := by
  have HB := Aside0.mk (Below.refl w.heap.size w)
  have H : (some (([1116352408, 1899447441, 3049323471, 3921009573, 961987163, 1508970993, 2453635748, 2870763221, 3624381080, 310598401, 607225278, 1426881987, 1925078388, 2162078206, 2614888103, 3248222580, 3835390401, 4022224774, 264347078, 604807628, 770255983, 1249150122, 1555081692, 1996064986, 2554220882, 2821834349, 2952996808, 3210313671, 3336571891, 3584528711, 113926993, 338241895, 666307205, 773529912, 1294757372, 1396182291, 1695183700, 1986661051, 2177026350, 2456956037, 2730485921, 2820302411, 3259730800, 3345764771, 3516065817, 3600352804, 4094571909, 275423344, 430227734, 506948616, 659060556, 883997877, 958139571, 1322822218, 1537002063, 1747873779, 1955562222, 2024104815, 2227730452, 2361852424, 2428436474, 2756734187, 3204031479, 3329325298] : List Int))) = some r := h
  clear h
  obtain ⟨y108, hy108⟩ : ∃ y_ : List Int, y_ = (([1116352408, 1899447441, 3049323471, 3921009573, 961987163, 1508970993, 2453635748, 2870763221, 3624381080, 310598401, 607225278, 1426881987, 1925078388, 2162078206, 2614888103, 3248222580, 3835390401, 4022224774, 264347078, 604807628, 770255983, 1249150122, 1555081692, 1996064986, 2554220882, 2821834349, 2952996808, 3210313671, 3336571891, 3584528711, 113926993, 338241895, 666307205, 773529912, 1294757372, 1396182291, 1695183700, 1986661051, 2177026350, 2456956037, 2730485921, 2820302411, 3259730800, 3345764771, 3516065817, 3600352804, 4094571909, 275423344, 430227734, 506948616, 659060556, 883997877, 958139571, 1322822218, 1537002063, 1747873779, 1955562222, 2024104815, 2227730452, 2361852424, 2428436474, 2756734187, 3204031479, 3329325298] : List Int)) := ⟨_, rfl⟩
  replace H : (some y108) = some r := by first | (rw [hy108]; with_reducible exact H) | (have H2_ := (Option.bind_some _ _).symm.trans H; rw [hy108]; with_reducible exact H2_) | (have H2_ := (Option.bind_some _ _).symm.trans H; with_reducible exact H2_) | with_reducible exact H | (rw [hy108]; exact H) | exact H
  have Ny108 := Aside0.mk hy108
  clear hy108
  obtain rfl := Option.some.inj H
  go_enter Try.func87, Try.ntmps87
  go_wp2_with (first | ((with_reducible refine gate_dst (N := 1) rfl ?_); refine Kd.R_lit (Kd.int .u32) _ 90 ?hg (N := 1) ?hd (xs := ([1116352408, 1899447441, 3049323471, 3921009573, 961987163, 1508970993, 2453635748, 2870763221, 3624381080, 310598401, 607225278, 1426881987, 1925078388, 2162078206, 2614888103, 3248222580, 3835390401, 4022224774, 264347078, 604807628, 770255983, 1249150122, 1555081692, 1996064986, 2554220882, 2821834349, 2952996808, 3210313671, 3336571891, 3584528711, 113926993, 338241895, 666307205, 773529912, 1294757372, 1396182291, 1695183700, 1986661051, 2177026350, 2456956037, 2730485921, 2820302411, 3259730800, 3345764771, 3516065817, 3600352804, 4094571909, 275423344, 430227734, 506948616, 659060556, 883997877, 958139571, 1322822218, 1537002063, 1747873779, 1955562222, 2024104815, 2227730452, 2361852424, 2428436474, 2756734187, 3204031479, 3329325298] : List Int)) (inner := [.int .u32 1116352408, .int .u32 1899447441, .int .u32 3049323471, .int .u32 3921009573, .int .u32 961987163, .int .u32 1508970993, .int .u32 2453635748, .int .u32 2870763221, .int .u32 3624381080, .int .u32 310598401, .int .u32 607225278, .int .u32 1426881987, .int .u32 1925078388, .int .u32 2162078206, .int .u32 2614888103, .int .u32 3248222580, .int .u32 3835390401, .int .u32 4022224774, .int .u32 264347078, .int .u32 604807628, .int .u32 770255983, .int .u32 1249150122, .int .u32 1555081692, .int .u32 1996064986, .int .u32 2554220882, .int .u32 2821834349, .int .u32 2952996808, .int .u32 3210313671, .int .u32 3336571891, .int .u32 3584528711, .int .u32 113926993, .int .u32 338241895, .int .u32 666307205, .int .u32 773529912, .int .u32 1294757372, .int .u32 1396182291, .int .u32 1695183700, .int .u32 1986661051, .int .u32 2177026350, .int .u32 2456956037, .int .u32 2730485921, .int .u32 2820302411, .int .u32 3259730800, .int .u32 3345764771, .int .u32 3516065817, .int .u32 3600352804, .int .u32 4094571909, .int .u32 275423344, .int .u32 430227734, .int .u32 506948616, .int .u32 659060556, .int .u32 883997877, .int .u32 958139571, .int .u32 1322822218, .int .u32 1537002063, .int .u32 1747873779, .int .u32 1955562222, .int .u32 2024104815, .int .u32 2227730452, .int .u32 2361852424, .int .u32 2428436474, .int .u32 2756734187, .int .u32 3204031479, .int .u32 3329325298]) (ok := fun _ => True) (okp := fun _ => True) ?hr ?hp (fun _ hk => hk) trivial (Below.refl _ _) (Nat.le_refl _) (by simp) ?_; (case hd => rfl); (case hg => rfl); (case hr => first | (go_simp; done) | (go_simp; rfl)); (case hp => exact (Reps.one (show Kd.M (Kd.int .u32) _ _ _ 1116352408 [.int .u32 1116352408] from rfl) (Reps.one (show Kd.M (Kd.int .u32) _ _ _ 1899447441 [.int .u32 1899447441] from rfl) (Reps.one (show Kd.M (Kd.int .u32) _ _ _ 3049323471 [.int .u32 3049323471] from rfl) (Reps.one (show Kd.M (Kd.int .u32) _ _ _ 3921009573 [.int .u32 3921009573] from rfl) (Reps.one (show Kd.M (Kd.int .u32) _ _ _ 961987163 [.int .u32 961987163] from rfl) (Reps.one (show Kd.M (Kd.int .u32) _ _ _ 1508970993 [.int .u32 1508970993] from rfl) (Reps.one (show Kd.M (Kd.int .u32) _ _ _ 2453635748 [.int .u32 2453635748] from rfl) (Reps.one (show Kd.M (Kd.int .u32) _ _ _ 2870763221 [.int .u32 2870763221] from rfl) (Reps.one (show Kd.M (Kd.int .u32) _ _ _ 3624381080 [.int .u32 3624381080] from rfl) (Reps.one (show Kd.M (Kd.int .u32) _ _ _ 310598401 [.int .u32 310598401] from rfl) (Reps.one (show Kd.M (Kd.int .u32) _ _ _ 607225278 [.int .u32 607225278] from rfl) (Reps.one (show Kd.M (Kd.int .u32) _ _ _ 1426881987 [.int .u32 1426881987] from rfl) (Reps.one (show Kd.M (Kd.int .u32) _ _ _ 1925078388 [.int .u32 1925078388] from rfl) (Reps.one (show Kd.M (Kd.int .u32) _ _ _ 2162078206 [.int .u32 2162078206] from rfl) (Reps.one (show Kd.M (Kd.int .u32) _ _ _ 2614888103 [.int .u32 2614888103] from rfl) (Reps.one (show Kd.M (Kd.int .u32) _ _ _ 3248222580 [.int .u32 3248222580] from rfl) (Reps.one (show Kd.M (Kd.int .u32) _ _ _ 3835390401 [.int .u32 3835390401] from rfl) (Reps.one (show Kd.M (Kd.int .u32) _ _ _ 4022224774 [.int .u32 4022224774] from rfl) (Reps.one (show Kd.M (Kd.int .u32) _ _ _ 264347078 [.int .u32 264347078] from rfl) (Reps.one (show Kd.M (Kd.int .u32) _ _ _ 604807628 [.int .u32 604807628] from rfl) (Reps.one (show Kd.M (Kd.int .u32) _ _ _ 770255983 [.int .u32 770255983] from rfl) (Reps.one (show Kd.M (Kd.int .u32) _ _ _ 1249150122 [.int .u32 1249150122] from rfl) (Reps.one (show Kd.M (Kd.int .u32) _ _ _ 1555081692 [.int .u32 1555081692] from rfl) (Reps.one (show Kd.M (Kd.int .u32) _ _ _ 1996064986 [.int .u32 1996064986] from rfl) (Reps.one (show Kd.M (Kd.int .u32) _ _ _ 2554220882 [.int .u32 2554220882] from rfl) (Reps.one (show Kd.M (Kd.int .u32) _ _ _ 2821834349 [.int .u32 2821834349] from rfl) (Reps.one (show Kd.M (Kd.int .u32) _ _ _ 2952996808 [.int .u32 2952996808] from rfl) (Reps.one (show Kd.M (Kd.int .u32) _ _ _ 3210313671 [.int .u32 3210313671] from rfl) (Reps.one (show Kd.M (Kd.int .u32) _ _ _ 3336571891 [.int .u32 3336571891] from rfl) (Reps.one (show Kd.M (Kd.int .u32) _ _ _ 3584528711 [.int .u32 3584528711] from rfl) (Reps.one (show Kd.M (Kd.int .u32) _ _ _ 113926993 [.int .u32 113926993] from rfl) (Reps.one (show Kd.M (Kd.int .u32) _ _ _ 338241895 [.int .u32 338241895] from rfl) (Reps.one (show Kd.M (Kd.int .u32) _ _ _ 666307205 [.int .u32 666307205] from rfl) (Reps.one (show Kd.M (Kd.int .u32) _ _ _ 773529912 [.int .u32 773529912] from rfl) (Reps.one (show Kd.M (Kd.int .u32) _ _ _ 1294757372 [.int .u32 1294757372] from rfl) (Reps.one (show Kd.M (Kd.int .u32) _ _ _ 1396182291 [.int .u32 1396182291] from rfl) (Reps.one (show Kd.M (Kd.int .u32) _ _ _ 1695183700 [.int .u32 1695183700] from rfl) (Reps.one (show Kd.M (Kd.int .u32) _ _ _ 1986661051 [.int .u32 1986661051] from rfl) (Reps.one (show Kd.M (Kd.int .u32) _ _ _ 2177026350 [.int .u32 2177026350] from rfl) (Reps.one (show Kd.M (Kd.int .u32) _ _ _ 2456956037 [.int .u32 2456956037] from rfl) (Reps.one (show Kd.M (Kd.int .u32) _ _ _ 2730485921 [.int .u32 2730485921] from rfl) (Reps.one (show Kd.M (Kd.int .u32) _ _ _ 2820302411 [.int .u32 2820302411] from rfl) (Reps.one (show Kd.M (Kd.int .u32) _ _ _ 3259730800 [.int .u32 3259730800] from rfl) (Reps.one (show Kd.M (Kd.int .u32) _ _ _ 3345764771 [.int .u32 3345764771] from rfl) (Reps.one (show Kd.M (Kd.int .u32) _ _ _ 3516065817 [.int .u32 3516065817] from rfl) (Reps.one (show Kd.M (Kd.int .u32) _ _ _ 3600352804 [.int .u32 3600352804] from rfl) (Reps.one (show Kd.M (Kd.int .u32) _ _ _ 4094571909 [.int .u32 4094571909] from rfl) (Reps.one (show Kd.M (Kd.int .u32) _ _ _ 275423344 [.int .u32 275423344] from rfl) (Reps.one (show Kd.M (Kd.int .u32) _ _ _ 430227734 [.int .u32 430227734] from rfl) (Reps.one (show Kd.M (Kd.int .u32) _ _ _ 506948616 [.int .u32 506948616] from rfl) (Reps.one (show Kd.M (Kd.int .u32) _ _ _ 659060556 [.int .u32 659060556] from rfl) (Reps.one (show Kd.M (Kd.int .u32) _ _ _ 883997877 [.int .u32 883997877] from rfl) (Reps.one (show Kd.M (Kd.int .u32) _ _ _ 958139571 [.int .u32 958139571] from rfl) (Reps.one (show Kd.M (Kd.int .u32) _ _ _ 1322822218 [.int .u32 1322822218] from rfl) (Reps.one (show Kd.M (Kd.int .u32) _ _ _ 1537002063 [.int .u32 1537002063] from rfl) (Reps.one (show Kd.M (Kd.int .u32) _ _ _ 1747873779 [.int .u32 1747873779] from rfl) (Reps.one (show Kd.M (Kd.int .u32) _ _ _ 1955562222 [.int .u32 1955562222] from rfl) (Reps.one (show Kd.M (Kd.int .u32) _ _ _ 2024104815 [.int .u32 2024104815] from rfl) (Reps.one (show Kd.M (Kd.int .u32) _ _ _ 2227730452 [.int .u32 2227730452] from rfl) (Reps.one (show Kd.M (Kd.int .u32) _ _ _ 2361852424 [.int .u32 2361852424] from rfl) (Reps.one (show Kd.M (Kd.int .u32) _ _ _ 2428436474 [.int .u32 2428436474] from rfl) (Reps.one (show Kd.M (Kd.int .u32) _ _ _ 2756734187 [.int .u32 2756734187] from rfl) (Reps.one (show Kd.M (Kd.int .u32) _ _ _ 3204031479 [.int .u32 3204031479] from rfl) (Reps.one (show Kd.M (Kd.int .u32) _ _ _ 3329325298 [.int .u32 3329325298] from rfl) (Reps.none _ _)))))))))))))))))))))))))))))))))))))))))))))))))))))))))))))))))); intro v109 w1 ho2 hb hg_ hnew_; clear hg_ hnew_; (first | rw [← Ny108.out] at ho2 | (simp only [Int.reduceToNat] at ho2; rw [← Ny108.out] at ho2)); have n0_ := Aside0.mk (Kd.R_lower ho2 (below_size (by repeat (first | (with_reducible first | exact HB.out | apply below_alloc | apply pw_below_drewN | apply below_drew1) | exact HB.out)))); have n1_ := Aside0.mk (below_step (by repeat (first | (with_reducible first | exact HB.out | apply below_alloc | apply pw_below_drewN | apply below_drew1) | exact HB.out)) hb); clear HB; have HO110 := n0_; have HB := n1_; clear n0_ n1_; clear hb ho2))
  go_ret
  exact ⟨_, by first | rfl | (simp [errW_none, errW_some] <;> rfl) | (simp [*, errW_none, errW_some] <;> rfl), by (with_reducible repeat (first | apply Kd.R_alloc | apply Kd.R_drewN | apply Kd.R_drew)); exact HO110.out, by repeat (first | (with_reducible first | exact HB.out | apply below_alloc | apply pw_below_drewN | apply below_drew1) | exact HB.out)⟩

/-! ### spec_l03Turn: function 103 -/
def spec_l03Turn.f (a0 : Int) (a1 : Int) : Option (Int) := if 0 ≤ a1 then (if 0 ≤ (IntKind.u64.wrap (32 - a1)) then (some (Go.bits .or .u32 (shr .u32 a0 a1) (shl .u32 a0 (IntKind.u64.wrap (32 - a1))))) else (none)) else (none)
set_option maxHeartbeats 8000000 in
set_option maxRecDepth 100000 in
theorem spec_l03Turn.calls (a0 : Int) (a1 : Int) (r : Int) (w : World) (h : spec_l03Turn.f a0 a1 = some r) :
    Calls Try.prog 103 #[.int .u32 a0, .int .u64 a1] w fun e w' => e = .returned (.int .u32 r) ∧ Drawn0 w w' := by
  have H : (if 0 ≤ a1 then (if 0 ≤ (IntKind.u64.wrap (32 - a1)) then (some (Go.bits .or .u32 (shr .u32 a0 a1) (shl .u32 a0 (IntKind.u64.wrap (32 - a1))))) else (none)) else (none)) = some r := h
  clear h
  by_cases c3 : 0 ≤ a1
  · rw [if_pos c3] at H
    have c3b0 := eq_true c3
    have c3b1 : decide (0 ≤ a1) = true := decide_eq_true c3
    clear c3
    obtain ⟨ji4, hji4⟩ : ∃ j_ : Int, (shr .u32 a0 a1) = j_ := ⟨_, rfl⟩
    replace H : (if 0 ≤ (IntKind.u64.wrap (32 - a1)) then (some (Go.bits .or .u32 (ji4) (shl .u32 a0 (IntKind.u64.wrap (32 - a1))))) else (none)) = some r := by first | (rw [hji4] at H; exact H) | (simp only [hji4] at H ⊢; exact H)
    have hji4_ : (a0 / 2 ^ min a1.toNat 32) = ji4 := hji4
    have hji4z : a1 ≤ 32 → (a0 / 2 ^ a1.toNat) = ji4 := shr_small hji4
    obtain ⟨ji5, hji5⟩ : ∃ j_ : Int, (IntKind.u64.wrap (32 - a1)) = j_ := ⟨_, rfl⟩
    replace H : (if 0 ≤ (ji5) then (some (Go.bits .or .u32 (ji4) (shl .u32 a0 (ji5)))) else (none)) = some r := by first | (rw [hji5] at H; exact H) | (simp only [hji5] at H ⊢; exact H)
    by_cases c6 : 0 ≤ (ji5)
    · rw [if_pos c6] at H
      have c6b0 := eq_true c6
      have c6b1 : decide (0 ≤ (ji5)) = true := decide_eq_true c6
      clear c6
      obtain ⟨ji7, hji7⟩ : ∃ j_ : Int, (shl .u32 a0 (ji5)) = j_ := ⟨_, rfl⟩
      replace H : (some (Go.bits .or .u32 (ji4) (ji7))) = some r := by first | (rw [hji7] at H; exact H) | (simp only [hji7] at H ⊢; exact H)
      have hji7_ : (IntKind.u32.wrap (a0 * 2 ^ min (ji5).toNat 32)) = ji7 := hji7
      have hji7z : (ji5) ≤ 32 → (IntKind.u32.wrap (a0 * 2 ^ (ji5).toNat)) = ji7 := shl_small hji7
      obtain rfl := Option.some.inj H
      go_enter Try.func103, Try.ntmps103
      go_wp2
      go_ret
      exact ⟨by first | rfl | (simp; done) | (simp only [← hji4, ← hji5, ← hji7] <;> (first | rfl | simp)) | (simp [*]; done), by repeat (first | exact Drawn0.refl _ | apply Drawn0.step)⟩
    · rw [if_neg c6] at H
      exact absurd H (by simp)
  · rw [if_neg c3] at H
    exact absurd H (by simp)

/-! ### behind spec_l03Turn -/
theorem sturn_is (x n : Int) (h1 : 1 ≤ n) (h2 : n ≤ 31) : spec_l03Turn.f x n = some (Sha.rr x n.toNat) := by
  obtain ⟨m, rfl⟩ := Int.eq_ofNat_of_zero_le (show 0 ≤ n by omega)
  have m1 : 1 ≤ m := by omega
  have m2 : m < 32 := by omega
  have e2 : ∀ m : Nat, m < 32 → 1 ≤ m → IntKind.u64.wrap (32 - (m : Int)) = ((32 - m : Nat) : Int) := by decide +kernel
  have b : min (32 - m) IntKind.u32.bits = 32 - m := Nat.min_eq_left (by show 32 - m ≤ 32; omega)
  have b2 : min m IntKind.u32.bits = m := Nat.min_eq_left (by show m ≤ 32; omega)
  unfold spec_l03Turn.f
  rw [e2 m m2 m1, if_pos (Int.natCast_nonneg _), if_pos (Int.natCast_nonneg _)]
  unfold shl shr Sha.rr
  rw [Int.toNat_natCast, Int.toNat_natCast, b, b2]
theorem sturn_calls (x n : Int) (h1 : 1 ≤ n) (h2 : n ≤ 31) (w : World) :
    Calls Try.prog 103 #[.int .u32 x, .int .u64 n] w fun e w' => e = .returned (.int .u32 (Sha.rr x n.toNat)) ∧ w' = w := by
  have H := Aside0.mk (sturn_is x n h1 h2)
  have hw : IntKind.u64.wrap (32 - n) = 32 - n := by
    obtain ⟨m, rfl⟩ := Int.eq_ofNat_of_zero_le (show 0 ≤ n by omega)
    have e2 : ∀ m : Nat, m < 32 → 1 ≤ m → IntKind.u64.wrap (32 - (m : Int)) = 32 - (m : Int) := by decide +kernel
    exact e2 m (by omega) (by omega)
  go_enter Try.func103, Try.ntmps103
  go_wp2
  go_ret
  refine ⟨?_, rfl⟩
  rw [Sha.rr_mod, show (32 - n).toNat = 32 - n.toNat from by omega]
  rfl
theorem sturn_q (x n : Int) (h1 : 1 ≤ n) (h2 : n ≤ 31) (w : World) (m : Nat) :
    Calls Try.prog 103 #[.int .u32 x, .int .u64 n] (w.drewN m) fun e w' => e = .returned (.int .u32 (Sha.rr x n.toNat)) ∧ ∃ q, w' = w.drewN q :=
  (sturn_calls x n h1 h2 _).mono fun _ _ ⟨he, hd⟩ => ⟨he, m, hd⟩
theorem sturn_q2 (x n : Int) (h1 : 1 ≤ n) (h2 : n ≤ 31) (w : World) (a m : Nat) :
    Calls Try.prog 103 #[.int .u32 x, .int .u64 n] (w.drewN (a + m)) fun e w' => e = .returned (.int .u32 (Sha.rr x n.toNat)) ∧ ∃ q, w' = w.drewN (a + q) :=
  (sturn_calls x n h1 h2 _).mono fun _ _ ⟨he, hd⟩ => ⟨he, m, hd⟩

/-! ### spec_l03Block: function 88 -/
-- HAND rounds=0 making=1
theorem u8ok_getD {l : List Int} (h : u8ok l) (i : Nat) : ∃ n : Nat, n < 256 ∧ l.getD i 0 = (n : Int) := by
  rcases Nat.lt_or_ge i l.length with hi | hi
  · have := h l[i] (List.getElem_mem hi)
    refine ⟨l[i].toNat, by omega, ?_⟩
    rw [List.getD_eq_getElem?_getD, List.getElem?_eq_getElem hi]
    show l[i] = _
    omega
  · exact ⟨0, by decide, by rw [List.getD_eq_getElem?_getD, List.getElem?_eq_none hi]; rfl⟩
theorem or_low (i a b : Nat) (h : b < 2 ^ i) : 2 ^ i * a ||| b = 2 ^ i * a + b := (Nat.two_pow_add_eq_or_of_lt h a).symm
theorem word_eq (b : List Int) (hb : u8ok b) (i : Nat) : Go.bits .or .u32 (Go.bits .or .u32 (Go.bits .or .u32 (((b.getD (4 * i) 0 % 4294967296) * 16777216) % 4294967296) (((b.getD (4 * i + 1) 0 % 4294967296) * 65536) % 4294967296)) (((b.getD (4 * i + 2) 0 % 4294967296) * 256) % 4294967296)) (b.getD (4 * i + 3) 0 % 4294967296) = Sha.pw b i 4 := by
  obtain ⟨n0, h0, e0⟩ := u8ok_getD hb (4 * i)
  obtain ⟨n1, h1, e1⟩ := u8ok_getD hb (4 * i + 1)
  obtain ⟨n2, h2, e2⟩ := u8ok_getD hb (4 * i + 2)
  obtain ⟨n3, h3, e3⟩ := u8ok_getD hb (4 * i + 3)
  have p1 : Sha.pw b i 1 = (n0 : Nat) := by
    show Go.bits .or .u32 ((0 * 256) % 4294967296) (b.getD (4 * i + 0) 0 % 4294967296) = _
    rw [Nat.add_zero, e0, show ((0 : Int) * 256) % 4294967296 = ((0 : Nat) : Int) from rfl, show (n0 : Int) % 4294967296 = n0 from by omega, Gf.or_u32 0 n0 (by omega) (by omega), Nat.zero_or]
  have st : ∀ (a n : Nat), a < 16777216 → n < 256 → Go.bits .or .u32 (((a : Int) * 256) % 4294967296) ((n : Int) % 4294967296) = ((256 * a + n : Nat) : Int) := fun a n ha hn => by
    rw [show ((a : Int) * 256) % 4294967296 = ((2 ^ 8 * a : Nat) : Int) from by omega, show (n : Int) % 4294967296 = n from by omega, Gf.or_u32 (2 ^ 8 * a) n (by omega) (by omega), or_low 8 a n (by omega)]
  have p2 : Sha.pw b i 2 = ((256 * n0 + n1 : Nat) : Int) := by
    show Go.bits .or .u32 ((Sha.pw b i 1 * 256) % 4294967296) (b.getD (4 * i + 1) 0 % 4294967296) = _
    rw [p1, e1, st n0 n1 (by omega) h1]
  have p3 : Sha.pw b i 3 = ((256 * (256 * n0 + n1) + n2 : Nat) : Int) := by
    show Go.bits .or .u32 ((Sha.pw b i 2 * 256) % 4294967296) (b.getD (4 * i + 2) 0 % 4294967296) = _
    rw [p2, e2, st _ n2 (by omega) h2]
  have p4 : Sha.pw b i 4 = ((256 * (256 * (256 * n0 + n1) + n2) + n3 : Nat) : Int) := by
    show Go.bits .or .u32 ((Sha.pw b i 3 * 256) % 4294967296) (b.getD (4 * i + 3) 0 % 4294967296) = _
    rw [p3, e3, st _ n3 (by omega) h3]
  rw [p4, e0, e1, e2, e3, show ((n0 : Int) % 4294967296 * 16777216) % 4294967296 = ((2 ^ 24 * n0 : Nat) : Int) from by omega, show ((n1 : Int) % 4294967296 * 65536) % 4294967296 = ((2 ^ 16 * n1 : Nat) : Int) from by omega,
    show ((n2 : Int) % 4294967296 * 256) % 4294967296 = ((2 ^ 8 * n2 : Nat) : Int) from by omega, show (n3 : Int) % 4294967296 = (n3 : Nat) from by omega,
    Gf.or_u32 _ _ (by omega) (by omega), or_low 24 n0 (2 ^ 16 * n1) (by omega), show 2 ^ 24 * n0 + 2 ^ 16 * n1 = 2 ^ 16 * (256 * n0 + n1) from by omega,
    Gf.or_u32 _ _ (by omega) (by omega), or_low 16 _ (2 ^ 8 * n2) (by omega), show 2 ^ 16 * (256 * n0 + n1) + 2 ^ 8 * n2 = 2 ^ 8 * (256 * (256 * n0 + n1) + n2) from by omega,
    Gf.or_u32 _ _ (by omega) (by omega), or_low 8 _ n3 (by omega)]
def sblockPost (gh : Nat) (r : List Int) (W : World) (e : Ending) (w' : World) : Prop :=
  e = .returned (.tuple #[]) ∧ w'.heap[gh]? = some (.cells (nums .u32 r).toArray 90 (0, 0)) ∧ (∀ k, k < W.heap.size → k ≠ gh → w'.heap[k]? = W.heap[k]?) ∧ Below gh W w' ∧ W.heap.size ≤ w'.heap.size
set_option maxHeartbeats 8000000 in
set_option maxRecDepth 100000 in
theorem sblock_in (v : Sha.V8) (gh : Nat) (ad : Addr) (cb : Nat) (b kk : List Int) (ak : Addr) (c2 : Nat) (W : World) (hh : W.heap[gh]? = some (.cells (nums .u32 v.l).toArray 90 (0, 0))) (hb : Kd.C (Kd.int .u8) W (some ad) b.length b) (hbl : b.length = 64) (hub : u8ok b) (hcb : 64 ≤ cb)
    (hk : ∀ j, j < 64 → W.cell? (ak.add j) = some (.int .u32 (kk.getD j 0))) (hc2 : 64 ≤ c2) :
    Calls Try.prog 88 #[.slice (some ⟨gh, 0, none⟩) 8 8, .slice (some ad) 64 cb, .slice (some ak) 64 c2] W (sblockPost gh (Sha.turn kk (Sha.sched b 64) v).l W) := by
  have HH := Aside0.mk hh
  have HC := Aside0.mk hb
  have HBL := Aside0.mk hbl
  have HUB := Aside0.mk hub
  have HK := Aside0.mk hk
  have HLT := Aside0.mk (blk_lt hh)
  have HKL : Aside0 (∀ j, j < 64 → (ak.add j).block < W.heap.size) := ⟨fun j hj => cell_lt (by rw [hk j hj]; rfl)⟩
  clear hh hb hbl hub hk
  have kmk : ∀ V : World, (Instr.makeSlice 91 (.int .i64 64) (.int .i64 64)).run Try.prog V = .ok (.slice (some ⟨V.heap.size, 0, none⟩) 64 64) (V.alloc (.cells (nums .u32 (List.replicate 64 0)).toArray 90)) := fun V => run_make_nums (m := 64) Try.underlying91 (.inr (.inl (by kernel_rfl))) (by decide) V
  go_enter Try.func88, Try.ntmps88
  go_wp2
  clear kmk
  go_loopw [7] (fun i wr => ∃ j : Nat, j ≤ 16 ∧ i = .int .i64 j ∧ Aside0 (wr.heap[W.heap.size]? = some (.cells (nums .u32 (Sha.sched b j ++ List.replicate (64 - j) 0)).toArray 90 (0, 0))) ∧ Aside0 (Below W.heap.size W wr)) (fun i _ => 16 - (intOf i).toNat)
  case atStart => exact ⟨0, by omega, rfl, ⟨blk_new W _⟩, ⟨below_alloc (Below.refl _ _) _⟩⟩
  case round =>
    obtain ⟨i, hi, rfl, G, HB⟩ := hrel
    by_cases hlt : i < 16
    · have i0 : (0 : Int) ≤ (i : Int) := Int.natCast_nonneg i
      have i1 : (i : Int) < 16 := by omega
      have hd : decide ((i : Int) < 16) = true := decide_eq_true i1
      rw [upd_zero _ i (by omega)] at G
      have HW : Aside0 (Sha.wordAt b (Sha.sched b i) i = Go.bits .or .u32 (Go.bits .or .u32 (Go.bits .or .u32 (((b.getD (4 * i) 0 % 4294967296) * 16777216) % 4294967296) (((b.getD (4 * i + 1) 0 % 4294967296) * 65536) % 4294967296)) (((b.getD (4 * i + 2) 0 % 4294967296) * 256) % 4294967296)) (b.getD (4 * i + 3) 0 % 4294967296)) := ⟨by
        rw [word_eq b HUB.out i, Sha.wordAt, if_pos hlt]⟩
      have cI : wr.cell? ⟨W.heap.size, i, none⟩ = some (.int .u32 0) := by
        rw [blk_cell G.out i]
        exact nums_at? _ _ _ _ (upd_at _ _ _ _ (Sha.sched_length b i))
      have zI := blk_frozen G.out i
      have hcell : ∀ j, j < 64 → wr.cell? (ad.add j) = some (.int .u8 (b.getD j 0)) := fun j hj => C_u8_cell (Kd.C_below HC.out HB.out) rfl j (by rw [HBL.out]; exact hj)
      obtain ⟨y0, hy0⟩ : ∃ y, y = b.getD (4 * i) 0 := ⟨_, rfl⟩
      obtain ⟨y1, hy1⟩ : ∃ y, y = b.getD (4 * i + 1) 0 := ⟨_, rfl⟩
      obtain ⟨y2, hy2⟩ : ∃ y, y = b.getD (4 * i + 2) 0 := ⟨_, rfl⟩
      obtain ⟨y3, hy3⟩ : ∃ y, y = b.getD (4 * i + 3) 0 := ⟨_, rfl⟩
      rw [← hy0, ← hy1, ← hy2, ← hy3] at HW
      have c0 := hcell (4 * i) (by omega)
      have c1 := hcell (4 * i + 1) (by omega)
      have c2' := hcell (4 * i + 2) (by omega)
      have c3 := hcell (4 * i + 3) (by omega)
      rw [← hy0] at c0
      rw [← hy1] at c1
      rw [← hy2] at c2'
      rw [← hy3] at c3
      have c3x : wr.cell? ⟨ad.block, ad.off + (4 * i + 2 + 1), none⟩ = some (.int .u8 y3) := by
        rw [← c3]
        simp only [Addr.add]
        split
        · rename_i h0
          exact absurd h0 (by omega)
        · rfl
      have c2x : wr.cell? ⟨ad.block, ad.off + (4 * i + 1 + 1), none⟩ = some (.int .u8 y2) := by
        rw [← c2']
        simp only [Addr.add]
        split
        · rename_i h0
          exact absurd h0 (by omega)
        · rfl
      have c1x : wr.cell? ⟨ad.block, ad.off + (4 * i + 1), none⟩ = some (.int .u8 y1) := by
        rw [← c1]
        simp only [Addr.add]
        split
        · rename_i h0
          exact absurd h0 (by omega)
        · rfl
      clear hy0 hy1 hy2 hy3 hcell
      have m0 : (4 * (i : Int)).toNat = 4 * i := by omega
      have m1 : (4 * (i : Int) + 1).toNat = 4 * i + 1 := by omega
      have m2 : (4 * (i : Int) + 2).toNat = 4 * i + 2 := by omega
      have m3 : (4 * (i : Int) + 3).toNat = 4 * i + 3 := by omega
      go_wp2
      have q0 : IntKind.i64.wrap (4 * (i : Int)) = 4 * (i : Int) := IntWalk.i64_in _ (by omega)
      have q1 : IntKind.i64.wrap (4 * (i : Int) + 1) = 4 * (i : Int) + 1 := IntWalk.i64_in _ (by omega)
      have q2 : IntKind.i64.wrap (4 * (i : Int) + 2) = 4 * (i : Int) + 2 := IntWalk.i64_in _ (by omega)
      have q3 : IntKind.i64.wrap (4 * (i : Int) + 3) = 4 * (i : Int) + 3 := IntWalk.i64_in _ (by omega)
      go_region
      all_goals clear q0 q1 q2 q3
      all_goals go_wp2
      go_roundw
      case rel =>
        refine ⟨i + 1, by omega, by go_num, ⟨?_⟩, ⟨below_set (below_drew1 HB.out) (Nat.le_refl _)⟩⟩
        rw [← upd_next b i (by omega), HW.out, ← upd_set (Sha.sched b i) 0 _ _ i (Sha.sched_length b i), ← nums_set]
        exact blk_set (blk_drew G.out) i _
      case measure => simp [intOf]; omega
    · have hd : decide ((i : Int) < 16) = false := decide_eq_false (by omega)
      have e16 : i = 16 := by omega
      rw [e16] at G
      clear e16
      go_wp2
      go_loopw [8] (fun i wr => ∃ j : Nat, 16 ≤ j ∧ j ≤ 64 ∧ i = .int .i64 j ∧ Aside0 (wr.heap[W.heap.size]? = some (.cells (nums .u32 (Sha.sched b j ++ List.replicate (64 - j) 0)).toArray 90 (0, 0))) ∧ Aside0 (Below W.heap.size W wr)) (fun i _ => 64 - (intOf i).toNat)
      case atStart => exact ⟨16, by omega, by omega, rfl, G, HB⟩
      case round =>
        clear G HB hd
        obtain ⟨i, h16, hi, rfl, G, HB⟩ := hrel
        by_cases hlt : i < 64
        · have i0 : (16 : Int) ≤ (i : Int) := by omega
          have i1 : (i : Int) < 64 := by omega
          have hd : decide ((i : Int) < 64) = true := decide_eq_true i1
          rw [upd_zero _ i hlt] at G
          obtain ⟨xa, hxa⟩ : ∃ x, x = (Sha.sched b i).getD (i - 15) 0 := ⟨_, rfl⟩
          obtain ⟨xb, hxb⟩ : ∃ x, x = (Sha.sched b i).getD (i - 2) 0 := ⟨_, rfl⟩
          obtain ⟨xc, hxc⟩ : ∃ x, x = (Sha.sched b i).getD (i - 16) 0 := ⟨_, rfl⟩
          obtain ⟨xd, hxd⟩ : ∃ x, x = (Sha.sched b i).getD (i - 7) 0 := ⟨_, rfl⟩
          have HWd : Aside0 (Sha.wordAt b (Sha.sched b i) i = (xc + Sha.sg0 xa + xd + Sha.sg1 xb) % 4294967296) := ⟨by rw [Sha.wordAt, if_neg (by omega), hxa, hxb, hxc, hxd]; rfl⟩
          have cOld : ∀ j, j < i → wr.cell? ⟨W.heap.size, j, none⟩ = some (.int .u32 ((Sha.sched b i).getD j 0)) := fun j hj => by
            rw [blk_cell G.out j]
            exact nums_at? _ _ _ _ (upd_old _ _ _ (by rw [Sha.sched_length]; exact hj))
          have cA := cOld (i - 15) (by omega)
          have cB := cOld (i - 2) (by omega)
          have cC := cOld (i - 16) (by omega)
          have cD := cOld (i - 7) (by omega)
          rw [← hxa] at cA
          rw [← hxb] at cB
          rw [← hxc] at cC
          rw [← hxd] at cD
          clear hxa hxb hxc hxd cOld
          have cI : wr.cell? ⟨W.heap.size, i, none⟩ = some (.int .u32 0) := by
            rw [blk_cell G.out i]
            exact nums_at? _ _ _ _ (upd_at _ _ _ _ (Sha.sched_length b i))
          have zI := blk_frozen G.out i
          go_wp2
          have q0 : IntKind.i64.wrap ((i : Int) - 16) = (i : Int) - 16 := IntWalk.i64_in _ (by omega)
          have q1 : IntKind.i64.wrap ((i : Int) - 7) = (i : Int) - 7 := IntWalk.i64_in _ (by omega)
          have b0 : (i : Int) - 16 < 64 := by omega
          have b1 : (i : Int) - 7 < 64 := by omega
          have b2 : (0 : Int) ≤ (i : Int) - 16 := by omega
          have b3 : (0 : Int) ≤ (i : Int) - 7 := by omega
          have b4 : (7 : Int) ≤ (i : Int) := by omega
          have b5 : (0 : Int) ≤ (i : Int) := by omega
          have n0 : ((i : Int) - 16).toNat = i - 16 := by omega
          have n1 : ((i : Int) - 7).toNat = i - 7 := by omega
          refine wp_region_still_tail 32 (by kernel_rfl) (by kernel_rfl) ?_
          simp only [List.take_succ_cons, List.take_zero, List.drop_succ_cons, List.drop_zero]
          change wpStill _ _ wr.drew _ _ _
          repeat (first | still_step | still_call (sturn_calls _ _ (by decide) (by decide) _))
          refine wpStill_nil ?_
          change wpList _ _ _ _ _ wr.drew
          clear q0 q1 n0 n1
          go_wp2
          go_roundw
          case rel =>
            refine ⟨i + 1, by omega, by omega, by go_num, ⟨?_⟩, ⟨below_set (below_drew1 HB.out) (Nat.le_refl _)⟩⟩
            rw [← upd_next b i hlt, HWd.out, ← upd_set (Sha.sched b i) 0 _ _ i (Sha.sched_length b i), ← nums_set]
            exact blk_set (blk_drew G.out) i _
          case measure => simp [intOf]; omega
        · have hd : decide ((i : Int) < 64) = false := decide_eq_false (by omega)
          have e64 : Sha.sched b i ++ List.replicate (64 - i) 0 = Sha.sched b 64 := by
            obtain rfl : i = 64 := by omega
            simp
          rw [e64] at G
          clear e64
          have HV : Aside0 (∀ j, j < v.l.length → wr.cell? ((⟨gh, 0, none⟩ : Addr).add j) = some (.int .u32 (v.l.getD j 0))) := ⟨fun j hj => by
            have h1 := blk_cell ((HB.out.block _ HLT.out).trans HH.out) j
            rw [add_plain, h1]
            exact nums_at? _ _ _ _ (V8l_at v j hj)⟩
          go_wp2_with ((with_reducible refine gate_dst (N := 107) rfl ?_); refine wpList_append_fresh (k := .u32) (by rfl) (.tmp 105) (.tmp 106) 91 90 (by rfl) Try.underlying91 4 (by kernel_rfl) (by decide) v.l _ (by rfl) ⟨gh, 0, none⟩ 8 8 (by rfl) rfl (fun j hj => cell_alloc_keep (HV.out j hj) _) (by show 0 < 8; decide) (by show 8 ≤ 4096; decide) ?_; intro gv cv w2 K1 K2 K3 K4)
          go_loopw [11, 12] (fun a n wr => ∃ (j g c : Nat), j ≤ 64 ∧ n = .int .i64 j ∧ a = .slice (some ⟨g, 0, none⟩) 8 c ∧ 8 ≤ c ∧ Aside0 (W.heap.size ≤ g) ∧ Aside0 (∀ q, q < 8 → wr.cell? ⟨g, q, none⟩ = some (.int .u32 ((Sha.rnd kk (Sha.sched b 64) v j).l.getD q 0)))
            ∧ Aside0 (wr.heap[W.heap.size]? = some (.cells (nums .u32 (Sha.sched b 64)).toArray 90 (0, 0))) ∧ Aside0 (Below W.heap.size W wr)) (fun _ n _ => 64 - (intOf n).toNat)
          case atStart =>
            refine ⟨0, gv, cv, by omega, rfl, rfl, K2, ⟨?_⟩, ⟨fun q hq => K3.out q hq⟩, ⟨?_⟩, ⟨?_⟩⟩
            · have h1 := K1.out; have h2 := HB.out.size; simp at h1; omega
            · exact (K4.out.block _ (by have := blk_lt G.out; simp; omega)).trans (blk_alloc G.out _)
            · exact below_step (below_alloc HB.out _) K4.out
          case round =>
            clear K1 K2 K3 K4 G HB HV hd
            obtain ⟨j, gv, cv, hj, rfl, rfl, hcv, K1, K3, G, HB⟩ := hrel
            by_cases hlj : j < 64
            · have i0 : (0 : Int) ≤ (j : Int) := Int.natCast_nonneg j
              have i1 : (j : Int) < 64 := by omega
              have hd : decide ((j : Int) < 64) = true := decide_eq_true i1
              obtain ⟨u, hu⟩ : ∃ u, u = Sha.rnd kk (Sha.sched b 64) v j := ⟨_, rfl⟩
              have HS : Aside0 (Sha.rnd kk (Sha.sched b 64) v (j + 1) = Sha.step u (kk.getD j 0) ((Sha.sched b 64).getD j 0)) := ⟨by rw [hu]; rfl⟩
              rw [← hu] at K3
              clear hu
              obtain ⟨xa, xb, xc, xd, xe, xf, xg, xh⟩ := u
              have d0 : wr.cell? ⟨gv, 0, none⟩ = some (.int .u32 xa) := K3.out 0 (by decide)
              have d1 : wr.cell? ⟨gv, 1, none⟩ = some (.int .u32 xb) := K3.out 1 (by decide)
              have d2 : wr.cell? ⟨gv, 2, none⟩ = some (.int .u32 xc) := K3.out 2 (by decide)
              have d3 : wr.cell? ⟨gv, 3, none⟩ = some (.int .u32 xd) := K3.out 3 (by decide)
              have d4 : wr.cell? ⟨gv, 4, none⟩ = some (.int .u32 xe) := K3.out 4 (by decide)
              have d5 : wr.cell? ⟨gv, 5, none⟩ = some (.int .u32 xf) := K3.out 5 (by decide)
              have d6 : wr.cell? ⟨gv, 6, none⟩ = some (.int .u32 xg) := K3.out 6 (by decide)
              have d7 : wr.cell? ⟨gv, 7, none⟩ = some (.int .u32 xh) := K3.out 7 (by decide)
              obtain ⟨ki, hki⟩ : ∃ x, x = kk.getD j 0 := ⟨_, rfl⟩
              obtain ⟨wi, hwi⟩ : ∃ x, x = (Sha.sched b 64).getD j 0 := ⟨_, rfl⟩
              have cK : wr.cell? (ak.add j) = some (.int .u32 ki) := by
                rw [hki, ← HK.out j hlj]
                exact HB.out.cell (HKL.out j hlj)
              have cW : wr.cell? ⟨W.heap.size, j, none⟩ = some (.int .u32 wi) := by
                rw [blk_cell G.out j, hwi]
                exact nums_at? _ _ _ _ (by rw [List.getD_eq_getElem?_getD, List.getElem?_eq_getElem (by rw [Sha.sched_length]; exact hlj)]; rfl)
              rw [← hki, ← hwi] at HS
              clear hki hwi K3
              go_wp2
              go_quiet ((go_at_call 103; first | exact sturn_q2 _ _ (by decide) (by decide) _ _ _ | exact sturn_q _ _ (by decide) (by decide) _ _))
              go_wp2
              go_quiet ((go_at_call 103; first | exact sturn_q2 _ _ (by decide) (by decide) _ _ _ | exact sturn_q _ _ (by decide) (by decide) _ _))
              go_wp2
              refine wp_region_still_tail 26 (by kernel_rfl) (by kernel_rfl) ?_
              simp only [List.take_succ_cons, List.take_zero, List.drop_succ_cons, List.drop_zero]
              change wpStill _ _ (World.drew _) _ _ _
              repeat still_step
              refine wpStill_nil ?_
              change wpList _ _ _ _ _ (World.drew _)
              go_wp2
              go_roundw
              case rel =>
                refine ⟨j + 1, _, _, by omega, by go_num, rfl, by decide, ⟨HB.out.size⟩, ⟨fun q hq => ?_⟩, ⟨blk_alloc (blk_drewN G.out _) _⟩, ⟨below_alloc (pw_below_drewN HB.out _) _⟩⟩
                refine (blk_cell (blk_new (wr.drewN _) _) q).trans ?_
                rw [HS.out, Sha.step_l]
                match q, hq with
                | 0, _ => rfl
                | 1, _ => rfl
                | 2, _ => rfl
                | 3, _ => rfl
                | 4, _ => rfl
                | 5, _ => rfl
                | 6, _ => rfl
                | 7, _ => rfl
              case measure => simp [intOf]; omega
            · have hd : decide ((j : Int) < 64) = false := decide_eq_false (by omega)
              obtain ⟨u, hu⟩ : ∃ u, u = Sha.rnd kk (Sha.sched b 64) v 64 := ⟨_, rfl⟩
              have HU : Aside0 (Sha.turn kk (Sha.sched b 64) v = v.add u) := ⟨by rw [hu]; rfl⟩
              have e64 : j = 64 := by omega
              rw [e64, ← hu] at K3
              clear hu e64
              go_wp2
              go_loopw [17] (fun n wr => ∃ m : Nat, m ≤ 8 ∧ n = .int .i64 m ∧ Aside0 (wr.heap[gh]? = some (.cells (nums .u32 (addTo v u m)).toArray 90 (0, 0))) ∧ Aside0 (∀ q, q < 8 → wr.cell? ⟨gv, q, none⟩ = some (.int .u32 (u.l.getD q 0)))
                ∧ Aside0 (∀ k, k < W.heap.size → k ≠ gh → wr.heap[k]? = W.heap[k]?) ∧ Aside0 (Below gh W wr) ∧ Aside0 (W.heap.size ≤ wr.heap.size)) (fun n _ => 8 - (intOf n).toNat)
              case atStart => exact ⟨0, by omega, rfl, ⟨(HB.out.block _ HLT.out).trans HH.out⟩, K3, ⟨fun k hk _ => HB.out.block k hk⟩, ⟨HB.out.mono (Nat.le_of_lt HLT.out)⟩, ⟨HB.out.size⟩⟩
              case round =>
                clear K3 G HB hd
                obtain ⟨m, hm, rfl, G, K3, OT, BG, SZ⟩ := hrel
                by_cases hlm : m < 8
                · have m0 : (0 : Int) ≤ (m : Int) := Int.natCast_nonneg m
                  have m1 : (m : Int) < 8 := by omega
                  have hdm : decide ((m : Int) < 8) = true := decide_eq_true m1
                  obtain ⟨vj, hvj⟩ : ∃ x, x = v.l.getD m 0 := ⟨_, rfl⟩
                  obtain ⟨uj, huj⟩ : ∃ x, x = u.l.getD m 0 := ⟨_, rfl⟩
                  have HA := Aside0.mk (addTo_set v u m hlm)
                  rw [← hvj, ← huj] at HA
                  have cH : wr.cell? ⟨gh, m, none⟩ = some (.int .u32 vj) := by
                    rw [blk_cell G.out m, hvj]
                    exact nums_at? _ _ _ _ (addTo_at v u m hlm)
                  have cX : wr.cell? ⟨gv, m, none⟩ = some (.int .u32 uj) := by rw [huj]; exact K3.out m hlm
                  have zH := blk_frozen G.out m
                  clear hvj huj
                  go_wp2
                  go_region
                  all_goals go_wp2
                  go_roundw
                  case rel =>
                    refine ⟨m + 1, by omega, by go_num, ⟨?_⟩, ⟨fun q hq => ?_⟩, ⟨fun k hk hne => ?_⟩, ⟨BG.out.drew.setCell (p := ⟨gh, m, none⟩) (Nat.le_refl _) _⟩, ⟨by simp; exact SZ.out⟩⟩
                    · rw [← HA.out, ← nums_set]
                      exact blk_set (blk_drew G.out) m _
                    · show (World.setCell wr _ _).cell? _ = _
                      rw [World.cell?_setCell_other _ _ _ _ (by have := K1.out; have := HLT.out; simp <;> omega)]
                      exact K3.out q hq
                    · exact (Below.heap_setCell _ _ _ k (by simpa using hne)).trans (OT.out k hk hne)
                  case measure => simp [intOf]; omega
                · have hdm : decide ((m : Int) < 8) = false := decide_eq_false (by omega)
                  have e8 : addTo v u m = (Sha.turn kk (Sha.sched b 64) v).l := by
                    obtain rfl : m = 8 := by omega
                    rw [HU.out]; rfl
                  rw [e8] at G
                  clear e8
                  have FIN : Aside0 (sblockPost gh (Sha.turn kk (Sha.sched b 64) v).l W (.returned (.tuple #[])) wr) := ⟨⟨rfl, G.out, OT.out, BG.out, SZ.out⟩⟩
                  go_wp2
                  go_end0
                  exact FIN.out

end Go.Proofs.Ytlfpogbonmddmaa.P

/- Laid by a program of this session: of Pt20, Peq, PmarkB, Phm, Phk, Psk, Penc what this law uses. -/
import Derived.Test.YtlfpogbonmddmaaZSlM9
import Derived.Test.YtlfpogbonmddmaaZSlPt9
import Derived.Test.YtlfpogbonmddmaaZSlM23
import Derived.Test.YtlfpogbonmddmaaZSlPt19
import Derived.Test.YtlfpogbonmddmaaZSlPt8
import Derived.Test.YtlfpogbonmddmaaZSlM19
import Derived.Test.YtlfpogbonmddmaaZSlPt2
import Derived.Test.YtlfpogbonmddmaaZSlPt3
import Derived.Test.YtlfpogbonmddmaaZSlPt7
import Derived.Test.YtlfpogbonmddmaaZSlPt4
namespace Go.Proofs.Ytlfpogbonmddmaa.P
open Go.RowKit Go.Proofs.YtlfpogbonmddmaaW.PrintWords Go.Proofs.YtlfpogbonmddmaaW.PrintLast Go.Proofs.YtlfpogbonmddmaaW.PrintMore
attribute [local go_sem] min2_int min_two
set_option linter.unusedVariables false
set_option linter.unusedSimpArgs false
def spec_SlotBytes.j0 : Nat → ByteArray → Int → Bool → Int → ByteArray → Option (List Int × Int)
  | 0, _, _, _, _, _ => none
  | k + 1, x0, x1, x19, x431000, x431001 => if x19 = true then (some ((([] : List Int)), 1)) else ((spec_l01In.f x1 0 1).bind fun t438 => (if t438 = true then ((spec_l06Bytes.f x0 x1 x431000 x431001).bind fun t439 => (some (t439, 0))) else (some ((([] : List Int)), 4))))
def spec_SlotBytes.f (k : Nat) (a0 : ByteArray) (a1 : Int) (a2_0 : Int) (a2_1 : ByteArray) : Option (List Int × Int) := if (a0.size : Int) > 65536 then (some ((([] : List Int)), 2)) else (if (a0.size : Int) = 32 then ((spec_SlotOK.f a2_0 a2_1).bind fun t434 => (spec_SlotBytes.j0 k a0 a1 (!t434) a2_0 a2_1)) else (spec_SlotBytes.j0 k a0 a1 true a2_0 a2_1))
set_option maxHeartbeats 8000000 in
set_option maxRecDepth 100000 in
theorem spec_SlotBytes.calls (k : Nat) (a0 : ByteArray) (a1 : Int) (a2_0 : Int) (a2_1 : ByteArray) (r1 : List Int) (r2 : Int) (w : World) (h : spec_SlotBytes.f k a0 a1 a2_0 a2_1 = some (r1, r2)) :
    Calls Try.prog 31 #[.string a0, .int .i64 a1, .agg #[.int .i64 a2_0, .string a2_1]] w fun e w' => ∃ v0_ : Value, e = .returned (.tuple #[v0_, .int .i64 r2]) ∧ Kd.R (Kd.int .u8) 5 w' w.heap.size (fun _ => True) v0_ r1 ∧ Below w.heap.size w w' := by
  have hu40 := Try.underlying40
  have HB := Aside0.mk (Below.refl w.heap.size w)
  have H : (if (a0.size : Int) > 65536 then (some ((([] : List Int)), 2)) else (if (a0.size : Int) = 32 then ((spec_SlotOK.f a2_0 a2_1).bind fun t434 => (spec_SlotBytes.j0 k a0 a1 (!t434) a2_0 a2_1)) else (spec_SlotBytes.j0 k a0 a1 true a2_0 a2_1))) = some (r1, r2) := h
  clear h
  by_cases c4 : (a0.size : Int) > 65536
  · rw [if_pos c4] at H
    have c4b0 : decide (65536 < (a0.size : Int)) = true := decide_eq_true c4
    have c4b1 : decide (65536 < a0.size) = true := decide_eq_true (by omega)
    clear c4
    obtain ⟨y431, hy431⟩ : ∃ y_ : List Int, y_ = (([] : List Int)) := ⟨_, rfl⟩
    replace H : (some (y431, 2)) = some (r1, r2) := by first | (rw [hy431]; with_reducible exact H) | (have H2_ := (Option.bind_some _ _).symm.trans H; rw [hy431]; with_reducible exact H2_) | (have H2_ := (Option.bind_some _ _).symm.trans H; with_reducible exact H2_) | with_reducible exact H | (rw [hy431]; exact H) | exact H
    have Ny431 := Aside0.mk hy431
    clear hy431
    simp only [Option.some.injEq, Prod.mk.injEq] at H
    obtain ⟨rfl, rfl⟩ := H
    go_enter Try.func31, Try.ntmps31
    go_wp2_with (first | ((with_reducible refine gate_dst (N := 5) rfl ?_); refine box_event ?hg (N := 5) ?hd (cs := #[.int .i64 a2_0, .string a2_1]) (t := 40) ?hr ?_; (case hd => rfl); (case hg => rfl); (case hr => first | (go_simp; done) | (go_simp; rfl)); intro gb430 hg w5 hbox hb; have n0_ := Aside0.mk (below_step (by repeat (first | (with_reducible first | exact HB.out | apply below_alloc | apply pw_below_drewN | apply below_drew1) | exact HB.out)) hb); have n1_ := Aside0.mk (hbox); have n2_ := Aside0.mk ((by rw [hg]; exact (below_size (by repeat (first | (with_reducible first | exact HB.out | apply below_alloc | apply pw_below_drewN | apply below_drew1) | exact HB.out))) : w.heap.size ≤ gb430)); have n3_ := Aside0.mk ((by rw [hg]; exact (below_size (by repeat (first | (with_reducible first | exact HB.out | apply below_alloc | apply pw_below_drewN | apply below_drew1) | exact HB.out))) : w.heap.size ≤ gb430)); clear HB; have HB := n0_; have BK430 := n1_; have GW430 := n2_; have GE430 := n3_; clear n0_ n1_ n2_ n3_; clear hb hbox hg) | ((with_reducible refine gate_dst (N := 11) rfl ?_); refine Kd.R_lit (Kd.int .u8) _ 5 ?hg (N := 11) ?hd (xs := ([] : List Int)) (inner := []) (ok := fun _ => True) (okp := fun _ => True) ?hr ?hp (fun _ hk => hk) trivial (Below.refl _ _) (Nat.le_refl _) (by simp) ?_; (case hd => rfl); (case hg => rfl); (case hr => first | (go_simp; done) | (go_simp; rfl)); (case hp => exact (Reps.none _ _)); intro v432 w6 ho7 hb hg_ hnew_; clear hg_ hnew_; (first | rw [← Ny431.out] at ho7 | (simp only [Int.reduceToNat] at ho7; rw [← Ny431.out] at ho7)); have n0_ := Aside0.mk (Kd.R_lower ho7 (below_size (by repeat (first | (with_reducible first | exact HB.out | apply below_alloc | apply pw_below_drewN | apply below_drew1 | refine below_set ?_ GE430.out) | exact HB.out)))); have n1_ := Aside0.mk (blk_below (g := gb430) (o := .cells #[.int .i64 a2_0, .string a2_1] 40 (0, 0)) (by (with_reducible repeat (first | refine blk_drewN ?_ _ | refine blk_drew ?_ | refine blk_alloc ?_ _)); exact BK430.out) hb); have n2_ := Aside0.mk (below_step (by repeat (first | (with_reducible first | exact HB.out | apply below_alloc | apply pw_below_drewN | apply below_drew1 | refine below_set ?_ GE430.out) | exact HB.out)) hb); clear BK430; clear HB; have HO433 := n0_; have BK430 := n1_; have HB := n2_; clear n0_ n1_ n2_; clear hb ho7))
    go_ret2
    exact ⟨_, by first | rfl | (simp [errW_none, errW_some] <;> rfl) | (simp [*, errW_none, errW_some] <;> rfl), by (with_reducible repeat (first | apply Kd.R_alloc | apply Kd.R_drewN | apply Kd.R_drew)); exact HO433.out, by repeat (first | (with_reducible first | exact HB.out | apply below_alloc | apply pw_below_drewN | apply below_drew1 | refine below_set ?_ GE430.out) | exact HB.out)⟩
  · rw [if_neg c4] at H
    have c4b0 : decide (65536 < (a0.size : Int)) = false := decide_eq_false c4
    have c4b1 : decide (65536 < a0.size) = false := decide_eq_false (by omega)
    clear c4
    have HC8 := Aside0.mk H
    clear H
    go_enter Try.func31, Try.ntmps31
    go_upto_region 3 with (first | ((with_reducible refine gate_dst (N := 5) rfl ?_); refine box_event ?hg (N := 5) ?hd (cs := #[.int .i64 a2_0, .string a2_1]) (t := 40) ?hr ?_; (case hd => rfl); (case hg => rfl); (case hr => first | (go_simp; done) | (go_simp; rfl)); intro gb430 hg w9 hbox hb; have n0_ := Aside0.mk (below_step (by repeat (first | (with_reducible first | exact HB.out | apply below_alloc | apply pw_below_drewN | apply below_drew1) | exact HB.out)) hb); have n1_ := Aside0.mk (hbox); have n2_ := Aside0.mk ((by rw [hg]; exact (below_size (by repeat (first | (with_reducible first | exact HB.out | apply below_alloc | apply pw_below_drewN | apply below_drew1) | exact HB.out))) : w.heap.size ≤ gb430)); have n3_ := Aside0.mk ((by rw [hg]; exact (below_size (by repeat (first | (with_reducible first | exact HB.out | apply below_alloc | apply pw_below_drewN | apply below_drew1) | exact HB.out))) : w.heap.size ≤ gb430)); clear HB; have HB := n0_; have BK430 := n1_; have GW430 := n2_; have GE430 := n3_; clear n0_ n1_ n2_ n3_; clear hb hbox hg))
    (try simp only [Act.put, List.setIfInBounds_toArray, List.set_cons_zero, List.set_cons_succ])
    go_cut [19] (fun v19 wc => ∃ (kq : Nat) (x19_7 : Bool), v19 = .bool x19_7 ∧ Aside0 (spec_SlotBytes.j0 kq a0 a1 x19_7 a2_0 a2_1 = some (r1, r2)) ∧ Aside0 (kq ≤ k) ∧ Aside0 (wc.heap[gb430]? = some (.cells #[.int .i64 a2_0, .string a2_1] 40 (0, 0))) ∧ Aside0 (Below w.heap.size w wc))
    case first =>
      have H := HC8.out
      clear HC8
      by_cases c10 : (a0.size : Int) = 32
      · rw [if_pos c10] at H
        have c10b0 : ((a0.size : Int) == 32) = true := beq_iff_eq.mpr c10
        have c10b1 : ((a0.size : Int) != 32) = false := bne_eq_false_iff_eq.mpr c10
        clear c10
        (first | rw [c10b0] | (simp only [i64_w, i32_w]; rw [c10b0]) | skip)
        replace H := Option.bind_eq_some_iff.mp H
        obtain ⟨t434, A110, H⟩ := H
        replace H : (spec_SlotBytes.j0 k a0 a1 (!t434) a2_0 a2_1) = some (r1, r2) := H
        have A11 := Aside0.mk A110
        clear A110
        have H' := Aside0.mk H
        clear H
        have hcz12_0 : w9.cell? ⟨gb430, 0, none⟩ = some (.int .i64 a2_0) := (blk_cell BK430.out 0).trans rfl
        have hcz12_1 : w9.cell? ⟨gb430, 1, none⟩ = some (.string a2_1) := (blk_cell BK430.out 1).trans rfl
        have hfz12_0 := blk_frozen BK430.out 0
        have hfz12_1 := blk_frozen BK430.out 1
        go_wp2_with (first | (go_at_call 63; (with_reducible refine (spec_SlotOK.calls a2_0 a2_1 t434 _ A11.out).mono ?_); rintro e w13 ⟨rfl, hb⟩; have n0_ := Aside0.mk (blk_below (g := gb430) (o := .cells #[.int .i64 a2_0, .string a2_1] 40 (0, 0)) (by (with_reducible repeat (first | refine blk_drewN ?_ _ | refine blk_drew ?_ | refine blk_alloc ?_ _)); exact BK430.out) hb); have n1_ := Aside0.mk (below_step (by repeat (first | (with_reducible first | exact HB.out | apply below_alloc | apply pw_below_drewN | apply below_drew1 | refine below_set ?_ GE430.out) | exact HB.out)) hb); clear BK430; clear HB; have BK430 := n0_; have HB := n1_; clear n0_ n1_; (try clear hb); (try clear hb2); (try clear hk); (try clear hi)))
        go_meet
        case rel => exact ⟨_, (!t434), (by first | rfl | (simp; done) | (simp [*]; done)), H', ⟨by first | omega | exact Nat.le_refl _⟩, ⟨by (with_reducible repeat (first | refine blk_drewN ?_ _ | refine blk_drew ?_ | refine blk_alloc ?_ _)); exact BK430.out⟩, ⟨by repeat (first | (with_reducible first | exact HB.out | apply below_alloc | apply pw_below_drewN | apply below_drew1 | refine below_set ?_ GE430.out) | exact HB.out)⟩⟩
      · rw [if_neg c10] at H
        have c10b0 : ((a0.size : Int) == 32) = false := beq_eq_false_iff_ne.mpr c10
        have c10b1 : ((a0.size : Int) != 32) = true := bne_iff_ne.mpr c10
        (first | rw [c10b0] | (simp only [i64_w, i32_w]; rw [c10b0]) | skip)
        have H' := Aside0.mk H
        clear H
        go_wp2
        go_meet
        case rel => exact ⟨_, (true), (by first | rfl | (simp; done) | (simp [*]; done)), H', ⟨by first | omega | exact Nat.le_refl _⟩, ⟨by (with_reducible repeat (first | refine blk_drewN ?_ _ | refine blk_drew ?_ | refine blk_alloc ?_ _)); exact BK430.out⟩, ⟨by repeat (first | (with_reducible first | exact HB.out | apply below_alloc | apply pw_below_drewN | apply below_drew1 | refine below_set ?_ GE430.out) | exact HB.out)⟩⟩
    case rest =>
      clear HC8
      try clear c1
      try clear p2
      try clear c3
      try clear c4
      try clear c4b0
      try clear c4b1
      try clear c10
      try clear c10b0
      try clear c10b1
      try clear hcz12_0
      try clear hcz12_1
      try clear hfz12_0
      try clear hfz12_1
      obtain ⟨kq, x19_7, rfl, HA, HJ7, BK430, HB⟩ := hcut
      cases kq with
      | zero => exact absurd HA.out (by simp [spec_SlotBytes.j0])
      | succ kj7 =>
        have H := HA.out
        clear HA
        simp only [spec_SlotBytes.j0] at H
        by_cases c14 : x19_7 = true
        · subst c14
          have H1 : (some ((([] : List Int)), 1)) = some (r1, r2) := by rw [if_pos rfl] at H; exact H
          clear H
          have H := H1
          clear H1
          obtain ⟨y435, hy435⟩ : ∃ y_ : List Int, y_ = (([] : List Int)) := ⟨_, rfl⟩
          replace H : (some (y435, 1)) = some (r1, r2) := by first | (rw [hy435]; with_reducible exact H) | (have H2_ := (Option.bind_some _ _).symm.trans H; rw [hy435]; with_reducible exact H2_) | (have H2_ := (Option.bind_some _ _).symm.trans H; with_reducible exact H2_) | with_reducible exact H | (rw [hy435]; exact H) | exact H
          have Ny435 := Aside0.mk hy435
          clear hy435
          simp only [Option.some.injEq, Prod.mk.injEq] at H
          obtain ⟨rfl, rfl⟩ := H
          go_wp2_with (first | ((with_reducible refine gate_dst (N := 20) rfl ?_); refine Kd.R_lit (Kd.int .u8) _ 5 ?hg (N := 20) ?hd (xs := ([] : List Int)) (inner := []) (ok := fun _ => True) (okp := fun _ => True) ?hr ?hp (fun _ hk => hk) trivial (Below.refl _ _) (Nat.le_refl _) (by simp) ?_; (case hd => rfl); (case hg => rfl); (case hr => first | (go_simp; done) | (go_simp; rfl)); (case hp => exact (Reps.none _ _)); intro v436 w15 ho16 hb hg_ hnew_; clear hg_ hnew_; (first | rw [← Ny435.out] at ho16 | (simp only [Int.reduceToNat] at ho16; rw [← Ny435.out] at ho16)); have n0_ := Aside0.mk (Kd.R_lower ho16 (below_size (by repeat (first | (with_reducible first | exact HB.out | apply below_alloc | apply pw_below_drewN | apply below_drew1 | refine below_set ?_ GE430.out) | exact HB.out)))); have n1_ := Aside0.mk (blk_below (g := gb430) (o := .cells #[.int .i64 a2_0, .string a2_1] 40 (0, 0)) (by (with_reducible repeat (first | refine blk_drewN ?_ _ | refine blk_drew ?_ | refine blk_alloc ?_ _)); exact BK430.out) hb); have n2_ := Aside0.mk (below_step (by repeat (first | (with_reducible first | exact HB.out | apply below_alloc | apply pw_below_drewN | apply below_drew1 | refine below_set ?_ GE430.out) | exact HB.out)) hb); clear BK430; clear HB; have HO437 := n0_; have BK430 := n1_; have HB := n2_; clear n0_ n1_ n2_; clear hb ho16))
          go_ret2
          exact ⟨_, by first | rfl | (simp [errW_none, errW_some] <;> rfl) | (simp [*, errW_none, errW_some] <;> rfl), by (with_reducible repeat (first | apply Kd.R_alloc | apply Kd.R_drewN | apply Kd.R_drew)); exact HO437.out, by repeat (first | (with_reducible first | exact HB.out | apply below_alloc | apply pw_below_drewN | apply below_drew1 | refine below_set ?_ GE430.out) | exact HB.out)⟩
        · replace c14 := Bool.eq_false_iff.mpr c14
          subst c14
          have H1 : ((spec_l01In.f a1 0 1).bind fun t438 => (if t438 = true then ((spec_l06Bytes.f a0 a1 a2_0 a2_1).bind fun t439 => (some (t439, 0))) else (some ((([] : List Int)), 4)))) = some (r1, r2) := by rw [if_neg (show ¬ (false = true) by decide)] at H; exact H
          clear H
          have H := H1
          clear H1
          replace H := Option.bind_eq_some_iff.mp H
          obtain ⟨t438, A170, H⟩ := H
          replace H : (if t438 = true then ((spec_l06Bytes.f a0 a1 a2_0 a2_1).bind fun t439 => (some (t439, 0))) else (some ((([] : List Int)), 4))) = some (r1, r2) := H
          have A17 := Aside0.mk A170
          clear A170
          by_cases c18 : t438 = true
          · subst c18
            have H1 : ((spec_l06Bytes.f a0 a1 a2_0 a2_1).bind fun t439 => (some (t439, 0))) = some (r1, r2) := by rw [if_pos rfl] at H; exact H
            clear H
            have H := H1
            clear H1
            replace H := Option.bind_eq_some_iff.mp H
            obtain ⟨t439, A190, H⟩ := H
            replace H : (some (t439, 0)) = some (r1, r2) := H
            have A19 := Aside0.mk A190
            clear A190
            simp only [Option.some.injEq, Prod.mk.injEq] at H
            obtain ⟨rfl, rfl⟩ := H
            go_wp2_with (first | ((with_reducible refine gate_callee (f := 57) rfl ?_); refine goesL_ (some 22) rfl rfl Try.func57 (by kernel_rfl) rfl #[.int .i64 a1, .int .i64 0, .int .i64 1] rfl (by (try simp only [List.map_toArray, List.map_cons, List.map_nil]); first | done | rfl | (simp only [List.length_drop, List.length_take]; rfl)) ?_; (with_reducible refine (spec_l01In.calls a1 0 1 true _ A17.out).mono ?_); rintro e w' ⟨rfl, ⟨nd, rfl⟩⟩; refine ⟨_, rfl, ?_⟩; have hcz20_0 : wc.cell? ⟨gb430, 0, none⟩ = some (.int .i64 a2_0) := (blk_cell BK430.out 0).trans rfl; have hcz20_1 : wc.cell? ⟨gb430, 1, none⟩ = some (.string a2_1) := (blk_cell BK430.out 1).trans rfl; have hfz20_0 := blk_frozen BK430.out 0; have hfz20_1 := blk_frozen BK430.out 1) | ((with_reducible refine gate_callee (f := 64) rfl ?_); refine goesL_ (some 28) rfl rfl Try.func64 (by kernel_rfl) rfl #[.string a0, .int .i64 a1, .agg #[.int .i64 a2_0, .string a2_1]] rfl (by (try simp only [List.map_toArray, List.map_cons, List.map_nil]); first | done | rfl | (simp only [List.length_drop, List.length_take]; rfl)) ?_; (with_reducible refine (spec_l06Bytes.calls a0 a1 a2_0 a2_1 t439 _ A19.out).mono ?_); rintro e w21 ⟨v440, rfl, ho0, hb⟩; refine ⟨_, rfl, ?_⟩; have n0_ := Aside0.mk (Kd.R_lower ho0 (below_size (by repeat (first | (with_reducible first | exact HB.out | apply below_alloc | apply pw_below_drewN | apply below_drew1 | refine below_set ?_ GE430.out) | exact HB.out)))); have n1_ := Aside0.mk (blk_below (g := gb430) (o := .cells #[.int .i64 a2_0, .string a2_1] 40 (0, 0)) (by (with_reducible repeat (first | refine blk_drewN ?_ _ | refine blk_drew ?_ | refine blk_alloc ?_ _)); exact BK430.out) hb); have n2_ := Aside0.mk (below_step (by repeat (first | (with_reducible first | exact HB.out | apply below_alloc | apply pw_below_drewN | apply below_drew1 | refine below_set ?_ GE430.out) | exact HB.out)) hb); clear BK430; clear HB; have HO441 := n0_; have BK430 := n1_; have HB := n2_; clear n0_ n1_ n2_; (try clear hb); (try clear hb2); (try clear hk); (try clear hi); (try clear ho0)))
            go_ret2
            exact ⟨_, by first | rfl | (simp [errW_none, errW_some] <;> rfl) | (simp [*, errW_none, errW_some] <;> rfl), by (with_reducible repeat (first | apply Kd.R_alloc | apply Kd.R_drewN | apply Kd.R_drew)); exact HO441.out, by repeat (first | (with_reducible first | exact HB.out | apply below_alloc | apply pw_below_drewN | apply below_drew1 | refine below_set ?_ GE430.out) | exact HB.out)⟩
          · replace c18 := Bool.eq_false_iff.mpr c18
            subst c18
            have H1 : (some ((([] : List Int)), 4)) = some (r1, r2) := by rw [if_neg (show ¬ (false = true) by decide)] at H; exact H
            clear H
            have H := H1
            clear H1
            obtain ⟨y442, hy442⟩ : ∃ y_ : List Int, y_ = (([] : List Int)) := ⟨_, rfl⟩
            replace H : (some (y442, 4)) = some (r1, r2) := by first | (rw [hy442]; with_reducible exact H) | (have H2_ := (Option.bind_some _ _).symm.trans H; rw [hy442]; with_reducible exact H2_) | (have H2_ := (Option.bind_some _ _).symm.trans H; with_reducible exact H2_) | with_reducible exact H | (rw [hy442]; exact H) | exact H
            have Ny442 := Aside0.mk hy442
            clear hy442
            simp only [Option.some.injEq, Prod.mk.injEq] at H
            obtain ⟨rfl, rfl⟩ := H
            go_wp2_with (first | ((with_reducible refine gate_callee (f := 57) rfl ?_); refine goesL_ (some 22) rfl rfl Try.func57 (by kernel_rfl) rfl #[.int .i64 a1, .int .i64 0, .int .i64 1] rfl (by (try simp only [List.map_toArray, List.map_cons, List.map_nil]); first | done | rfl | (simp only [List.length_drop, List.length_take]; rfl)) ?_; (with_reducible refine (spec_l01In.calls a1 0 1 false _ A17.out).mono ?_); rintro e w' ⟨rfl, ⟨nd, rfl⟩⟩; refine ⟨_, rfl, ?_⟩) | ((with_reducible refine gate_dst (N := 24) rfl ?_); refine Kd.R_lit (Kd.int .u8) _ 5 ?hg (N := 24) ?hd (xs := ([] : List Int)) (inner := []) (ok := fun _ => True) (okp := fun _ => True) ?hr ?hp (fun _ hk => hk) trivial (Below.refl _ _) (Nat.le_refl _) (by simp) ?_; (case hd => rfl); (case hg => rfl); (case hr => first | (go_simp; done) | (go_simp; rfl)); (case hp => exact (Reps.none _ _)); intro v443 w22 ho23 hb hg_ hnew_; clear hg_ hnew_; (first | rw [← Ny442.out] at ho23 | (simp only [Int.reduceToNat] at ho23; rw [← Ny442.out] at ho23)); have n0_ := Aside0.mk (Kd.R_lower ho23 (below_size (by repeat (first | (with_reducible first | exact HB.out | apply below_alloc | apply pw_below_drewN | apply below_drew1 | refine below_set ?_ GE430.out) | exact HB.out)))); have n1_ := Aside0.mk (blk_below (g := gb430) (o := .cells #[.int .i64 a2_0, .string a2_1] 40 (0, 0)) (by (with_reducible repeat (first | refine blk_drewN ?_ _ | refine blk_drew ?_ | refine blk_alloc ?_ _)); exact BK430.out) hb); have n2_ := Aside0.mk (below_step (by repeat (first | (with_reducible first | exact HB.out | apply below_alloc | apply pw_below_drewN | apply below_drew1 | refine below_set ?_ GE430.out) | exact HB.out)) hb); clear BK430; clear HB; have HO444 := n0_; have BK430 := n1_; have HB := n2_; clear n0_ n1_ n2_; clear hb ho23))
            go_ret2
            exact ⟨_, by first | rfl | (simp [errW_none, errW_some] <;> rfl) | (simp [*, errW_none, errW_some] <;> rfl), by (with_reducible repeat (first | apply Kd.R_alloc | apply Kd.R_drewN | apply Kd.R_drew)); exact HO444.out, by repeat (first | (with_reducible first | exact HB.out | apply below_alloc | apply pw_below_drewN | apply below_drew1 | refine below_set ?_ GE430.out) | exact HB.out)⟩
def laws_toSlot.f (a0_0 : Int) (a0_1 : ByteArray) : Option (Int × ByteArray) := some (a0_0, a0_1)
set_option maxHeartbeats 8000000 in
set_option maxRecDepth 100000 in
theorem laws_toSlot.calls (a0_0 : Int) (a0_1 : ByteArray) (r1 : Int) (r2 : ByteArray) (w : World) (h : laws_toSlot.f a0_0 a0_1 = some (r1, r2)) :
    Calls Try.prog 32 #[.agg #[.int .i64 a0_0, .string a0_1]] w fun e w' => e = .returned (.agg #[.int .i64 r1, .string r2]) ∧ Below w.heap.size w w' := by
  have hu37 := Try.underlying37
  have hu40 := Try.underlying40
  have HB := Aside0.mk (Below.refl w.heap.size w)
  have H : (some (a0_0, a0_1)) = some (r1, r2) := h
  clear h
  simp only [Option.some.injEq, Prod.mk.injEq] at H
  obtain ⟨rfl, rfl⟩ := H
  go_enter Try.func32, Try.ntmps32
  go_wp2_with (first | ((with_reducible refine gate_dst (N := 1) rfl ?_); refine box_event ?hg (N := 1) ?hd (cs := #[.int .i64 a0_0, .string a0_1]) (t := 37) ?hr ?_; (case hd => rfl); (case hg => rfl); (case hr => first | (go_simp; done) | (go_simp; rfl)); intro gb445 hg w2 hbox hb; have n0_ := Aside0.mk (below_step (by repeat (first | (with_reducible first | exact HB.out | apply below_alloc | apply pw_below_drewN | apply below_drew1) | exact HB.out)) hb); have n1_ := Aside0.mk (hbox); have n2_ := Aside0.mk ((by rw [hg]; exact (below_size (by repeat (first | (with_reducible first | exact HB.out | apply below_alloc | apply pw_below_drewN | apply below_drew1) | exact HB.out))) : w.heap.size ≤ gb445)); have n3_ := Aside0.mk ((by rw [hg]; exact (below_size (by repeat (first | (with_reducible first | exact HB.out | apply below_alloc | apply pw_below_drewN | apply below_drew1) | exact HB.out))) : w.heap.size ≤ gb445)); clear HB; have HB := n0_; have BK445 := n1_; have GW445 := n2_; have GE445 := n3_; clear n0_ n1_ n2_ n3_; clear hb hbox hg) | ((with_reducible refine gate_dst (N := 2) rfl ?_); refine box_event ?hg (N := 2) ?hd (cs := #[.int .i64 0, .string (⟨#[]⟩ : ByteArray)]) (t := 40) ?hr ?_; (case hd => rfl); (case hg => rfl); (case hr => first | (go_simp; done) | (go_simp; rfl)); intro gb446 hg w3 hbox hb; have n0_ := Aside0.mk (blk_below (g := gb445) (o := .cells #[.int .i64 a0_0, .string a0_1] 37 (0, 0)) (by (with_reducible repeat (first | refine blk_drewN ?_ _ | refine blk_drew ?_ | refine blk_alloc ?_ _)); exact BK445.out) hb); have n1_ := Aside0.mk (below_step (by repeat (first | (with_reducible first | exact HB.out | apply below_alloc | apply pw_below_drewN | apply below_drew1 | refine below_set ?_ GE445.out) | exact HB.out)) hb); have n2_ := Aside0.mk (hbox); have n3_ := Aside0.mk ((by rw [hg]; exact (below_size (by repeat (first | (with_reducible first | exact HB.out | apply below_alloc | apply pw_below_drewN | apply below_drew1 | refine below_set ?_ GE445.out) | exact HB.out))) : w.heap.size ≤ gb446)); have n4_ := Aside0.mk ((by rw [hg]; exact (below_size (by repeat (first | (with_reducible first | exact HB.out | apply below_alloc | apply pw_below_drewN | apply below_drew1 | refine below_set ?_ GE445.out) | exact HB.out))) : w.heap.size ≤ gb446)); have n5_ := Aside0.mk ((by rw [hg]; exact Nat.ne_of_lt (blk_lt (g := gb445) (o := .cells #[.int .i64 a0_0, .string a0_1] 37 (0, 0)) (by (with_reducible repeat (first | refine blk_drewN ?_ _ | refine blk_drew ?_ | refine blk_alloc ?_ _)); exact BK445.out)) : gb445 ≠ gb446)); have n6_ := Aside0.mk ((by rw [hg]; exact Nat.ne_of_gt (blk_lt (g := gb445) (o := .cells #[.int .i64 a0_0, .string a0_1] 37 (0, 0)) (by (with_reducible repeat (first | refine blk_drewN ?_ _ | refine blk_drew ?_ | refine blk_alloc ?_ _)); exact BK445.out)) : gb446 ≠ gb445)); clear BK445; clear HB; have BK445 := n0_; have HB := n1_; have BK446 := n2_; have GW446 := n3_; have GE446 := n4_; have NB445_446 := n5_; have NB446_445 := n6_; clear n0_ n1_ n2_ n3_ n4_ n5_ n6_; clear hb hbox hg) | ((with_reducible refine gate_dst (N := 3) rfl ?_); refine box_event ?hg (N := 3) ?hd (cs := #[.int .i64 0, .string (⟨#[]⟩ : ByteArray)]) (t := 40) ?hr ?_; (case hd => rfl); (case hg => rfl); (case hr => first | (go_simp; done) | (go_simp; rfl)); intro gb447 hg w4 hbox hb; have n0_ := Aside0.mk (blk_below (g := gb445) (o := .cells #[.int .i64 a0_0, .string a0_1] 37 (0, 0)) (by (with_reducible repeat (first | refine blk_drewN ?_ _ | refine blk_drew ?_ | refine blk_alloc ?_ _)); exact BK445.out) hb); have n1_ := Aside0.mk (blk_below (g := gb446) (o := .cells #[.int .i64 0, .string (⟨#[]⟩ : ByteArray)] 40 (0, 0)) (by (with_reducible repeat (first | refine blk_drewN ?_ _ | refine blk_drew ?_ | refine blk_alloc ?_ _)); exact BK446.out) hb); have n2_ := Aside0.mk (below_step (by repeat (first | (with_reducible first | exact HB.out | apply below_alloc | apply pw_below_drewN | apply below_drew1 | refine below_set ?_ GE445.out | refine below_set ?_ GE446.out) | exact HB.out)) hb); have n3_ := Aside0.mk (hbox); have n4_ := Aside0.mk ((by rw [hg]; exact (below_size (by repeat (first | (with_reducible first | exact HB.out | apply below_alloc | apply pw_below_drewN | apply below_drew1 | refine below_set ?_ GE445.out | refine below_set ?_ GE446.out) | exact HB.out))) : w.heap.size ≤ gb447)); have n5_ := Aside0.mk ((by rw [hg]; exact (below_size (by repeat (first | (with_reducible first | exact HB.out | apply below_alloc | apply pw_below_drewN | apply below_drew1 | refine below_set ?_ GE445.out | refine below_set ?_ GE446.out) | exact HB.out))) : w.heap.size ≤ gb447)); have n6_ := Aside0.mk ((by rw [hg]; exact Nat.ne_of_lt (blk_lt (g := gb445) (o := .cells #[.int .i64 a0_0, .string a0_1] 37 (0, 0)) (by (with_reducible repeat (first | refine blk_drewN ?_ _ | refine blk_drew ?_ | refine blk_alloc ?_ _)); exact BK445.out)) : gb445 ≠ gb447)); have n7_ := Aside0.mk ((by rw [hg]; exact Nat.ne_of_gt (blk_lt (g := gb445) (o := .cells #[.int .i64 a0_0, .string a0_1] 37 (0, 0)) (by (with_reducible repeat (first | refine blk_drewN ?_ _ | refine blk_drew ?_ | refine blk_alloc ?_ _)); exact BK445.out)) : gb447 ≠ gb445)); have n8_ := Aside0.mk ((by rw [hg]; exact Nat.ne_of_lt (blk_lt (g := gb446) (o := .cells #[.int .i64 0, .string (⟨#[]⟩ : ByteArray)] 40 (0, 0)) (by (with_reducible repeat (first | refine blk_drewN ?_ _ | refine blk_drew ?_ | refine blk_alloc ?_ _)); exact BK446.out)) : gb446 ≠ gb447)); have n9_ := Aside0.mk ((by rw [hg]; exact Nat.ne_of_gt (blk_lt (g := gb446) (o := .cells #[.int .i64 0, .string (⟨#[]⟩ : ByteArray)] 40 (0, 0)) (by (with_reducible repeat (first | refine blk_drewN ?_ _ | refine blk_drew ?_ | refine blk_alloc ?_ _)); exact BK446.out)) : gb447 ≠ gb446)); clear BK445; clear BK446; clear HB; have BK445 := n0_; have BK446 := n1_; have HB := n2_; have BK447 := n3_; have GW447 := n4_; have GE447 := n5_; have NB445_447 := n6_; have NB447_445 := n7_; have NB446_447 := n8_; have NB447_446 := n9_; clear n0_ n1_ n2_ n3_ n4_ n5_ n6_ n7_ n8_ n9_; clear hb hbox hg; have hnb5 := NB445_446.out; have hnc5 := NB446_445.out; have hnb6 := NB445_447.out; have hnc6 := NB447_445.out; have hcz7_0 : w4.cell? ⟨gb445, 0, none⟩ = some (.int .i64 a0_0) := (blk_cell BK445.out 0).trans rfl; have hcz7_1 : w4.cell? ⟨gb445, 1, none⟩ = some (.string a0_1) := (blk_cell BK445.out 1).trans rfl; have hfz7_0 := blk_frozen BK445.out 0; have hfz7_1 := blk_frozen BK445.out 1; have hnb8 := NB447_446.out; have hnc8 := NB446_447.out; have hcz9_0 : w4.cell? ⟨gb447, 0, none⟩ = some (.int .i64 0) := (blk_cell BK447.out 0).trans rfl; have hcz9_1 : w4.cell? ⟨gb447, 1, none⟩ = some (.string (⟨#[]⟩ : ByteArray)) := (blk_cell BK447.out 1).trans rfl; have hfz9_0 := blk_frozen BK447.out 0; have hfz9_1 := blk_frozen BK447.out 1; have hcz10_0 : w4.cell? ⟨gb446, 0, none⟩ = some (.int .i64 0) := (blk_cell BK446.out 0).trans rfl; have hcz10_1 : w4.cell? ⟨gb446, 1, none⟩ = some (.string (⟨#[]⟩ : ByteArray)) := (blk_cell BK446.out 1).trans rfl; have hfz10_0 := blk_frozen BK446.out 0; have hfz10_1 := blk_frozen BK446.out 1))
  refine bodyPost_ret (results_cell_row rfl _ _ gb446 40 #[.int .i64 a0_0, .string a0_1] (0, 0) _ rfl (by (with_reducible repeat (first | refine blk_drewN ?_ _ | refine blk_drew ?_ | refine blk_alloc ?_ _)); refine blk_put (cs := #[.int .i64 a0_0, .string (⟨#[]⟩ : ByteArray)]) ?_ 1 _ rfl; (with_reducible repeat (first | refine blk_drewN ?_ _ | refine blk_drew ?_ | refine blk_alloc ?_ _)); refine blk_put (cs := #[.int .i64 0, .string (⟨#[]⟩ : ByteArray)]) ?_ 0 _ rfl; (with_reducible repeat (first | refine blk_drewN ?_ _ | refine blk_drew ?_ | refine blk_alloc ?_ _)); refine blk_far ?_ NB446_447.out _; (with_reducible repeat (first | refine blk_drewN ?_ _ | refine blk_drew ?_ | refine blk_alloc ?_ _)); refine blk_far ?_ NB446_447.out _; (with_reducible repeat (first | refine blk_drewN ?_ _ | refine blk_drew ?_ | refine blk_alloc ?_ _)); exact BK446.out) Try.underlying40 rfl (by kernel_rfl)) rfl ?_
  exact ⟨by first | rfl | (simp [errW_none, errW_some] <;> rfl) | (simp [*, errW_none, errW_some] <;> rfl), by repeat (first | (with_reducible first | exact HB.out | apply below_alloc | apply pw_below_drewN | apply below_drew1 | refine below_set ?_ GE445.out | refine below_set ?_ GE446.out | refine below_set ?_ GE447.out) | exact HB.out)⟩
def impl_SlotOK.f (a0_0 : Int) (a0_1 : ByteArray) : Option (Bool) := (impl_within.f a0_0 1 4294967295).bind fun t449 => (if t449 = true then (some (decide ((a0_1.size : Int) ≤ 170))) else (some false))
set_option maxHeartbeats 8000000 in
set_option maxRecDepth 100000 in
theorem impl_SlotOK.calls (a0_0 : Int) (a0_1 : ByteArray) (r : Bool) (w : World) (h : impl_SlotOK.f a0_0 a0_1 = some r) :
    Calls Try.prog 65 #[.agg #[.int .i64 a0_0, .string a0_1]] w fun e w' => e = .returned (.bool r) ∧ Below w.heap.size w w' := by
  have hu40 := Try.underlying40
  have HB := Aside0.mk (Below.refl w.heap.size w)
  have H : ((impl_within.f a0_0 1 4294967295).bind fun t449 => (if t449 = true then (some (decide ((a0_1.size : Int) ≤ 170))) else (some false))) = some r := h
  clear h
  replace H := Option.bind_eq_some_iff.mp H
  obtain ⟨t449, A20, H⟩ := H
  replace H : (if t449 = true then (some (decide ((a0_1.size : Int) ≤ 170))) else (some false)) = some r := H
  have A2 := Aside0.mk A20
  clear A20
  by_cases c3 : t449 = true
  · subst c3
    have H1 : (some (decide ((a0_1.size : Int) ≤ 170))) = some r := by rw [if_pos rfl] at H; exact H
    clear H
    have H := H1
    clear H1
    obtain rfl := Option.some.inj H
    go_enter Try.func65, Try.ntmps65
    go_wp2_with (first | ((with_reducible refine gate_dst (N := 1) rfl ?_); (try (refine gate_guard (by rfl) ?_; dsimp only)); refine box_event ?hg (N := 1) ?hd (cs := #[.int .i64 a0_0, .string a0_1]) (t := 40) ?hr ?_; (case hd => rfl); (case hg => rfl); (case hr => first | (go_simp; done) | (go_simp; rfl)); intro gb448 hg w4 hbox hb; have n0_ := Aside0.mk (below_step (by repeat (first | (with_reducible first | exact HB.out | apply below_alloc | apply pw_below_drewN | apply below_drew1) | exact HB.out)) hb); have n1_ := Aside0.mk (hbox); have n2_ := Aside0.mk ((by rw [hg]; exact (below_size (by repeat (first | (with_reducible first | exact HB.out | apply below_alloc | apply pw_below_drewN | apply below_drew1) | exact HB.out))) : w.heap.size ≤ gb448)); have n3_ := Aside0.mk ((by rw [hg]; exact (below_size (by repeat (first | (with_reducible first | exact HB.out | apply below_alloc | apply pw_below_drewN | apply below_drew1) | exact HB.out))) : w.heap.size ≤ gb448)); clear HB; have HB := n0_; have BK448 := n1_; have GW448 := n2_; have GE448 := n3_; clear n0_ n1_ n2_ n3_; clear hb hbox hg; have hcz5_0 : w4.cell? ⟨gb448, 0, none⟩ = some (.int .i64 a0_0) := (blk_cell BK448.out 0).trans rfl; have hcz5_1 : w4.cell? ⟨gb448, 1, none⟩ = some (.string a0_1) := (blk_cell BK448.out 1).trans rfl; have hfz5_0 := blk_frozen BK448.out 0; have hfz5_1 := blk_frozen BK448.out 1) | ((with_reducible refine gate_callee (f := 73) rfl ?_); refine goesL_ (some 5) rfl rfl Try.func73 (by kernel_rfl) rfl #[.int .i64 a0_0, .int .i64 1, .int .i64 4294967295] rfl (by (try simp only [List.map_toArray, List.map_cons, List.map_nil]); first | done | rfl | (simp only [List.length_drop, List.length_take]; rfl)) ?_; (with_reducible refine (impl_within.calls a0_0 1 4294967295 true _ A2.out).mono ?_); rintro e w' ⟨rfl, ⟨nd, rfl⟩⟩; refine ⟨_, rfl, ?_⟩))
    go_ret
    exact ⟨by first | rfl | (simp [errW_none, errW_some] <;> rfl) | (simp [*, errW_none, errW_some] <;> rfl), by repeat (first | (with_reducible first | exact HB.out | apply below_alloc | apply pw_below_drewN | apply below_drew1 | refine below_set ?_ GE448.out) | exact HB.out)⟩
  · replace c3 := Bool.eq_false_iff.mpr c3
    subst c3
    have H1 : (some false) = some r := by rw [if_neg (show ¬ (false = true) by decide)] at H; exact H
    clear H
    have H := H1
    clear H1
    obtain rfl := Option.some.inj H
    go_enter Try.func65, Try.ntmps65
    go_wp2_with (first | ((with_reducible refine gate_dst (N := 1) rfl ?_); (try (refine gate_guard (by rfl) ?_; dsimp only)); refine box_event ?hg (N := 1) ?hd (cs := #[.int .i64 a0_0, .string a0_1]) (t := 40) ?hr ?_; (case hd => rfl); (case hg => rfl); (case hr => first | (go_simp; done) | (go_simp; rfl)); intro gb448 hg w6 hbox hb; have n0_ := Aside0.mk (below_step (by repeat (first | (with_reducible first | exact HB.out | apply below_alloc | apply pw_below_drewN | apply below_drew1) | exact HB.out)) hb); have n1_ := Aside0.mk (hbox); have n2_ := Aside0.mk ((by rw [hg]; exact (below_size (by repeat (first | (with_reducible first | exact HB.out | apply below_alloc | apply pw_below_drewN | apply below_drew1) | exact HB.out))) : w.heap.size ≤ gb448)); have n3_ := Aside0.mk ((by rw [hg]; exact (below_size (by repeat (first | (with_reducible first | exact HB.out | apply below_alloc | apply pw_below_drewN | apply below_drew1) | exact HB.out))) : w.heap.size ≤ gb448)); clear HB; have HB := n0_; have BK448 := n1_; have GW448 := n2_; have GE448 := n3_; clear n0_ n1_ n2_ n3_; clear hb hbox hg; have hcz7_0 : w6.cell? ⟨gb448, 0, none⟩ = some (.int .i64 a0_0) := (blk_cell BK448.out 0).trans rfl; have hcz7_1 : w6.cell? ⟨gb448, 1, none⟩ = some (.string a0_1) := (blk_cell BK448.out 1).trans rfl; have hfz7_0 := blk_frozen BK448.out 0; have hfz7_1 := blk_frozen BK448.out 1) | ((with_reducible refine gate_callee (f := 73) rfl ?_); refine goesL_ (some 5) rfl rfl Try.func73 (by kernel_rfl) rfl #[.int .i64 a0_0, .int .i64 1, .int .i64 4294967295] rfl (by (try simp only [List.map_toArray, List.map_cons, List.map_nil]); first | done | rfl | (simp only [List.length_drop, List.length_take]; rfl)) ?_; (with_reducible refine (impl_within.calls a0_0 1 4294967295 false _ A2.out).mono ?_); rintro e w' ⟨rfl, ⟨nd, rfl⟩⟩; refine ⟨_, rfl, ?_⟩))
    go_ret
    exact ⟨by first | rfl | (simp [errW_none, errW_some] <;> rfl) | (simp [*, errW_none, errW_some] <;> rfl), by repeat (first | (with_reducible first | exact HB.out | apply below_alloc | apply pw_below_drewN | apply below_drew1 | refine below_set ?_ GE448.out) | exact HB.out)⟩
def impl_isPlace.f (a0 : Int) : Option (Bool) := (impl_within.f a0 0 1).bind fun t450 => (some t450)
set_option maxHeartbeats 8000000 in
set_option maxRecDepth 100000 in
theorem impl_isPlace.calls (a0 : Int) (r : Bool) (w : World) (h : impl_isPlace.f a0 = some r) :
    Calls Try.prog 66 #[.int .i64 a0] w fun e w' => e = .returned (.bool r) ∧ Drawn0 w w' := by
  have H : ((impl_within.f a0 0 1).bind fun t450 => (some t450)) = some r := h
  clear h
  replace H := Option.bind_eq_some_iff.mp H
  obtain ⟨t450, A20, H⟩ := H
  replace H : (some t450) = some r := H
  have A2 := Aside0.mk A20
  clear A20
  obtain rfl := Option.some.inj H
  go_enter Try.func66, Try.ntmps66
  go_wp2_with (first | ((with_reducible refine gate_callee (f := 73) rfl ?_); refine goesL_ (some 4) rfl rfl Try.func73 (by kernel_rfl) rfl #[.int .i64 a0, .int .i64 0, .int .i64 1] rfl (by (try simp only [List.map_toArray, List.map_cons, List.map_nil]); first | done | rfl | (simp only [List.length_drop, List.length_take]; rfl)) ?_; (with_reducible refine (impl_within.calls a0 0 1 t450 _ A2.out).mono ?_); rintro e w' ⟨rfl, ⟨nd, rfl⟩⟩; refine ⟨_, rfl, ?_⟩))
  go_ret
  exact ⟨by first | rfl | (simp; done) | (simp [*]; done), by repeat (first | exact Drawn0.refl _ | apply Drawn0.step)⟩
def impl_slotBytes.f (k : Nat) (a0 : ByteArray) (a1 : Int) (a2_0 : Int) (a2_1 : ByteArray) : Option (ByteArray) := (impl_bytesOf.f k a2_0 4).bind fun t452 => ((impl_sealNonce.f k a1 a2_0).bind fun t453 => ((impl_seal.f a0 t453 (⟨#[115, 108, 111, 116]⟩ : ByteArray) a2_1).bind fun t454 => (if t452.size + t454.size ≤ 9223372036854775807 then (some (t452 ++ t454)) else (none))))
def impl_slotBytes.T1 : Bool × List (List Nat × List Nat) := (true, [([], []), ([0], [0]), ([1], [1]), ([], []), ([], []), ([], []), ([5], [5]), ([4, 6, 2], [4, 6]), ([], []), ([8], [8]), ([3, 7, 9, 7], [3, 7, 9]), ([2, 10], [2, 10]), ([11, 10, 0, 1, 2, 3, 4, 5, 6, 7, 8, 9, 10, 11], [11])])
def impl_slotBytes.B1 : List Nat := [0, 1, 3, 0, 0, 0, 32, 119, 0, 256, 1023, 2047, 4095]
theorem impl_slotBytes.tab1 : rtab .any (opsOf Try.f67 1) = impl_slotBytes.T1 := by kernel_rfl
theorem impl_slotBytes.bits1 : waitsOk impl_slotBytes.T1.2 impl_slotBytes.B1 = true := by kernel_rfl
set_option maxHeartbeats 8000000 in
set_option maxRecDepth 100000 in
theorem impl_slotBytes.calls (k : Nat) (a0 : ByteArray) (a1 : Int) (a2_0 : Int) (a2_1 : ByteArray) (r : ByteArray) (w : World) (h : impl_slotBytes.f k a0 a1 a2_0 a2_1 = some r) :
    Calls Try.prog 67 #[.string a0, .int .i64 a1, .agg #[.int .i64 a2_0, .string a2_1]] w fun e w' => e = .returned (.string r) ∧ Below w.heap.size w w' := by
  have hu40 := Try.underlying40
  have HB := Aside0.mk (Below.refl w.heap.size w)
  have H : ((impl_bytesOf.f k a2_0 4).bind fun t452 => ((impl_sealNonce.f k a1 a2_0).bind fun t453 => ((impl_seal.f a0 t453 (⟨#[115, 108, 111, 116]⟩ : ByteArray) a2_1).bind fun t454 => (if t452.size + t454.size ≤ 9223372036854775807 then (some (t452 ++ t454)) else (none))))) = some r := h
  clear h
  replace H := Option.bind_eq_some_iff.mp H
  obtain ⟨t452, A40, H⟩ := H
  replace H : ((impl_sealNonce.f k a1 a2_0).bind fun t453 => ((impl_seal.f a0 t453 (⟨#[115, 108, 111, 116]⟩ : ByteArray) a2_1).bind fun t454 => (if t452.size + t454.size ≤ 9223372036854775807 then (some (t452 ++ t454)) else (none)))) = some r := H
  have A4 := Aside0.mk A40
  clear A40
  replace H := Option.bind_eq_some_iff.mp H
  obtain ⟨t453, A50, H⟩ := H
  replace H : ((impl_seal.f a0 t453 (⟨#[115, 108, 111, 116]⟩ : ByteArray) a2_1).bind fun t454 => (if t452.size + t454.size ≤ 9223372036854775807 then (some (t452 ++ t454)) else (none))) = some r := H
  have A5 := Aside0.mk A50
  clear A50
  replace H := Option.bind_eq_some_iff.mp H
  obtain ⟨t454, A60, H⟩ := H
  replace H : (if t452.size + t454.size ≤ 9223372036854775807 then (some (t452 ++ t454)) else (none)) = some r := H
  have A6 := Aside0.mk A60
  clear A60
  by_cases c7 : t452.size + t454.size ≤ 9223372036854775807
  · rw [if_pos c7] at H
    have c7b0 := eq_true c7
    have c7b1 : decide (t452.size + t454.size ≤ 9223372036854775807) = true := decide_eq_true c7
    try have c7b2 : (9223372036854775807 < t452.size + t454.size) = False := eq_false (Nat.not_lt.2 c7)
    obtain rfl := Option.some.inj H
    go_enter Try.func67, Try.ntmps67
    try go_wp2_with (first | ((with_reducible refine gate_dst (N := 5) rfl ?_); refine box_event ?hg (N := 5) ?hd (cs := #[.int .i64 a2_0, .string a2_1]) (t := 40) ?hr ?_; (case hd => rfl); (case hg => rfl); (case hr => first | (go_simp; done) | (go_simp; rfl)); intro gb451 hg w8 hbox hb; have n0_ := Aside0.mk (below_step (by repeat (first | (with_reducible first | exact HB.out | apply below_alloc | apply pw_below_drewN | apply below_drew1) | exact HB.out)) hb); have n1_ := Aside0.mk (hbox); have n2_ := Aside0.mk ((by rw [hg]; exact (below_size (by repeat (first | (with_reducible first | exact HB.out | apply below_alloc | apply pw_below_drewN | apply below_drew1) | exact HB.out))) : w.heap.size ≤ gb451)); have n3_ := Aside0.mk ((by rw [hg]; exact (below_size (by repeat (first | (with_reducible first | exact HB.out | apply below_alloc | apply pw_below_drewN | apply below_drew1) | exact HB.out))) : w.heap.size ≤ gb451)); clear HB; have HB := n0_; have BK451 := n1_; have GW451 := n2_; have GE451 := n3_; clear n0_ n1_ n2_ n3_; clear hb hbox hg))
    have n0_ := Aside0.mk (blk_drew BK451.out)
    have n1_ := Aside0.mk (below_drew1 HB.out)
    clear BK451
    clear HB
    have BK451 := n0_
    have HB := n1_
    clear n0_ n1_
    refine start_ (n := 13) (S := fun w' => w'.cell? ⟨gb451, 0, none⟩ = some (.int .i64 a2_0) ∧ w'.cell? ⟨gb451, 1, none⟩ = some (.string a2_1)) (ds := []) #[false, false, false, false, false, false, false, false, false, false, false, false, false] (by kernel_rfl) rfl rfl ⟨(blk_cell BK451.out 0).trans rfl, (blk_cell BK451.out 1).trans rfl⟩ (fun hHeld => ?_); refine with_tabW impl_slotBytes.tab1 impl_slotBytes.bits1 (fun HT_ HW_ => ?_)
    generalize w8.drew = w9 at BK451 HB hHeld ⊢
    refine pure_ (i := 0) (N := some 7) (v := ?_) (a' := ?_) #[true, false, false, false, false, false, false, false, false, false, false, false, false] rfl rfl (any_of HT_.out (by kernel_rfl)) (fun _ _ _ h => h) (Or.inl ⟨by rfl, ?_⟩) ?_ ?_
    rotate_left
    · intro w'
      go_simp
      with_reducible rfl
    rotate_left
    · simp only [Act.put, List.setIfInBounds_toArray, List.set_cons_zero, List.set_cons_succ, i64_w, i32_w]
      rfl
    refine pure_ (i := 3) (N := some 10) (v := ?_) (a' := ?_) #[true, false, false, true, false, false, false, false, false, false, false, false, false] rfl rfl (any_of HT_.out (by kernel_rfl)) (fun _ _ _ h => h) (Or.inl ⟨by rfl, ?_⟩) ?_ ?_
    rotate_left
    · intro w'
      go_simp
      with_reducible rfl
    rotate_left
    · simp only [Act.put, List.setIfInBounds_toArray, List.set_cons_zero, List.set_cons_succ, i64_w, i32_w]
      rfl
    refine pure_ (i := 4) (N := some 11) (v := ?_) (a' := ?_) #[true, false, false, true, true, false, false, false, false, false, false, false, false] rfl rfl (any_of HT_.out (by kernel_rfl)) (fun _ _ _ h => h) (Or.inl ⟨by rfl, ?_⟩) ?_ ?_
    rotate_left
    · intro w'
      go_simp
      with_reducible rfl
    rotate_left
    · simp only [Act.put, List.setIfInBounds_toArray, List.set_cons_zero, List.set_cons_succ, i64_w, i32_w]
      rfl
    refine pure_ (i := 5) (N := some 12) (v := ?_) (a' := ?_) #[true, false, false, true, true, true, false, false, false, false, false, false, false] rfl rfl (any_of HT_.out (by kernel_rfl)) (fun _ _ _ h => h) (Or.inl ⟨by rfl, ?_⟩) ?_ ?_
    rotate_left
    · intro w'
      go_simp
      with_reducible rfl
    rotate_left
    · simp only [Act.put, List.setIfInBounds_toArray, List.set_cons_zero, List.set_cons_succ, i64_w, i32_w]
      rfl
    refine pure_ (i := 8) (N := some 15) (v := ?_) (a' := ?_) #[true, false, false, true, true, true, false, false, true, false, false, false, false] rfl rfl (any_of HT_.out (by kernel_rfl)) (fun _ _ _ h => h) (Or.inl ⟨by rfl, ?_⟩) ?_ ?_
    rotate_left
    · intro w'
      go_simp
      with_reducible rfl
    rotate_left
    · simp only [Act.put, List.setIfInBounds_toArray, List.set_cons_zero, List.set_cons_succ, i64_w, i32_w]
      rfl
    refine take_ (i := 1) (N := some 8) (v := ?_) (a' := ?_) #[true, true, false, true, true, true, false, false, true, false, false, false, false] rfl rfl (take_ofW HT_.out HW_.out (by kernel_rfl)) (fun _ _ _ h => h) (Or.inl ⟨by rfl, ?_⟩) hHeld ?_ ?_
    rotate_left
    · rintro w' ⟨s0, s1⟩
      go_simp
      with_reducible rfl
    rotate_left
    · simp only [Act.put, List.setIfInBounds_toArray, List.set_cons_zero, List.set_cons_succ, i64_w, i32_w]
      rfl
    refine take_ (i := 6) (N := some 13) (v := ?_) (a' := ?_) #[true, true, false, true, true, true, true, false, true, false, false, false, false] rfl rfl (take_ofW HT_.out HW_.out (by kernel_rfl)) (fun _ _ _ h => h) (Or.inl ⟨by rfl, ?_⟩) hHeld ?_ ?_
    rotate_left
    · rintro w' ⟨s0, s1⟩
      go_simp
      with_reducible rfl
    rotate_left
    · simp only [Act.put, List.setIfInBounds_toArray, List.set_cons_zero, List.set_cons_succ, i64_w, i32_w]
      rfl
    refine take_ (i := 9) (N := some 16) (v := ?_) (a' := ?_) #[true, true, false, true, true, true, true, false, true, true, false, false, false] rfl rfl (take_ofW HT_.out HW_.out (by kernel_rfl)) (fun _ _ _ h => h) (Or.inl ⟨by rfl, ?_⟩) hHeld ?_ ?_
    rotate_left
    · rintro w' ⟨s0, s1⟩
      go_simp
      with_reducible rfl
    rotate_left
    · simp only [Act.put, List.setIfInBounds_toArray, List.set_cons_zero, List.set_cons_succ, i64_w, i32_w]
      rfl
    refine one_ (i := 2) (N := some 9) #[true, true, true, true, true, true, true, false, true, true, false, false, false] rfl rfl (one_of HT_.out (by kernel_rfl)) (by decide) (fun K hK => ?_)
    refine goes_ Try.func85 (by kernel_rfl) rfl #[.int .i64 a2_0, .int .i64 4] (by rfl) rfl rfl (by (try simp only [List.map_toArray, List.map_cons, List.map_nil]); first | done | rfl | (simp only [List.length_drop, List.length_take]; rfl)) ?_
    with_reducible refine (impl_bytesOf.calls k a2_0 4 t452 _ A4.out).mono ?_
    rintro e w10 ⟨rfl, hb⟩
    refine ⟨_, rfl, ?_⟩
    have n0_ := Aside0.mk (blk_below (g := gb451) (o := .cells #[.int .i64 a2_0, .string a2_1] 40 (0, 0)) (by (with_reducible repeat (first | refine blk_drewN ?_ _ | refine blk_drew ?_ | refine blk_alloc ?_ _)); exact BK451.out) hb)
    have n1_ := Aside0.mk (below_step (by repeat (first | (with_reducible first | exact HB.out | apply below_alloc | apply pw_below_drewN | apply below_drew1 | refine below_set ?_ GE451.out) | exact HB.out)) hb)
    clear BK451
    clear HB
    have BK451 := n0_
    have HB := n1_
    clear n0_ n1_
    (try clear hb)
    (try clear hb2)
    (try clear hk)
    (try clear hi)
    refine hK.out _ _ ⟨(blk_cell BK451.out 0).trans rfl, (blk_cell BK451.out 1).trans rfl⟩ (fun hHeld => ?_)
    clear hK K
    refine norm_ (a' := ?_) ?_ ?_
    rotate_left
    · show Act.put _ (some 9) _ = _
      simp only [Act.put, List.setIfInBounds_toArray, List.set_cons_zero, List.set_cons_succ, i64_w, i32_w]
      rfl
    refine one_ (i := 7) (N := some 14) #[true, true, true, true, true, true, true, true, true, true, false, false, false] rfl rfl (one_of HT_.out (by kernel_rfl)) (by decide) (fun K hK => ?_)
    refine goes_ Try.func56 (by kernel_rfl) rfl #[.int .i64 a1, .int .i64 a2_0] (by rfl) rfl rfl (by (try simp only [List.map_toArray, List.map_cons, List.map_nil]); first | done | rfl | (simp only [List.length_drop, List.length_take]; rfl)) ?_
    with_reducible refine (impl_sealNonce.calls k a1 a2_0 t453 _ A5.out).mono ?_
    rintro e w11 ⟨rfl, hb⟩
    refine ⟨_, rfl, ?_⟩
    have n0_ := Aside0.mk (blk_below (g := gb451) (o := .cells #[.int .i64 a2_0, .string a2_1] 40 (0, 0)) (by (with_reducible repeat (first | refine blk_drewN ?_ _ | refine blk_drew ?_ | refine blk_alloc ?_ _)); exact BK451.out) hb)
    have n1_ := Aside0.mk (below_step (by repeat (first | (with_reducible first | exact HB.out | apply below_alloc | apply pw_below_drewN | apply below_drew1 | refine below_set ?_ GE451.out) | exact HB.out)) hb)
    clear BK451
    clear HB
    have BK451 := n0_
    have HB := n1_
    clear n0_ n1_
    (try clear hb)
    (try clear hb2)
    (try clear hk)
    (try clear hi)
    refine hK.out _ _ ⟨(blk_cell BK451.out 0).trans rfl, (blk_cell BK451.out 1).trans rfl⟩ (fun hHeld => ?_)
    clear hK K
    refine norm_ (a' := ?_) ?_ ?_
    rotate_left
    · show Act.put _ (some 14) _ = _
      simp only [Act.put, List.setIfInBounds_toArray, List.set_cons_zero, List.set_cons_succ, i64_w, i32_w]
      rfl
    refine one_ (i := 10) (N := some 17) #[true, true, true, true, true, true, true, true, true, true, true, false, false] rfl rfl (one_of HT_.out (by kernel_rfl)) (by decide) (fun K hK => ?_)
    refine goes_ Try.func50 (by kernel_rfl) rfl #[.string a0, .string t453, .string (⟨#[115, 108, 111, 116]⟩ : ByteArray), .string a2_1] (by rfl) rfl rfl (by (try simp only [List.map_toArray, List.map_cons, List.map_nil]); first | done | rfl | (simp only [List.length_drop, List.length_take]; rfl)) ?_
    with_reducible refine (impl_seal.calls a0 t453 (⟨#[115, 108, 111, 116]⟩ : ByteArray) a2_1 t454 _ A6.out).mono ?_
    rintro e w12 ⟨rfl, hb⟩
    refine ⟨_, rfl, ?_⟩
    have n0_ := Aside0.mk (blk_below (g := gb451) (o := .cells #[.int .i64 a2_0, .string a2_1] 40 (0, 0)) (by (with_reducible repeat (first | refine blk_drewN ?_ _ | refine blk_drew ?_ | refine blk_alloc ?_ _)); exact BK451.out) hb)
    have n1_ := Aside0.mk (below_step (by repeat (first | (with_reducible first | exact HB.out | apply below_alloc | apply pw_below_drewN | apply below_drew1 | refine below_set ?_ GE451.out) | exact HB.out)) hb)
    clear BK451
    clear HB
    have BK451 := n0_
    have HB := n1_
    clear n0_ n1_
    (try clear hb)
    (try clear hb2)
    (try clear hk)
    (try clear hi)
    refine hK.out _ _ ⟨(blk_cell BK451.out 0).trans rfl, (blk_cell BK451.out 1).trans rfl⟩ (fun hHeld => ?_)
    clear hK K
    refine norm_ (a' := ?_) ?_ ?_
    rotate_left
    · show Act.put _ (some 17) _ = _
      simp only [Act.put, List.setIfInBounds_toArray, List.set_cons_zero, List.set_cons_succ, i64_w, i32_w]
      rfl
    refine pure_ (i := 11) (N := some 18) (v := ?_) (a' := ?_) #[true, true, true, true, true, true, true, true, true, true, true, true, false] rfl rfl (any_of HT_.out (by kernel_rfl)) (fun _ _ _ h => h) (Or.inl ⟨by rfl, ?_⟩) ?_ ?_
    rotate_left
    · intro w'
      go_simp
      with_reducible rfl
    rotate_left
    · simp only [Act.put, List.setIfInBounds_toArray, List.set_cons_zero, List.set_cons_succ, i64_w, i32_w]
      rfl
    refine pure_ (i := 12) (N := some 6) (v := ?_) (a' := ?_) #[true, true, true, true, true, true, true, true, true, true, true, true, true] rfl rfl (any_of HT_.out (by kernel_rfl)) (fun _ _ _ h => h) (Or.inl ⟨by rfl, ?_⟩) ?_ ?_
    rotate_left
    · intro w'
      go_simp
      with_reducible rfl
    rotate_left
    · simp only [Act.put, List.setIfInBounds_toArray, List.set_cons_zero, List.set_cons_succ, i64_w, i32_w]
      rfl
    refine done_ (done_of HT_.out (by kernel_rfl)) ?_
    try go_wp2
    go_ret
    exact ⟨by first | rfl | (simp [errW_none, errW_some] <;> rfl) | (simp [*, errW_none, errW_some] <;> rfl), by repeat (first | (with_reducible first | exact HB.out | apply below_alloc | apply pw_below_drewN | apply below_drew1 | refine below_set ?_ GE451.out) | exact HB.out)⟩
  · rw [if_neg c7] at H
    exact absurd H (by simp)
end Go.Proofs.Ytlfpogbonmddmaa.P
namespace Go.Proofs.Ytlfpogbonmddmaa.Pg
open Go.RowKit Go.Proofs.Ytlfpogbonmddmaa.P Go.Proofs.YtlfpogbonmddmaaW.PrintWords Go.Proofs.YtlfpogbonmddmaaW.PrintLast Go.Proofs.YtlfpogbonmddmaaW.PrintMore
theorem suc_int (i : Nat) (hi : i < 9223372036854775807) : wrap64 ((i : Int) + 1) = ((i + 1 : Nat) : Int) := by unfold wrap64; omega
theorem rd_nat (l : List Int) (i : Nat) (h : i < l.length) : rd l (i : Int) = l[i] := by
  simp [rd, h]
theorem eqByteS_run (a b : List Int) (hl : a.length ≤ 281474976710656) (he : a.length = b.length) (d : Nat) : ∀ (k i : Nat), i + d = a.length → (∀ j, j < i → a[j]? = b[j]?) → d < k → laws_eqByteS.l0 k a b i = some (a == b) := by
  induction d with
  | zero =>
    intro k i hi hj hk
    obtain ⟨k, rfl⟩ : ∃ m, k = m + 1 := ⟨k - 1, by omega⟩
    simp only [laws_eqByteS.l0]
    rw [if_neg (by omega)]
    have : a = b := by
      apply List.ext_getElem?
      intro j
      rcases Nat.lt_or_ge j i with h | h
      · exact hj j h
      · rw [List.getElem?_eq_none (by omega), List.getElem?_eq_none (by omega)]
    rw [this]; simp
  | succ d ih =>
    intro k i hi hj hk
    obtain ⟨k, rfl⟩ : ∃ m, k = m + 1 := ⟨k - 1, by omega⟩
    simp only [laws_eqByteS.l0]
    rw [if_pos (by omega), if_pos (by omega), if_pos (by omega), suc_int i (by omega), rd_nat a i (by omega), rd_nat b i (by omega)]
    by_cases h : a[i] = b[i]
    · rw [if_pos h]
      refine ih k (i + 1) (by omega) (fun j hj2 => ?_) (by omega)
      rcases Nat.lt_or_ge j i with h2 | h2
      · exact hj j h2
      · obtain rfl : j = i := by omega
        rw [List.getElem?_eq_getElem (by omega), List.getElem?_eq_getElem (by omega), h]
    · rw [if_neg h]
      have : ¬ a = b := by
        rintro rfl
        exact h rfl
      simp [this]
theorem eqByteS_eq (k : Nat) (a b : List Int) (hl : a.length ≤ 281474976710656) (hk : a.length < k) : laws_eqByteS.f k a b = some (a == b) := by
  unfold laws_eqByteS.f
  by_cases he : a.length = b.length
  · rw [if_pos (by omega)]
    exact eqByteS_run a b hl he a.length k 0 (by omega) (fun j h => absurd h (by omega)) hk
  · rw [if_neg (by omega)]
    have : ¬ a = b := fun h => he (by rw [h])
    simp [this]
end Go.Proofs.Ytlfpogbonmddmaa.Pg
namespace Go.Proofs.Ytlfpogbonmddmaa.Pg
open Go.RowKit Go.Proofs.Ytlfpogbonmddmaa.P Go.Proofs.YtlfpogbonmddmaaW.PrintWords Go.Proofs.YtlfpogbonmddmaaW.PrintLast Go.Proofs.YtlfpogbonmddmaaW.PrintMore
theorem cm (c : Nat) : (c : Int) % 256 = ((c % 256 : Nat) : Int) := by omega
theorem markB_run (d : Nat) : ∀ (k i c : Nat) (l : List Int), i + d = l.length → l.length < 100000000 → c + d < 900000000 → d < k →
    ∃ l', laws_markByteS.l0 k l (c : Int) (i : Int) = some (((c + d : Nat) : Int), l') ∧ l'.length = l.length ∧ (∀ j, j < i → l'[j]? = l[j]?) ∧ ∀ j, i ≤ j → j < l.length → l'[j]? = some (((c + (j - i)) % 256 : Nat) : Int) := by
  induction d with
  | zero =>
    intro k i c l hi _ _ hk
    obtain ⟨k, rfl⟩ : ∃ m, k = m + 1 := ⟨k - 1, by omega⟩
    refine ⟨l, ?_, rfl, fun _ _ => rfl, fun j h1 h2 => by omega⟩
    simp only [laws_markByteS.l0]
    rw [if_neg (by omega)]
    rfl
  | succ d ih =>
    intro k i c l hi hl hc hk
    obtain ⟨k, rfl⟩ : ∃ m, k = m + 1 := ⟨k - 1, by omega⟩
    obtain ⟨l', e, h1, h2, h3⟩ := ih k (i + 1) (c + 1) (l.set i (((c % 256 : Nat)) : Int)) (by rw [List.length_set]; omega) (by rw [List.length_set]; omega) (by omega) (by omega)
    rw [List.length_set] at h1 h3
    refine ⟨l', ?_, h1, fun j hj => ?_, fun j hj1 hj2 => ?_⟩
    · simp only [laws_markByteS.l0]
      rw [if_pos (by omega), if_pos (by omega), Int.toNat_natCast, cm c, suc_int i (by omega), suc_int c (by omega), e]
      congr 3
      omega
    · rw [h2 j (by omega), List.getElem?_set_ne (by omega)]
    · rcases Nat.eq_or_lt_of_le hj1 with e2 | e2
      · subst e2
        rw [h2 i (by omega), List.getElem?_set_self (by omega)]
        simp
      · rw [h3 j (by omega) hj2]
        congr 3
        omega
theorem heldB_run (d : Nat) : ∀ (k i c : Nat) (l : List Int), i + d = l.length → l.length < 100000000 → c + d < 900000000 → d < k → (∀ j, i ≤ j → j < l.length → l[j]? = some (((c + (j - i)) % 256 : Nat) : Int)) →
    laws_heldByteS.l0 k l (c : Int) (i : Int) = some ((c + d : Nat) : Int) := by
  induction d with
  | zero =>
    intro k i c l hi _ _ hk _
    obtain ⟨k, rfl⟩ : ∃ m, k = m + 1 := ⟨k - 1, by omega⟩
    simp only [laws_heldByteS.l0]
    rw [if_neg (by omega)]
    rfl
  | succ d ih =>
    intro k i c l hi hl hc hk hj
    obtain ⟨k, rfl⟩ : ∃ m, k = m + 1 := ⟨k - 1, by omega⟩
    have h0 := hj i (Nat.le_refl _) (by omega)
    have hr : rd l (i : Int) = ((c % 256 : Nat) : Int) := by
      simp [rd, List.getD_eq_getElem?_getD, h0]
    simp only [laws_heldByteS.l0]
    rw [if_pos (by omega), if_pos (by omega), hr, cm c, if_pos rfl, suc_int i (by omega), suc_int c (by omega),
      ih k (i + 1) (c + 1) l (by omega) hl (by omega) (by omega) (fun j h1 h2 => by
        rw [hj j (by omega) h2]
        congr 3
        omega)]
    congr 2
    omega
end Go.Proofs.Ytlfpogbonmddmaa.Pg
namespace Go.Proofs.Ytlfpogbonmddmaa.Pg
open Go.RowKit Go.Proofs.Ytlfpogbonmddmaa.P Go.Proofs.YtlfpogbonmddmaaW.PrintWords Go.Proofs.YtlfpogbonmddmaaW.PrintLast Go.Proofs.YtlfpogbonmddmaaW.PrintMore
theorem size_strOfNums (l : List Int) : (strOfNums l).size = l.length := by simp [strOfNums, ByteArray.size]
theorem hash_strOfNums (l : List Int) (hu : u8ok l) (hl : l.length ≤ 1099511627776) : impl_hash.f (strOfNums l) = some (strOfNums (Sha.shaL l)) := by
  unfold impl_hash.f
  rw [if_pos (by rw [size_strOfNums]; exact hl), bytesL_str l hu]
theorem masked_strOfNums (l : List Int) (m : Int) (hu : u8ok l) (hl : l.length ≤ 64) : impl_masked.f (strOfNums l) m = some (strOfNums (Sha.maskL l m)) := by
  unfold impl_masked.f
  rw [if_pos (by rw [size_strOfNums]; exact hl), bytesL_str l hu]
theorem hmac_j0 (k : Nat) (key b : List Int) (hu : u8ok key) (hl : key.length ≤ 64) (hb : u8ok b) (hbl : b.length ≤ 1073741824) : impl_hmac.j0 (k + 1) (strOfNums key) (strOfNums b) = some (strOfNums (Sha.shaL (Sha.maskL key 92 ++ Sha.shaL (Sha.maskL key 54 ++ b)))) := by
  have u1 := u8ok_append (u8ok_mask key 54 (by simp) hu) hb
  have u2 := u8ok_append (u8ok_mask key 92 (by simp) hu) (u8ok_shaL (Sha.maskL key 54 ++ b))
  simp only [impl_hmac.j0]
  rw [masked_strOfNums key 92 hu hl, Option.bind_some, masked_strOfNums key 54 hu hl, Option.bind_some, if_pos (by rw [size_strOfNums, size_strOfNums, maskL_length]; omega), strOfNums_append, hash_strOfNums _ u1 (by rw [List.length_append, maskL_length]; omega), Option.bind_some, if_pos (by rw [size_strOfNums, size_strOfNums, maskL_length, shaL_length]; decide), strOfNums_append, hash_strOfNums _ u2 (by rw [List.length_append, maskL_length, shaL_length]; decide), Option.bind_some]
theorem hmac_eq (k : Nat) (key b : List Int) (hu : u8ok key) (hl : key.length ≤ 1073741824) (hb : u8ok b) (hbl : b.length ≤ 1073741824) : impl_hmac.f (k + 1) (strOfNums key) (strOfNums b) = some (strOfNums (Sha.hmacL key b)) := by
  unfold impl_hmac.f Sha.hmacL
  by_cases h : 64 < key.length
  · rw [if_pos (by rw [size_strOfNums]; omega), hash_strOfNums key hu (by omega), Option.bind_some, hmac_j0 k _ b (u8ok_shaL key) (by rw [shaL_length]; omega) hb hbl, Sha.hkey, if_pos h]
  · rw [if_neg (by rw [size_strOfNums]; omega), hmac_j0 k key b hu (by omega) hb hbl, Sha.hkey, if_neg h]
end Go.Proofs.Ytlfpogbonmddmaa.Pg
namespace Go.Proofs.Ytlfpogbonmddmaa.Pg
open Go.RowKit Go.Proofs.Ytlfpogbonmddmaa.P Go.Proofs.YtlfpogbonmddmaaW.PrintWords Go.Proofs.YtlfpogbonmddmaaW.PrintLast Go.Proofs.YtlfpogbonmddmaaW.PrintMore
theorem bo1 (n : Int) (k : Nat) : impl_bytesOf.f (k + 3) n 1 = some (strOfNums [n % 256]) := by
  have w0 : wrap64 (1 - 1) = 0 := by unfold wrap64; omega
  have wm : wrap64 (0 - 1) = -1 := by unfold wrap64; omega
  unfold impl_bytesOf.f
  rw [if_pos (by decide), if_pos (by decide), w0]
  simp only [impl_bytesOf.l0]
  rw [if_pos (by decide), if_pos (by decide), if_pos (by decide), wm, if_neg (by decide)]
  rfl
theorem str_app (a b : List Int) : strOfNums a ++ strOfNums b = strOfNums (a ++ b) := strOfNums_append a b
theorem expand_step (k : Nat) (K info : List Int) (N j : Nat) (hK : u8ok K) (hKl : K.length ≤ 1048576) (hi : u8ok info) (hil : info.length ≤ 1048576) (h : 32 * j < N) (hj : j ≤ 300) :
    impl_expand.l0 (k + 4) (strOfNums K) (strOfNums info) (N : Int) (strOfNums (Sha.exp K info j).1) (strOfNums (Sha.exp K info j).2) ((j + 1 : Nat) : Int)
      = impl_expand.l0 (k + 3) (strOfNums K) (strOfNums info) (N : Int) (strOfNums (Sha.exp K info (j + 1)).1) (strOfNums (Sha.exp K info (j + 1)).2) ((j + 1 + 1 : Nat) : Int) := by
  have e1 := exp_len K info j
  have e2 := exp_last K info j
  have hw : wrap64 (((j + 1 : Nat) : Int) + 1) = ((j + 1 + 1 : Nat) : Int) := by unfold wrap64; omega
  have hone : u8ok [((j + 1 : Nat) : Int) % 256] := fun x hx => by obtain rfl := List.mem_singleton.1 hx; omega
  conv => lhs; simp only [impl_expand.l0]
  rw [if_pos (by rw [size_strOfNums]; omega), if_pos (by rw [size_strOfNums, size_strOfNums]; omega), bo1, Option.bind_some, str_app, if_pos (by rw [size_strOfNums, size_strOfNums, List.length_append]; simp; omega), str_app,
    hmac_eq (k + 2) K _ hK (by omega) (u8ok_append (u8ok_append (exp_u8 K info j).2 hi) hone) (by rw [List.length_append, List.length_append]; simp; omega), Option.bind_some, if_pos (by rw [size_strOfNums, size_strOfNums, hmacL_length]; omega), str_app, hw]
  rfl
theorem expand_end (k : Nat) (K info : List Int) (N j : Nat) (h : N ≤ 32 * j) (hj : j ≤ N + 31) (i : Int) :
    impl_expand.l0 (k + 1) (strOfNums K) (strOfNums info) (N : Int) (strOfNums (Sha.exp K info j).1) (strOfNums (Sha.exp K info j).2) i = some (strOfNums (Sha.expandL K info N)) := by
  have e1 := exp_len K info j
  simp only [impl_expand.l0]
  rw [if_neg (by rw [size_strOfNums]; omega), if_pos (by omega), if_pos (by rw [size_strOfNums]; omega), exp_take K info N j h hj, Int.toNat_natCast, str_extract]
theorem expand_run (d : Nat) : ∀ (k : Nat) (K info : List Int) (N j : Nat), u8ok K → K.length ≤ 1048576 → u8ok info → info.length ≤ 1048576 → N ≤ 32 * (j + d) → j ≤ N + 31 → j + d ≤ 290 →
    impl_expand.l0 (k + d + 4) (strOfNums K) (strOfNums info) (N : Int) (strOfNums (Sha.exp K info j).1) (strOfNums (Sha.exp K info j).2) ((j + 1 : Nat) : Int) = some (strOfNums (Sha.expandL K info N)) := by
  induction d with
  | zero => intro k K info N j hK hKl hi hil h hj _; exact expand_end (k + 3) K info N j h hj _
  | succ d ih =>
    intro k K info N j hK hKl hi hil h hj hd
    by_cases hlt : 32 * j < N
    · rw [show k + (d + 1) + 4 = (k + d + 1) + 4 from by omega, expand_step (k + d + 1) K info N j hK hKl hi hil hlt (by omega), show k + d + 1 + 3 = k + d + 4 from by omega]
      exact ih k K info N (j + 1) hK hKl hi hil (by omega) (by omega) (by omega)
    · exact expand_end (k + (d + 1) + 3) K info N j (by omega) hj _
theorem expand_eq (k : Nat) (K info : List Int) (N : Nat) (hK : u8ok K) (hKl : K.length ≤ 1048576) (hi : u8ok info) (hil : info.length ≤ 1048576) (hN : N ≤ 8160) :
    impl_expand.f (k + 264) (strOfNums K) (strOfNums info) (N : Int) = some (strOfNums (Sha.expandL K info N)) := by
  have h := expand_run 260 k K info N 0 hK hKl hi hil (by omega) (by omega) (by omega)
  exact h
end Go.Proofs.Ytlfpogbonmddmaa.Pg
namespace Go.Proofs.Ytlfpogbonmddmaa.Pg
open Go.RowKit Go.Proofs.Ytlfpogbonmddmaa.P Go.Proofs.YtlfpogbonmddmaaW.PrintWords Go.Proofs.YtlfpogbonmddmaaW.PrintLast Go.Proofs.YtlfpogbonmddmaaW.PrintMore
theorem sealKeys_eq (k : Nat) (s : ByteArray) (h : s.size ≤ 1048576) : impl_sealKeys.f (k + 264) s = some (strOfNums ((keysK s).take 32), strOfNums ((keysK s).drop 32)) := by
  have c1 : (⟨#[115, 101, 97, 108]⟩ : ByteArray) = strOfNums [115, 101, 97, 108] := rfl
  have c2 : (⟨#[107, 101, 121, 115]⟩ : ByteArray) = strOfNums [107, 101, 121, 115] := rfl
  have hb : (bytesL s).length ≤ 1048576 := by rw [bytesL_length]; exact h
  have e1 := hmac_eq (k + 263) [115, 101, 97, 108] (bytesL s) (fun x hx => by simp only [List.mem_cons, List.not_mem_nil, or_false] at hx; omega) (by decide) (u8ok_bytesL s) (by omega)
  have e2 := expand_eq k (Sha.hmacL [115, 101, 97, 108] (bytesL s)) [107, 101, 121, 115] 64 (u8ok_hmacL _ _) (by rw [hmacL_length]; decide) (fun x hx => by simp only [List.mem_cons, List.not_mem_nil, or_false] at hx; omega) (by decide) (by decide)
  rw [str_bytesL] at e1
  have hz : (strOfNums (keysK s)).size = 64 := by rw [size_strOfNums, keysK_length]
  unfold impl_sealKeys.f
  rw [c1, c2, e1, Option.bind_some]
  show (impl_expand.f (k + 264) (strOfNums (Sha.hmacL [115, 101, 97, 108] (bytesL s))) (strOfNums [107, 101, 121, 115]) ((64 : Nat) : Int)).bind _ = _
  rw [e2, Option.bind_some]
  show (if (0 : Int) ≤ 32 then (if 32 ≤ ((strOfNums (keysK s)).size : Int) then some ((strOfNums (keysK s)).extract 0 32, (strOfNums (keysK s)).extract 32 (strOfNums (keysK s)).size) else none) else none) = _
  rw [if_pos (by decide), if_pos (by rw [hz]; decide), hz, str_extract, str_extract2, List.take_of_length_le (l := keysK s) (i := 64) (by rw [keysK_length]; decide)]
theorem spec_sealKeys_eq (s : ByteArray) (h : s.size ≤ 1048576) : spec_l04Keys.f s = some (strOfNums ((keysK s).take 32), strOfNums ((keysK s).drop 32)) := by
  unfold spec_l04Keys.f
  rw [if_pos h]
end Go.Proofs.Ytlfpogbonmddmaa.Pg
namespace Go.Proofs.Ytlfpogbonmddmaa.Pg
open Go.RowKit Go.Proofs.Ytlfpogbonmddmaa.P
theorem spec_keys (key : ByteArray) (hkey : key.size = 16 ∨ key.size = 32) : spec_l01Keys.f key Aes.subs = some ((Aes.keysL (bytesL key)).map strOfNums) := by
  unfold spec_l01Keys.f
  rw [if_pos ⟨rfl, hkey⟩]
end Go.Proofs.Ytlfpogbonmddmaa.Pg

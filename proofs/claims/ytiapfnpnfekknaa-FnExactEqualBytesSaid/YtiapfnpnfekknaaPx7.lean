-- Laid by a program of this session (wip/prn) over the translation: functions and their contracts. Lean checks it.
import Derived.Test.YtiapfnpnfekknaaPx0
import Derived.Test.YtiapfnpnfekknaaPx4
import Derived.Test.YtiapfnpnfekknaaPx5
import Derived.Test.YtiapfnpnfekknaaPx6
namespace Go.Proofs.Ytiapfnpnfekknaa.P
open Go.RowKit Go.Proofs.YtiapfnpnfekknaaW.PrintWords Go.Proofs.YtiapfnpnfekknaaW.PrintLast Go.Proofs.YtiapfnpnfekknaaW.PrintMore
attribute [local go_sem] max2_int min2_int max_two min_two max_three min_three max_four min_four   -- for this text's walks alone
set_option linter.unusedVariables false
set_option linter.unusedSimpArgs false

/-! ### spec_GfInverse: function 32 -/
def spec_GfInverse.f (k : Nat) (a0 : Int) : Option (Int × Int) := (spec_l01Byte.f a0).bind fun t233 => (if t233 = true then (if a0 = 0 then (some (0, 5)) else ((spec_l01Inverse.f k a0).bind fun t234 => (some (t234, 0)))) else (some (0, 4)))
theorem spec_GfInverse.mono : ∀ a0 k, LeO (spec_GfInverse.f k a0) (spec_GfInverse.f (k + 1) a0) := by
  intro a0 k
  unfold spec_GfInverse.f
  repeat' first
      | (with_reducible exact spec_l01Inverse.mono _ _)
      | (with_reducible exact LeO.refl _)
      | (with_reducible exact LeO.none _)
      | (with_reducible refine LeO.ite ?_ ?_)
      | (with_reducible refine LeO.bind ?_ (fun _ => ?_))
      | exact spec_l01Inverse.mono _ _
      | exact LeO.none _
      | refine LeO.ite ?_ ?_
      | refine LeO.bind ?_ (fun _ => ?_)
set_option maxHeartbeats 8000000 in
set_option maxRecDepth 100000 in
theorem spec_GfInverse.calls (k : Nat) (a0 : Int) (r1 : Int) (r2 : Int) (w : World) (h : spec_GfInverse.f k a0 = some (r1, r2)) :
    Calls Try.prog 32 #[.int .i64 a0] w fun e w' => e = .returned (.tuple #[.int .i64 r1, .int .i64 r2]) ∧ Drawn0 w w' := by
  have H : ((spec_l01Byte.f a0).bind fun t233 => (if t233 = true then (if a0 = 0 then (some (0, 5)) else ((spec_l01Inverse.f k a0).bind fun t234 => (some (t234, 0)))) else (some (0, 4)))) = some (r1, r2) := h
  clear h
  replace H := Option.bind_eq_some_iff.mp H
  obtain ⟨t233, A20, H⟩ := H
  replace H : (if t233 = true then (if a0 = 0 then (some (0, 5)) else ((spec_l01Inverse.f k a0).bind fun t234 => (some (t234, 0)))) else (some (0, 4))) = some (r1, r2) := H
  have A2 := Aside0.mk A20
  clear A20
  by_cases c3 : t233 = true
  · subst c3
    have H1 : (if a0 = 0 then (some (0, 5)) else ((spec_l01Inverse.f k a0).bind fun t234 => (some (t234, 0)))) = some (r1, r2) := by rw [if_pos rfl] at H; exact H
    clear H
    have H := H1
    clear H1
    by_cases c4 : a0 = 0
    · rw [if_pos c4] at H
      have c4b0 : (a0 == 0) = true := beq_iff_eq.mpr c4
      have c4b1 : (a0 != 0) = false := bne_eq_false_iff_eq.mpr c4
      clear c4
      simp only [Option.some.injEq, Prod.mk.injEq] at H
      obtain ⟨rfl, rfl⟩ := H
      go_enter Try.func32, Try.ntmps32
      go_wp2_with (first | ((with_reducible refine gate_callee (f := 47) rfl ?_); refine goesL_ (some 5) rfl rfl Try.func47 (by kernel_rfl) rfl #[.int .i64 a0] rfl (by (try simp only [List.map_toArray, List.map_cons, List.map_nil]); first | done | rfl | (simp only [List.length_drop, List.length_take]; rfl)) ?_; (with_reducible refine (spec_l01Byte.calls a0 true _ A2.out).mono ?_); rintro e w' ⟨rfl, ⟨nd, rfl⟩⟩; refine ⟨_, rfl, ?_⟩))
      go_ret2
      exact ⟨by first | rfl | (simp; done) | (simp [*]; done), by repeat (first | exact Drawn0.refl _ | apply Drawn0.step)⟩
    · rw [if_neg c4] at H
      have c4b0 : (a0 == 0) = false := beq_eq_false_iff_ne.mpr c4
      have c4b1 : (a0 != 0) = true := bne_iff_ne.mpr c4
      replace H := Option.bind_eq_some_iff.mp H
      obtain ⟨t234, A50, H⟩ := H
      replace H : (some (t234, 0)) = some (r1, r2) := H
      have A5 := Aside0.mk A50
      clear A50
      simp only [Option.some.injEq, Prod.mk.injEq] at H
      obtain ⟨rfl, rfl⟩ := H
      go_enter Try.func32, Try.ntmps32
      go_wp2_with (first | ((with_reducible refine gate_callee (f := 47) rfl ?_); refine goesL_ (some 5) rfl rfl Try.func47 (by kernel_rfl) rfl #[.int .i64 a0] rfl (by (try simp only [List.map_toArray, List.map_cons, List.map_nil]); first | done | rfl | (simp only [List.length_drop, List.length_take]; rfl)) ?_; (with_reducible refine (spec_l01Byte.calls a0 true _ A2.out).mono ?_); rintro e w' ⟨rfl, ⟨nd, rfl⟩⟩; refine ⟨_, rfl, ?_⟩) | ((with_reducible refine gate_callee (f := 56) rfl ?_); refine goesL_ (some 10) rfl rfl Try.func56 (by kernel_rfl) rfl #[.int .i64 a0] rfl (by (try simp only [List.map_toArray, List.map_cons, List.map_nil]); first | done | rfl | (simp only [List.length_drop, List.length_take]; rfl)) ?_; (with_reducible refine (spec_l01Inverse.calls k a0 t234 _ A5.out).mono ?_); rintro e w' ⟨rfl, ⟨nd, rfl⟩⟩; refine ⟨_, rfl, ?_⟩))
      go_ret2
      exact ⟨by first | rfl | (simp; done) | (simp [*]; done), by repeat (first | exact Drawn0.refl _ | apply Drawn0.step)⟩
  · replace c3 := Bool.eq_false_iff.mpr c3
    subst c3
    have H1 : (some (0, 4)) = some (r1, r2) := by rw [if_neg (show ¬ (false = true) by decide)] at H; exact H
    clear H
    have H := H1
    clear H1
    simp only [Option.some.injEq, Prod.mk.injEq] at H
    obtain ⟨rfl, rfl⟩ := H
    go_enter Try.func32, Try.ntmps32
    go_wp2_with (first | ((with_reducible refine gate_callee (f := 47) rfl ?_); refine goesL_ (some 5) rfl rfl Try.func47 (by kernel_rfl) rfl #[.int .i64 a0] rfl (by (try simp only [List.map_toArray, List.map_cons, List.map_nil]); first | done | rfl | (simp only [List.length_drop, List.length_take]; rfl)) ?_; (with_reducible refine (spec_l01Byte.calls a0 false _ A2.out).mono ?_); rintro e w' ⟨rfl, ⟨nd, rfl⟩⟩; refine ⟨_, rfl, ?_⟩))
    go_ret2
    exact ⟨by first | rfl | (simp; done) | (simp [*]; done), by repeat (first | exact Drawn0.refl _ | apply Drawn0.step)⟩

/-! ### impl_inverse: function 57 -/
def impl_inverse.l0 : Nat → Int → Int → Int → Option (Int)
  | 0, _, _, _ => none
  | k + 1, x3, x4, x6 => if x6 < 7 then ((impl_times.f k x4 x4).bind fun t235 => ((impl_times.f k x3 t235).bind fun t236 => (impl_inverse.l0 k t236 t235 (wrap64 (x6 + 1))))) else (some x3)
def impl_inverse.f (k : Nat) (a0 : Int) : Option (Int) := impl_inverse.l0 k 1 a0 0
theorem impl_inverse.mono_l : ∀ k, (∀ y0 y1 y2, LeO (impl_inverse.l0 k y0 y1 y2) (impl_inverse.l0 (k + 1) y0 y1 y2))
  | 0 => fun _ _ _ r h => by simp [impl_inverse.l0] at h
  | k + 1 => by
    have ih0 := impl_inverse.mono_l k
    · intro y0 y1 y2
      unfold impl_inverse.l0
      repeat' first
      | (with_reducible exact ih0 _ _ _)
      | (with_reducible exact impl_times.mono _ _ _)
      | (with_reducible exact LeO.refl _)
      | (with_reducible exact LeO.none _)
      | (with_reducible refine LeO.ite ?_ ?_)
      | (with_reducible refine LeO.bind ?_ (fun _ => ?_))
      | exact ih0 _ _ _
      | exact impl_times.mono _ _ _
      | exact LeO.none _
      | refine LeO.ite ?_ ?_
      | refine LeO.bind ?_ (fun _ => ?_)
theorem impl_inverse.mono : ∀ a0 k, LeO (impl_inverse.f k a0) (impl_inverse.f (k + 1) a0) := by
  intro a0 k
  have ih0 := impl_inverse.mono_l k
  unfold impl_inverse.f
  repeat' first
      | (with_reducible exact ih0 _ _ _)
      | (with_reducible exact impl_times.mono _ _ _)
      | (with_reducible exact LeO.refl _)
      | (with_reducible exact LeO.none _)
      | (with_reducible refine LeO.ite ?_ ?_)
      | (with_reducible refine LeO.bind ?_ (fun _ => ?_))
      | exact ih0 _ _ _
      | exact impl_times.mono _ _ _
      | exact LeO.none _
      | refine LeO.ite ?_ ?_
      | refine LeO.bind ?_ (fun _ => ?_)
set_option maxHeartbeats 8000000 in
set_option maxRecDepth 100000 in
theorem impl_inverse.calls (k : Nat) (a0 : Int) (r : Int) (w : World) (h : impl_inverse.f k a0 = some r) :
    Calls Try.prog 57 #[.int .u8 a0] w fun e w' => e = .returned (.int .u8 r) ∧ Drawn0 w w' := by
  have H : (impl_inverse.l0 k 1 a0 0) = some r := h
  clear h
  have H' := Aside0.mk H
  clear H
  go_enter Try.func57, Try.ntmps57
  go_wp2
  go_loopg [3, 4, 6] k (fun kq v3 v4 v6 w' => ∃ (x3_1 : Int) (x4_1 : Int) (x6_1 : Int), v3 = .int .u8 x3_1 ∧ v4 = .int .u8 x4_1 ∧ v6 = .int .i64 x6_1 ∧ Aside0 (impl_inverse.l0 kq x3_1 x4_1 x6_1 = some r) ∧ Aside0 (kq ≤ k) ∧ Drawn0 w w')
  case atStart => exact ⟨(1), (a0), (0), (by first | rfl | (simp; done) | (simp [*]; done)), (by first | rfl | (simp; done) | (simp [*]; done)), (by first | rfl | (simp; done) | (simp [*]; done)), H', ⟨Nat.le_refl _⟩, by repeat (first | exact Drawn0.refl _ | apply Drawn0.step)⟩
  case round =>
    clear H'
    obtain ⟨x3_1, x4_1, x6_1, rfl, rfl, rfl, HA, HK1, ⟨m1, rfl⟩⟩ := hrel
    cases gk with
    | zero => exact absurd HA.out (by simp [impl_inverse.l0])
    | succ k1 =>
      have H := HA.out
      clear HA
      simp only [impl_inverse.l0] at H
      by_cases c2 : x6_1 < 7
      · rw [if_pos c2] at H
        have c2b0 : decide (x6_1 < 7) = true := decide_eq_true c2
        clear c2
        replace H := Option.bind_eq_some_iff.mp H
        obtain ⟨t235, A30, H⟩ := H
        replace H : ((impl_times.f k1 x3_1 t235).bind fun t236 => (impl_inverse.l0 k1 t236 t235 (wrap64 (x6_1 + 1)))) = some r := H
        have A3 := Aside0.mk A30
        clear A30
        replace H := Option.bind_eq_some_iff.mp H
        obtain ⟨t236, A40, H⟩ := H
        replace H : (impl_inverse.l0 k1 t236 t235 (wrap64 (x6_1 + 1))) = some r := H
        have A4 := Aside0.mk A40
        clear A40
        have H' := Aside0.mk H
        clear H
        go_wp2_with (first | ((with_reducible refine gate_callee (f := 50) rfl ?_); refine goesL_ (some 10) rfl rfl Try.func50 (by kernel_rfl) rfl #[.int .u8 x4_1, .int .u8 x4_1] rfl (by (try simp only [List.map_toArray, List.map_cons, List.map_nil]); first | done | rfl | (simp only [List.length_drop, List.length_take]; rfl)) ?_; (with_reducible refine (impl_times.calls k1 x4_1 x4_1 t235 _ A3.out).mono ?_); rintro e w' ⟨rfl, ⟨nd, rfl⟩⟩; refine ⟨_, rfl, ?_⟩) | ((with_reducible refine gate_callee (f := 50) rfl ?_); refine goesL_ (some 13) rfl rfl Try.func50 (by kernel_rfl) rfl #[.int .u8 x3_1, .int .u8 t235] rfl (by (try simp only [List.map_toArray, List.map_cons, List.map_nil]); first | done | rfl | (simp only [List.length_drop, List.length_take]; rfl)) ?_; (with_reducible refine (impl_times.calls k1 x3_1 t235 t236 _ A4.out).mono ?_); rintro e w' ⟨rfl, ⟨nd, rfl⟩⟩; refine ⟨_, rfl, ?_⟩))
        go_roundg k1
        case measure => have := HK1.out; omega
        case rel => exact ⟨(t236), (t235), (wrap64 (x6_1 + 1)), (by first | rfl | (simp; done) | (simp [*]; done)), (by first | rfl | (simp; done) | (simp [*]; done)), (by first | rfl | (simp; done) | (simp [*]; done)), H', ⟨by have := HK1.out; omega⟩, by repeat (first | exact Drawn0.refl _ | apply Drawn0.step)⟩
      · rw [if_neg c2] at H
        have c2b0 : decide (x6_1 < 7) = false := decide_eq_false c2
        clear c2
        obtain rfl := Option.some.inj H
        go_wp2
        go_ret
        exact ⟨by first | rfl | (simp; done) | (simp [*]; done), by repeat (first | exact Drawn0.refl _ | apply Drawn0.step)⟩

/-! ### impl_GfInverse: function 33 -/
def impl_GfInverse.f (k : Nat) (a0 : Int) : Option (Int × Int) := (impl_isByte.f a0).bind fun t237 => (if t237 = true then (if a0 = 0 then (some (0, 5)) else ((impl_inverse.f k ((a0) % 256)).bind fun t238 => (some (wrap64 (t238), 0)))) else (some (0, 4)))
theorem impl_GfInverse.mono : ∀ a0 k, LeO (impl_GfInverse.f k a0) (impl_GfInverse.f (k + 1) a0) := by
  intro a0 k
  unfold impl_GfInverse.f
  repeat' first
      | (with_reducible exact impl_inverse.mono _ _)
      | (with_reducible exact LeO.refl _)
      | (with_reducible exact LeO.none _)
      | (with_reducible refine LeO.ite ?_ ?_)
      | (with_reducible refine LeO.bind ?_ (fun _ => ?_))
      | exact impl_inverse.mono _ _
      | exact LeO.none _
      | refine LeO.ite ?_ ?_
      | refine LeO.bind ?_ (fun _ => ?_)
set_option maxHeartbeats 8000000 in
set_option maxRecDepth 100000 in
theorem impl_GfInverse.calls (k : Nat) (a0 : Int) (r1 : Int) (r2 : Int) (w : World) (h : impl_GfInverse.f k a0 = some (r1, r2)) :
    Calls Try.prog 33 #[.int .i64 a0] w fun e w' => e = .returned (.tuple #[.int .i64 r1, .int .i64 r2]) ∧ Drawn0 w w' := by
  have H : ((impl_isByte.f a0).bind fun t237 => (if t237 = true then (if a0 = 0 then (some (0, 5)) else ((impl_inverse.f k ((a0) % 256)).bind fun t238 => (some (wrap64 (t238), 0)))) else (some (0, 4)))) = some (r1, r2) := h
  clear h
  replace H := Option.bind_eq_some_iff.mp H
  obtain ⟨t237, A20, H⟩ := H
  replace H : (if t237 = true then (if a0 = 0 then (some (0, 5)) else ((impl_inverse.f k ((a0) % 256)).bind fun t238 => (some (wrap64 (t238), 0)))) else (some (0, 4))) = some (r1, r2) := H
  have A2 := Aside0.mk A20
  clear A20
  by_cases c3 : t237 = true
  · subst c3
    have H1 : (if a0 = 0 then (some (0, 5)) else ((impl_inverse.f k ((a0) % 256)).bind fun t238 => (some (wrap64 (t238), 0)))) = some (r1, r2) := by rw [if_pos rfl] at H; exact H
    clear H
    have H := H1
    clear H1
    by_cases c4 : a0 = 0
    · rw [if_pos c4] at H
      have c4b0 : (a0 == 0) = true := beq_iff_eq.mpr c4
      have c4b1 : (a0 != 0) = false := bne_eq_false_iff_eq.mpr c4
      clear c4
      simp only [Option.some.injEq, Prod.mk.injEq] at H
      obtain ⟨rfl, rfl⟩ := H
      go_enter Try.func33, Try.ntmps33
      go_wp2_with (first | ((with_reducible refine gate_callee (f := 49) rfl ?_); refine goesL_ (some 6) rfl rfl Try.func49 (by kernel_rfl) rfl #[.int .i64 a0] rfl (by (try simp only [List.map_toArray, List.map_cons, List.map_nil]); first | done | rfl | (simp only [List.length_drop, List.length_take]; rfl)) ?_; (with_reducible refine (impl_isByte.calls a0 true _ A2.out).mono ?_); rintro e w' ⟨rfl, ⟨nd, rfl⟩⟩; refine ⟨_, rfl, ?_⟩))
      go_ret2
      exact ⟨by first | rfl | (simp; done) | (simp [*]; done), by repeat (first | exact Drawn0.refl _ | apply Drawn0.step)⟩
    · rw [if_neg c4] at H
      have c4b0 : (a0 == 0) = false := beq_eq_false_iff_ne.mpr c4
      have c4b1 : (a0 != 0) = true := bne_iff_ne.mpr c4
      replace H := Option.bind_eq_some_iff.mp H
      obtain ⟨t238, A50, H⟩ := H
      replace H : (some (wrap64 (t238), 0)) = some (r1, r2) := H
      have A5 := Aside0.mk A50
      clear A50
      simp only [Option.some.injEq, Prod.mk.injEq] at H
      obtain ⟨rfl, rfl⟩ := H
      go_enter Try.func33, Try.ntmps33
      go_wp2_with (first | ((with_reducible refine gate_callee (f := 49) rfl ?_); refine goesL_ (some 6) rfl rfl Try.func49 (by kernel_rfl) rfl #[.int .i64 a0] rfl (by (try simp only [List.map_toArray, List.map_cons, List.map_nil]); first | done | rfl | (simp only [List.length_drop, List.length_take]; rfl)) ?_; (with_reducible refine (impl_isByte.calls a0 true _ A2.out).mono ?_); rintro e w' ⟨rfl, ⟨nd, rfl⟩⟩; refine ⟨_, rfl, ?_⟩) | ((with_reducible refine gate_callee (f := 57) rfl ?_); refine goesL_ (some 13) rfl rfl Try.func57 (by kernel_rfl) rfl #[.int .u8 ((a0) % 256)] rfl (by (try simp only [List.map_toArray, List.map_cons, List.map_nil]); first | done | rfl | (simp only [List.length_drop, List.length_take]; rfl)) ?_; (with_reducible refine (impl_inverse.calls k ((a0) % 256) t238 _ A5.out).mono ?_); rintro e w' ⟨rfl, ⟨nd, rfl⟩⟩; refine ⟨_, rfl, ?_⟩))
      go_ret2
      exact ⟨by first | rfl | (simp; done) | (simp [*]; done), by repeat (first | exact Drawn0.refl _ | apply Drawn0.step)⟩
  · replace c3 := Bool.eq_false_iff.mpr c3
    subst c3
    have H1 : (some (0, 4)) = some (r1, r2) := by rw [if_neg (show ¬ (false = true) by decide)] at H; exact H
    clear H
    have H := H1
    clear H1
    simp only [Option.some.injEq, Prod.mk.injEq] at H
    obtain ⟨rfl, rfl⟩ := H
    go_enter Try.func33, Try.ntmps33
    go_wp2_with (first | ((with_reducible refine gate_callee (f := 49) rfl ?_); refine goesL_ (some 6) rfl rfl Try.func49 (by kernel_rfl) rfl #[.int .i64 a0] rfl (by (try simp only [List.map_toArray, List.map_cons, List.map_nil]); first | done | rfl | (simp only [List.length_drop, List.length_take]; rfl)) ?_; (with_reducible refine (impl_isByte.calls a0 false _ A2.out).mono ?_); rintro e w' ⟨rfl, ⟨nd, rfl⟩⟩; refine ⟨_, rfl, ?_⟩))
    go_ret2
    exact ⟨by first | rfl | (simp; done) | (simp [*]; done), by repeat (first | exact Drawn0.refl _ | apply Drawn0.step)⟩

/-! ### laws_FnExactGfInverse: function 11 -/
def laws_FnExactGfInverse.f (k : Nat) (a0 : Int) : Option (Bool) := (spec_GfInverse.f k a0).bind fun bt239 => ((impl_GfInverse.f k a0).bind fun bt241 => (if bt241.1 = bt239.1 then (if bt241.2 = bt239.2 then (some true) else (some false)) else (some false)))
theorem laws_FnExactGfInverse.mono : ∀ a0 k, LeO (laws_FnExactGfInverse.f k a0) (laws_FnExactGfInverse.f (k + 1) a0) := by
  intro a0 k
  unfold laws_FnExactGfInverse.f
  repeat' first
      | (with_reducible exact impl_GfInverse.mono _ _)
      | (with_reducible exact spec_GfInverse.mono _ _)
      | (with_reducible exact LeO.refl _)
      | (with_reducible exact LeO.none _)
      | (with_reducible refine LeO.ite ?_ ?_)
      | (with_reducible refine LeO.bind ?_ (fun _ => ?_))
      | exact impl_GfInverse.mono _ _
      | exact spec_GfInverse.mono _ _
      | exact LeO.none _
      | refine LeO.ite ?_ ?_
      | refine LeO.bind ?_ (fun _ => ?_)
set_option maxHeartbeats 8000000 in
set_option maxRecDepth 100000 in
theorem laws_FnExactGfInverse.calls (k : Nat) (a0 : Int) (r : Bool) (w : World) (h : laws_FnExactGfInverse.f k a0 = some r) :
    Calls Try.prog 11 #[.int .i64 a0] w fun e w' => e = .returned (.bool r) ∧ Drawn0 w w' := by
  have H : ((spec_GfInverse.f k a0).bind fun bt239 => ((impl_GfInverse.f k a0).bind fun bt241 => (if bt241.1 = bt239.1 then (if bt241.2 = bt239.2 then (some true) else (some false)) else (some false)))) = some r := h
  clear h
  replace H := Option.bind_eq_some_iff.mp H
  obtain ⟨⟨t239, t240⟩, A20, H⟩ := H
  replace H : ((impl_GfInverse.f k a0).bind fun bt241 => (if bt241.1 = t239 then (if bt241.2 = t240 then (some true) else (some false)) else (some false))) = some r := H
  have A2 := Aside0.mk A20
  clear A20
  replace H := Option.bind_eq_some_iff.mp H
  obtain ⟨⟨t241, t242⟩, A30, H⟩ := H
  replace H : (if t241 = t239 then (if t242 = t240 then (some true) else (some false)) else (some false)) = some r := H
  have A3 := Aside0.mk A30
  clear A30
  by_cases c4 : t241 = t239
  · rw [if_pos c4] at H
    have c4b0 : (t241 == t239) = true := beq_iff_eq.mpr c4
    have c4b1 : (t241 != t239) = false := bne_eq_false_iff_eq.mpr c4
    clear c4
    by_cases c5 : t242 = t240
    · rw [if_pos c5] at H
      have c5b0 : (t242 == t240) = true := beq_iff_eq.mpr c5
      have c5b1 : (t242 != t240) = false := bne_eq_false_iff_eq.mpr c5
      clear c5
      obtain rfl := Option.some.inj H
      go_enter Try.func11, Try.ntmps11
      go_wp2_with (first | ((with_reducible refine gate_callee (f := 32) rfl ?_); refine goesL_ (some 9) rfl rfl Try.func32 (by kernel_rfl) rfl #[.int .i64 a0] rfl (by (try simp only [List.map_toArray, List.map_cons, List.map_nil]); first | done | rfl | (simp only [List.length_drop, List.length_take]; rfl)) ?_; (with_reducible refine (spec_GfInverse.calls k a0 t239 t240 _ A2.out).mono ?_); rintro e w' ⟨rfl, ⟨nd, rfl⟩⟩; refine ⟨_, rfl, ?_⟩) | ((with_reducible refine gate_callee (f := 33) rfl ?_); refine goesL_ (some 14) rfl rfl Try.func33 (by kernel_rfl) rfl #[.int .i64 a0] rfl (by (try simp only [List.map_toArray, List.map_cons, List.map_nil]); first | done | rfl | (simp only [List.length_drop, List.length_take]; rfl)) ?_; (with_reducible refine (impl_GfInverse.calls k a0 t241 t242 _ A3.out).mono ?_); rintro e w' ⟨rfl, ⟨nd, rfl⟩⟩; refine ⟨_, rfl, ?_⟩))
      go_ret
      exact ⟨by first | rfl | (simp; done) | (simp [*]; done), by repeat (first | exact Drawn0.refl _ | apply Drawn0.step)⟩
    · rw [if_neg c5] at H
      have c5b0 : (t242 == t240) = false := beq_eq_false_iff_ne.mpr c5
      have c5b1 : (t242 != t240) = true := bne_iff_ne.mpr c5
      obtain rfl := Option.some.inj H
      go_enter Try.func11, Try.ntmps11
      go_wp2_with (first | ((with_reducible refine gate_callee (f := 32) rfl ?_); refine goesL_ (some 9) rfl rfl Try.func32 (by kernel_rfl) rfl #[.int .i64 a0] rfl (by (try simp only [List.map_toArray, List.map_cons, List.map_nil]); first | done | rfl | (simp only [List.length_drop, List.length_take]; rfl)) ?_; (with_reducible refine (spec_GfInverse.calls k a0 t239 t240 _ A2.out).mono ?_); rintro e w' ⟨rfl, ⟨nd, rfl⟩⟩; refine ⟨_, rfl, ?_⟩) | ((with_reducible refine gate_callee (f := 33) rfl ?_); refine goesL_ (some 14) rfl rfl Try.func33 (by kernel_rfl) rfl #[.int .i64 a0] rfl (by (try simp only [List.map_toArray, List.map_cons, List.map_nil]); first | done | rfl | (simp only [List.length_drop, List.length_take]; rfl)) ?_; (with_reducible refine (impl_GfInverse.calls k a0 t241 t242 _ A3.out).mono ?_); rintro e w' ⟨rfl, ⟨nd, rfl⟩⟩; refine ⟨_, rfl, ?_⟩))
      go_ret
      exact ⟨by first | rfl | (simp; done) | (simp [*]; done), by repeat (first | exact Drawn0.refl _ | apply Drawn0.step)⟩
  · rw [if_neg c4] at H
    have c4b0 : (t241 == t239) = false := beq_eq_false_iff_ne.mpr c4
    have c4b1 : (t241 != t239) = true := bne_iff_ne.mpr c4
    obtain rfl := Option.some.inj H
    go_enter Try.func11, Try.ntmps11
    go_wp2_with (first | ((with_reducible refine gate_callee (f := 32) rfl ?_); refine goesL_ (some 9) rfl rfl Try.func32 (by kernel_rfl) rfl #[.int .i64 a0] rfl (by (try simp only [List.map_toArray, List.map_cons, List.map_nil]); first | done | rfl | (simp only [List.length_drop, List.length_take]; rfl)) ?_; (with_reducible refine (spec_GfInverse.calls k a0 t239 t240 _ A2.out).mono ?_); rintro e w' ⟨rfl, ⟨nd, rfl⟩⟩; refine ⟨_, rfl, ?_⟩) | ((with_reducible refine gate_callee (f := 33) rfl ?_); refine goesL_ (some 14) rfl rfl Try.func33 (by kernel_rfl) rfl #[.int .i64 a0] rfl (by (try simp only [List.map_toArray, List.map_cons, List.map_nil]); first | done | rfl | (simp only [List.length_drop, List.length_take]; rfl)) ?_; (with_reducible refine (impl_GfInverse.calls k a0 t241 t242 _ A3.out).mono ?_); rintro e w' ⟨rfl, ⟨nd, rfl⟩⟩; refine ⟨_, rfl, ?_⟩))
    go_ret
    exact ⟨by first | rfl | (simp; done) | (simp [*]; done), by repeat (first | exact Drawn0.refl _ | apply Drawn0.step)⟩

/-- THE ONE PURE STATEMENT of laws_FnExactGfInverse: yours. -/
def laws_FnExactGfInverse.Pure : Prop := ∀ (a0 : Int), (Lit.int .i64 a0).wf = true → ∃ k, laws_FnExactGfInverse.f k a0 = some true
theorem laws_FnExactGfInverse.walk (P : laws_FnExactGfInverse.Pure) (a0 : Int) (w : World) (w0 : (Lit.int .i64 a0).wf = true) :
    Calls Try.prog 11 #[.int .i64 a0] w fun e w' => e = .returned (.bool true) ∧ Below w.heap.size w w' := by
  obtain ⟨k, h⟩ := P a0 w0
  refine (laws_FnExactGfInverse.calls k a0 true w h).mono ?_
  rintro e w' ⟨rfl, hd⟩
  exact ⟨rfl, hd.below⟩

/-! ### laws_at: function 34 -/
def laws_at.f (l0 : List Int) (a1 : Int) (a2 : Int) : Option (Int) := if a2 ≤ 1 then (some 0) else (if (l0.length : Int) = 0 then (if a2 = 0 then (none) else (some (Int.tmod (wrap64 (a1 * 7)) a2))) else (if 0 ≤ (Int.tmod a1 (l0.length : Int)) then (if (Int.tmod a1 (l0.length : Int)) < (l0.length : Int) then (if 0 ≤ (Int.tmod (wrap64 (a1 + 1)) (l0.length : Int)) then (if (Int.tmod (wrap64 (a1 + 1)) (l0.length : Int)) < (l0.length : Int) then (if a2 = 0 then (none) else (some (Int.tmod (wrap64 ((wrap64 ((wrap64 ((wrap64 (rd l0 (Int.tmod a1 (l0.length : Int)))) * 31)) + (wrap64 (rd l0 (Int.tmod (wrap64 (a1 + 1)) (l0.length : Int)))))) + (wrap64 (Int.tdiv a1 (l0.length : Int))))) a2))) else (none)) else (none)) else (none)) else (none)))
set_option maxHeartbeats 8000000 in
set_option maxRecDepth 100000 in
theorem laws_at.calls (A0 : Option Addr) (c0 : Nat) (l0 : List Int) (a1 : Int) (a2 : Int) (r : Int) (w : World) (hr0 : Kd.C (Kd.int .u8) w A0 l0.length l0) (hc0 : l0.length ≤ c0) (h : laws_at.f l0 a1 a2 = some r) :
    Calls Try.prog 34 #[.slice A0 l0.length c0, .int .i64 a1, .int .i64 a2] w fun e w' => e = .returned (.int .i64 r) ∧ Drawn0 w w' := by
  have HR0 := Aside0.mk hr0
  have HC0 := Aside0.mk hc0
  clear hr0 hc0
  have H : (if a2 ≤ 1 then (some 0) else (if (l0.length : Int) = 0 then (if a2 = 0 then (none) else (some (Int.tmod (wrap64 (a1 * 7)) a2))) else (if 0 ≤ (Int.tmod a1 (l0.length : Int)) then (if (Int.tmod a1 (l0.length : Int)) < (l0.length : Int) then (if 0 ≤ (Int.tmod (wrap64 (a1 + 1)) (l0.length : Int)) then (if (Int.tmod (wrap64 (a1 + 1)) (l0.length : Int)) < (l0.length : Int) then (if a2 = 0 then (none) else (some (Int.tmod (wrap64 ((wrap64 ((wrap64 ((wrap64 (rd l0 (Int.tmod a1 (l0.length : Int)))) * 31)) + (wrap64 (rd l0 (Int.tmod (wrap64 (a1 + 1)) (l0.length : Int)))))) + (wrap64 (Int.tdiv a1 (l0.length : Int))))) a2))) else (none)) else (none)) else (none)) else (none)))) = some r := h
  clear h
  by_cases c4 : a2 ≤ 1
  · rw [if_pos c4] at H
    have c4b0 : decide (a2 ≤ 1) = true := decide_eq_true c4
    clear c4
    obtain rfl := Option.some.inj H
    go_enter Try.func34, Try.ntmps34
    go_wp2
    repeat (go_quiet (fail); try go_wp2)
    go_ret
    exact ⟨by first | rfl | (simp; done) | (simp [*]; done), by repeat (first | exact Drawn0.refl _ | apply Drawn0.step)⟩
  · rw [if_neg c4] at H
    have c4b0 : decide (a2 ≤ 1) = false := decide_eq_false c4
    clear c4
    by_cases c5 : (l0.length : Int) = 0
    · rw [if_pos c5] at H
      have c5b0 : ((l0.length : Int) == 0) = true := beq_iff_eq.mpr c5
      have c5b1 : ((l0.length : Int) != 0) = false := bne_eq_false_iff_eq.mpr c5
      clear c5
      by_cases c6 : a2 = 0
      · rw [if_pos c6] at H
        exact absurd H (by simp)
      · rw [if_neg c6] at H
        have c6b0 : (a2 == 0) = false := beq_eq_false_iff_ne.mpr c6
        have c6b1 : (a2 != 0) = true := bne_iff_ne.mpr c6
        obtain rfl := Option.some.inj H
        go_enter Try.func34, Try.ntmps34
        go_wp2
        repeat (go_quiet (fail); try go_wp2)
        go_ret
        exact ⟨by first | rfl | (simp; done) | (simp [*]; done), by repeat (first | exact Drawn0.refl _ | apply Drawn0.step)⟩
    · rw [if_neg c5] at H
      have c5b0 : ((l0.length : Int) == 0) = false := beq_eq_false_iff_ne.mpr c5
      have c5b1 : ((l0.length : Int) != 0) = true := bne_iff_ne.mpr c5
      have c5b2 : ¬ (l0 = []) := fun h_ => c5 (by rw [h_]; rfl)
      obtain ⟨ji7, hji7⟩ : ∃ j_ : Int, (Int.tmod a1 (l0.length : Int)) = j_ := ⟨_, rfl⟩
      replace H : (if 0 ≤ (ji7) then (if (ji7) < (l0.length : Int) then (if 0 ≤ (Int.tmod (wrap64 (a1 + 1)) (l0.length : Int)) then (if (Int.tmod (wrap64 (a1 + 1)) (l0.length : Int)) < (l0.length : Int) then (if a2 = 0 then (none) else (some (Int.tmod (wrap64 ((wrap64 ((wrap64 ((wrap64 (rd l0 (ji7))) * 31)) + (wrap64 (rd l0 (Int.tmod (wrap64 (a1 + 1)) (l0.length : Int)))))) + (wrap64 (Int.tdiv a1 (l0.length : Int))))) a2))) else (none)) else (none)) else (none)) else (none)) = some r := by first | (rw [hji7] at H; exact H) | (simp only [hji7] at H ⊢; exact H)
      by_cases c8 : 0 ≤ (ji7)
      · rw [if_pos c8] at H
        have c8b0 : decide (0 ≤ (ji7)) = true := decide_eq_true c8
        clear c8
        by_cases c9 : (ji7) < (l0.length : Int)
        · rw [if_pos c9] at H
          have c9b0 : decide ((ji7) < (l0.length : Int)) = true := decide_eq_true c9
          clear c9
          obtain ⟨ji10, hji10⟩ : ∃ j_ : Int, (Int.tmod (wrap64 (a1 + 1)) (l0.length : Int)) = j_ := ⟨_, rfl⟩
          replace H : (if 0 ≤ (ji10) then (if (ji10) < (l0.length : Int) then (if a2 = 0 then (none) else (some (Int.tmod (wrap64 ((wrap64 ((wrap64 ((wrap64 (rd l0 (ji7))) * 31)) + (wrap64 (rd l0 (ji10))))) + (wrap64 (Int.tdiv a1 (l0.length : Int))))) a2))) else (none)) else (none)) = some r := by first | (rw [hji10] at H; exact H) | (simp only [hji10] at H ⊢; exact H)
          by_cases c11 : 0 ≤ (ji10)
          · rw [if_pos c11] at H
            have c11b0 : decide (0 ≤ (ji10)) = true := decide_eq_true c11
            clear c11
            by_cases c12 : (ji10) < (l0.length : Int)
            · rw [if_pos c12] at H
              have c12b0 : decide ((ji10) < (l0.length : Int)) = true := decide_eq_true c12
              clear c12
              by_cases c13 : a2 = 0
              · rw [if_pos c13] at H
                exact absurd H (by simp)
              · rw [if_neg c13] at H
                have c13b0 : (a2 == 0) = false := beq_eq_false_iff_ne.mpr c13
                have c13b1 : (a2 != 0) = true := bne_iff_ne.mpr c13
                obtain rfl := Option.some.inj H
                have p243 : 0 ≤ ((ji7) : Int) := of_decide_eq_true (by first | (with_reducible assumption) | assumption)
                have q243 : (ji7) < (l0.length : Int) := of_decide_eq_true (by first | (with_reducible assumption) | assumption)
                obtain ⟨ad243, e243, hx243_0⟩ := Kd.at_int HR0.out (ji7) p243 q243
                cases e243
                replace p243 := eq_true p243
                replace q243 := eq_true q243
                have p244 : 0 ≤ ((ji10) : Int) := of_decide_eq_true (by first | (with_reducible assumption) | assumption)
                have q244 : (ji10) < (l0.length : Int) := of_decide_eq_true (by first | (with_reducible assumption) | assumption)
                obtain ⟨ad244, e244, hx244_0⟩ := Kd.at_int HR0.out (ji10) p244 q244
                obtain rfl : ad243 = ad244 := (by injection e244)
                replace p244 := eq_true p244
                replace q244 := eq_true q244
                go_enter Try.func34, Try.ntmps34
                go_wp2
                repeat (go_quiet (fail); try go_wp2)
                go_ret
                exact ⟨by first | rfl | (simp; done) | (simp only [← hji7, ← hji10] <;> (first | rfl | simp)) | (simp [*]; done), by repeat (first | exact Drawn0.refl _ | apply Drawn0.step)⟩
            · rw [if_neg c12] at H
              exact absurd H (by simp)
          · rw [if_neg c11] at H
            exact absurd H (by simp)
        · rw [if_neg c9] at H
          exact absurd H (by simp)
      · rw [if_neg c8] at H
        exact absurd H (by simp)

/-! ### laws_FnGf: function 12 -/
mutual
def laws_FnGf.j0 : Nat → List Int → List Int → Bool → Option (Bool)
  | 0, _, _, _ => none
  | k + 1, x0, x1, x35 => if x35 = true then (some true) else ((laws_at.f x0 0 256).bind fun t245 => ((laws_at.f x1 0 256).bind fun t246 => ((laws_at.f x1 1 256).bind fun t247 => ((impl_GfMul.f k t245 t246).bind fun bt248 => ((impl_GfMul.f k t246 t245).bind fun bt250 => ((impl_GfMul.f k t246 t247).bind fun bt252 => ((impl_GfMul.f k bt248.1 t247).bind fun bt254 => ((impl_GfMul.f k t245 bt252.1).bind fun bt256 => ((impl_GfMul.f k t245 t247).bind fun bt258 => ((impl_GfMul.f k t245 (Go.bits .xor .i64 t246 t247)).bind fun bt260 => ((spec_GfMul.f k t245 t246).bind fun bt262 => (if bt248.2 = 0 then (if bt250.2 = 0 then (if bt252.2 = 0 then (if bt254.2 = 0 then (if bt256.2 = 0 then (if bt258.2 = 0 then (if bt260.2 = 0 then (if bt248.1 = bt262.1 then (if bt248.1 = bt250.1 then (if bt254.1 = bt256.1 then (laws_FnGf.j1 k t245 (bt260.1 != (Go.bits .xor .i64 bt248.1 bt258.1))) else (laws_FnGf.j1 k t245 true)) else (laws_FnGf.j1 k t245 true)) else (laws_FnGf.j1 k t245 true)) else (laws_FnGf.j1 k t245 true)) else (laws_FnGf.j1 k t245 true)) else (laws_FnGf.j1 k t245 true)) else (laws_FnGf.j1 k t245 true)) else (laws_FnGf.j1 k t245 true)) else (laws_FnGf.j1 k t245 true)) else (laws_FnGf.j1 k t245 true)))))))))))))
def laws_FnGf.j1 : Nat → Int → Bool → Option (Bool)
  | 0, _, _ => none
  | k + 1, x5, x139 => if x139 = true then (some false) else ((impl_GfInverse.f k x5).bind fun bt264 => (if x5 = 0 then (some (bt264.2 == 5)) else ((impl_GfMul.f k x5 bt264.1).bind fun bt266 => (if bt264.2 = 0 then (if bt266.2 = 0 then (some (bt266.1 == 1)) else (some false)) else (some false)))))
end
def laws_FnGf.f (k : Nat) (l0 : List Int) (l1 : List Int) : Option (Bool) := if (l0.length : Int) > 1048576 then (laws_FnGf.j0 k l0 l1 true) else (laws_FnGf.j0 k l0 l1 (decide ((l1.length : Int) > 1048576)))
theorem laws_FnGf.mono_l : ∀ k, (∀ y0 y1 y2, LeO (laws_FnGf.j0 k y0 y1 y2) (laws_FnGf.j0 (k + 1) y0 y1 y2)) ∧ (∀ y0 y1, LeO (laws_FnGf.j1 k y0 y1) (laws_FnGf.j1 (k + 1) y0 y1))
  | 0 => ⟨fun _ _ _ r h => by simp [laws_FnGf.j0] at h, fun _ _ r h => by simp [laws_FnGf.j1] at h⟩
  | k + 1 => by
    obtain ⟨ih0, ih1⟩ := laws_FnGf.mono_l k
    refine ⟨?_, ?_⟩
    · intro y0 y1 y2
      unfold laws_FnGf.j0
      repeat' first
      | (with_reducible exact ih0 _ _ _)
      | (with_reducible exact ih1 _ _)
      | (with_reducible exact impl_GfInverse.mono _ _)
      | (with_reducible exact impl_GfMul.mono _ _ _)
      | (with_reducible exact spec_GfMul.mono _ _ _)
      | (with_reducible exact LeO.refl _)
      | (with_reducible exact LeO.none _)
      | (with_reducible refine LeO.ite ?_ ?_)
      | (with_reducible refine LeO.bind ?_ (fun _ => ?_))
      | exact ih0 _ _ _
      | exact ih1 _ _
      | exact impl_GfInverse.mono _ _
      | exact impl_GfMul.mono _ _ _
      | exact spec_GfMul.mono _ _ _
      | exact LeO.none _
      | refine LeO.ite ?_ ?_
      | refine LeO.bind ?_ (fun _ => ?_)
    · intro y0 y1
      unfold laws_FnGf.j1
      repeat' first
      | (with_reducible exact ih0 _ _ _)
      | (with_reducible exact ih1 _ _)
      | (with_reducible exact impl_GfInverse.mono _ _)
      | (with_reducible exact impl_GfMul.mono _ _ _)
      | (with_reducible exact spec_GfMul.mono _ _ _)
      | (with_reducible exact LeO.refl _)
      | (with_reducible exact LeO.none _)
      | (with_reducible refine LeO.ite ?_ ?_)
      | (with_reducible refine LeO.bind ?_ (fun _ => ?_))
      | exact ih0 _ _ _
      | exact ih1 _ _
      | exact impl_GfInverse.mono _ _
      | exact impl_GfMul.mono _ _ _
      | exact spec_GfMul.mono _ _ _
      | exact LeO.none _
      | refine LeO.ite ?_ ?_
      | refine LeO.bind ?_ (fun _ => ?_)
theorem laws_FnGf.mono : ∀ a0 a1 k, LeO (laws_FnGf.f k a0 a1) (laws_FnGf.f (k + 1) a0 a1) := by
  intro a0 a1 k
  obtain ⟨ih0, ih1⟩ := laws_FnGf.mono_l k
  unfold laws_FnGf.f
  repeat' first
      | (with_reducible exact ih0 _ _ _)
      | (with_reducible exact ih1 _ _)
      | (with_reducible exact impl_GfInverse.mono _ _)
      | (with_reducible exact impl_GfMul.mono _ _ _)
      | (with_reducible exact spec_GfMul.mono _ _ _)
      | (with_reducible exact LeO.refl _)
      | (with_reducible exact LeO.none _)
      | (with_reducible refine LeO.ite ?_ ?_)
      | (with_reducible refine LeO.bind ?_ (fun _ => ?_))
      | exact ih0 _ _ _
      | exact ih1 _ _
      | exact impl_GfInverse.mono _ _
      | exact impl_GfMul.mono _ _ _
      | exact spec_GfMul.mono _ _ _
      | exact LeO.none _
      | refine LeO.ite ?_ ?_
      | refine LeO.bind ?_ (fun _ => ?_)
set_option maxHeartbeats 8000000 in
set_option maxRecDepth 100000 in
theorem laws_FnGf.calls (k : Nat) (A0 : Option Addr) (c0 : Nat) (l0 : List Int) (A1 : Option Addr) (c1 : Nat) (l1 : List Int) (r : Bool) (w : World) (hr0 : Kd.C (Kd.int .u8) w A0 l0.length l0) (hc0 : l0.length ≤ c0) (hr1 : Kd.C (Kd.int .u8) w A1 l1.length l1) (hc1 : l1.length ≤ c1) (h : laws_FnGf.f k l0 l1 = some r) :
    Calls Try.prog 12 #[.slice A0 l0.length c0, .slice A1 l1.length c1] w fun e w' => e = .returned (.bool r) ∧ Drawn0 w w' := by
  have HR0 := Aside0.mk hr0
  have HC0 := Aside0.mk hc0
  clear hr0 hc0
  have HR1 := Aside0.mk hr1
  have HC1 := Aside0.mk hc1
  clear hr1 hc1
  have H : (if (l0.length : Int) > 1048576 then (laws_FnGf.j0 k l0 l1 true) else (laws_FnGf.j0 k l0 l1 (decide ((l1.length : Int) > 1048576)))) = some r := h
  clear h
  have HC3 := Aside0.mk H
  clear H
  go_enter Try.func12, Try.ntmps12
  go_upto_region 1 with (fail)
  go_cut [35] (fun v35 wc => ∃ (kq : Nat) (x35_2 : Bool), v35 = .bool x35_2 ∧ Aside0 (laws_FnGf.j0 kq l0 l1 x35_2 = some r) ∧ Aside0 (kq ≤ k) ∧ Drawn0 w wc)
  case first =>
    have H := HC3.out
    clear HC3
    by_cases c4 : (l0.length : Int) > 1048576
    · rw [if_pos c4] at H
      have c4b0 : decide (1048576 < (l0.length : Int)) = true := decide_eq_true c4
      have c4b1 : decide (1048576 < l0.length) = true := decide_eq_true (by omega)
      clear c4
      (first | rw [c4b0] | (simp only [i64_w, i32_w]; rw [c4b0]) | skip)
      have H' := Aside0.mk H
      clear H
      go_wp2
      go_meet
      case rel => exact ⟨_, (true), (by first | rfl | (simp; done) | (simp [*]; done)), H', ⟨by first | omega | exact Nat.le_refl _⟩, by repeat (first | exact Drawn0.refl _ | apply Drawn0.step)⟩
    · rw [if_neg c4] at H
      have c4b0 : decide (1048576 < (l0.length : Int)) = false := decide_eq_false c4
      have c4b1 : decide (1048576 < l0.length) = false := decide_eq_false (by omega)
      clear c4
      (first | rw [c4b0] | (simp only [i64_w, i32_w]; rw [c4b0]) | skip)
      have H' := Aside0.mk H
      clear H
      go_wp2
      go_meet
      case rel => exact ⟨_, (decide ((l1.length : Int) > 1048576)), (by first | rfl | (simp; done) | (simp [*]; done)), H', ⟨by first | omega | exact Nat.le_refl _⟩, by repeat (first | exact Drawn0.refl _ | apply Drawn0.step)⟩
  case rest =>
    clear HC3
    try clear c1
    try clear p2
    try clear c4
    try clear c4b0
    try clear c4b1
    obtain ⟨kq, x35_2, rfl, HA, HJ2, ⟨mc2, rfl⟩⟩ := hcut
    cases kq with
    | zero => exact absurd HA.out (by simp [laws_FnGf.j0])
    | succ kj2 =>
      have H := HA.out
      clear HA
      simp only [laws_FnGf.j0] at H
      by_cases c5 : x35_2 = true
      · subst c5
        have H1 : (some true) = some r := by rw [if_pos rfl] at H; exact H
        clear H
        have H := H1
        clear H1
        obtain rfl := Option.some.inj H
        go_wp2
        go_ret
        exact ⟨by first | rfl | (simp; done) | (simp [*]; done), by repeat (first | exact Drawn0.refl _ | apply Drawn0.step)⟩
      · replace c5 := Bool.eq_false_iff.mpr c5
        subst c5
        have H1 : ((laws_at.f l0 0 256).bind fun t245 => ((laws_at.f l1 0 256).bind fun t246 => ((laws_at.f l1 1 256).bind fun t247 => ((impl_GfMul.f kj2 t245 t246).bind fun bt248 => ((impl_GfMul.f kj2 t246 t245).bind fun bt250 => ((impl_GfMul.f kj2 t246 t247).bind fun bt252 => ((impl_GfMul.f kj2 bt248.1 t247).bind fun bt254 => ((impl_GfMul.f kj2 t245 bt252.1).bind fun bt256 => ((impl_GfMul.f kj2 t245 t247).bind fun bt258 => ((impl_GfMul.f kj2 t245 (Go.bits .xor .i64 t246 t247)).bind fun bt260 => ((spec_GfMul.f kj2 t245 t246).bind fun bt262 => (if bt248.2 = 0 then (if bt250.2 = 0 then (if bt252.2 = 0 then (if bt254.2 = 0 then (if bt256.2 = 0 then (if bt258.2 = 0 then (if bt260.2 = 0 then (if bt248.1 = bt262.1 then (if bt248.1 = bt250.1 then (if bt254.1 = bt256.1 then (laws_FnGf.j1 kj2 t245 (bt260.1 != (Go.bits .xor .i64 bt248.1 bt258.1))) else (laws_FnGf.j1 kj2 t245 true)) else (laws_FnGf.j1 kj2 t245 true)) else (laws_FnGf.j1 kj2 t245 true)) else (laws_FnGf.j1 kj2 t245 true)) else (laws_FnGf.j1 kj2 t245 true)) else (laws_FnGf.j1 kj2 t245 true)) else (laws_FnGf.j1 kj2 t245 true)) else (laws_FnGf.j1 kj2 t245 true)) else (laws_FnGf.j1 kj2 t245 true)) else (laws_FnGf.j1 kj2 t245 true))))))))))))) = some r := by rw [if_neg (show ¬ (false = true) by decide)] at H; exact H
        clear H
        have H := H1
        clear H1
        replace H := Option.bind_eq_some_iff.mp H
        obtain ⟨t245, A60, H⟩ := H
        replace H : ((laws_at.f l1 0 256).bind fun t246 => ((laws_at.f l1 1 256).bind fun t247 => ((impl_GfMul.f kj2 t245 t246).bind fun bt248 => ((impl_GfMul.f kj2 t246 t245).bind fun bt250 => ((impl_GfMul.f kj2 t246 t247).bind fun bt252 => ((impl_GfMul.f kj2 bt248.1 t247).bind fun bt254 => ((impl_GfMul.f kj2 t245 bt252.1).bind fun bt256 => ((impl_GfMul.f kj2 t245 t247).bind fun bt258 => ((impl_GfMul.f kj2 t245 (Go.bits .xor .i64 t246 t247)).bind fun bt260 => ((spec_GfMul.f kj2 t245 t246).bind fun bt262 => (if bt248.2 = 0 then (if bt250.2 = 0 then (if bt252.2 = 0 then (if bt254.2 = 0 then (if bt256.2 = 0 then (if bt258.2 = 0 then (if bt260.2 = 0 then (if bt248.1 = bt262.1 then (if bt248.1 = bt250.1 then (if bt254.1 = bt256.1 then (laws_FnGf.j1 kj2 t245 (bt260.1 != (Go.bits .xor .i64 bt248.1 bt258.1))) else (laws_FnGf.j1 kj2 t245 true)) else (laws_FnGf.j1 kj2 t245 true)) else (laws_FnGf.j1 kj2 t245 true)) else (laws_FnGf.j1 kj2 t245 true)) else (laws_FnGf.j1 kj2 t245 true)) else (laws_FnGf.j1 kj2 t245 true)) else (laws_FnGf.j1 kj2 t245 true)) else (laws_FnGf.j1 kj2 t245 true)) else (laws_FnGf.j1 kj2 t245 true)) else (laws_FnGf.j1 kj2 t245 true)))))))))))) = some r := H
        have A6 := Aside0.mk A60
        clear A60
        replace H := Option.bind_eq_some_iff.mp H
        obtain ⟨t246, A70, H⟩ := H
        replace H : ((laws_at.f l1 1 256).bind fun t247 => ((impl_GfMul.f kj2 t245 t246).bind fun bt248 => ((impl_GfMul.f kj2 t246 t245).bind fun bt250 => ((impl_GfMul.f kj2 t246 t247).bind fun bt252 => ((impl_GfMul.f kj2 bt248.1 t247).bind fun bt254 => ((impl_GfMul.f kj2 t245 bt252.1).bind fun bt256 => ((impl_GfMul.f kj2 t245 t247).bind fun bt258 => ((impl_GfMul.f kj2 t245 (Go.bits .xor .i64 t246 t247)).bind fun bt260 => ((spec_GfMul.f kj2 t245 t246).bind fun bt262 => (if bt248.2 = 0 then (if bt250.2 = 0 then (if bt252.2 = 0 then (if bt254.2 = 0 then (if bt256.2 = 0 then (if bt258.2 = 0 then (if bt260.2 = 0 then (if bt248.1 = bt262.1 then (if bt248.1 = bt250.1 then (if bt254.1 = bt256.1 then (laws_FnGf.j1 kj2 t245 (bt260.1 != (Go.bits .xor .i64 bt248.1 bt258.1))) else (laws_FnGf.j1 kj2 t245 true)) else (laws_FnGf.j1 kj2 t245 true)) else (laws_FnGf.j1 kj2 t245 true)) else (laws_FnGf.j1 kj2 t245 true)) else (laws_FnGf.j1 kj2 t245 true)) else (laws_FnGf.j1 kj2 t245 true)) else (laws_FnGf.j1 kj2 t245 true)) else (laws_FnGf.j1 kj2 t245 true)) else (laws_FnGf.j1 kj2 t245 true)) else (laws_FnGf.j1 kj2 t245 true))))))))))) = some r := H
        have A7 := Aside0.mk A70
        clear A70
        replace H := Option.bind_eq_some_iff.mp H
        obtain ⟨t247, A80, H⟩ := H
        replace H : ((impl_GfMul.f kj2 t245 t246).bind fun bt248 => ((impl_GfMul.f kj2 t246 t245).bind fun bt250 => ((impl_GfMul.f kj2 t246 t247).bind fun bt252 => ((impl_GfMul.f kj2 bt248.1 t247).bind fun bt254 => ((impl_GfMul.f kj2 t245 bt252.1).bind fun bt256 => ((impl_GfMul.f kj2 t245 t247).bind fun bt258 => ((impl_GfMul.f kj2 t245 (Go.bits .xor .i64 t246 t247)).bind fun bt260 => ((spec_GfMul.f kj2 t245 t246).bind fun bt262 => (if bt248.2 = 0 then (if bt250.2 = 0 then (if bt252.2 = 0 then (if bt254.2 = 0 then (if bt256.2 = 0 then (if bt258.2 = 0 then (if bt260.2 = 0 then (if bt248.1 = bt262.1 then (if bt248.1 = bt250.1 then (if bt254.1 = bt256.1 then (laws_FnGf.j1 kj2 t245 (bt260.1 != (Go.bits .xor .i64 bt248.1 bt258.1))) else (laws_FnGf.j1 kj2 t245 true)) else (laws_FnGf.j1 kj2 t245 true)) else (laws_FnGf.j1 kj2 t245 true)) else (laws_FnGf.j1 kj2 t245 true)) else (laws_FnGf.j1 kj2 t245 true)) else (laws_FnGf.j1 kj2 t245 true)) else (laws_FnGf.j1 kj2 t245 true)) else (laws_FnGf.j1 kj2 t245 true)) else (laws_FnGf.j1 kj2 t245 true)) else (laws_FnGf.j1 kj2 t245 true)))))))))) = some r := H
        have A8 := Aside0.mk A80
        clear A80
        replace H := Option.bind_eq_some_iff.mp H
        obtain ⟨⟨t248, t249⟩, A90, H⟩ := H
        replace H : ((impl_GfMul.f kj2 t246 t245).bind fun bt250 => ((impl_GfMul.f kj2 t246 t247).bind fun bt252 => ((impl_GfMul.f kj2 t248 t247).bind fun bt254 => ((impl_GfMul.f kj2 t245 bt252.1).bind fun bt256 => ((impl_GfMul.f kj2 t245 t247).bind fun bt258 => ((impl_GfMul.f kj2 t245 (Go.bits .xor .i64 t246 t247)).bind fun bt260 => ((spec_GfMul.f kj2 t245 t246).bind fun bt262 => (if t249 = 0 then (if bt250.2 = 0 then (if bt252.2 = 0 then (if bt254.2 = 0 then (if bt256.2 = 0 then (if bt258.2 = 0 then (if bt260.2 = 0 then (if t248 = bt262.1 then (if t248 = bt250.1 then (if bt254.1 = bt256.1 then (laws_FnGf.j1 kj2 t245 (bt260.1 != (Go.bits .xor .i64 t248 bt258.1))) else (laws_FnGf.j1 kj2 t245 true)) else (laws_FnGf.j1 kj2 t245 true)) else (laws_FnGf.j1 kj2 t245 true)) else (laws_FnGf.j1 kj2 t245 true)) else (laws_FnGf.j1 kj2 t245 true)) else (laws_FnGf.j1 kj2 t245 true)) else (laws_FnGf.j1 kj2 t245 true)) else (laws_FnGf.j1 kj2 t245 true)) else (laws_FnGf.j1 kj2 t245 true)) else (laws_FnGf.j1 kj2 t245 true))))))))) = some r := H
        have A9 := Aside0.mk A90
        clear A90
        replace H := Option.bind_eq_some_iff.mp H
        obtain ⟨⟨t250, t251⟩, A100, H⟩ := H
        replace H : ((impl_GfMul.f kj2 t246 t247).bind fun bt252 => ((impl_GfMul.f kj2 t248 t247).bind fun bt254 => ((impl_GfMul.f kj2 t245 bt252.1).bind fun bt256 => ((impl_GfMul.f kj2 t245 t247).bind fun bt258 => ((impl_GfMul.f kj2 t245 (Go.bits .xor .i64 t246 t247)).bind fun bt260 => ((spec_GfMul.f kj2 t245 t246).bind fun bt262 => (if t249 = 0 then (if t251 = 0 then (if bt252.2 = 0 then (if bt254.2 = 0 then (if bt256.2 = 0 then (if bt258.2 = 0 then (if bt260.2 = 0 then (if t248 = bt262.1 then (if t248 = t250 then (if bt254.1 = bt256.1 then (laws_FnGf.j1 kj2 t245 (bt260.1 != (Go.bits .xor .i64 t248 bt258.1))) else (laws_FnGf.j1 kj2 t245 true)) else (laws_FnGf.j1 kj2 t245 true)) else (laws_FnGf.j1 kj2 t245 true)) else (laws_FnGf.j1 kj2 t245 true)) else (laws_FnGf.j1 kj2 t245 true)) else (laws_FnGf.j1 kj2 t245 true)) else (laws_FnGf.j1 kj2 t245 true)) else (laws_FnGf.j1 kj2 t245 true)) else (laws_FnGf.j1 kj2 t245 true)) else (laws_FnGf.j1 kj2 t245 true)))))))) = some r := H
        have A10 := Aside0.mk A100
        clear A100
        replace H := Option.bind_eq_some_iff.mp H
        obtain ⟨⟨t252, t253⟩, A110, H⟩ := H
        replace H : ((impl_GfMul.f kj2 t248 t247).bind fun bt254 => ((impl_GfMul.f kj2 t245 t252).bind fun bt256 => ((impl_GfMul.f kj2 t245 t247).bind fun bt258 => ((impl_GfMul.f kj2 t245 (Go.bits .xor .i64 t246 t247)).bind fun bt260 => ((spec_GfMul.f kj2 t245 t246).bind fun bt262 => (if t249 = 0 then (if t251 = 0 then (if t253 = 0 then (if bt254.2 = 0 then (if bt256.2 = 0 then (if bt258.2 = 0 then (if bt260.2 = 0 then (if t248 = bt262.1 then (if t248 = t250 then (if bt254.1 = bt256.1 then (laws_FnGf.j1 kj2 t245 (bt260.1 != (Go.bits .xor .i64 t248 bt258.1))) else (laws_FnGf.j1 kj2 t245 true)) else (laws_FnGf.j1 kj2 t245 true)) else (laws_FnGf.j1 kj2 t245 true)) else (laws_FnGf.j1 kj2 t245 true)) else (laws_FnGf.j1 kj2 t245 true)) else (laws_FnGf.j1 kj2 t245 true)) else (laws_FnGf.j1 kj2 t245 true)) else (laws_FnGf.j1 kj2 t245 true)) else (laws_FnGf.j1 kj2 t245 true)) else (laws_FnGf.j1 kj2 t245 true))))))) = some r := H
        have A11 := Aside0.mk A110
        clear A110
        replace H := Option.bind_eq_some_iff.mp H
        obtain ⟨⟨t254, t255⟩, A120, H⟩ := H
        replace H : ((impl_GfMul.f kj2 t245 t252).bind fun bt256 => ((impl_GfMul.f kj2 t245 t247).bind fun bt258 => ((impl_GfMul.f kj2 t245 (Go.bits .xor .i64 t246 t247)).bind fun bt260 => ((spec_GfMul.f kj2 t245 t246).bind fun bt262 => (if t249 = 0 then (if t251 = 0 then (if t253 = 0 then (if t255 = 0 then (if bt256.2 = 0 then (if bt258.2 = 0 then (if bt260.2 = 0 then (if t248 = bt262.1 then (if t248 = t250 then (if t254 = bt256.1 then (laws_FnGf.j1 kj2 t245 (bt260.1 != (Go.bits .xor .i64 t248 bt258.1))) else (laws_FnGf.j1 kj2 t245 true)) else (laws_FnGf.j1 kj2 t245 true)) else (laws_FnGf.j1 kj2 t245 true)) else (laws_FnGf.j1 kj2 t245 true)) else (laws_FnGf.j1 kj2 t245 true)) else (laws_FnGf.j1 kj2 t245 true)) else (laws_FnGf.j1 kj2 t245 true)) else (laws_FnGf.j1 kj2 t245 true)) else (laws_FnGf.j1 kj2 t245 true)) else (laws_FnGf.j1 kj2 t245 true)))))) = some r := H
        have A12 := Aside0.mk A120
        clear A120
        replace H := Option.bind_eq_some_iff.mp H
        obtain ⟨⟨t256, t257⟩, A130, H⟩ := H
        replace H : ((impl_GfMul.f kj2 t245 t247).bind fun bt258 => ((impl_GfMul.f kj2 t245 (Go.bits .xor .i64 t246 t247)).bind fun bt260 => ((spec_GfMul.f kj2 t245 t246).bind fun bt262 => (if t249 = 0 then (if t251 = 0 then (if t253 = 0 then (if t255 = 0 then (if t257 = 0 then (if bt258.2 = 0 then (if bt260.2 = 0 then (if t248 = bt262.1 then (if t248 = t250 then (if t254 = t256 then (laws_FnGf.j1 kj2 t245 (bt260.1 != (Go.bits .xor .i64 t248 bt258.1))) else (laws_FnGf.j1 kj2 t245 true)) else (laws_FnGf.j1 kj2 t245 true)) else (laws_FnGf.j1 kj2 t245 true)) else (laws_FnGf.j1 kj2 t245 true)) else (laws_FnGf.j1 kj2 t245 true)) else (laws_FnGf.j1 kj2 t245 true)) else (laws_FnGf.j1 kj2 t245 true)) else (laws_FnGf.j1 kj2 t245 true)) else (laws_FnGf.j1 kj2 t245 true)) else (laws_FnGf.j1 kj2 t245 true))))) = some r := H
        have A13 := Aside0.mk A130
        clear A130
        replace H := Option.bind_eq_some_iff.mp H
        obtain ⟨⟨t258, t259⟩, A140, H⟩ := H
        replace H : ((impl_GfMul.f kj2 t245 (Go.bits .xor .i64 t246 t247)).bind fun bt260 => ((spec_GfMul.f kj2 t245 t246).bind fun bt262 => (if t249 = 0 then (if t251 = 0 then (if t253 = 0 then (if t255 = 0 then (if t257 = 0 then (if t259 = 0 then (if bt260.2 = 0 then (if t248 = bt262.1 then (if t248 = t250 then (if t254 = t256 then (laws_FnGf.j1 kj2 t245 (bt260.1 != (Go.bits .xor .i64 t248 t258))) else (laws_FnGf.j1 kj2 t245 true)) else (laws_FnGf.j1 kj2 t245 true)) else (laws_FnGf.j1 kj2 t245 true)) else (laws_FnGf.j1 kj2 t245 true)) else (laws_FnGf.j1 kj2 t245 true)) else (laws_FnGf.j1 kj2 t245 true)) else (laws_FnGf.j1 kj2 t245 true)) else (laws_FnGf.j1 kj2 t245 true)) else (laws_FnGf.j1 kj2 t245 true)) else (laws_FnGf.j1 kj2 t245 true)))) = some r := H
        have A14 := Aside0.mk A140
        clear A140
        replace H := Option.bind_eq_some_iff.mp H
        obtain ⟨⟨t260, t261⟩, A150, H⟩ := H
        replace H : ((spec_GfMul.f kj2 t245 t246).bind fun bt262 => (if t249 = 0 then (if t251 = 0 then (if t253 = 0 then (if t255 = 0 then (if t257 = 0 then (if t259 = 0 then (if t261 = 0 then (if t248 = bt262.1 then (if t248 = t250 then (if t254 = t256 then (laws_FnGf.j1 kj2 t245 (t260 != (Go.bits .xor .i64 t248 t258))) else (laws_FnGf.j1 kj2 t245 true)) else (laws_FnGf.j1 kj2 t245 true)) else (laws_FnGf.j1 kj2 t245 true)) else (laws_FnGf.j1 kj2 t245 true)) else (laws_FnGf.j1 kj2 t245 true)) else (laws_FnGf.j1 kj2 t245 true)) else (laws_FnGf.j1 kj2 t245 true)) else (laws_FnGf.j1 kj2 t245 true)) else (laws_FnGf.j1 kj2 t245 true)) else (laws_FnGf.j1 kj2 t245 true))) = some r := H
        have A15 := Aside0.mk A150
        clear A150
        replace H := Option.bind_eq_some_iff.mp H
        obtain ⟨⟨t262, t263⟩, A160, H⟩ := H
        replace H : (if t249 = 0 then (if t251 = 0 then (if t253 = 0 then (if t255 = 0 then (if t257 = 0 then (if t259 = 0 then (if t261 = 0 then (if t248 = t262 then (if t248 = t250 then (if t254 = t256 then (laws_FnGf.j1 kj2 t245 (t260 != (Go.bits .xor .i64 t248 t258))) else (laws_FnGf.j1 kj2 t245 true)) else (laws_FnGf.j1 kj2 t245 true)) else (laws_FnGf.j1 kj2 t245 true)) else (laws_FnGf.j1 kj2 t245 true)) else (laws_FnGf.j1 kj2 t245 true)) else (laws_FnGf.j1 kj2 t245 true)) else (laws_FnGf.j1 kj2 t245 true)) else (laws_FnGf.j1 kj2 t245 true)) else (laws_FnGf.j1 kj2 t245 true)) else (laws_FnGf.j1 kj2 t245 true)) = some r := H
        have A16 := Aside0.mk A160
        clear A160
        have HC17 := Aside0.mk H
        clear H
        go_upto_region 14 with (first | ((with_reducible refine gate_callee (f := 34) rfl ?_); refine goesL_ (some 37) rfl rfl Try.func34 (by kernel_rfl) rfl #[.slice A0 l0.length c0, .int .i64 0, .int .i64 256] rfl (by (try simp only [List.map_toArray, List.map_cons, List.map_nil]); first | done | rfl | (simp only [List.length_drop, List.length_take]; rfl)) ?_; (with_reducible refine (laws_at.calls _ _ l0 0 256 t245 _ ?side1 ?side2 A6.out).mono ?_); (case side1 => repeat (first | exact HR0.out | (with_reducible refine Kd.C_alloc ?_ _) | (with_reducible refine Kd.C_drewN ?_ _) | (with_reducible refine Kd.C_drew ?_))); (case side2 => exact HC0.out); rintro e w' ⟨rfl, ⟨nd, rfl⟩⟩; refine ⟨_, rfl, ?_⟩) | ((with_reducible refine gate_callee (f := 34) rfl ?_); refine goesL_ (some 39) rfl rfl Try.func34 (by kernel_rfl) rfl #[.slice A1 l1.length c1, .int .i64 0, .int .i64 256] rfl (by (try simp only [List.map_toArray, List.map_cons, List.map_nil]); first | done | rfl | (simp only [List.length_drop, List.length_take]; rfl)) ?_; (with_reducible refine (laws_at.calls _ _ l1 0 256 t246 _ ?side1 ?side2 A7.out).mono ?_); (case side1 => repeat (first | exact HR1.out | (with_reducible refine Kd.C_alloc ?_ _) | (with_reducible refine Kd.C_drewN ?_ _) | (with_reducible refine Kd.C_drew ?_))); (case side2 => exact HC1.out); rintro e w' ⟨rfl, ⟨nd, rfl⟩⟩; refine ⟨_, rfl, ?_⟩) | ((with_reducible refine gate_callee (f := 34) rfl ?_); refine goesL_ (some 41) rfl rfl Try.func34 (by kernel_rfl) rfl #[.slice A1 l1.length c1, .int .i64 1, .int .i64 256] rfl (by (try simp only [List.map_toArray, List.map_cons, List.map_nil]); first | done | rfl | (simp only [List.length_drop, List.length_take]; rfl)) ?_; (with_reducible refine (laws_at.calls _ _ l1 1 256 t247 _ ?side1 ?side2 A8.out).mono ?_); (case side1 => repeat (first | exact HR1.out | (with_reducible refine Kd.C_alloc ?_ _) | (with_reducible refine Kd.C_drewN ?_ _) | (with_reducible refine Kd.C_drew ?_))); (case side2 => exact HC1.out); rintro e w' ⟨rfl, ⟨nd, rfl⟩⟩; refine ⟨_, rfl, ?_⟩) | ((with_reducible refine gate_callee (f := 26) rfl ?_); refine goesL_ (some 45) rfl rfl Try.func26 (by kernel_rfl) rfl #[.int .i64 t245, .int .i64 t246] rfl (by (try simp only [List.map_toArray, List.map_cons, List.map_nil]); first | done | rfl | (simp only [List.length_drop, List.length_take]; rfl)) ?_; (with_reducible refine (impl_GfMul.calls kj2 t245 t246 t248 t249 _ A9.out).mono ?_); rintro e w' ⟨rfl, ⟨nd, rfl⟩⟩; refine ⟨_, rfl, ?_⟩) | ((with_reducible refine gate_callee (f := 26) rfl ?_); refine goesL_ (some 51) rfl rfl Try.func26 (by kernel_rfl) rfl #[.int .i64 t246, .int .i64 t245] rfl (by (try simp only [List.map_toArray, List.map_cons, List.map_nil]); first | done | rfl | (simp only [List.length_drop, List.length_take]; rfl)) ?_; (with_reducible refine (impl_GfMul.calls kj2 t246 t245 t250 t251 _ A10.out).mono ?_); rintro e w' ⟨rfl, ⟨nd, rfl⟩⟩; refine ⟨_, rfl, ?_⟩) | ((with_reducible refine gate_callee (f := 26) rfl ?_); refine goesL_ (some 57) rfl rfl Try.func26 (by kernel_rfl) rfl #[.int .i64 t246, .int .i64 t247] rfl (by (try simp only [List.map_toArray, List.map_cons, List.map_nil]); first | done | rfl | (simp only [List.length_drop, List.length_take]; rfl)) ?_; (with_reducible refine (impl_GfMul.calls kj2 t246 t247 t252 t253 _ A11.out).mono ?_); rintro e w' ⟨rfl, ⟨nd, rfl⟩⟩; refine ⟨_, rfl, ?_⟩) | ((with_reducible refine gate_callee (f := 26) rfl ?_); refine goesL_ (some 63) rfl rfl Try.func26 (by kernel_rfl) rfl #[.int .i64 t248, .int .i64 t247] rfl (by (try simp only [List.map_toArray, List.map_cons, List.map_nil]); first | done | rfl | (simp only [List.length_drop, List.length_take]; rfl)) ?_; (with_reducible refine (impl_GfMul.calls kj2 t248 t247 t254 t255 _ A12.out).mono ?_); rintro e w' ⟨rfl, ⟨nd, rfl⟩⟩; refine ⟨_, rfl, ?_⟩) | ((with_reducible refine gate_callee (f := 26) rfl ?_); refine goesL_ (some 69) rfl rfl Try.func26 (by kernel_rfl) rfl #[.int .i64 t245, .int .i64 t252] rfl (by (try simp only [List.map_toArray, List.map_cons, List.map_nil]); first | done | rfl | (simp only [List.length_drop, List.length_take]; rfl)) ?_; (with_reducible refine (impl_GfMul.calls kj2 t245 t252 t256 t257 _ A13.out).mono ?_); rintro e w' ⟨rfl, ⟨nd, rfl⟩⟩; refine ⟨_, rfl, ?_⟩) | ((with_reducible refine gate_callee (f := 26) rfl ?_); refine goesL_ (some 75) rfl rfl Try.func26 (by kernel_rfl) rfl #[.int .i64 t245, .int .i64 t247] rfl (by (try simp only [List.map_toArray, List.map_cons, List.map_nil]); first | done | rfl | (simp only [List.length_drop, List.length_take]; rfl)) ?_; (with_reducible refine (impl_GfMul.calls kj2 t245 t247 t258 t259 _ A14.out).mono ?_); rintro e w' ⟨rfl, ⟨nd, rfl⟩⟩; refine ⟨_, rfl, ?_⟩) | ((with_reducible refine gate_callee (f := 26) rfl ?_); refine goesL_ (some 83) rfl rfl Try.func26 (by kernel_rfl) rfl #[.int .i64 t245, .int .i64 (Go.bits .xor .i64 t246 t247)] rfl (by (try simp only [List.map_toArray, List.map_cons, List.map_nil]); first | done | rfl | (simp only [List.length_drop, List.length_take]; rfl)) ?_; (with_reducible refine (impl_GfMul.calls kj2 t245 (Go.bits .xor .i64 t246 t247) t260 t261 _ A15.out).mono ?_); rintro e w' ⟨rfl, ⟨nd, rfl⟩⟩; refine ⟨_, rfl, ?_⟩) | ((with_reducible refine gate_callee (f := 25) rfl ?_); refine goesL_ (some 89) rfl rfl Try.func25 (by kernel_rfl) rfl #[.int .i64 t245, .int .i64 t246] rfl (by (try simp only [List.map_toArray, List.map_cons, List.map_nil]); first | done | rfl | (simp only [List.length_drop, List.length_take]; rfl)) ?_; (with_reducible refine (spec_GfMul.calls kj2 t245 t246 t262 t263 _ A16.out).mono ?_); rintro e w' ⟨rfl, ⟨nd, rfl⟩⟩; refine ⟨_, rfl, ?_⟩))
        (try simp only [Act.put, List.setIfInBounds_toArray, List.set_cons_zero, List.set_cons_succ])
        go_cut [139] (fun v139 wc => ∃ (kq : Nat) (x139_16 : Bool), v139 = .bool x139_16 ∧ Aside0 (laws_FnGf.j1 kq t245 x139_16 = some r) ∧ Aside0 (kq ≤ kj2) ∧ Drawn0 w wc)
        case first =>
          have H := HC17.out
          clear HC17
          by_cases c18 : t249 = 0
          · rw [if_pos c18] at H
            have c18b0 : (t249 == 0) = true := beq_iff_eq.mpr c18
            have c18b1 : (t249 != 0) = false := bne_eq_false_iff_eq.mpr c18
            clear c18
            (first | rw [c18b0] | (simp only [i64_w, i32_w]; rw [c18b0]) | skip)
            by_cases c19 : t251 = 0
            · rw [if_pos c19] at H
              have c19b0 : (t251 == 0) = true := beq_iff_eq.mpr c19
              have c19b1 : (t251 != 0) = false := bne_eq_false_iff_eq.mpr c19
              clear c19
              by_cases c20 : t253 = 0
              · rw [if_pos c20] at H
                have c20b0 : (t253 == 0) = true := beq_iff_eq.mpr c20
                have c20b1 : (t253 != 0) = false := bne_eq_false_iff_eq.mpr c20
                clear c20
                by_cases c21 : t255 = 0
                · rw [if_pos c21] at H
                  have c21b0 : (t255 == 0) = true := beq_iff_eq.mpr c21
                  have c21b1 : (t255 != 0) = false := bne_eq_false_iff_eq.mpr c21
                  clear c21
                  by_cases c22 : t257 = 0
                  · rw [if_pos c22] at H
                    have c22b0 : (t257 == 0) = true := beq_iff_eq.mpr c22
                    have c22b1 : (t257 != 0) = false := bne_eq_false_iff_eq.mpr c22
                    clear c22
                    by_cases c23 : t259 = 0
                    · rw [if_pos c23] at H
                      have c23b0 : (t259 == 0) = true := beq_iff_eq.mpr c23
                      have c23b1 : (t259 != 0) = false := bne_eq_false_iff_eq.mpr c23
                      clear c23
                      by_cases c24 : t261 = 0
                      · rw [if_pos c24] at H
                        have c24b0 : (t261 == 0) = true := beq_iff_eq.mpr c24
                        have c24b1 : (t261 != 0) = false := bne_eq_false_iff_eq.mpr c24
                        clear c24
                        by_cases c25 : t248 = t262
                        · rw [if_pos c25] at H
                          have c25b0 : (t248 == t262) = true := beq_iff_eq.mpr c25
                          have c25b1 : (t248 != t262) = false := bne_eq_false_iff_eq.mpr c25
                          clear c25
                          by_cases c26 : t248 = t250
                          · rw [if_pos c26] at H
                            have c26b0 : (t248 == t250) = true := beq_iff_eq.mpr c26
                            have c26b1 : (t248 != t250) = false := bne_eq_false_iff_eq.mpr c26
                            clear c26
                            by_cases c27 : t254 = t256
                            · rw [if_pos c27] at H
                              have c27b0 : (t254 == t256) = true := beq_iff_eq.mpr c27
                              have c27b1 : (t254 != t256) = false := bne_eq_false_iff_eq.mpr c27
                              clear c27
                              have H' := Aside0.mk H
                              clear H
                              go_wp2
                              go_meet
                              case rel => exact ⟨_, ((t260 != (Go.bits .xor .i64 t248 t258))), (by first | rfl | (simp; done) | (simp [*]; done)), H', ⟨by have := HJ2.out; first | omega | exact Nat.le_refl _⟩, by repeat (first | exact Drawn0.refl _ | apply Drawn0.step)⟩
                            · rw [if_neg c27] at H
                              have c27b0 : (t254 == t256) = false := beq_eq_false_iff_ne.mpr c27
                              have c27b1 : (t254 != t256) = true := bne_iff_ne.mpr c27
                              have H' := Aside0.mk H
                              clear H
                              go_wp2
                              go_meet
                              case rel => exact ⟨_, (true), (by first | rfl | (simp; done) | (simp [*]; done)), H', ⟨by have := HJ2.out; first | omega | exact Nat.le_refl _⟩, by repeat (first | exact Drawn0.refl _ | apply Drawn0.step)⟩
                          · rw [if_neg c26] at H
                            have c26b0 : (t248 == t250) = false := beq_eq_false_iff_ne.mpr c26
                            have c26b1 : (t248 != t250) = true := bne_iff_ne.mpr c26
                            have H' := Aside0.mk H
                            clear H
                            go_wp2
                            go_meet
                            case rel => exact ⟨_, (true), (by first | rfl | (simp; done) | (simp [*]; done)), H', ⟨by have := HJ2.out; first | omega | exact Nat.le_refl _⟩, by repeat (first | exact Drawn0.refl _ | apply Drawn0.step)⟩
                        · rw [if_neg c25] at H
                          have c25b0 : (t248 == t262) = false := beq_eq_false_iff_ne.mpr c25
                          have c25b1 : (t248 != t262) = true := bne_iff_ne.mpr c25
                          have H' := Aside0.mk H
                          clear H
                          go_wp2
                          go_meet
                          case rel => exact ⟨_, (true), (by first | rfl | (simp; done) | (simp [*]; done)), H', ⟨by have := HJ2.out; first | omega | exact Nat.le_refl _⟩, by repeat (first | exact Drawn0.refl _ | apply Drawn0.step)⟩
                      · rw [if_neg c24] at H
                        have c24b0 : (t261 == 0) = false := beq_eq_false_iff_ne.mpr c24
                        have c24b1 : (t261 != 0) = true := bne_iff_ne.mpr c24
                        have H' := Aside0.mk H
                        clear H
                        go_wp2
                        go_meet
                        case rel => exact ⟨_, (true), (by first | rfl | (simp; done) | (simp [*]; done)), H', ⟨by have := HJ2.out; first | omega | exact Nat.le_refl _⟩, by repeat (first | exact Drawn0.refl _ | apply Drawn0.step)⟩
                    · rw [if_neg c23] at H
                      have c23b0 : (t259 == 0) = false := beq_eq_false_iff_ne.mpr c23
                      have c23b1 : (t259 != 0) = true := bne_iff_ne.mpr c23
                      have H' := Aside0.mk H
                      clear H
                      go_wp2
                      go_meet
                      case rel => exact ⟨_, (true), (by first | rfl | (simp; done) | (simp [*]; done)), H', ⟨by have := HJ2.out; first | omega | exact Nat.le_refl _⟩, by repeat (first | exact Drawn0.refl _ | apply Drawn0.step)⟩
                  · rw [if_neg c22] at H
                    have c22b0 : (t257 == 0) = false := beq_eq_false_iff_ne.mpr c22
                    have c22b1 : (t257 != 0) = true := bne_iff_ne.mpr c22
                    have H' := Aside0.mk H
                    clear H
                    go_wp2
                    go_meet
                    case rel => exact ⟨_, (true), (by first | rfl | (simp; done) | (simp [*]; done)), H', ⟨by have := HJ2.out; first | omega | exact Nat.le_refl _⟩, by repeat (first | exact Drawn0.refl _ | apply Drawn0.step)⟩
                · rw [if_neg c21] at H
                  have c21b0 : (t255 == 0) = false := beq_eq_false_iff_ne.mpr c21
                  have c21b1 : (t255 != 0) = true := bne_iff_ne.mpr c21
                  have H' := Aside0.mk H
                  clear H
                  go_wp2
                  go_meet
                  case rel => exact ⟨_, (true), (by first | rfl | (simp; done) | (simp [*]; done)), H', ⟨by have := HJ2.out; first | omega | exact Nat.le_refl _⟩, by repeat (first | exact Drawn0.refl _ | apply Drawn0.step)⟩
              · rw [if_neg c20] at H
                have c20b0 : (t253 == 0) = false := beq_eq_false_iff_ne.mpr c20
                have c20b1 : (t253 != 0) = true := bne_iff_ne.mpr c20
                have H' := Aside0.mk H
                clear H
                go_wp2
                go_meet
                case rel => exact ⟨_, (true), (by first | rfl | (simp; done) | (simp [*]; done)), H', ⟨by have := HJ2.out; first | omega | exact Nat.le_refl _⟩, by repeat (first | exact Drawn0.refl _ | apply Drawn0.step)⟩
            · rw [if_neg c19] at H
              have c19b0 : (t251 == 0) = false := beq_eq_false_iff_ne.mpr c19
              have c19b1 : (t251 != 0) = true := bne_iff_ne.mpr c19
              have H' := Aside0.mk H
              clear H
              go_wp2
              go_meet
              case rel => exact ⟨_, (true), (by first | rfl | (simp; done) | (simp [*]; done)), H', ⟨by have := HJ2.out; first | omega | exact Nat.le_refl _⟩, by repeat (first | exact Drawn0.refl _ | apply Drawn0.step)⟩
          · rw [if_neg c18] at H
            have c18b0 : (t249 == 0) = false := beq_eq_false_iff_ne.mpr c18
            have c18b1 : (t249 != 0) = true := bne_iff_ne.mpr c18
            (first | rw [c18b0] | (simp only [i64_w, i32_w]; rw [c18b0]) | skip)
            have H' := Aside0.mk H
            clear H
            go_wp2
            go_meet
            case rel => exact ⟨_, (true), (by first | rfl | (simp; done) | (simp [*]; done)), H', ⟨by have := HJ2.out; first | omega | exact Nat.le_refl _⟩, by repeat (first | exact Drawn0.refl _ | apply Drawn0.step)⟩
        case rest =>
          clear HC17
          try clear c1
          try clear c2
          try clear p2
          try clear c3
          try clear c4
          try clear c4b0
          try clear c4b1
          try clear c5
          try clear c12
          try clear c18
          try clear c18b0
          try clear c18b1
          try clear c19
          try clear c19b0
          try clear c19b1
          try clear c20
          try clear c20b0
          try clear c20b1
          try clear c21
          try clear c21b0
          try clear c21b1
          try clear c22
          try clear c22b0
          try clear c22b1
          try clear c23
          try clear c23b0
          try clear c23b1
          try clear c24
          try clear c24b0
          try clear c24b1
          try clear c25
          try clear c25b0
          try clear c25b1
          try clear c26
          try clear c26b0
          try clear c26b1
          try clear c27
          try clear c27b0
          try clear c27b1
          try clear p2
          obtain ⟨kq, x139_16, rfl, HA, HJ16, ⟨mc16, rfl⟩⟩ := hcut
          cases kq with
          | zero => exact absurd HA.out (by simp [laws_FnGf.j1])
          | succ kj16 =>
            have H := HA.out
            clear HA
            simp only [laws_FnGf.j1] at H
            by_cases c28 : x139_16 = true
            · subst c28
              have H1 : (some false) = some r := by rw [if_pos rfl] at H; exact H
              clear H
              have H := H1
              clear H1
              obtain rfl := Option.some.inj H
              go_wp2
              go_ret
              exact ⟨by first | rfl | (simp; done) | (simp [*]; done), by repeat (first | exact Drawn0.refl _ | apply Drawn0.step)⟩
            · replace c28 := Bool.eq_false_iff.mpr c28
              subst c28
              have H1 : ((impl_GfInverse.f kj16 t245).bind fun bt264 => (if t245 = 0 then (some (bt264.2 == 5)) else ((impl_GfMul.f kj16 t245 bt264.1).bind fun bt266 => (if bt264.2 = 0 then (if bt266.2 = 0 then (some (bt266.1 == 1)) else (some false)) else (some false))))) = some r := by rw [if_neg (show ¬ (false = true) by decide)] at H; exact H
              clear H
              have H := H1
              clear H1
              replace H := Option.bind_eq_some_iff.mp H
              obtain ⟨⟨t264, t265⟩, A290, H⟩ := H
              replace H : (if t245 = 0 then (some (t265 == 5)) else ((impl_GfMul.f kj16 t245 t264).bind fun bt266 => (if t265 = 0 then (if bt266.2 = 0 then (some (bt266.1 == 1)) else (some false)) else (some false)))) = some r := H
              have A29 := Aside0.mk A290
              clear A290
              by_cases c30 : t245 = 0
              · rw [if_pos c30] at H
                have c30b0 : (t245 == 0) = true := beq_iff_eq.mpr c30
                have c30b1 : (t245 != 0) = false := bne_eq_false_iff_eq.mpr c30
                clear c30
                obtain rfl := Option.some.inj H
                go_wp2_with (first | ((with_reducible refine gate_callee (f := 33) rfl ?_); refine goesL_ (some 142) rfl rfl Try.func33 (by kernel_rfl) rfl #[.int .i64 t245] rfl (by (try simp only [List.map_toArray, List.map_cons, List.map_nil]); first | done | rfl | (simp only [List.length_drop, List.length_take]; rfl)) ?_; (with_reducible refine (impl_GfInverse.calls kj16 t245 t264 t265 _ A29.out).mono ?_); rintro e w' ⟨rfl, ⟨nd, rfl⟩⟩; refine ⟨_, rfl, ?_⟩))
                go_ret
                exact ⟨by first | rfl | (simp; done) | (simp [*]; done), by repeat (first | exact Drawn0.refl _ | apply Drawn0.step)⟩
              · rw [if_neg c30] at H
                have c30b0 : (t245 == 0) = false := beq_eq_false_iff_ne.mpr c30
                have c30b1 : (t245 != 0) = true := bne_iff_ne.mpr c30
                replace H := Option.bind_eq_some_iff.mp H
                obtain ⟨⟨t266, t267⟩, A310, H⟩ := H
                replace H : (if t265 = 0 then (if t267 = 0 then (some (t266 == 1)) else (some false)) else (some false)) = some r := H
                have A31 := Aside0.mk A310
                clear A310
                by_cases c32 : t265 = 0
                · rw [if_pos c32] at H
                  have c32b0 : (t265 == 0) = true := beq_iff_eq.mpr c32
                  have c32b1 : (t265 != 0) = false := bne_eq_false_iff_eq.mpr c32
                  clear c32
                  by_cases c33 : t267 = 0
                  · rw [if_pos c33] at H
                    have c33b0 : (t267 == 0) = true := beq_iff_eq.mpr c33
                    have c33b1 : (t267 != 0) = false := bne_eq_false_iff_eq.mpr c33
                    clear c33
                    obtain rfl := Option.some.inj H
                    go_wp2_with (first | ((with_reducible refine gate_callee (f := 33) rfl ?_); refine goesL_ (some 142) rfl rfl Try.func33 (by kernel_rfl) rfl #[.int .i64 t245] rfl (by (try simp only [List.map_toArray, List.map_cons, List.map_nil]); first | done | rfl | (simp only [List.length_drop, List.length_take]; rfl)) ?_; (with_reducible refine (impl_GfInverse.calls kj16 t245 t264 t265 _ A29.out).mono ?_); rintro e w' ⟨rfl, ⟨nd, rfl⟩⟩; refine ⟨_, rfl, ?_⟩) | ((with_reducible refine gate_callee (f := 26) rfl ?_); refine goesL_ (some 152) rfl rfl Try.func26 (by kernel_rfl) rfl #[.int .i64 t245, .int .i64 t264] rfl (by (try simp only [List.map_toArray, List.map_cons, List.map_nil]); first | done | rfl | (simp only [List.length_drop, List.length_take]; rfl)) ?_; (with_reducible refine (impl_GfMul.calls kj16 t245 t264 t266 t267 _ A31.out).mono ?_); rintro e w' ⟨rfl, ⟨nd, rfl⟩⟩; refine ⟨_, rfl, ?_⟩))
                    go_ret
                    exact ⟨by first | rfl | (simp; done) | (simp [*]; done), by repeat (first | exact Drawn0.refl _ | apply Drawn0.step)⟩
                  · rw [if_neg c33] at H
                    have c33b0 : (t267 == 0) = false := beq_eq_false_iff_ne.mpr c33
                    have c33b1 : (t267 != 0) = true := bne_iff_ne.mpr c33
                    obtain rfl := Option.some.inj H
                    go_wp2_with (first | ((with_reducible refine gate_callee (f := 33) rfl ?_); refine goesL_ (some 142) rfl rfl Try.func33 (by kernel_rfl) rfl #[.int .i64 t245] rfl (by (try simp only [List.map_toArray, List.map_cons, List.map_nil]); first | done | rfl | (simp only [List.length_drop, List.length_take]; rfl)) ?_; (with_reducible refine (impl_GfInverse.calls kj16 t245 t264 t265 _ A29.out).mono ?_); rintro e w' ⟨rfl, ⟨nd, rfl⟩⟩; refine ⟨_, rfl, ?_⟩) | ((with_reducible refine gate_callee (f := 26) rfl ?_); refine goesL_ (some 152) rfl rfl Try.func26 (by kernel_rfl) rfl #[.int .i64 t245, .int .i64 t264] rfl (by (try simp only [List.map_toArray, List.map_cons, List.map_nil]); first | done | rfl | (simp only [List.length_drop, List.length_take]; rfl)) ?_; (with_reducible refine (impl_GfMul.calls kj16 t245 t264 t266 t267 _ A31.out).mono ?_); rintro e w' ⟨rfl, ⟨nd, rfl⟩⟩; refine ⟨_, rfl, ?_⟩))
                    go_ret
                    exact ⟨by first | rfl | (simp; done) | (simp [*]; done), by repeat (first | exact Drawn0.refl _ | apply Drawn0.step)⟩
                · rw [if_neg c32] at H
                  have c32b0 : (t265 == 0) = false := beq_eq_false_iff_ne.mpr c32
                  have c32b1 : (t265 != 0) = true := bne_iff_ne.mpr c32
                  obtain rfl := Option.some.inj H
                  go_wp2_with (first | ((with_reducible refine gate_callee (f := 33) rfl ?_); refine goesL_ (some 142) rfl rfl Try.func33 (by kernel_rfl) rfl #[.int .i64 t245] rfl (by (try simp only [List.map_toArray, List.map_cons, List.map_nil]); first | done | rfl | (simp only [List.length_drop, List.length_take]; rfl)) ?_; (with_reducible refine (impl_GfInverse.calls kj16 t245 t264 t265 _ A29.out).mono ?_); rintro e w' ⟨rfl, ⟨nd, rfl⟩⟩; refine ⟨_, rfl, ?_⟩) | ((with_reducible refine gate_callee (f := 26) rfl ?_); refine goesL_ (some 152) rfl rfl Try.func26 (by kernel_rfl) rfl #[.int .i64 t245, .int .i64 t264] rfl (by (try simp only [List.map_toArray, List.map_cons, List.map_nil]); first | done | rfl | (simp only [List.length_drop, List.length_take]; rfl)) ?_; (with_reducible refine (impl_GfMul.calls kj16 t245 t264 t266 t267 _ A31.out).mono ?_); rintro e w' ⟨rfl, ⟨nd, rfl⟩⟩; refine ⟨_, rfl, ?_⟩))
                  go_ret
                  exact ⟨by first | rfl | (simp; done) | (simp [*]; done), by repeat (first | exact Drawn0.refl _ | apply Drawn0.step)⟩

/-- THE ONE PURE STATEMENT of laws_FnGf: yours. -/
def laws_FnGf.Pure : Prop := ∀ (l0 : List Int) (l1 : List Int), l0.length ≤ maxLen → l0.length * 1 ≤ 140737488351232 → (∀ x ∈ l0, (Lit.int .u8 x).wf = true) → l1.length ≤ maxLen → l1.length * 1 ≤ 140737488351232 → (∀ x ∈ l1, (Lit.int .u8 x).wf = true) → ∃ k, laws_FnGf.f k l0 l1 = some true
theorem laws_FnGf.walk (P : laws_FnGf.Pure) (a0 : Option Addr) (len0 cap0 : Nat) (z0 : List Int) (a1 : Option Addr) (len1 cap1 : Nat) (z1 : List Int) (w : World) (w0 : (a0 = none ∧ len0 = 0 ∧ cap0 = 0 ∧ z0 = []) ∨ ∃ x, a0 = some x ∧ len0 ≤ cap0 ∧ cap0 ≤ maxLen ∧ z0.length = cap0 ∧ (∀ i, i < z0.length → w.cell? (x.add i) = some (.int .u8 (z0.getD i 0))) ∧ ∀ n ∈ z0, (Lit.int .u8 n).wf = true) (y0 : len0 * 1 ≤ 140737488351232) (w1 : (a1 = none ∧ len1 = 0 ∧ cap1 = 0 ∧ z1 = []) ∨ ∃ x, a1 = some x ∧ len1 ≤ cap1 ∧ cap1 ≤ maxLen ∧ z1.length = cap1 ∧ (∀ i, i < z1.length → w.cell? (x.add i) = some (.int .u8 (z1.getD i 0))) ∧ ∀ n ∈ z1, (Lit.int .u8 n).wf = true) (y1 : len1 * 1 ≤ 140737488351232) :
    Calls Try.prog 12 #[.slice a0 len0 cap0, .slice a1 len1 cap1] w fun e w' => e = .returned (.bool true) ∧ Below w.heap.size w w' := by
  obtain ⟨l0, rfl, hr0, hm0, hw0, hc0⟩ := ReadsInt.ofRowC w0
  obtain ⟨l1, rfl, hr1, hm1, hw1, hc1⟩ := ReadsInt.ofRowC w1
  obtain ⟨k, h⟩ := P l0 l1 hm0 y0 hw0 hm1 y1 hw1
  refine (laws_FnGf.calls k _ _ l0 _ _ l1 true w (Kd.C_of_reads (d := (0 : Int)) (h1 := fun _ => rfl) hr0) hc0 (Kd.C_of_reads (d := (0 : Int)) (h1 := fun _ => rfl) hr1) hc1 h).mono ?_
  rintro e w' ⟨rfl, hd⟩
  exact ⟨rfl, hd.below⟩

end Go.Proofs.Ytiapfnpnfekknaa.P

-- Laid by a program of this session (wip/prn) over the translation: functions and their contracts. Lean checks it.
import Derived.Test.YtbpefnfeiidioaaPx0
namespace Go.Proofs.Ytbpefnfeiidioaa.P
open Go.RowKit Go.Proofs.YtbpefnfeiidioaaW.PrintWords Go.Proofs.YtbpefnfeiidioaaW.PrintLast Go.Proofs.YtbpefnfeiidioaaW.PrintMore
attribute [local go_sem] max2_int min2_int max_two min_two max_three min_three max_four min_four   -- for this text's walks alone
set_option linter.unusedVariables false
set_option linter.unusedSimpArgs false

/-! ### impl_within: function 63 -/
def impl_within.f (a0 : Int) (a1 : Int) (a2 : Int) : Option (Bool) := if a1 ≤ a0 then (some (decide (a0 ≤ a2))) else (some false)
set_option maxHeartbeats 8000000 in
set_option maxRecDepth 100000 in
theorem impl_within.calls (a0 : Int) (a1 : Int) (a2 : Int) (r : Bool) (w : World) (h : impl_within.f a0 a1 a2 = some r) :
    Calls Try.prog 63 #[.int .i64 a0, .int .i64 a1, .int .i64 a2] w fun e w' => e = .returned (.bool r) ∧ Drawn0 w w' := by
  have H : (if a1 ≤ a0 then (some (decide (a0 ≤ a2))) else (some false)) = some r := h
  clear h
  by_cases c4 : a1 ≤ a0
  · rw [if_pos c4] at H
    have c4b0 : decide (a1 ≤ a0) = true := decide_eq_true c4
    clear c4
    obtain rfl := Option.some.inj H
    go_enter Try.func63, Try.ntmps63
    go_wp2
    go_ret
    exact ⟨by first | rfl | (simp; done) | (simp [*]; done), by repeat (first | exact Drawn0.refl _ | apply Drawn0.step)⟩
  · rw [if_neg c4] at H
    have c4b0 : decide (a1 ≤ a0) = false := decide_eq_false c4
    clear c4
    obtain rfl := Option.some.inj H
    go_enter Try.func63, Try.ntmps63
    go_wp2
    go_ret
    exact ⟨by first | rfl | (simp; done) | (simp [*]; done), by repeat (first | exact Drawn0.refl _ | apply Drawn0.step)⟩

/-! ### impl_isByte: function 46 -/
def impl_isByte.f (a0 : Int) : Option (Bool) := (impl_within.f a0 0 255).bind fun t101 => (some t101)
set_option maxHeartbeats 8000000 in
set_option maxRecDepth 100000 in
theorem impl_isByte.calls (a0 : Int) (r : Bool) (w : World) (h : impl_isByte.f a0 = some r) :
    Calls Try.prog 46 #[.int .i64 a0] w fun e w' => e = .returned (.bool r) ∧ Drawn0 w w' := by
  have H : ((impl_within.f a0 0 255).bind fun t101 => (some t101)) = some r := h
  clear h
  replace H := Option.bind_eq_some_iff.mp H
  obtain ⟨t101, A20, H⟩ := H
  replace H : (some t101) = some r := H
  have A2 := Aside0.mk A20
  clear A20
  obtain rfl := Option.some.inj H
  go_enter Try.func46, Try.ntmps46
  go_wp2_with (first | ((with_reducible refine gate_callee (f := 63) rfl ?_); refine goesL_ (some 4) rfl rfl Try.func63 (by kernel_rfl) rfl #[.int .i64 a0, .int .i64 0, .int .i64 255] rfl (by (try simp only [List.map_toArray, List.map_cons, List.map_nil]); first | done | rfl | (simp only [List.length_drop, List.length_take]; rfl)) ?_; (with_reducible refine (impl_within.calls a0 0 255 t101 _ A2.out).mono ?_); rintro e w' ⟨rfl, ⟨nd, rfl⟩⟩; refine ⟨_, rfl, ?_⟩))
  go_ret
  exact ⟨by first | rfl | (simp; done) | (simp [*]; done), by repeat (first | exact Drawn0.refl _ | apply Drawn0.step)⟩

/-! ### impl_isLongList_int: function 50 -/
def impl_isLongList_int.f (l0 : List Int) : Option (Bool) := some (decide ((l0.length : Int) > 4096))
set_option maxHeartbeats 8000000 in
set_option maxRecDepth 100000 in
theorem impl_isLongList_int.calls (A0 : Option Addr) (c0 : Nat) (l0 : List Int) (r : Bool) (w : World) (hr0 : Kd.C (Kd.int .i64) w A0 l0.length l0) (hc0 : l0.length ≤ c0) (h : impl_isLongList_int.f l0 = some r) :
    Calls Try.prog 50 #[.slice A0 l0.length c0] w fun e w' => e = .returned (.bool r) ∧ Drawn0 w w' := by
  have HR0 := Aside0.mk hr0
  have HC0 := Aside0.mk hc0
  clear hr0 hc0
  have H : (some (decide ((l0.length : Int) > 4096))) = some r := h
  clear h
  obtain rfl := Option.some.inj H
  go_enter Try.func50, Try.ntmps50
  go_wp2
  go_ret
  exact ⟨by first | rfl | (simp; done) | (simp [*]; done), by repeat (first | exact Drawn0.refl _ | apply Drawn0.step)⟩

-- NOT PRINTED: function 108 (slices_IndexFunc_int_int)

-- NOT PRINTED: function 87 (slices_ContainsFunc_int_int)

/-! ### impl_areAll_int: function 51 -/
-- HAND rounds=0 making=1
def areAll_int_p (x : Int) : Bool := decide (0 ≤ x ∧ x ≤ 255)
def areAll_int_post (l0 : List Int) (w : World) (e : Ending) (w' : World) : Prop :=
  ∃ i : Int, e = .returned (.int .i64 i) ∧ decide (0 ≤ i) = (l0.any fun x => !areAll_int_p x) ∧ Below w.heap.size w w'
theorem areAll_int_is (x : Int) : impl_isByte.f x = some (areAll_int_p x) := by
  unfold impl_isByte.f impl_within.f areAll_int_p
  by_cases h0 : 0 ≤ x <;> simp [h0]
theorem areAll_int_1.calls (x : Int) (g : Nat) (w : World) (hg : w.heap[g]? = some (.cells #[.func (.func 46) #[] #[]] 48 (0, 0))) : Calls Try.prog 88 #[.int .i64 x, .pointer (some ⟨g, 0, none⟩)] w fun e w' => e = .returned (.bool (!areAll_int_p x)) ∧ Below w.heap.size w w' := by
  have c0_ : w.cell? ⟨g, 0, none⟩ = some (.func (.func 46) #[] #[]) := by simpa using cell_of_row w g 0 _ _ _ hg
  have HG := Aside0.mk hg
  clear hg
  go_enter Try.func88, Try.ntmps88
  go_wp2_with fail
  refine (impl_isByte.calls _ _ _ (areAll_int_is x)).mono ?_
  rintro e w' ⟨rfl, hdr⟩
  have hb := hdr.below
  go_wp2
  go_ret
  exact ⟨rfl, hb⟩
theorem areAll_int_at {w : World} {A0 : Option Addr} {l0 : List Int} (hr0 : Kd.C (Kd.int .i64) w A0 l0.length l0) (k : Nat) (hk : k < l0.length) :
    ∃ ad, A0 = some ad ∧ w.cell? (ad.add k) = some (.int .i64 l0[k]) := by
  obtain ⟨ad, c, rfl, _, hc, hw⟩ := Kd.C_get hr0 0 (k : Int) (by omega) (by omega)
  refine ⟨ad, rfl, ?_⟩
  have hc : c = [.int .i64 (l0.getD (k : Int).toNat 0)] := hc
  subst hc
  have := hw 0 _ rfl
  simpa [Kd.int, Kd.scalar, List.getD_eq_getElem?_getD, hk] using this
set_option maxHeartbeats 1000000 in
theorem IndexFunc_areAll_int.calls (A0 : Option Addr) (c0 : Nat) (l0 : List Int) (g : Nat) (w : World) (hr0 : Kd.C (Kd.int .i64) w A0 l0.length l0) (hg : w.heap[g]? = some (.cells #[.func (.func 46) #[] #[]] 48 (0, 0))) :
    Calls Try.prog 108 #[.slice A0 l0.length c0, .func (.func 88) #[] #[.pointer (some ⟨g, 0, none⟩)]] w (areAll_int_post l0 w) := by
  have HR0 := Aside0.mk hr0
  have HG := Aside0.mk hg
  clear hr0 hg
  have hm : l0.length ≤ 9223372036854775807 := HR0.out.2.1
  go_enter Try.func108, Try.ntmps108
  go_wp2
  go_loopw [8] (fun i wr => ∃ k : Nat, k ≤ l0.length ∧ i = .int .i64 k ∧ Aside0 (∀ j (hj : j < l0.length), j < k → areAll_int_p l0[j] = true) ∧ Aside0 (Below w.heap.size w wr)) (fun i _ => l0.length - (intOf i).toNat)
  case atStart => exact ⟨0, Nat.zero_le _, rfl, ⟨fun _ _ h => absurd h (by omega)⟩, ⟨Below.refl _ _⟩⟩
  case round =>
    obtain ⟨k, hk, rfl, HA, HB⟩ := hrel
    by_cases hlt : k < l0.length
    · obtain ⟨ad, had, hcell⟩ := areAll_int_at (Kd.C_below HR0.out HB.out) k hlt
      subst had
      have k0 : (0 : Int) ≤ (k : Int) := Int.natCast_nonneg k
      have k1 : (k : Int) < (l0.length : Int) := by omega
      have hd : decide ((k : Int) < (l0.length : Int)) = true := decide_eq_true k1
      have hd2 : decide (k < l0.length) = true := decide_eq_true hlt
      go_wp2_with fail
      refine (areAll_int_1.calls _ g wr (blk_below HG.out HB.out)).mono ?_
      rintro e w' ⟨rfl, hb⟩
      have HB1 := Aside0.mk (below_then HB.out HB.out.size hb)
      clear hb
      by_cases hp : areAll_int_p l0[k] = true
      · have HA1 : Aside0 (∀ j (hj : j < l0.length), j < k + 1 → areAll_int_p l0[j] = true) := ⟨fun j hj hjk => by
          rcases Nat.lt_or_ge j k with h | h
          · exact HA.out j hj h
          · obtain rfl : j = k := by omega
            exact hp⟩
        rw [hp]
        clear hp
        go_wp2
        go_roundw
        case rel => exact ⟨k + 1, by omega, by go_num, HA1, HB1⟩
        case measure => simp [intOf]; omega
      · have hp2 : areAll_int_p l0[k] = false := by simpa using hp
        have HF : Aside0 (areAll_int_post l0 w (.returned (.int .i64 (k : Int))) w') := ⟨⟨k, rfl, by
          rw [show decide ((0 : Int) ≤ (k : Int)) = true from decide_eq_true (by omega)]
          exact (List.any_eq_true.2 ⟨l0[k], List.getElem_mem hlt, by rw [hp2]; rfl⟩).symm, HB1.out⟩⟩
        rw [hp2]
        clear hp hp2
        go_wp2
        go_ret
        exact HF.out
    · have HF : Aside0 (areAll_int_post l0 w (.returned (.int .i64 (-1))) wr) := ⟨⟨-1, rfl, by
        rw [show decide ((0 : Int) ≤ -1) = false from rfl]
        refine (List.any_eq_false.2 fun x hx => ?_).symm
        obtain ⟨j, hj, rfl⟩ := List.mem_iff_getElem.1 hx
        rw [HA.out j hj (by omega)]
        simp, HB.out⟩⟩
      have hd : decide ((k : Int) < (l0.length : Int)) = false := decide_eq_false (by omega)
      have hd2 : decide (k < l0.length) = false := decide_eq_false hlt
      go_wp2
      go_ret
      exact HF.out
theorem ContainsFunc_areAll_int.calls (A0 : Option Addr) (c0 : Nat) (l0 : List Int) (g : Nat) (w : World) (hr0 : Kd.C (Kd.int .i64) w A0 l0.length l0) (hg : w.heap[g]? = some (.cells #[.func (.func 46) #[] #[]] 48 (0, 0))) :
    Calls Try.prog 87 #[.slice A0 l0.length c0, .func (.func 88) #[] #[.pointer (some ⟨g, 0, none⟩)]] w fun e w' => e = .returned (.bool (l0.any fun x => !areAll_int_p x)) ∧ Below w.heap.size w w' := by
  go_enter Try.func87, Try.ntmps87
  go_wp2_with fail
  refine (IndexFunc_areAll_int.calls _ _ _ g _ hr0 hg).mono ?_
  rintro e w' ⟨i, rfl, hi, hb⟩
  go_wp2
  go_ret
  exact ⟨by rw [← hi]; simp, hb⟩
theorem impl_areAll_int.calls (A0 : Option Addr) (c0 : Nat) (l0 : List Int) (w : World) (hr0 : Kd.C (Kd.int .i64) w A0 l0.length l0) :
    Calls Try.prog 51 #[.slice A0 l0.length c0, .func (.func 46) #[] #[]] w fun e w' => e = .returned (.bool (l0.all fun x => areAll_int_p x)) ∧ Below w.heap.size w w' := by
  have HR0 := Aside0.mk hr0
  clear hr0
  go_enter Try.func51, Try.ntmps51
  go_wp2_with fail
  refine (ContainsFunc_areAll_int.calls _ _ _ w.heap.size _ (Kd.C_alloc HR0.out _) (blk_new w _)).mono ?_
  rintro e w' ⟨rfl, hb⟩
  go_wp2
  go_ret
  refine ⟨?_, below_then (below_alloc (Below.refl _ _) _) (by simp) hb⟩
  congr 2
  simp [List.any_eq_not_all_not]

/-! ### impl_times: function 107 -/
def impl_times.l0 : Nat → Int → Int → Int → Option (Int)
  | 0, _, _, _ => none
  | k + 1, x1, x5, x6 => if x1 > 0 then (if (Go.bits .and .u8 x1 1) = 1 then (if (wrap64 (x6 * 2)) > 255 then (impl_times.l0 k (x1 / 2) (Go.bits .xor .i64 x5 x6) (Go.bits .xor .i64 (wrap64 (x6 * 2)) 283)) else (impl_times.l0 k (x1 / 2) (Go.bits .xor .i64 x5 x6) (wrap64 (x6 * 2)))) else (if (wrap64 (x6 * 2)) > 255 then (impl_times.l0 k (x1 / 2) x5 (Go.bits .xor .i64 (wrap64 (x6 * 2)) 283)) else (impl_times.l0 k (x1 / 2) x5 (wrap64 (x6 * 2))))) else (some ((x5) % 256))
def impl_times.f (k : Nat) (a0 : Int) (a1 : Int) : Option (Int) := impl_times.l0 k a1 0 (wrap64 (a0))
theorem impl_times.mono_l : ∀ k, (∀ y0 y1 y2, LeO (impl_times.l0 k y0 y1 y2) (impl_times.l0 (k + 1) y0 y1 y2))
  | 0 => fun _ _ _ r h => by simp [impl_times.l0] at h
  | k + 1 => by
    have ih0 := impl_times.mono_l k
    · intro y0 y1 y2
      unfold impl_times.l0
      repeat' first
      | (with_reducible exact ih0 _ _ _)
      | (with_reducible exact LeO.refl _)
      | (with_reducible exact LeO.none _)
      | (with_reducible refine LeO.ite ?_ ?_)
      | (with_reducible refine LeO.bind ?_ (fun _ => ?_))
      | exact ih0 _ _ _
      | exact LeO.none _
      | refine LeO.ite ?_ ?_
      | refine LeO.bind ?_ (fun _ => ?_)
theorem impl_times.mono : ∀ a0 a1 k, LeO (impl_times.f k a0 a1) (impl_times.f (k + 1) a0 a1) := by
  intro a0 a1 k
  have ih0 := impl_times.mono_l k
  unfold impl_times.f
  repeat' first
      | (with_reducible exact ih0 _ _ _)
      | (with_reducible exact LeO.refl _)
      | (with_reducible exact LeO.none _)
      | (with_reducible refine LeO.ite ?_ ?_)
      | (with_reducible refine LeO.bind ?_ (fun _ => ?_))
      | exact ih0 _ _ _
      | exact LeO.none _
      | refine LeO.ite ?_ ?_
      | refine LeO.bind ?_ (fun _ => ?_)
set_option maxHeartbeats 8000000 in
set_option maxRecDepth 100000 in
theorem impl_times.calls (k : Nat) (a0 : Int) (a1 : Int) (r : Int) (w : World) (h : impl_times.f k a0 a1 = some r) :
    Calls Try.prog 107 #[.int .u8 a0, .int .u8 a1] w fun e w' => e = .returned (.int .u8 r) ∧ Drawn0 w w' := by
  have H : (impl_times.l0 k a1 0 (wrap64 (a0))) = some r := h
  clear h
  have H' := Aside0.mk H
  clear H
  go_enter Try.func107, Try.ntmps107
  go_wp2
  go_loopg [1, 5, 6] k (fun kq v1 v5 v6 w' => ∃ (x1_1 : Int) (x5_1 : Int) (x6_1 : Int), v1 = .int .u8 x1_1 ∧ v5 = .int .i64 x5_1 ∧ v6 = .int .i64 x6_1 ∧ Aside0 (impl_times.l0 kq x1_1 x5_1 x6_1 = some r) ∧ Aside0 (kq ≤ k) ∧ Drawn0 w w')
  case atStart => exact ⟨(a1), (0), (wrap64 (a0)), (by first | rfl | (simp; done) | (simp [*]; done)), (by first | rfl | (simp; done) | (simp [*]; done)), (by first | rfl | (simp; done) | (simp [*]; done)), H', ⟨Nat.le_refl _⟩, by repeat (first | exact Drawn0.refl _ | apply Drawn0.step)⟩
  case round =>
    clear H'
    try clear c1
    try clear p2
    obtain ⟨x1_1, x5_1, x6_1, rfl, rfl, rfl, HA, HK1, ⟨m1, rfl⟩⟩ := hrel
    cases gk with
    | zero => exact absurd HA.out (by simp [impl_times.l0])
    | succ k1 =>
      have H := HA.out
      clear HA
      simp only [impl_times.l0] at H
      by_cases c3 : x1_1 > 0
      · rw [if_pos c3] at H
        have c3b0 : decide (0 < x1_1) = true := decide_eq_true c3
        clear c3
        by_cases c4 : (Go.bits .and .u8 x1_1 1) = 1
        · rw [if_pos c4] at H
          have c4b0 : ((Go.bits .and .u8 x1_1 1) == 1) = true := beq_iff_eq.mpr c4
          have c4b1 : ((Go.bits .and .u8 x1_1 1) != 1) = false := bne_eq_false_iff_eq.mpr c4
          clear c4
          by_cases c5 : (wrap64 (x6_1 * 2)) > 255
          · rw [if_pos c5] at H
            have c5b0 : decide (255 < (wrap64 (x6_1 * 2))) = true := decide_eq_true c5
            clear c5
            have H' := Aside0.mk H
            clear H
            go_wp2
            go_roundg k1
            case measure => have := HK1.out; omega
            case rel => exact ⟨(x1_1 / 2), (Go.bits .xor .i64 x5_1 x6_1), (Go.bits .xor .i64 (wrap64 (x6_1 * 2)) 283), (by first | rfl | (simp; done) | (simp [*]; done)), (by first | rfl | (simp; done) | (simp [*]; done)), (by first | rfl | (simp; done) | (simp [*]; done)), H', ⟨by have := HK1.out; omega⟩, by repeat (first | exact Drawn0.refl _ | apply Drawn0.step)⟩
          · rw [if_neg c5] at H
            have c5b0 : decide (255 < (wrap64 (x6_1 * 2))) = false := decide_eq_false c5
            clear c5
            have H' := Aside0.mk H
            clear H
            go_wp2
            go_roundg k1
            case measure => have := HK1.out; omega
            case rel => exact ⟨(x1_1 / 2), (Go.bits .xor .i64 x5_1 x6_1), (wrap64 (x6_1 * 2)), (by first | rfl | (simp; done) | (simp [*]; done)), (by first | rfl | (simp; done) | (simp [*]; done)), (by first | rfl | (simp; done) | (simp [*]; done)), H', ⟨by have := HK1.out; omega⟩, by repeat (first | exact Drawn0.refl _ | apply Drawn0.step)⟩
        · rw [if_neg c4] at H
          have c4b0 : ((Go.bits .and .u8 x1_1 1) == 1) = false := beq_eq_false_iff_ne.mpr c4
          have c4b1 : ((Go.bits .and .u8 x1_1 1) != 1) = true := bne_iff_ne.mpr c4
          by_cases c6 : (wrap64 (x6_1 * 2)) > 255
          · rw [if_pos c6] at H
            have c6b0 : decide (255 < (wrap64 (x6_1 * 2))) = true := decide_eq_true c6
            clear c6
            have H' := Aside0.mk H
            clear H
            go_wp2
            go_roundg k1
            case measure => have := HK1.out; omega
            case rel => exact ⟨(x1_1 / 2), (x5_1), (Go.bits .xor .i64 (wrap64 (x6_1 * 2)) 283), (by first | rfl | (simp; done) | (simp [*]; done)), (by first | rfl | (simp; done) | (simp [*]; done)), (by first | rfl | (simp; done) | (simp [*]; done)), H', ⟨by have := HK1.out; omega⟩, by repeat (first | exact Drawn0.refl _ | apply Drawn0.step)⟩
          · rw [if_neg c6] at H
            have c6b0 : decide (255 < (wrap64 (x6_1 * 2))) = false := decide_eq_false c6
            clear c6
            have H' := Aside0.mk H
            clear H
            go_wp2
            go_roundg k1
            case measure => have := HK1.out; omega
            case rel => exact ⟨(x1_1 / 2), (x5_1), (wrap64 (x6_1 * 2)), (by first | rfl | (simp; done) | (simp [*]; done)), (by first | rfl | (simp; done) | (simp [*]; done)), (by first | rfl | (simp; done) | (simp [*]; done)), H', ⟨by have := HK1.out; omega⟩, by repeat (first | exact Drawn0.refl _ | apply Drawn0.step)⟩
      · rw [if_neg c3] at H
        have c3b0 : decide (0 < x1_1) = false := decide_eq_false c3
        clear c3
        obtain rfl := Option.some.inj H
        go_wp2
        go_ret
        exact ⟨by first | rfl | (simp; done) | (simp [*]; done), by repeat (first | exact Drawn0.refl _ | apply Drawn0.step)⟩

/-! ### behind impl_times -/
theorem times_wrap (n : Nat) (h : n < 9223372036854775808) : wrap64 (n : Int) = n := by unfold wrap64; omega
theorem impl_times_step (k b p x : Nat) (hb : b < 256) (hb0 : b ≠ 0) (hp : p < 256) (hx : x < 256) :
    impl_times.l0 (k + 1) b p x = impl_times.l0 k ((b / 2 : Nat) : Int) ((if b % 2 = 1 then p ^^^ x else p : Nat) : Int) ((Gf.xt x : Nat) : Int) := by
  have e1 : Go.bits .and .u8 (b : Int) 1 = ((b % 2 : Nat) : Int) := by
    rw [← Gf.and_one]; exact Gf.and_u8 b 1 hb (by decide)
  have e2 : wrap64 ((x : Int) * 2) = ((x * 2 : Nat) : Int) := by unfold wrap64; omega
  have e3 : Go.bits .xor .i64 ((x * 2 : Nat) : Int) 283 = ((x * 2 ^^^ 283 : Nat) : Int) := Gf.xor_i64 (x * 2) 283 (by omega) (by decide)
  have e4 : Go.bits .xor .i64 (p : Int) (x : Int) = ((p ^^^ x : Nat) : Int) := Gf.xor_i64 p x (by omega) (by omega)
  have e5 : (b : Int) / 2 = ((b / 2 : Nat) : Int) := by omega
  simp only [impl_times.l0]
  rw [if_pos (by omega), e1, e2, e3, e4, e5]
  by_cases h1 : b % 2 = 1 <;> by_cases h2 : x * 2 > 255
  · rw [if_pos (by omega), if_pos (by omega), if_pos h1, Gf.xt, if_pos h2]
  · rw [if_pos (by omega), if_neg (by omega), if_pos h1, Gf.xt, if_neg h2]
  · rw [if_neg (by omega), if_pos (by omega), if_neg h1, Gf.xt, if_pos h2]
  · rw [if_neg (by omega), if_neg (by omega), if_neg h1, Gf.xt, if_neg h2]
theorem impl_times_run (n : Nat) : ∀ (k b p x : Nat), b < 2 ^ n → b < 256 → p < 256 → x < 256 → n < k → impl_times.l0 k b p x = some ((Gf.mulc n b p x : Nat) : Int) := by
  have stop : ∀ (k p x : Nat), p < 256 → impl_times.l0 (k + 1) (0 : Nat) p x = some (p : Int) := by
    intro k p x hp
    simp only [impl_times.l0]
    rw [if_neg (by omega)]
    congr 1
    omega
  induction n with
  | zero =>
    intro k b p x hb _ hp _ hk
    obtain ⟨k, rfl⟩ : ∃ m, k = m + 1 := ⟨k - 1, by omega⟩
    obtain rfl : b = 0 := by omega
    exact stop k p x hp
  | succ n ih =>
    intro k b p x hb hb2 hp hx hk
    obtain ⟨k, rfl⟩ : ∃ m, k = m + 1 := ⟨k - 1, by omega⟩
    by_cases h0 : b = 0
    · subst h0
      rw [stop k p x hp, Gf.mulc_zero]
    · rw [impl_times_step k b p x hb2 h0 hp hx]
      refine ih k _ _ _ (by omega) (by omega) ?_ (Gf.xt_lt x hx) (by omega)
      split
      · exact Gf.xor_lt hp hx
      · exact hp
theorem impl_times_gm (a b : Nat) (ha : a < 256) (hb : b < 256) : impl_times.f 9 a b = some ((Gf.gm a b : Nat) : Int) := by
  unfold impl_times.f
  rw [times_wrap a (by omega)]
  exact impl_times_run 8 9 b 0 a hb hb (by decide) ha (by decide)
/-- the product of two bytes as numbers -/
def tm (a b : Int) : Int := ((Gf.gm a.toNat b.toNat : Nat) : Int)
def byteOk (x : Int) : Prop := 0 ≤ x ∧ x ≤ 255
theorem tm_ok (a b : Int) (ha : byteOk a) : byteOk (tm a b) := by
  have := Gf.gm_lt (a := a.toNat) (b := b.toNat) (by have := ha.2; omega)
  unfold tm byteOk
  omega
theorem times_calls (a b : Int) (w : World) (ha : byteOk a) (hb : byteOk b) :
    Calls Try.prog 107 #[.int .u8 a, .int .u8 b] w fun e w' => e = .returned (.int .u8 (tm a b)) ∧ Drawn0 w w' := by
  obtain ⟨m, rfl⟩ := Int.eq_ofNat_of_zero_le ha.1
  obtain ⟨n, rfl⟩ := Int.eq_ofNat_of_zero_le hb.1
  exact impl_times.calls 9 _ _ _ w (impl_times_gm m n (by have := ha.2; omega) (by have := hb.2; omega))
theorem xor8_nat (a b : Int) (ha : byteOk a) (hb : byteOk b) : Go.bits .xor .u8 a b = ((a.toNat ^^^ b.toNat : Nat) : Int) := by
  obtain ⟨m, rfl⟩ := Int.eq_ofNat_of_zero_le ha.1
  obtain ⟨n, rfl⟩ := Int.eq_ofNat_of_zero_le hb.1
  exact Gf.xor_u8 m n (by have := ha.2; omega) (by have := hb.2; omega)
theorem xor8_ok (a b : Int) (ha : byteOk a) (hb : byteOk b) : byteOk (Go.bits .xor .u8 a b) := by
  rw [xor8_nat a b ha hb]
  have := Gf.xor_lt (a := a.toNat) (b := b.toNat) (by have := ha.2; omega) (by have := hb.2; omega)
  exact ⟨Int.natCast_nonneg _, by omega⟩

/-! ### impl_mixed: function 89 -/
-- HAND rounds=0 making=1
/-- the sum of the first k products of row i -/
def mpart (c f : List Int) (i : Nat) : Nat → Int
  | 0 => 0
  | k + 1 => Go.bits .xor .u8 (mpart c f i k) (tm (c.getD ((i + k) % 4) 0) (f.getD k 0))
def mixedL (c f : List Int) : List Int := [mpart c f 0 4, mpart c f 1 4, mpart c f 2 4, mpart c f 3 4]
def bytesOk (l : List Int) : Prop := ∀ x ∈ l, byteOk x
instance (x : Int) : Decidable (byteOk x) := by unfold byteOk; infer_instance
instance (l : List Int) : Decidable (bytesOk l) := by unfold bytesOk; infer_instance
theorem bytesOk_getD {l : List Int} (h : bytesOk l) (i : Nat) : byteOk (l.getD i 0) := by
  rcases Nat.lt_or_ge i l.length with hi | hi
  · rw [List.getD_eq_getElem?_getD, List.getElem?_eq_getElem hi]
    exact h _ (List.getElem_mem hi)
  · rw [List.getD_eq_getElem?_getD, List.getElem?_eq_none hi]
    exact ⟨by decide, by decide⟩
theorem mpart_ok (c f : List Int) (h : bytesOk c) (i k : Nat) : byteOk (mpart c f i k) := by
  induction k with
  | zero => show byteOk 0; decide
  | succ k ih => exact xor8_ok _ _ ih (tm_ok _ _ (bytesOk_getD h _))
theorem mixedL_ok (c f : List Int) (h : bytesOk c) : bytesOk (mixedL c f) := by
  intro x hx
  simp only [mixedL, List.mem_cons, List.not_mem_nil, or_false] at hx
  rcases hx with rfl | rfl | rfl | rfl <;> exact mpart_ok c f h _ _
/-- the row so far: the first i are done, the i-th has k parts -/
def mixedTo (c f : List Int) (i k : Nat) : List Int := (List.range 4).map fun j => if j < i then mpart c f j 4 else if j = i then mpart c f i k else 0
theorem mixedTo_length (c f : List Int) (i k : Nat) : (mixedTo c f i k).length = 4 := by simp [mixedTo]
theorem mixedTo_at (c f : List Int) (i k : Nat) (hi : i < 4) (h : i < (mixedTo c f i k).length) : (mixedTo c f i k)[i] = mpart c f i k := by
  simp [mixedTo]
theorem mixedTo_set (c f : List Int) (i k : Nat) (hi : i < 4) : (mixedTo c f i k).set i (mpart c f i (k + 1)) = mixedTo c f i (k + 1) := by
  apply List.ext_getElem
  · simp [mixedTo]
  · intro j h1 h2
    rw [List.getElem_set]
    have h4 : j < 4 := by simpa [mixedTo] using h2
    split
    · subst_vars; simp [mixedTo]
    · simp only [mixedTo, List.getElem_map, List.getElem_range]
      split
      · rfl
      · rw [if_neg (by omega), if_neg (by omega)]
theorem mixedTo_next (c f : List Int) (i : Nat) (hi : i < 4) : mixedTo c f i 4 = mixedTo c f (i + 1) 0 := by
  apply List.ext_getElem
  · simp [mixedTo]
  · intro j h1 h2
    simp only [mixedTo, List.getElem_map, List.getElem_range]
    by_cases e : j < i
    · rw [if_pos e, if_pos (by omega)]
    · by_cases e2 : j = i
      · subst e2; rw [if_neg (by omega), if_pos rfl, if_pos (by omega)]
      · rw [if_neg e, if_neg e2, if_neg (by omega)]
        split
        · subst_vars; rfl
        · rfl
theorem mixedTo_end (c f : List Int) : mixedTo c f 4 0 = mixedL c f := rfl
theorem mixedTo_zero (c f : List Int) : mixedTo c f 0 0 = [0, 0, 0, 0] := rfl
theorem mix_info : (Try.prog.info? 65).map (·.size) = some 4 := by kernel_rfl
set_option maxHeartbeats 4000000 in
theorem impl_mixed_in (c f ml : List Int) (w : World) (hml : mixedL c f = ml) (hc : c.length = 4) (hf : f.length = 4) (oc : bytesOk c) (of : bytesOk f) :
    Calls Try.prog 89 #[arr8 c, arr8 f] w fun e w' => e = .returned (arr8 ml) ∧ Below w.heap.size w w' := by
  have HML := Aside0.mk hml
  have HLm : Aside0 ((nums IntKind.u8 ml).toArray.size = 4) := ⟨by rw [← hml]; rfl⟩
  clear hml
  have HC := Aside0.mk hc
  have HF := Aside0.mk hf
  have OC := Aside0.mk oc
  have OF := Aside0.mk of
  have HLc : Aside0 ((nums IntKind.u8 c).toArray.size = 4) := ⟨by simp [nums, hc]⟩
  have HLf : Aside0 ((nums IntKind.u8 f).toArray.size = 4) := ⟨by simp [nums, hf]⟩
  clear hc hf oc of
  unfold arr8
  go_enter Try.func89, Try.ntmps89
  go_wp2
  go_loopw [9] (fun i wr => ∃ k : Nat, k ≤ 4 ∧ i = .int .i64 k ∧ Aside0 (wr.heap[w.heap.size]? = some (.cells (nums .u8 c).toArray 65 (0, 0))) ∧ Aside0 (wr.heap[w.heap.size + 1]? = some (.cells (nums .u8 f).toArray 65 (0, 0)))
      ∧ Aside0 (wr.heap[w.heap.size + 1 + 1]? = some (.cells (nums .u8 [0, 0, 0, 0]).toArray 65 (0, 0))) ∧ Aside0 (wr.heap[w.heap.size + 1 + 1 + 1]? = some (.cells (nums .u8 (mixedTo c f k 0)).toArray 65 (0, 0))) ∧ Aside0 (Below w.heap.size w wr)) (fun i _ => 4 - (intOf i).toNat)
  case atStart => exact ⟨0, by omega, rfl, ⟨blk_alloc (blk_alloc (blk_alloc (blk_new w _) _) _) _⟩, ⟨blk_alloc (blk_alloc (blk_new2 w _ _) _) _⟩, ⟨blk_alloc (blk_new3 w _ _ _) _⟩, ⟨blk_new4 w _ _ _ _⟩, ⟨below_alloc (below_alloc (below_alloc (below_alloc (Below.refl w.heap.size w) _) _) _) _⟩⟩
  case round =>
    obtain ⟨i, hi, rfl, G1, G2, G3, G4, HB⟩ := hrel
    by_cases hlt : i < 4
    · have i0 : (0 : Int) ≤ (i : Int) := Int.natCast_nonneg i
      have i1 : (i : Int) < 4 := by omega
      have hd : decide ((i : Int) < 4) = true := decide_eq_true i1
      obtain ⟨wo, rfl⟩ : ∃ wo, wo = wr := ⟨_, rfl⟩
      go_wp2_with (refine wpList_load_row (by rfl) 65 (.tmp 3) (by rfl) _ (by rfl) 65 _ (0, 0) _ G2.out Try.underlying65 rfl (by rw [HLf.out]; exact mix_info) ?_)
      go_loopw [13] (fun j wr => ∃ k : Nat, k ≤ 4 ∧ j = .int .i64 k ∧ Aside0 (wr.heap[w.heap.size]? = some (.cells (nums .u8 c).toArray 65 (0, 0))) ∧ Aside0 (wr.heap[w.heap.size + 1]? = some (.cells (nums .u8 f).toArray 65 (0, 0)))
        ∧ Aside0 (wr.heap[w.heap.size + 1 + 1]? = some (.cells (nums .u8 [0, 0, 0, 0]).toArray 65 (0, 0))) ∧ Aside0 (wr.heap[w.heap.size + 1 + 1 + 1]? = some (.cells (nums .u8 (mixedTo c f i k)).toArray 65 (0, 0))) ∧ Aside0 (Below w.heap.size w wr)) (fun j _ => 4 - (intOf j).toNat)
      case atStart => exact ⟨0, by omega, rfl, G1, G2, G3, G4, HB⟩
      case round =>
        clear G1 G2 G3 G4 HB
        obtain ⟨k, hk, rfl, G1, G2, G3, G4, HB⟩ := hrel
        by_cases hlk : k < 4
        · have k0 : (0 : Int) ≤ (k : Int) := Int.natCast_nonneg k
          have k1 : (k : Int) < 4 := by omega
          have hdk : decide ((k : Int) < 4) = true := decide_eq_true k1
          have kx := run_index_agg (P := Try.prog) (xs := f) Try.underlying65 Try.underlying5 (by kernel_rfl) k hlk HF.out
          obtain ⟨m, hm⟩ : ∃ m, (i + k) % 4 = m := ⟨_, rfl⟩
          have hm4 : m < 4 := by omega
          have cO : wr.cell? ⟨w.heap.size + 1 + 1 + 1, i, none⟩ = some (.int .u8 (mpart c f i k)) := by
            rw [blk_cell G4.out i, nums_at (by rw [mixedTo_length]; exact hlt), mixedTo_at c f i k hlt]
          have zO := blk_frozen G4.out i
          have cA : wr.cell? ⟨w.heap.size, m, none⟩ = some (.int .u8 (c.getD m 0)) := by
            rw [blk_cell G1.out m, nums_at (by have := HC.out; omega)]
            simp [List.getD_eq_getElem?_getD, show m < c.length by have := HC.out; omega]
          have hmod : ((i : Int) + (k : Int)) % 4 = (m : Int) := by omega
          have m0 : (0 : Int) ≤ (m : Int) := Int.natCast_nonneg m
          have m1 : (m : Int) < 4 := by omega
          have HM := Aside0.mk hm
          clear hm
          go_wp2
          have htm : ((i : Int) + (k : Int)).tmod 4 = (m : Int) := by rw [Int.tmod_eq_emod_of_nonneg (by omega)]; exact hmod
          have hwm : IntKind.i64.wrap (m : Int) = (m : Int) := IntWalk.i64_in _ (by omega)
          have hws : IntKind.i64.wrap ((i : Int) + (k : Int)) = (i : Int) + (k : Int) := IntWalk.i64_in _ (by omega)
          go_region_with (go_at_call 107; refine (times_calls _ _ _ (bytesOk_getD OC.out m) (bytesOk_getD OF.out k)).mono ?_; rintro e w' ⟨rfl, ⟨⟨n, rfl⟩⟩⟩)
          all_goals
            clear htm hwm hws
            go_wp2
            go_roundw
            case rel =>
              refine ⟨k + 1, by omega, by go_num, ⟨blk_far (blk_drewN G1.out _) (by simp <;> omega) _⟩, ⟨blk_far (blk_drewN G2.out _) (by simp <;> omega) _⟩, ⟨blk_far (blk_drewN G3.out _) (by simp <;> omega) _⟩, ⟨?_⟩, ⟨below_set (pw_below_drewN HB.out _) (by omega)⟩⟩
              rw [← mixedTo_set c f i k hlt, ← nums_set]
              have e1 : mpart c f i (k + 1) = Go.bits .xor .u8 (mpart c f i k) (tm (c[m]?.getD 0) (f[k]?.getD 0)) := by
                simp only [mpart, HM.out, List.getD_eq_getElem?_getD]
              rw [e1]
              exact blk_set (blk_drewN G4.out _) i _
            case measure => simp [intOf]; omega
        · have hdk : decide ((k : Int) < 4) = false := decide_eq_false (by omega)
          have e4 : mixedTo c f i k = mixedTo c f (i + 1) 0 := by
            obtain rfl : k = 4 := by omega
            exact mixedTo_next c f i hlt
          rw [e4] at G4
          clear e4
          go_wp2
          go_roundw
          case rel => exact ⟨i + 1, by omega, by go_num, G1, G2, G3, G4, HB⟩
          case measure => simp [intOf]; omega
    · have hd : decide ((i : Int) < 4) = false := decide_eq_false (by omega)
      have e4 : mixedTo c f i 0 = ml := by
        obtain rfl : i = 4 := by omega
        exact HML.out
      rw [e4] at G4
      clear e4
      have GR := Aside0.mk (setRow_heap wr (w.heap.size + 1 + 1) _ (nums IntKind.u8 (ml)).toArray _ _ G3.out)
      go_wp2_with (first
        | (refine wpList_load_row (by rfl) 65 (.tmp 5) (by rfl) _ (by rfl) 65 _ (0, 0) _ G4.out Try.underlying65 rfl (by rw [HLm.out]; exact mix_info) ?_)
        | (refine wpList_store_row (by rfl) 65 (.tmp 4) (.tmp 32) (by rfl) (w.heap.size + 1 + 1) _ (by rfl) (by rfl) 65 _ G3.out (by rw [HLm.out]; exact mix_info) (by rw [HLm.out]; rfl) (nums_one _ _) ?_))
      refine bodyPost_ret (v := arr8 (ml)) ?_ rfl ?_
      · exact results_cell_row (fn := Try.f89) (p := 4) (ty := 65) Try.results89 _ _ _ 65 _ (0, 0) _ (by rfl) GR.out Try.underlying65 rfl (by rw [HLm.out]; exact mix_info)
      · exact ⟨rfl, below_row HB.out (by omega) _⟩
theorem impl_mixed.calls (c f : List Int) (w : World) (hc : c.length = 4) (hf : f.length = 4) (oc : bytesOk c) (of : bytesOk f) :
    Calls Try.prog 89 #[arr8 c, arr8 f] w fun e w' => e = .returned (arr8 (mixedL c f)) ∧ Below w.heap.size w w' := impl_mixed_in c f _ w rfl hc hf oc of

/-! ### impl_mix: function 52 -/
-- HAND rounds=0 making=1
set_option maxHeartbeats 1000000 in
theorem impl_mix.calls (c : List Int) (w : World) (hc : c.length = 4) (oc : bytesOk c) :
    Calls Try.prog 52 #[arr8 c] w fun e w' => e = .returned (arr8 (mixedL c [2, 3, 1, 1])) ∧ Below w.heap.size w w' := by
  have HC := Aside0.mk hc
  have HLc : Aside0 ((nums IntKind.u8 c).toArray.size = 4) := ⟨by simp [nums, hc]⟩
  have OC := Aside0.mk oc
  obtain ⟨ml, hml⟩ : ∃ ml, mixedL c [2, 3, 1, 1] = ml := ⟨_, rfl⟩
  have HLm : Aside0 ((nums IntKind.u8 ml).toArray.size = 4) := ⟨by rw [← hml]; rfl⟩
  rw [hml]
  have HML := Aside0.mk hml
  clear hc oc hml
  unfold arr8
  have G1 := Aside0.mk (blk_alloc (blk_new w (Obj.cells (nums .u8 c).toArray 65)) (Obj.cells (nums .u8 [0, 0, 0, 0]).toArray 65))
  have G2 := Aside0.mk (blk_new2 w (Obj.cells (nums .u8 c).toArray 65) (Obj.cells (nums .u8 [0, 0, 0, 0]).toArray 65))
  have HB0 := Aside0.mk (below_alloc (below_alloc (Below.refl w.heap.size w) (Obj.cells (nums .u8 c).toArray 65)) (Obj.cells (nums .u8 [0, 0, 0, 0]).toArray 65))
  have HZ : Aside0 (((w.alloc (Obj.cells (nums .u8 c).toArray 65)).alloc (Obj.cells (nums .u8 [0, 0, 0, 0]).toArray 65)).heap.size = w.heap.size + 2) := ⟨by simp⟩
  go_enter Try.func52, Try.ntmps52
  go_wp2_with (refine wpList_load_row (by rfl) 65 (.tmp 1) (by rfl) _ (by rfl) 65 _ (0, 0) _ G1.out Try.underlying65 rfl (by rw [HLc.out]; exact mix_info) ?_)
  refine (impl_mixed.calls c [2, 3, 1, 1] _ HC.out rfl OC.out (by decide)).mono ?_
  rw [HML.out]
  rintro e w' ⟨rfl, hb⟩
  unfold arr8
  have G3 := Aside0.mk (blk_below G2.out hb)
  have HB1 := Aside0.mk (below_then HB0.out HB0.out.size hb)
  have GR := Aside0.mk (setRow_heap w' (w.heap.size + 1) _ (nums IntKind.u8 ml).toArray _ _ G3.out)
  clear hb
  go_wp2_with (refine wpList_store_row (by rfl) 65 (.tmp 2) (.tmp 5) (by rfl) (w.heap.size + 1) _ (by rfl) (by rfl) 65 _ G3.out (by rw [HLm.out]; exact mix_info) (by rw [HLm.out]; rfl) (nums_one _ _) ?_)
  refine bodyPost_ret (v := arr8 ml) ?_ rfl ?_
  · exact results_cell_row (fn := Try.f52) (p := 2) (ty := 65) Try.results52 _ _ _ 65 _ (0, 0) _ (by rfl) GR.out Try.underlying65 rfl (by rw [HLm.out]; exact mix_info)
  · exact ⟨rfl, below_row HB1.out (by omega) _⟩

/-! ### impl_MixColumn: function 17 -/
-- HAND rounds=0 making=1 info=3
def impl_MixColumn.f (l0 : List Int) : Option (List Int × Int) :=
  if 4096 < l0.length then some ([], 2) else if l0.length ≠ 4 then some ([], 1) else if (l0.all fun x => areAll_int_p x) = false then some ([], 4) else some (mixedL l0 [2, 3, 1, 1], 0)
def colTo (l : List Int) (k : Nat) : List Int := l.take k ++ List.replicate (4 - k) 0
theorem colTo_length (l : List Int) (h : l.length = 4) (k : Nat) (hk : k ≤ 4) : (colTo l k).length = 4 := by simp [colTo]; omega
theorem colTo_set (l : List Int) (h : l.length = 4) (k : Nat) (hk : k < 4) (hk2 : k < l.length) : (colTo l k).set k l[k] = colTo l (k + 1) := by
  apply List.ext_getElem
  · simp [colTo]; omega
  · intro j h1 h2
    simp only [colTo]
    rcases Nat.lt_trichotomy j k with e | e | e
    · rw [List.getElem_set_ne (by omega), List.getElem_append_left (by simp; omega), List.getElem_append_left (by simp; omega)]
      simp
    · subst e
      rw [List.getElem_set_self, List.getElem_append_left (by simp; omega)]
      simp
    · rw [List.getElem_set_ne (by omega), List.getElem_append_right (by simp; omega), List.getElem_append_right (by simp; omega)]
      simp
theorem colTo_end (l : List Int) (h : l.length = 4) : colTo l 4 = l := by simp [colTo, List.take_of_length_le, h]
def mixColPost (w : World) (r : List Int) (c : Int) (e : Ending) (w' : World) : Prop :=
  ∃ v0_ : Value, e = .returned (.tuple #[v0_, .int .i64 c]) ∧ Kd.R (Kd.int .i64) 3 w' w.heap.size (fun _ => True) v0_ r ∧ Below w.heap.size w w'
theorem mixCol_nil (w w' : World) (c : Int) (hb : Below w.heap.size w w') : mixColPost w [] c (.returned (.tuple #[.slice none 0 0, .int .i64 c])) w' := ⟨_, rfl, Kd.R_nil _ _ _ _ _, hb⟩
theorem longList_is (l : List Int) : impl_isLongList_int.f l = some (decide ((l.length : Int) > 4096)) := by
  unfold impl_isLongList_int.f; rfl
set_option maxHeartbeats 2000000 in
theorem mixCol_bad (A0 : Option Addr) (c0 : Nat) (l0 : List Int) (r : Int) (w : World) (hr0 : Kd.C (Kd.int .i64) w A0 l0.length l0) (hc0 : l0.length ≤ c0) (h : (4096 < l0.length ∧ r = 2) ∨ (¬ 4096 < l0.length ∧ l0.length ≠ 4 ∧ r = 1) ∨ (l0.length = 4 ∧ (l0.all fun x => areAll_int_p x) = false ∧ r = 4)) :
    Calls Try.prog 17 #[.slice A0 l0.length c0] w (mixColPost w [] r) := by
  have HR0 := Aside0.mk hr0
  have HC0 := Aside0.mk hc0
  clear hr0 hc0
  rcases h with ⟨h1, rfl⟩ | ⟨h1, h2, rfl⟩ | ⟨h1, h2, rfl⟩
  · have hd : decide ((l0.length : Int) > 4096) = true := decide_eq_true (by omega)
    have HL := Aside0.mk (longList_is l0)
    rw [hd] at HL
    go_enter Try.func17, Try.ntmps17
    go_wp2_with fail
    refine (impl_isLongList_int.calls _ _ _ _ _ HR0.out HC0.out HL.out).mono ?_
    rintro e w' ⟨rfl, hdr⟩
    have HB := Aside0.mk hdr.below
    clear hdr
    go_wp2
    go_ret2
    exact mixCol_nil _ _ _ HB.out
  · have hd : decide ((l0.length : Int) > 4096) = false := decide_eq_false (by omega)
    have hn : ((l0.length : Int) != 4) = true := by rw [bne_iff_ne]; omega
    have HL := Aside0.mk (longList_is l0)
    rw [hd] at HL
    go_enter Try.func17, Try.ntmps17
    go_wp2_with fail
    refine (impl_isLongList_int.calls _ _ _ _ _ HR0.out HC0.out HL.out).mono ?_
    rintro e w' ⟨rfl, hdr⟩
    have HB := Aside0.mk hdr.below
    clear hdr
    go_wp2
    go_ret2
    exact mixCol_nil _ _ _ HB.out
  · have hd : decide ((l0.length : Int) > 4096) = false := decide_eq_false (by omega)
    have hn : ((l0.length : Int) != 4) = false := by simp; omega
    clear h1
    have HL := Aside0.mk (longList_is l0)
    rw [hd] at HL
    have H2 := Aside0.mk h2
    clear h2
    go_enter Try.func17, Try.ntmps17
    go_wp2_with fail
    refine (impl_isLongList_int.calls _ _ _ _ _ HR0.out HC0.out HL.out).mono ?_
    rintro e w' ⟨rfl, hdr⟩
    have HB := Aside0.mk hdr.below
    clear hdr
    go_wp2_with fail
    refine (impl_areAll_int.calls _ _ _ _ (Kd.C_below HR0.out HB.out)).mono ?_
    rintro e w2 ⟨rfl, hb⟩
    have HB2 := Aside0.mk (below_then HB.out HB.out.size hb)
    clear hb
    rw [H2.out]
    go_wp2
    go_ret2
    exact mixCol_nil _ _ _ HB2.out
set_option maxHeartbeats 4000000 in
theorem mixCol_good (A0 : Option Addr) (c0 : Nat) (l0 ml : List Int) (w : World) (hml : mixedL l0 [2, 3, 1, 1] = ml) (hr0 : Kd.C (Kd.int .i64) w A0 l0.length l0) (hc0 : l0.length ≤ c0) (h1 : l0.length = 4) (h2 : (l0.all fun x => areAll_int_p x) = true) :
    Calls Try.prog 17 #[.slice A0 l0.length c0] w (mixColPost w ml 0) := by
  have HR0 := Aside0.mk hr0
  have HC0 := Aside0.mk hc0
  have H1 := Aside0.mk h1
  have H2 := Aside0.mk h2
  have HML := Aside0.mk hml
  have hok : bytesOk l0 := fun x hx => by
    have := List.all_eq_true.1 h2 x hx
    simpa [areAll_int_p, byteOk] using this
  have OK := Aside0.mk hok
  have HLm : Aside0 (ml.length = 4) := ⟨by rw [← hml]; rfl⟩
  have OKm : Aside0 (bytesOk ml) := ⟨by rw [← hml]; exact mixedL_ok l0 _ hok⟩
  clear hr0 hc0 h1 h2 hml hok
  have hd : decide ((l0.length : Int) > 4096) = false := decide_eq_false (by have := H1.out; omega)
  have hn : ((l0.length : Int) != 4) = false := by have := H1.out; simp; omega
  have HL := Aside0.mk (longList_is l0)
  rw [hd] at HL
  go_enter Try.func17, Try.ntmps17
  go_wp2_with fail
  refine (impl_isLongList_int.calls _ _ _ _ _ HR0.out HC0.out HL.out).mono ?_
  rintro e w' ⟨rfl, hdr⟩
  have HB := Aside0.mk hdr.below
  clear hdr
  go_wp2_with fail
  refine (impl_areAll_int.calls _ _ _ _ (Kd.C_below HR0.out HB.out)).mono ?_
  rintro e w2 ⟨rfl, hb⟩
  have HB2 := Aside0.mk (below_then HB.out HB.out.size hb)
  clear hb
  rw [H2.out]
  go_wp2
  go_loopw [23] (fun i wr => ∃ k : Nat, k ≤ 4 ∧ i = .int .i64 k ∧ Aside0 (wr.heap[w2.heap.size]? = some (.cells (nums .u8 (colTo l0 k)).toArray 65 (0, 0))) ∧ Aside0 (Below w.heap.size w wr)) (fun i _ => 4 - (intOf i).toNat)
  case atStart => exact ⟨0, by omega, rfl, ⟨blk_new w2 _⟩, ⟨HB2.out.alloc HB2.out.size _⟩⟩
  case round =>
    obtain ⟨k, hk, rfl, G, HBr⟩ := hrel
    by_cases hlt : k < 4
    · have hkl : k < l0.length := by have := H1.out; omega
      obtain ⟨ad, had, hcell⟩ := areAll_int_at (Kd.C_below HR0.out HBr.out) k hkl
      subst had
      have hb := OK.out l0[k] (List.getElem_mem hkl)
      have b0 := hb.1
      have b1 := hb.2
      clear hb
      have k0 : (0 : Int) ≤ (k : Int) := Int.natCast_nonneg k
      have k1 : (k : Int) < (l0.length : Int) := by omega
      have k4 : (k : Int) < 4 := by omega
      have hdk : decide ((k : Int) < (l0.length : Int)) = true := decide_eq_true k1
      have hdk2 : decide (k < l0.length) = true := decide_eq_true hkl
      have hsz : k < (nums IntKind.u8 (colTo l0 k)).length := by simp [nums, colTo_length l0 H1.out k hk]; omega
      have cG : (wr.cell? ⟨w2.heap.size, k, none⟩).isSome = true := by
        rw [blk_cell G.out k, nums_at (by simpa [nums] using hsz)]; rfl
      obtain ⟨vG, hvG⟩ := Option.isSome_iff_exists.1 cG
      have zG := blk_frozen G.out k
      clear hsz cG
      have hset := colTo_set l0 H1.out k hlt hkl
      have HS := Aside0.mk hset
      clear hset
      have HKL := hkl
      obtain ⟨x, hx⟩ : ∃ x, l0[k] = x := ⟨_, rfl⟩
      have HX := Aside0.mk hx
      rw [hx] at hcell b0 b1
      clear hx
      go_wp2
      go_roundw
      case rel =>
        refine ⟨k + 1, by omega, by go_num, ⟨?_⟩, ⟨below_set HBr.out (by have := HB2.out.size; omega)⟩⟩
        have hxm : x % 256 = x := by omega
        rw [← HS.out, ← nums_set, HX.out]
        first
          | exact blk_set G.out k _
          | (rw [hxm]; exact blk_set G.out k _)
      case measure => simp [intOf]; omega
    · have hdk : decide ((k : Int) < (l0.length : Int)) = false := decide_eq_false (by have := H1.out; omega)
      have hdk2 : decide (k < l0.length) = false := decide_eq_false (by have := H1.out; omega)
      have ec : colTo l0 k = l0 := by
        obtain rfl : k = 4 := by omega
        exact colTo_end l0 H1.out
      rw [ec] at G
      clear ec
      have HLs : Aside0 ((nums IntKind.u8 l0).toArray.size = 4) := ⟨by simp [nums, H1.out]⟩
      go_wp2_with (refine wpList_load_row (by rfl) 65 (.tmp 4) (by rfl) _ (by rfl) 65 _ (0, 0) _ G.out Try.underlying65 rfl (by rw [HLs.out]; exact mix_info) ?_)
      refine (impl_mix.calls l0 _ H1.out OK.out).mono ?_
      rw [HML.out]
      rintro e w3 ⟨rfl, hb3⟩
      have HB3 := Aside0.mk (below_then HBr.out HBr.out.size hb3)
      clear hb3
      unfold arr8
      go_wp2
      go_loopw [7, 35] (fun v i wr => ∃ k : Nat, k ≤ 4 ∧ i = .int .i64 k ∧ Aside0 (Kd.R (Kd.int .i64) 3 wr w3.heap.size (fun _ => True) v (ml.take k)) ∧ Aside0 (Below w3.heap.size w3 wr)) (fun _ i _ => 4 - (intOf i).toNat)
      case atStart => exact ⟨0, by omega, rfl, ⟨Kd.R_nil _ _ _ _ _⟩, ⟨Below.refl _ _⟩⟩
      case round =>
        obtain ⟨j, hj, rfl, HR, HBj⟩ := hrel
        by_cases hlj : j < 4
        · have hjl : j < ml.length := by have := HLm.out; omega
          have j0 : (0 : Int) ≤ (j : Int) := Int.natCast_nonneg j
          have j4 : (j : Int) < 4 := by omega
          have hdj : decide ((j : Int) < 4) = true := decide_eq_true j4
          have hb := OKm.out (ml.getD j 0) (by rw [List.getD_eq_getElem?_getD, List.getElem?_eq_getElem hjl]; exact List.getElem_mem hjl)
          have kx := run_index_agg (P := Try.prog) (xs := ml) Try.underlying65 Try.underlying5 (by kernel_rfl) j hlj HLm.out
          have HT : Aside0 (ml.take (j + 1) = ml.take j ++ [ml.getD j 0]) := ⟨by rw [List.take_succ_eq_append_getElem hjl]; simp [List.getD_eq_getElem?_getD, hjl]⟩
          have HTL : Aside0 ((ml.take j).length = j) := ⟨by simp; omega⟩
          obtain ⟨x, hx⟩ : ∃ x, ml.getD j 0 = x := ⟨_, rfl⟩
          rw [hx] at kx HT hb
          clear hx
          have b0 := hb.1
          have b1 := hb.2
          clear hb
          go_wp2_with (at_builtin; refine Kd.R_append_row (Value.int .i64) 0 (w0 := w3) w3.heap.size (by rfl) (.tmp 38) (.tmp 41) 28 3 (.int .i64 0) 8 (by rfl) Try.underlying28 info3 rfl (by decide) u7 (ml.take j) [x] _ 1 1 (fun _ => True) (by rfl) (by rfl) (fun _ _ => trivial) (by exact Kd.R_alloc HR.out _) (by exact C_one_int (blk_new _ _)) (by exact below_alloc HBj.out _) (by have := HBj.out.size; simp; omega) (by have := HTL.out; omega) ?_; intro v1 w4 ho hb hg hat)
          go_roundw
          case rel =>
            refine ⟨j + 1, by omega, by go_num, ⟨?_⟩, ⟨hb⟩⟩
            rw [HT.out]
            exact ho
          case measure => simp [intOf]; omega
        · have hdj : decide ((j : Int) < 4) = false := decide_eq_false (by omega)
          have et : ml.take j = ml := List.take_of_length_le (by have := HLm.out; omega)
          rw [et] at HR
          clear et
          go_wp2
          go_ret2
          exact ⟨_, rfl, Kd.R_lower HR.out HB3.out.size, below_then HB3.out HB3.out.size HBj.out⟩
theorem impl_MixColumn.calls (A0 : Option Addr) (c0 : Nat) (l0 : List Int) (r1 : List Int) (r2 : Int) (w : World) (hr0 : Kd.C (Kd.int .i64) w A0 l0.length l0) (hc0 : l0.length ≤ c0) (h : impl_MixColumn.f l0 = some (r1, r2)) :
    Calls Try.prog 17 #[.slice A0 l0.length c0] w fun e w' => ∃ v0_ : Value, e = .returned (.tuple #[v0_, .int .i64 r2]) ∧ Kd.R (Kd.int .i64) 3 w' w.heap.size (fun _ => True) v0_ r1 ∧ Below w.heap.size w w' := by
  show Calls Try.prog 17 #[.slice A0 l0.length c0] w (mixColPost w r1 r2)
  unfold impl_MixColumn.f at h
  by_cases h1 : 4096 < l0.length
  · rw [if_pos h1] at h
    obtain ⟨rfl, rfl⟩ : ([] : List Int) = r1 ∧ (2 : Int) = r2 := by simpa using h
    exact mixCol_bad A0 c0 l0 2 w hr0 hc0 (.inl ⟨h1, rfl⟩)
  · rw [if_neg h1] at h
    by_cases h2 : l0.length ≠ 4
    · rw [if_pos h2] at h
      obtain ⟨rfl, rfl⟩ : ([] : List Int) = r1 ∧ (1 : Int) = r2 := by simpa using h
      exact mixCol_bad A0 c0 l0 1 w hr0 hc0 (.inr (.inl ⟨h1, h2, rfl⟩))
    · rw [if_neg h2] at h
      have h4 : l0.length = 4 := by omega
      by_cases h3 : (l0.all fun x => areAll_int_p x) = false
      · rw [if_pos h3] at h
        obtain ⟨rfl, rfl⟩ : ([] : List Int) = r1 ∧ (4 : Int) = r2 := by simpa using h
        exact mixCol_bad A0 c0 l0 4 w hr0 hc0 (.inr (.inr ⟨h4, h3, rfl⟩))
      · rw [if_neg h3] at h
        obtain ⟨rfl, rfl⟩ : mixedL l0 [2, 3, 1, 1] = r1 ∧ (0 : Int) = r2 := by simpa using h
        exact mixCol_good A0 c0 l0 _ w rfl hr0 hc0 h4 (by simpa using h3)

/-! ### spec_l01In: function 62 -/
def spec_l01In.f (a0 : Int) (a1 : Int) (a2 : Int) : Option (Bool) := if a0 ≥ a1 then (some (decide (a0 ≤ a2))) else (some false)
set_option maxHeartbeats 8000000 in
set_option maxRecDepth 100000 in
theorem spec_l01In.calls (a0 : Int) (a1 : Int) (a2 : Int) (r : Bool) (w : World) (h : spec_l01In.f a0 a1 a2 = some r) :
    Calls Try.prog 62 #[.int .i64 a0, .int .i64 a1, .int .i64 a2] w fun e w' => e = .returned (.bool r) ∧ Drawn0 w w' := by
  have H : (if a0 ≥ a1 then (some (decide (a0 ≤ a2))) else (some false)) = some r := h
  clear h
  by_cases c4 : a0 ≥ a1
  · rw [if_pos c4] at H
    have c4b0 : decide (a1 ≤ a0) = true := decide_eq_true c4
    clear c4
    obtain rfl := Option.some.inj H
    go_enter Try.func62, Try.ntmps62
    go_wp2
    go_ret
    exact ⟨by first | rfl | (simp; done) | (simp [*]; done), by repeat (first | exact Drawn0.refl _ | apply Drawn0.step)⟩
  · rw [if_neg c4] at H
    have c4b0 : decide (a1 ≤ a0) = false := decide_eq_false c4
    clear c4
    obtain rfl := Option.some.inj H
    go_enter Try.func62, Try.ntmps62
    go_wp2
    go_ret
    exact ⟨by first | rfl | (simp; done) | (simp [*]; done), by repeat (first | exact Drawn0.refl _ | apply Drawn0.step)⟩

/-! ### spec_l01Byte: function 48 -/
def spec_l01Byte.f (a0 : Int) : Option (Bool) := (spec_l01In.f a0 0 255).bind fun t102 => (some t102)
set_option maxHeartbeats 8000000 in
set_option maxRecDepth 100000 in
theorem spec_l01Byte.calls (a0 : Int) (r : Bool) (w : World) (h : spec_l01Byte.f a0 = some r) :
    Calls Try.prog 48 #[.int .i64 a0] w fun e w' => e = .returned (.bool r) ∧ Drawn0 w w' := by
  have H : ((spec_l01In.f a0 0 255).bind fun t102 => (some t102)) = some r := h
  clear h
  replace H := Option.bind_eq_some_iff.mp H
  obtain ⟨t102, A20, H⟩ := H
  replace H : (some t102) = some r := H
  have A2 := Aside0.mk A20
  clear A20
  obtain rfl := Option.some.inj H
  go_enter Try.func48, Try.ntmps48
  go_wp2_with (first | ((with_reducible refine gate_callee (f := 62) rfl ?_); refine goesL_ (some 4) rfl rfl Try.func62 (by kernel_rfl) rfl #[.int .i64 a0, .int .i64 0, .int .i64 255] rfl (by (try simp only [List.map_toArray, List.map_cons, List.map_nil]); first | done | rfl | (simp only [List.length_drop, List.length_take]; rfl)) ?_; (with_reducible refine (spec_l01In.calls a0 0 255 t102 _ A2.out).mono ?_); rintro e w' ⟨rfl, ⟨nd, rfl⟩⟩; refine ⟨_, rfl, ?_⟩))
  go_ret
  exact ⟨by first | rfl | (simp; done) | (simp [*]; done), by repeat (first | exact Drawn0.refl _ | apply Drawn0.step)⟩

end Go.Proofs.Ytbpefnfeiidioaa.P

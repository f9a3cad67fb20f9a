/- What the printed functions on bytes of the field come to (no program in sight): the product is gm, the inverse is inv. -/
import Derived.Test.YtbpefnfeiidioaaPx1
import Derived.Test.YtbpefnfeiidioaaPx2
import Derived.Test.YtbpefnfeiidioaaGf
namespace Go.Proofs.Ytbpefnfeiidioaa.Pg
open Go.RowKit Go.Proofs.Ytbpefnfeiidioaa.P Go.Proofs.Ytbpefnfeiidioaa.Gf Go.Proofs.YtbpefnfeiidioaaW.PrintWords Go.Proofs.YtbpefnfeiidioaaW.PrintLast Go.Proofs.YtbpefnfeiidioaaW.PrintMore

theorem wrap64_nat (n : Nat) (h : n < 9223372036854775808) : wrap64 (n : Int) = n := by unfold wrap64; omega
theorem times_step (k b p x : Nat) (hb : b < 256) (hb0 : b ≠ 0) (hp : p < 256) (hx : x < 256) :
    impl_times.l0 (k + 1) b p x = impl_times.l0 k ((b / 2 : Nat) : Int) ((if b % 2 = 1 then p ^^^ x else p : Nat) : Int) ((xt x : Nat) : Int) := by
  have e1 : Go.bits .and .u8 (b : Int) 1 = ((b % 2 : Nat) : Int) := by
    rw [← and_one]; exact and_u8 b 1 hb (by decide)
  have e2 : wrap64 ((x : Int) * 2) = ((x * 2 : Nat) : Int) := by unfold wrap64; omega
  have e3 : Go.bits .xor .i64 ((x * 2 : Nat) : Int) 283 = ((x * 2 ^^^ 283 : Nat) : Int) := xor_i64 (x * 2) 283 (by omega) (by decide)
  have e4 : Go.bits .xor .i64 (p : Int) (x : Int) = ((p ^^^ x : Nat) : Int) := xor_i64 p x (by omega) (by omega)
  have e5 : (b : Int) / 2 = ((b / 2 : Nat) : Int) := by omega
  simp only [impl_times.l0]
  rw [if_pos (by omega), e1, e2, e3, e4, e5]
  by_cases h1 : b % 2 = 1 <;> by_cases h2 : x * 2 > 255
  · rw [if_pos (by omega), if_pos (by omega), if_pos h1, xt, if_pos h2]
  · rw [if_pos (by omega), if_neg (by omega), if_pos h1, xt, if_neg h2]
  · rw [if_neg (by omega), if_pos (by omega), if_neg h1, xt, if_pos h2]
  · rw [if_neg (by omega), if_neg (by omega), if_neg h1, xt, if_neg h2]
theorem times_run (n : Nat) : ∀ (k b p x : Nat), b < 2 ^ n → b < 256 → p < 256 → x < 256 → n < k → impl_times.l0 k b p x = some ((mulc n b p x : Nat) : Int) := by
  have stop : ∀ (k p x : Nat), p < 256 → impl_times.l0 (k + 1) (0 : Nat) p x = some (p : Int) := by
    intro k p x hp
    simp only [impl_times.l0]
    rw [if_neg (by omega)]
    congr 1
    omega
  induction n with
  | zero =>
    intro k b p x hb _ hp _ hk
    obtain ⟨k, rfl⟩ : ∃ m, k = m + 1 := ⟨k - 1, by omega⟩
    obtain rfl : b = 0 := by omega
    exact stop k p x hp
  | succ n ih =>
    intro k b p x hb hb2 hp hx hk
    obtain ⟨k, rfl⟩ : ∃ m, k = m + 1 := ⟨k - 1, by omega⟩
    by_cases h0 : b = 0
    · subst h0
      rw [stop k p x hp, mulc_zero]
    · rw [times_step k b p x hb2 h0 hp hx]
      refine ih k _ _ _ (by omega) (by omega) ?_ (xt_lt x hx) (by omega)
      split
      · exact xor_lt hp hx
      · exact hp
theorem times_eq (k a b : Nat) (ha : a < 256) (hb : b < 256) (hk : 8 < k) : impl_times.f k a b = some ((gm a b : Nat) : Int) := by
  unfold impl_times.f
  rw [wrap64_nat a (by omega)]
  exact times_run 8 k b 0 a hb hb (by decide) ha hk
theorem shr_i64 (b i : Nat) (hi : i < 8) : shr .i64 (b : Int) (i : Int) = ((b / 2 ^ i : Nat) : Int) := by
  have hm : min i IntKind.i64.bits = i := Nat.min_eq_left (Nat.le_trans (Nat.le_of_lt hi) (by decide))
  unfold shr
  rw [Int.toNat_natCast, hm, Int.natCast_ediv, Int.natCast_pow]
  rfl
theorem wrap_u64_8 (i : Nat) (hi : i < 8) : IntKind.u64.wrap (i : Int) = i :=
  wrap_u .u64 rfl i (Nat.lt_of_lt_of_le hi (Nat.pow_le_pow_right (n := 2) (i := 3) (by decide) (by decide)))
theorem dbl_w (a : Nat) (ha : a < 256) : wrap64 ((a : Int) * 2) = ((a * 2 : Nat) : Int) := by unfold wrap64; omega
theorem dbl_x (a : Nat) (ha : a < 256) : Go.bits .xor .i64 ((a * 2 : Nat) : Int) 283 = ((a * 2 ^^^ 283 : Nat) : Int) := xor_i64 (a * 2) 283 (by omega) (by decide)
theorem xor_b (p x : Nat) (hp : p < 256) (hx : x < 256) : Go.bits .xor .i64 (p : Int) (x : Int) = ((p ^^^ x : Nat) : Int) := xor_i64 p x (by omega) (by omega)
theorem suc_w (i : Nat) (hi : i < 1000000000000) : wrap64 ((i : Int) + 1) = ((i + 1 : Nat) : Int) := by unfold wrap64; omega
theorem odd_i64 (q : Nat) (hq : q < 256) : Go.bits .and .i64 (q : Int) 1 = ((q % 2 : Nat) : Int) := by
  rw [← and_one]; exact and_i64 _ 1 (by omega) (by decide)
theorem dbl_lt (a : Nat) : (((a * 2 : Nat) : Int) > 255) = (a * 2 > 255) := by
  apply propext; omega
theorem odd_is (q : Nat) : (((q % 2 : Nat) : Int) = 1) = (q % 2 = 1) := by
  apply propext; omega
theorem mul_step_q (k i a b out q : Nat) (hi : i < 8) (hq : q < 256) (ho : out < 256) (ha : a < 256) (e1 : shr .i64 (b : Int) (i : Int) = (q : Int)) :
    spec_l01Mul.l0 (k + 1) a b out i = spec_l01Mul.l0 k ((xt a : Nat) : Int) b ((if q % 2 = 1 then out ^^^ a else out : Nat) : Int) ((i + 1 : Nat) : Int) := by
  have c0 : (i : Int) < 8 := Int.ofNat_lt.2 hi
  have c1 : (0 : Int) ≤ (i : Int) := Int.natCast_nonneg i
  simp only [spec_l01Mul.l0]
  rw [if_pos c0, wrap_u64_8 i hi, if_pos c1, e1, odd_i64 q hq, dbl_w a ha, dbl_x a ha, xor_b out a ho ha, suc_w i (Nat.lt_trans hi (by decide))]
  clear e1
  simp only [odd_is, dbl_lt, xt]
  by_cases h1 : q % 2 = 1 <;> by_cases h2 : a * 2 > 255 <;> simp only [h1, h2, if_true, if_false]
theorem mul_step (k i a b out : Nat) (hi : i < 8) (hb : b < 256) (ho : out < 256) (ha : a < 256) :
    spec_l01Mul.l0 (k + 1) a b out i = spec_l01Mul.l0 k ((xt a : Nat) : Int) b ((if b / 2 ^ i % 2 = 1 then out ^^^ a else out : Nat) : Int) ((i + 1 : Nat) : Int) :=
  mul_step_q k i a b out (b / 2 ^ i) hi (Nat.lt_of_le_of_lt (Nat.div_le_self _ _) hb) ho ha (shr_i64 b i hi)
theorem mul_run (n : Nat) : ∀ (k i a b out : Nat), i + n = 8 → b < 256 → out < 256 → a < 256 → n < k → spec_l01Mul.l0 k a b out i = some ((mulc n (b / 2 ^ i) out a : Nat) : Int) := by
  induction n with
  | zero =>
    intro k i a b out hi _ _ _ hk
    obtain ⟨k, rfl⟩ : ∃ m, k = m + 1 := ⟨k - 1, by omega⟩
    simp only [spec_l01Mul.l0]
    rw [if_neg (by omega)]
    rfl
  | succ n ih =>
    intro k i a b out hi hb ho ha hk
    obtain ⟨k, rfl⟩ : ∃ m, k = m + 1 := ⟨k - 1, by omega⟩
    rw [mul_step k i a b out (by omega) hb ho ha, ih k (i + 1) _ _ _ (by omega) hb ?_ (xt_lt a ha) (by omega)]
    · simp only [mulc]
      rw [Nat.div_div_eq_div_mul, ← Nat.pow_succ]
    · split
      · exact xor_lt ho ha
      · exact ho
theorem mul_eq (k a b : Nat) (ha : a < 256) (hb : b < 256) (hk : 8 < k) : spec_l01Mul.f k a b = some ((gm a b : Nat) : Int) := by
  unfold spec_l01Mul.f
  have := mul_run 8 k 0 a b 0 rfl hb (by decide) ha hk
  simpa [gm] using this
/-- n rounds of the inverse -/
def invr : Nat → Nat → Nat → Nat
  | 0, o, _ => o
  | n + 1, o, x => invr n (gm o (gm x x)) (gm x x)
theorem inv_of_run (a : Nat) : invr 7 1 a = inv a := by simp only [invr, inv]
/-- a byte, or none -/
theorem byte_or (a : Int) : (∃ n : Nat, n < 256 ∧ a = n) ∨ (impl_isByte.f a = some false ∧ spec_l01Byte.f a = some false) := by
  by_cases h : 0 ≤ a ∧ a ≤ 255
  · exact .inl ⟨a.toNat, by omega, by omega⟩
  · refine .inr ?_
    unfold impl_isByte.f spec_l01Byte.f impl_within.f spec_l01In.f
    by_cases h0 : 0 ≤ a
    · have h1 : ¬ a ≤ 255 := fun h1 => h ⟨h0, h1⟩
      simp [h0, h1]
    · simp [h0]
theorem isByte_yes (n : Nat) (h : n < 256) : impl_isByte.f (n : Int) = some true := by
  unfold impl_isByte.f impl_within.f
  rw [if_pos (by omega)]
  simp; omega
theorem byte_yes (n : Nat) (h : n < 256) : spec_l01Byte.f (n : Int) = some true := by
  unfold spec_l01Byte.f spec_l01In.f
  rw [if_pos (by omega)]
  simp; omega
theorem mod_byte (n : Nat) (h : n < 256) : (n : Int) % 256 = n := by omega
theorem wrap_byte (n : Nat) (h : n < 256) : wrap64 (n : Int) = n := wrap64_nat n (by omega)
end Go.Proofs.Ytbpefnfeiidioaa.Pg

/- What the printed functions on bytes of the field come to (no program in sight): the product is gm, the inverse is inv. -/
import Derived.Test.YtfbggdlidelliaaZCdPm7
import Derived.Test.YtfbggdlidelliaaZCdPm1
import Derived.Test.YtfbggdlidelliaaZCdGf
namespace Go.Proofs.Ytfbggdlidelliaa.Pg
open Go.RowKit Go.Proofs.Ytfbggdlidelliaa.P Go.Proofs.Ytfbggdlidelliaa.Gf Go.Proofs.YtfbggdlidelliaaW.PrintWords Go.Proofs.YtfbggdlidelliaaW.PrintLast Go.Proofs.YtfbggdlidelliaaW.PrintMore
theorem shr_i64 (b i : Nat) (hi : i < 8) : shr .i64 (b : Int) (i : Int) = ((b / 2 ^ i : Nat) : Int) := by
  have hm : min i IntKind.i64.bits = i := Nat.min_eq_left (Nat.le_trans (Nat.le_of_lt hi) (by decide))
  unfold shr
  rw [Int.toNat_natCast, hm, Int.natCast_ediv, Int.natCast_pow]
  rfl
theorem wrap_u64_8 (i : Nat) (hi : i < 8) : IntKind.u64.wrap (i : Int) = i :=
  wrap_u .u64 rfl i (Nat.lt_of_lt_of_le hi (Nat.pow_le_pow_right (n := 2) (i := 3) (by decide) (by decide)))
theorem dbl_w (a : Nat) (ha : a < 256) : wrap64 ((a : Int) * 2) = ((a * 2 : Nat) : Int) := by unfold wrap64; omega
theorem dbl_x (a : Nat) (ha : a < 256) : Go.bits .xor .i64 ((a * 2 : Nat) : Int) 283 = ((a * 2 ^^^ 283 : Nat) : Int) := xor_i64 (a * 2) 283 (by omega) (by decide)
theorem xor_b (p x : Nat) (hp : p < 256) (hx : x < 256) : Go.bits .xor .i64 (p : Int) (x : Int) = ((p ^^^ x : Nat) : Int) := xor_i64 p x (by omega) (by omega)
theorem suc_w (i : Nat) (hi : i < 1000000000000) : wrap64 ((i : Int) + 1) = ((i + 1 : Nat) : Int) := by unfold wrap64; omega
theorem odd_i64 (q : Nat) (hq : q < 256) : Go.bits .and .i64 (q : Int) 1 = ((q % 2 : Nat) : Int) := by
  rw [← Gf.and_one]; exact and_i64 _ 1 (by omega) (by decide)
theorem dbl_lt (a : Nat) : (((a * 2 : Nat) : Int) > 255) = (a * 2 > 255) := by
  apply propext; omega
theorem odd_is (q : Nat) : (((q % 2 : Nat) : Int) = 1) = (q % 2 = 1) := by
  apply propext; omega
theorem mul_step_q (k i a b out q : Nat) (hi : i < 8) (hq : q < 256) (ho : out < 256) (ha : a < 256) (e1 : shr .i64 (b : Int) (i : Int) = (q : Int)) :
    spec_l01Mul.l0 (k + 1) a b out i = spec_l01Mul.l0 k ((xt a : Nat) : Int) b ((if q % 2 = 1 then out ^^^ a else out : Nat) : Int) ((i + 1 : Nat) : Int) := by
  have c0 : (i : Int) < 8 := Int.ofNat_lt.2 hi
  have c1 : (0 : Int) ≤ (i : Int) := Int.natCast_nonneg i
  simp only [spec_l01Mul.l0]
  rw [if_pos c0, wrap_u64_8 i hi, if_pos c1, e1, odd_i64 q hq, dbl_w a ha, dbl_x a ha, xor_b out a ho ha, suc_w i (Nat.lt_trans hi (by decide))]
  clear e1
  simp only [odd_is, dbl_lt, xt]
  by_cases h1 : q % 2 = 1 <;> by_cases h2 : a * 2 > 255 <;> simp only [h1, h2, if_true, if_false]
theorem mul_step (k i a b out : Nat) (hi : i < 8) (hb : b < 256) (ho : out < 256) (ha : a < 256) :
    spec_l01Mul.l0 (k + 1) a b out i = spec_l01Mul.l0 k ((xt a : Nat) : Int) b ((if b / 2 ^ i % 2 = 1 then out ^^^ a else out : Nat) : Int) ((i + 1 : Nat) : Int) :=
  mul_step_q k i a b out (b / 2 ^ i) hi (Nat.lt_of_le_of_lt (Nat.div_le_self _ _) hb) ho ha (shr_i64 b i hi)
theorem mul_run (n : Nat) : ∀ (k i a b out : Nat), i + n = 8 → b < 256 → out < 256 → a < 256 → n < k → spec_l01Mul.l0 k a b out i = some ((mulc n (b / 2 ^ i) out a : Nat) : Int) := by
  induction n with
  | zero =>
    intro k i a b out hi _ _ _ hk
    obtain ⟨k, rfl⟩ : ∃ m, k = m + 1 := ⟨k - 1, by omega⟩
    simp only [spec_l01Mul.l0]
    rw [if_neg (by omega)]
    rfl
  | succ n ih =>
    intro k i a b out hi hb ho ha hk
    obtain ⟨k, rfl⟩ : ∃ m, k = m + 1 := ⟨k - 1, by omega⟩
    rw [mul_step k i a b out (by omega) hb ho ha, ih k (i + 1) _ _ _ (by omega) hb ?_ (xt_lt a ha) (by omega)]
    · simp only [mulc]
      rw [Nat.div_div_eq_div_mul, ← Nat.pow_succ]
    · split
      · exact xor_lt ho ha
      · exact ho
theorem mul_eq (k a b : Nat) (ha : a < 256) (hb : b < 256) (hk : 8 < k) : spec_l01Mul.f k a b = some ((gm a b : Nat) : Int) := by
  unfold spec_l01Mul.f
  have := mul_run 8 k 0 a b 0 rfl hb (by decide) ha hk
  simpa [gm] using this
end Go.Proofs.Ytfbggdlidelliaa.Pg

/- Plain facts on the field of 256 (no program in sight): products of bytes as exclusive ors of doublings, their laws, the inverse, linear maps. -/
import Derived.Laws.BitsLemmas
import Derived.IntWalk
namespace Go.Proofs.Ytfbggdlidelliaa.Gf
theorem wrap_small (k : IntKind) (n : Nat) (h : n < 2 ^ (k.bits - 1)) : k.wrap (n : Int) = n := by
  have hlt : ((n : Nat) : Int) < 2 ^ (k.bits - 1) := by exact_mod_cast h
  have hp : (2 : Int) ^ (k.bits - 1) ≤ 2 ^ k.bits := by
    have : (2 : Nat) ^ (k.bits - 1) ≤ 2 ^ k.bits := Nat.pow_le_pow_right (by decide) (Nat.sub_le _ _)
    exact_mod_cast this
  have hm : (n : Int) % 2 ^ k.bits = n := Int.emod_eq_of_lt (Int.natCast_nonneg _) (Int.lt_of_lt_of_le hlt hp)
  simp only [IntKind.wrap, hm]
  rw [if_neg]
  simp only [Bool.and_eq_true, decide_eq_true_eq, not_and]
  intro _
  omega
theorem wrap_u (k : IntKind) (hk : k.signed = false) (n : Nat) (h : n < 2 ^ k.bits) : k.wrap (n : Int) = n := by
  have hlt : ((n : Nat) : Int) < 2 ^ k.bits := by exact_mod_cast h
  have hm : (n : Int) % 2 ^ k.bits = n := Int.emod_eq_of_lt (Int.natCast_nonneg _) hlt
  simp only [IntKind.wrap, hm, hk, Bool.false_and]
  rfl
theorem bits_u (k : IntKind) (hk : k.signed = false) (a b : Nat) (ha : a < 2 ^ k.bits) (hb : b < 2 ^ k.bits) :
    bits .xor k a b = ((a ^^^ b : Nat) : Int) ∧ bits .and k a b = ((a &&& b : Nat) : Int) ∧ bits .or k a b = ((a ||| b : Nat) : Int) := by
  have ha' : a % 2 ^ k.bits = a := Nat.mod_eq_of_lt ha
  have hb' : b % 2 ^ k.bits = b := Nat.mod_eq_of_lt hb
  refine ⟨?_, ?_, ?_⟩
  · simp only [bits, BitVec.ofInt_natCast, BitVec.toNat_xor, BitVec.toNat_ofNat, ha', hb']
    exact wrap_u k hk _ (Nat.xor_lt_two_pow ha hb)
  · simp only [bits, BitVec.ofInt_natCast, BitVec.toNat_and, BitVec.toNat_ofNat, ha', hb']
    exact wrap_u k hk _ (Nat.and_lt_two_pow _ hb)
  · simp only [bits, BitVec.ofInt_natCast, BitVec.toNat_or, BitVec.toNat_ofNat, ha', hb']
    exact wrap_u k hk _ (Nat.or_lt_two_pow ha hb)
theorem bits_s (k : IntKind) (a b : Nat) (ha : a < 2 ^ (k.bits - 1)) (hb : b < 2 ^ (k.bits - 1)) :
    bits .xor k a b = ((a ^^^ b : Nat) : Int) ∧ bits .and k a b = ((a &&& b : Nat) : Int) ∧ bits .or k a b = ((a ||| b : Nat) : Int) := by
  have hp : (2 : Nat) ^ (k.bits - 1) ≤ 2 ^ k.bits := Nat.pow_le_pow_right (by decide) (Nat.sub_le _ _)
  have ha' : a % 2 ^ k.bits = a := Nat.mod_eq_of_lt (Nat.lt_of_lt_of_le ha hp)
  have hb' : b % 2 ^ k.bits = b := Nat.mod_eq_of_lt (Nat.lt_of_lt_of_le hb hp)
  refine ⟨?_, ?_, ?_⟩
  · simp only [bits, BitVec.ofInt_natCast, BitVec.toNat_xor, BitVec.toNat_ofNat, ha', hb']
    exact wrap_small k _ (Nat.xor_lt_two_pow ha hb)
  · simp only [bits, BitVec.ofInt_natCast, BitVec.toNat_and, BitVec.toNat_ofNat, ha', hb']
    exact wrap_small k _ (Nat.and_lt_two_pow _ hb)
  · simp only [bits, BitVec.ofInt_natCast, BitVec.toNat_or, BitVec.toNat_ofNat, ha', hb']
    exact wrap_small k _ (Nat.or_lt_two_pow ha hb)
theorem xor_i64 (a b : Nat) (ha : a < 9223372036854775808) (hb : b < 9223372036854775808) : bits .xor .i64 a b = ((a ^^^ b : Nat) : Int) := (bits_s .i64 a b ha hb).1
theorem xor_u8 (a b : Nat) (ha : a < 256) (hb : b < 256) : bits .xor .u8 a b = ((a ^^^ b : Nat) : Int) := (bits_u .u8 rfl a b ha hb).1
def xt (x : Nat) : Nat := if x * 2 > 255 then x * 2 ^^^ 283 else x * 2
theorem xt_lt : ∀ x, x < 256 → xt x < 256 := by decide +kernel
theorem xor_lt {a b : Nat} (ha : a < 256) (hb : b < 256) : a ^^^ b < 256 := Nat.xor_lt_two_pow (n := 8) ha hb
def mulc : Nat → Nat → Nat → Nat → Nat
  | 0, _, p, _ => p
  | n + 1, b, p, x => mulc n (b / 2) (if b % 2 = 1 then p ^^^ x else p) (xt x)
def gm (a b : Nat) : Nat := mulc 8 b 0 a
theorem mulc_lt (n b p x : Nat) (hp : p < 256) (hx : x < 256) : mulc n b p x < 256 := by
  induction n generalizing b p x with
  | zero => exact hp
  | succ n ih =>
    refine ih _ _ _ ?_ (xt_lt x hx)
    split
    · exact xor_lt hp hx
    · exact hp
theorem gm_lt {a b : Nat} (ha : a < 256) : gm a b < 256 := mulc_lt 8 b 0 a (by decide) ha
def Lin (f : Nat → Nat) : Prop := ∀ x y, x < 256 → y < 256 → f (x ^^^ y) = f x ^^^ f y
theorem xt_lin : Lin xt := by
  intro x y hx hy
  have : ∀ x, x < 256 → ∀ y, y < 256 → xt (x ^^^ y) = xt x ^^^ xt y := by decide +kernel
  exact this x hx y hy
def inv (a : Nat) : Nat :=
  let r := fun (s : Nat × Nat) => let x := gm s.2 s.2; (gm s.1 x, x)
  (r (r (r (r (r (r (r (1, a)))))))).1
end Go.Proofs.Ytfbggdlidelliaa.Gf

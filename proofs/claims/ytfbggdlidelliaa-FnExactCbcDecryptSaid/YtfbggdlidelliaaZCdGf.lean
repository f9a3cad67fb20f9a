/- Plain facts on the field of 256 (no program in sight): products of bytes as exclusive ors of doublings, their laws, the inverse, linear maps. -/
import Derived.Laws.BitsLemmas
import Derived.IntWalk
namespace Go.Proofs.Ytfbggdlidelliaa.Gf
theorem wrap_small (k : IntKind) (n : Nat) (h : n < 2 ^ (k.bits - 1)) : k.wrap (n : Int) = n := by
  have hlt : ((n : Nat) : Int) < 2 ^ (k.bits - 1) := by exact_mod_cast h
  have hp : (2 : Int) ^ (k.bits - 1) ≤ 2 ^ k.bits := by
    have : (2 : Nat) ^ (k.bits - 1) ≤ 2 ^ k.bits := Nat.pow_le_pow_right (by decide) (Nat.sub_le _ _)
    exact_mod_cast this
  have hm : (n : Int) % 2 ^ k.bits = n := Int.emod_eq_of_lt (Int.natCast_nonneg _) (Int.lt_of_lt_of_le hlt hp)
  simp only [IntKind.wrap, hm]
  rw [if_neg]
  simp only [Bool.and_eq_true, decide_eq_true_eq, not_and]
  intro _
  omega
theorem wrap_u (k : IntKind) (hk : k.signed = false) (n : Nat) (h : n < 2 ^ k.bits) : k.wrap (n : Int) = n := by
  have hlt : ((n : Nat) : Int) < 2 ^ k.bits := by exact_mod_cast h
  have hm : (n : Int) % 2 ^ k.bits = n := Int.emod_eq_of_lt (Int.natCast_nonneg _) hlt
  simp only [IntKind.wrap, hm, hk, Bool.false_and]
  rfl
theorem bits_u (k : IntKind) (hk : k.signed = false) (a b : Nat) (ha : a < 2 ^ k.bits) (hb : b < 2 ^ k.bits) :
    bits .xor k a b = ((a ^^^ b : Nat) : Int) ∧ bits .and k a b = ((a &&& b : Nat) : Int) ∧ bits .or k a b = ((a ||| b : Nat) : Int) := by
  have ha' : a % 2 ^ k.bits = a := Nat.mod_eq_of_lt ha
  have hb' : b % 2 ^ k.bits = b := Nat.mod_eq_of_lt hb
  refine ⟨?_, ?_, ?_⟩
  · simp only [bits, BitVec.ofInt_natCast, BitVec.toNat_xor, BitVec.toNat_ofNat, ha', hb']
    exact wrap_u k hk _ (Nat.xor_lt_two_pow ha hb)
  · simp only [bits, BitVec.ofInt_natCast, BitVec.toNat_and, BitVec.toNat_ofNat, ha', hb']
    exact wrap_u k hk _ (Nat.and_lt_two_pow _ hb)
  · simp only [bits, BitVec.ofInt_natCast, BitVec.toNat_or, BitVec.toNat_ofNat, ha', hb']
    exact wrap_u k hk _ (Nat.or_lt_two_pow ha hb)
theorem bits_s (k : IntKind) (a b : Nat) (ha : a < 2 ^ (k.bits - 1)) (hb : b < 2 ^ (k.bits - 1)) :
    bits .xor k a b = ((a ^^^ b : Nat) : Int) ∧ bits .and k a b = ((a &&& b : Nat) : Int) ∧ bits .or k a b = ((a ||| b : Nat) : Int) := by
  have hp : (2 : Nat) ^ (k.bits - 1) ≤ 2 ^ k.bits := Nat.pow_le_pow_right (by decide) (Nat.sub_le _ _)
  have ha' : a % 2 ^ k.bits = a := Nat.mod_eq_of_lt (Nat.lt_of_lt_of_le ha hp)
  have hb' : b % 2 ^ k.bits = b := Nat.mod_eq_of_lt (Nat.lt_of_lt_of_le hb hp)
  refine ⟨?_, ?_, ?_⟩
  · simp only [bits, BitVec.ofInt_natCast, BitVec.toNat_xor, BitVec.toNat_ofNat, ha', hb']
    exact wrap_small k _ (Nat.xor_lt_two_pow ha hb)
  · simp only [bits, BitVec.ofInt_natCast, BitVec.toNat_and, BitVec.toNat_ofNat, ha', hb']
    exact wrap_small k _ (Nat.and_lt_two_pow _ hb)
  · simp only [bits, BitVec.ofInt_natCast, BitVec.toNat_or, BitVec.toNat_ofNat, ha', hb']
    exact wrap_small k _ (Nat.or_lt_two_pow ha hb)
theorem xor_i64 (a b : Nat) (ha : a < 9223372036854775808) (hb : b < 9223372036854775808) : bits .xor .i64 a b = ((a ^^^ b : Nat) : Int) := (bits_s .i64 a b ha hb).1
theorem and_i64 (a b : Nat) (ha : a < 9223372036854775808) (hb : b < 9223372036854775808) : bits .and .i64 a b = ((a &&& b : Nat) : Int) := (bits_s .i64 a b ha hb).2.1
theorem xor_u8 (a b : Nat) (ha : a < 256) (hb : b < 256) : bits .xor .u8 a b = ((a ^^^ b : Nat) : Int) := (bits_u .u8 rfl a b ha hb).1
theorem and_u8 (a b : Nat) (ha : a < 256) (hb : b < 256) : bits .and .u8 a b = ((a &&& b : Nat) : Int) := (bits_u .u8 rfl a b ha hb).2.1
theorem and_one (n : Nat) : n &&& 1 = n % 2 := Nat.and_one_is_mod n
def xt (x : Nat) : Nat := if x * 2 > 255 then x * 2 ^^^ 283 else x * 2
theorem xt_lt : ∀ x, x < 256 → xt x < 256 := by decide +kernel
theorem xor_lt {a b : Nat} (ha : a < 256) (hb : b < 256) : a ^^^ b < 256 := Nat.xor_lt_two_pow (n := 8) ha hb
def mulc : Nat → Nat → Nat → Nat → Nat
  | 0, _, p, _ => p
  | n + 1, b, p, x => mulc n (b / 2) (if b % 2 = 1 then p ^^^ x else p) (xt x)
def gm (a b : Nat) : Nat := mulc 8 b 0 a
theorem mulc_lt (n b p x : Nat) (hp : p < 256) (hx : x < 256) : mulc n b p x < 256 := by
  induction n generalizing b p x with
  | zero => exact hp
  | succ n ih =>
    refine ih _ _ _ ?_ (xt_lt x hx)
    split
    · exact xor_lt hp hx
    · exact hp
theorem gm_lt {a b : Nat} (ha : a < 256) : gm a b < 256 := mulc_lt 8 b 0 a (by decide) ha
theorem mulc_zero (n p x : Nat) : mulc n 0 p x = p := by
  induction n generalizing p x with
  | zero => rfl
  | succ n ih => exact ih p (xt x)
def Lin (f : Nat → Nat) : Prop := ∀ x y, x < 256 → y < 256 → f (x ^^^ y) = f x ^^^ f y
theorem Lin.zero {f : Nat → Nat} (h : Lin f) : f 0 = 0 := by
  have := h 0 0 (by decide) (by decide)
  simpa using this
theorem parts : ∀ x, x < 256 → x = (((((((x &&& 1) ^^^ (x &&& 2)) ^^^ (x &&& 4)) ^^^ (x &&& 8)) ^^^ (x &&& 16)) ^^^ (x &&& 32)) ^^^ (x &&& 64)) ^^^ (x &&& 128) := by decide +kernel
theorem part_of : ∀ i, i < 8 → ∀ x, x < 256 → (x &&& 2 ^ i) = 0 ∨ (x &&& 2 ^ i) = 2 ^ i := by decide +kernel
theorem Lin.ext {f g : Nat → Nat} (hf : Lin f) (hg : Lin g) (h : ∀ i, i < 8 → f (2 ^ i) = g (2 ^ i)) (x : Nat) (hx : x < 256) : f x = g x := by
  have one : ∀ i, i < 8 → f (x &&& 2 ^ i) = g (x &&& 2 ^ i) := by
    intro i hi
    rcases part_of i hi x hx with e | e
    · rw [e, hf.zero, hg.zero]
    · rw [e, h i hi]
  have lt : ∀ i, i < 8 → x &&& 2 ^ i < 256 := fun i hi => Nat.lt_of_le_of_lt (Nat.and_le_left) hx
  have l0 := lt 0 (by decide); have l1 := lt 1 (by decide); have l2 := lt 2 (by decide); have l3 := lt 3 (by decide)
  have l4 := lt 4 (by decide); have l5 := lt 5 (by decide); have l6 := lt 6 (by decide); have l7 := lt 7 (by decide)
  have o0 := one 0 (by decide); have o1 := one 1 (by decide); have o2 := one 2 (by decide); have o3 := one 3 (by decide)
  have o4 := one 4 (by decide); have o5 := one 5 (by decide); have o6 := one 6 (by decide); have o7 := one 7 (by decide)
  simp only [Nat.reducePow] at l0 l1 l2 l3 l4 l5 l6 l7 o0 o1 o2 o3 o4 o5 o6 o7
  have m1 := xor_lt l0 l1; have m2 := xor_lt m1 l2; have m3 := xor_lt m2 l3; have m4 := xor_lt m3 l4; have m5 := xor_lt m4 l5; have m6 := xor_lt m5 l6
  rw [parts x hx]
  rw [hf _ _ m6 l7, hf _ _ m5 l6, hf _ _ m4 l5, hf _ _ m3 l4, hf _ _ m2 l3, hf _ _ m1 l2, hf _ _ l0 l1]
  rw [hg _ _ m6 l7, hg _ _ m5 l6, hg _ _ m4 l5, hg _ _ m3 l4, hg _ _ m2 l3, hg _ _ m1 l2, hg _ _ l0 l1]
  rw [o0, o1, o2, o3, o4, o5, o6, o7]
theorem xor4 (a b c d : Nat) : (a ^^^ b) ^^^ (c ^^^ d) = (a ^^^ c) ^^^ (b ^^^ d) := by
  rw [Nat.xor_assoc, Nat.xor_assoc, ← Nat.xor_assoc b c d, Nat.xor_comm b c, Nat.xor_assoc c b d]
theorem xt_lin : Lin xt := by
  intro x y hx hy
  have : ∀ x, x < 256 → ∀ y, y < 256 → xt (x ^^^ y) = xt x ^^^ xt y := by decide +kernel
  exact this x hx y hy
theorem mulc_left (n b p q x y : Nat) (hx : x < 256) (hy : y < 256) : mulc n b (p ^^^ q) (x ^^^ y) = mulc n b p x ^^^ mulc n b q y := by
  induction n generalizing b p q x y with
  | zero => rfl
  | succ n ih =>
    simp only [mulc]
    rw [xt_lin x y hx hy, ← ih _ _ _ _ _ (xt_lt x hx) (xt_lt y hy)]
    congr 1
    split
    · exact xor4 p q x y
    · rfl
theorem gm_left (b : Nat) : Lin fun a => gm a b := fun x y hx hy => by
  have := mulc_left 8 b 0 0 x y hx hy
  simpa [gm] using this
def inv (a : Nat) : Nat :=
  let r := fun (s : Nat × Nat) => let x := gm s.2 s.2; (gm s.1 x, x)
  (r (r (r (r (r (r (r (1, a)))))))).1
end Go.Proofs.Ytfbggdlidelliaa.Gf

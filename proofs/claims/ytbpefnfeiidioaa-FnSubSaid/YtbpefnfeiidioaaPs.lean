/- The substitutes of bytes: what the printed functions come to is sub, one to one on bytes; unsub is its inverse (no program in sight). -/
import Derived.Test.YtbpefnfeiidioaaPx1
import Derived.Test.YtbpefnfeiidioaaPg
namespace Go.Proofs.Ytbpefnfeiidioaa.Pg
open Go.RowKit Go.Proofs.Ytbpefnfeiidioaa.P Go.Proofs.Ytbpefnfeiidioaa.Gf Go.Proofs.YtbpefnfeiidioaaW.PrintWords Go.Proofs.YtbpefnfeiidioaaW.PrintLast Go.Proofs.YtbpefnfeiidioaaW.PrintMore
/-- a byte turned left by i bits -/
def rotl (x i : Nat) : Nat := (x * 2 ^ i % 256) ||| (x / 2 ^ (8 - i))
/-- the substitute of a byte -/
def sub (a : Nat) : Nat := let x := inv a; ((((x ^^^ rotl x 1) ^^^ rotl x 2) ^^^ rotl x 3) ^^^ rotl x 4) ^^^ 99
theorem sub_lt : ∀ a, a < 256 → sub a < 256 := by decide +kernel
theorem rot_lt : ∀ x, x < 256 → ∀ i, i < 5 → rotl x i < 256 := by decide +kernel
theorem rotate_eq : ∀ i : Nat, i < 5 → ∀ x : Nat, x < 256 → bits_RotateLeft8.f (x : Int) (i : Int) = some ((rotl x i : Nat) : Int) := by decide +kernel
theorem impl_sub_eq (k a : Nat) (ha : a < 256) (hk : 16 < k) : impl_substitute.f k a = some ((sub a : Nat) : Int) := by
  unfold impl_substitute.f
  rw [inverse_eq k a ha hk]
  have hi := inv_lt a ha
  have r1 : bits_RotateLeft8.f (inv a : Int) 1 = _ := rotate_eq 1 (by decide) _ hi
  have r2 : bits_RotateLeft8.f (inv a : Int) 2 = _ := rotate_eq 2 (by decide) _ hi
  have r3 : bits_RotateLeft8.f (inv a : Int) 3 = _ := rotate_eq 3 (by decide) _ hi
  have r4 : bits_RotateLeft8.f (inv a : Int) 4 = _ := rotate_eq 4 (by decide) _ hi
  have l1 := rot_lt _ hi 1 (by decide); have l2 := rot_lt _ hi 2 (by decide); have l3 := rot_lt _ hi 3 (by decide); have l4 := rot_lt _ hi 4 (by decide)
  simp only [Option.bind_some, r1, r2, r3, r4]
  rw [xor_u8 _ _ hi l1, xor_u8 _ _ (xor_lt hi l1) l2, xor_u8 _ _ (xor_lt (xor_lt hi l1) l2) l3, xor_u8 _ _ (xor_lt (xor_lt (xor_lt hi l1) l2) l3) l4]
  have := xor_u8 _ 99 (xor_lt (xor_lt (xor_lt (xor_lt hi l1) l2) l3) l4) (by decide)
  exact congrArg some this
theorem affine_eq : ∀ x : Nat, x < 256 → spec_l01Affine.f 6 (x : Int) = some (((((((x ^^^ rotl x 1) ^^^ rotl x 2) ^^^ rotl x 3) ^^^ rotl x 4) ^^^ 99 : Nat)) : Int) := by decide +kernel
theorem spec_sub_eq (k a : Nat) (ha : a < 256) (hk : 16 < k) : spec_l01Sub.f k a = some ((sub a : Nat) : Int) := by
  unfold spec_l01Sub.f
  rw [sinverse_eq k a ha hk, Option.bind_some, at_rounds (spec_l01Affine.mono _) (show 6 ≤ k by omega) (affine_eq _ (inv_lt a ha))]
  rfl
/-- the byte with a substitute -/
def unsub (a : Nat) : Nat := ((List.range 256).find? fun b => sub b == a).getD 0
theorem unsub_lt : ∀ a, a < 256 → unsub a < 256 := by decide +kernel
theorem sub_unsub : ∀ a, a < 256 → sub (unsub a) = a := by decide +kernel
theorem unsub_sub : ∀ a, a < 256 → unsub (sub a) = a := by decide +kernel
theorem sub_inj (a b : Nat) (ha : a < 256) (hb : b < 256) (h : sub a = sub b) : a = b := by rw [← unsub_sub a ha, h, unsub_sub b hb]
end Go.Proofs.Ytbpefnfeiidioaa.Pg

/- The program's HKDF expansion is the reference's: in plain lists. -/
import Derived.Test.YtlfpogbonmddmaaPx3
import Derived.Test.YtlfpogbonmddmaaPx4
import Derived.Test.YtlfpogbonmddmaaPhm
namespace Go.Proofs.Ytlfpogbonmddmaa.Pg
open Go.RowKit Go.Proofs.Ytlfpogbonmddmaa.P Go.Proofs.YtlfpogbonmddmaaW.PrintWords Go.Proofs.YtlfpogbonmddmaaW.PrintLast Go.Proofs.YtlfpogbonmddmaaW.PrintMore
theorem bo1 (n : Int) (k : Nat) : impl_bytesOf.f (k + 3) n 1 = some (strOfNums [n % 256]) := by
  have w0 : wrap64 (1 - 1) = 0 := by unfold wrap64; omega
  have wm : wrap64 (0 - 1) = -1 := by unfold wrap64; omega
  unfold impl_bytesOf.f
  rw [if_pos (by decide), if_pos (by decide), w0]
  simp only [impl_bytesOf.l0]
  rw [if_pos (by decide), if_pos (by decide), if_pos (by decide), wm, if_neg (by decide)]
  rfl
theorem str_app (a b : List Int) : strOfNums a ++ strOfNums b = strOfNums (a ++ b) := strOfNums_append a b
theorem expand_step (k : Nat) (K info : List Int) (N j : Nat) (hK : u8ok K) (hKl : K.length ≤ 1048576) (hi : u8ok info) (hil : info.length ≤ 1048576) (h : 32 * j < N) (hj : j ≤ 300) :
    impl_expand.l0 (k + 4) (strOfNums K) (strOfNums info) (N : Int) (strOfNums (Sha.exp K info j).1) (strOfNums (Sha.exp K info j).2) ((j + 1 : Nat) : Int)
      = impl_expand.l0 (k + 3) (strOfNums K) (strOfNums info) (N : Int) (strOfNums (Sha.exp K info (j + 1)).1) (strOfNums (Sha.exp K info (j + 1)).2) ((j + 1 + 1 : Nat) : Int) := by
  have e1 := exp_len K info j
  have e2 := exp_last K info j
  have hw : wrap64 (((j + 1 : Nat) : Int) + 1) = ((j + 1 + 1 : Nat) : Int) := by unfold wrap64; omega
  have hone : u8ok [((j + 1 : Nat) : Int) % 256] := fun x hx => by obtain rfl := List.mem_singleton.1 hx; omega
  conv => lhs; simp only [impl_expand.l0]
  rw [if_pos (by rw [size_strOfNums]; omega), if_pos (by rw [size_strOfNums, size_strOfNums]; omega), bo1, Option.bind_some, str_app, if_pos (by rw [size_strOfNums, size_strOfNums, List.length_append]; simp; omega), str_app,
    hmac_eq (k + 2) K _ hK (by omega) (u8ok_append (u8ok_append (exp_u8 K info j).2 hi) hone) (by rw [List.length_append, List.length_append]; simp; omega), Option.bind_some, if_pos (by rw [size_strOfNums, size_strOfNums, hmacL_length]; omega), str_app, hw]
  rfl
theorem expand_end (k : Nat) (K info : List Int) (N j : Nat) (h : N ≤ 32 * j) (hj : j ≤ N + 31) (i : Int) :
    impl_expand.l0 (k + 1) (strOfNums K) (strOfNums info) (N : Int) (strOfNums (Sha.exp K info j).1) (strOfNums (Sha.exp K info j).2) i = some (strOfNums (Sha.expandL K info N)) := by
  have e1 := exp_len K info j
  simp only [impl_expand.l0]
  rw [if_neg (by rw [size_strOfNums]; omega), if_pos (by omega), if_pos (by rw [size_strOfNums]; omega), exp_take K info N j h hj, Int.toNat_natCast, str_extract]
theorem expand_run (d : Nat) : ∀ (k : Nat) (K info : List Int) (N j : Nat), u8ok K → K.length ≤ 1048576 → u8ok info → info.length ≤ 1048576 → N ≤ 32 * (j + d) → j ≤ N + 31 → j + d ≤ 290 →
    impl_expand.l0 (k + d + 4) (strOfNums K) (strOfNums info) (N : Int) (strOfNums (Sha.exp K info j).1) (strOfNums (Sha.exp K info j).2) ((j + 1 : Nat) : Int) = some (strOfNums (Sha.expandL K info N)) := by
  induction d with
  | zero => intro k K info N j hK hKl hi hil h hj _; exact expand_end (k + 3) K info N j h hj _
  | succ d ih =>
    intro k K info N j hK hKl hi hil h hj hd
    by_cases hlt : 32 * j < N
    · rw [show k + (d + 1) + 4 = (k + d + 1) + 4 from by omega, expand_step (k + d + 1) K info N j hK hKl hi hil hlt (by omega), show k + d + 1 + 3 = k + d + 4 from by omega]
      exact ih k K info N (j + 1) hK hKl hi hil (by omega) (by omega) (by omega)
    · exact expand_end (k + (d + 1) + 3) K info N j (by omega) hj _
theorem expand_eq (k : Nat) (K info : List Int) (N : Nat) (hK : u8ok K) (hKl : K.length ≤ 1048576) (hi : u8ok info) (hil : info.length ≤ 1048576) (hN : N ≤ 8160) :
    impl_expand.f (k + 264) (strOfNums K) (strOfNums info) (N : Int) = some (strOfNums (Sha.expandL K info N)) := by
  have h := expand_run 260 k K info N 0 hK hKl hi hil (by omega) (by omega) (by omega)
  exact h
theorem spec_expand_eq (K info : List Int) (N : Nat) (hK : u8ok K) (hKl : K.length ≤ 1048576) (hi : u8ok info) (hil : info.length ≤ 1048576) (hN : N ≤ 8160) :
    spec_l03Expand.f (strOfNums K) info (N : Int) = some (strOfNums (Sha.expandL K info N)) := by
  unfold spec_l03Expand.f
  rw [if_pos (u8b_of hi), if_pos ⟨by rw [size_strOfNums]; exact hKl, hil, by omega, by omega⟩, bytesL_str K hK, Int.toNat_natCast]
end Go.Proofs.Ytlfpogbonmddmaa.Pg

/- The program's HKDF is the reference's: in plain lists. -/
import Derived.Test.YtlfpogbonmddmaaPx3
import Derived.Test.YtlfpogbonmddmaaPx5
import Derived.Test.YtlfpogbonmddmaaPhk
namespace Go.Proofs.Ytlfpogbonmddmaa.Pg
open Go.RowKit Go.Proofs.Ytlfpogbonmddmaa.P Go.Proofs.YtlfpogbonmddmaaW.PrintWords Go.Proofs.YtlfpogbonmddmaaW.PrintLast Go.Proofs.YtlfpogbonmddmaaW.PrintMore
theorem Hkdf_in (k : Nat) (l0 l1 l2 : List Int) (N : Nat) (u0 : u8ok l0) (u1 : u8ok l1) (u2 : u8ok l2) (b0 : l0.length ≤ 65536) (b1 : l1.length ≤ 65536) (b2 : l2.length ≤ 65536) (hN : N ≤ 8160) :
    spec_Hkdf.f (k + 265) l0 l1 l2 (N : Int) = some (strOfNums (Sha.expandL (Sha.hmacL l0 l1) l2 N), 0) ∧ impl_Hkdf.f (k + 265) l0 l1 l2 (N : Int) = some (strOfNums (Sha.expandL (Sha.hmacL l0 l1) l2 N), 0) := by
  have e1 := spec_expand_eq (Sha.hmacL l0 l1) l2 N (u8ok_hmacL _ _) (by rw [hmacL_length]; decide) u2 (by omega) hN
  have e2 := expand_eq (k + 1) (Sha.hmacL l0 l1) l2 N (u8ok_hmacL _ _) (by rw [hmacL_length]; decide) u2 (by omega) hN
  have e3 := hmac_eq (k + 264) l0 l1 u0 (by omega) u1 (by omega)
  unfold spec_Hkdf.f impl_Hkdf.f impl_isLong_byte.f
  simp only [spec_Hkdf.j0]
  unfold spec_l01In.f impl_within.f
  refine ⟨?_, ?_⟩
  · rw [if_neg (by omega), if_neg (by omega), if_neg (by simp; omega), if_pos (by omega), Option.bind_some, if_pos (by simp; omega)]
    unfold spec_l03Hmac.f
    rw [if_pos ⟨u8b_of u0, u8b_of u1⟩, if_pos (by omega), Option.bind_some, e1, Option.bind_some]
  · rw [Option.bind_some, if_neg (by simp; omega), if_pos (by omega), Option.bind_some, if_pos (by simp; omega), e3, Option.bind_some, e2, Option.bind_some]
theorem Hkdf_same (k : Nat) (l0 l1 l2 : List Int) (n : Int) (u0 : u8ok l0) (u1 : u8ok l1) (u2 : u8ok l2) : ∃ r, spec_Hkdf.f (k + 265) l0 l1 l2 n = some r ∧ impl_Hkdf.f (k + 265) l0 l1 l2 n = some r := by
  by_cases b : (l0.length ≤ 65536 ∧ l1.length ≤ 65536 ∧ l2.length ≤ 65536) ∧ 0 ≤ n ∧ n ≤ 8160
  · obtain ⟨⟨b0, b1, b2⟩, b3, b4⟩ := b
    obtain ⟨N, rfl⟩ : ∃ N : Nat, n = (N : Int) := ⟨n.toNat, by omega⟩
    exact ⟨_, Hkdf_in k l0 l1 l2 N u0 u1 u2 b0 b1 b2 (by omega)⟩
  unfold spec_Hkdf.f impl_Hkdf.f impl_isLong_byte.f
  simp only [spec_Hkdf.j0]
  by_cases b0 : (l0.length : Int) > 65536
  · exact ⟨_, by rw [if_pos b0]; rfl, by rw [Option.bind_some, if_pos (by simp; omega)]⟩
  by_cases b1 : (l1.length : Int) > 65536
  · exact ⟨_, by rw [if_neg b0, if_pos b1]; rfl, by rw [Option.bind_some, if_pos (by simp; omega)]⟩
  by_cases b2 : (l2.length : Int) > 65536
  · exact ⟨_, by rw [if_neg b0, if_neg b1, if_pos (by simpa using b2)], by rw [Option.bind_some, if_pos (by simp; omega)]⟩
  unfold spec_l01In.f impl_within.f
  refine ⟨(⟨#[]⟩, 4), ?_, ?_⟩
  · rw [if_neg b0, if_neg b1, if_neg (by simpa using b2)]
    by_cases b3 : 0 ≤ n
    · rw [if_pos (by omega), Option.bind_some, if_neg (by simp; omega)]
    · rw [if_neg (by omega), Option.bind_some, if_neg (by simp)]
  · rw [Option.bind_some, if_neg (by simp; omega)]
    by_cases b3 : 0 ≤ n
    · rw [if_pos (by omega), Option.bind_some, if_neg (by simp; omega)]
    · rw [if_neg (by omega), Option.bind_some, if_neg (by simp)]
end Go.Proofs.Ytlfpogbonmddmaa.Pg

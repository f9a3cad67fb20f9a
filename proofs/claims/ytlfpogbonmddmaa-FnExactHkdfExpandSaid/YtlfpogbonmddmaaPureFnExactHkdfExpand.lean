/- For all keys, infos and lengths the program's HKDF expansion is the reference's. No condition. -/
import Derived.Test.YtlfpogbonmddmaaPeq
import Derived.Test.YtlfpogbonmddmaaPx6
import Derived.Test.YtlfpogbonmddmaaPhk
namespace Go.Proofs.Ytlfpogbonmddmaa.Pure
open Go.RowKit Go.Proofs.Ytlfpogbonmddmaa.P Go.Proofs.Ytlfpogbonmddmaa.Pg Go.Proofs.YtlfpogbonmddmaaW.PrintWords Go.Proofs.YtlfpogbonmddmaaW.PrintLast Go.Proofs.YtlfpogbonmddmaaW.PrintMore
theorem HkdfExpand_same (k : Nat) (s : ByteArray) (l1 : List Int) (n : Int) (u1 : u8ok l1) : ∃ r, spec_HkdfExpand.f (k + 265) s l1 n = some r ∧ impl_HkdfExpand.f (k + 265) s l1 n = some r := by
  unfold spec_HkdfExpand.f impl_HkdfExpand.f impl_isLong_string.f impl_isLong_byte.f
  simp only [spec_HkdfExpand.j0, impl_HkdfExpand.j0]
  by_cases b0 : (s.size : Int) > 65536
  · exact ⟨_, by rw [if_pos b0]; rfl, by rw [Option.bind_some, if_pos (by simp; omega)]; rfl⟩
  by_cases b1 : (l1.length : Int) > 65536
  · exact ⟨_, by rw [if_neg b0, if_pos (by simpa using b1)], by rw [Option.bind_some, if_neg (by simp; omega), Option.bind_some, if_pos (by simp; omega)]⟩
  unfold spec_l01In.f impl_within.f
  by_cases b2 : 0 ≤ n ∧ n ≤ 8160
  · obtain ⟨N, rfl⟩ : ∃ N : Nat, n = (N : Int) := ⟨n.toNat, by omega⟩
    have e1 := spec_expand_eq (bytesL s) l1 N (u8ok_bytesL s) (by rw [bytesL_length]; omega) u1 (by omega) (by omega)
    have e2 := expand_eq k (bytesL s) l1 N (u8ok_bytesL s) (by rw [bytesL_length]; omega) u1 (by omega) (by omega)
    rw [str_bytesL] at e1 e2
    refine ⟨(strOfNums (Sha.expandL (bytesL s) l1 N), 0), ?_, ?_⟩
    · rw [if_neg b0, if_neg (by simpa using b1), if_pos (by omega), Option.bind_some, if_pos (by simp; omega), e1, Option.bind_some]
    · rw [Option.bind_some, if_neg (by simp; omega), Option.bind_some, if_neg (by simp; omega), if_pos (by omega), Option.bind_some, if_pos (by simp; omega), e2, Option.bind_some]
  · refine ⟨(⟨#[]⟩, 4), ?_, ?_⟩
    · rw [if_neg b0, if_neg (by simpa using b1)]
      by_cases b3 : 0 ≤ n
      · rw [if_pos (by omega), Option.bind_some, if_neg (by simp; omega)]
      · rw [if_neg (by omega), Option.bind_some, if_neg (by simp)]
    · rw [Option.bind_some, if_neg (by simp; omega), Option.bind_some, if_neg (by simp; omega)]
      by_cases b3 : 0 ≤ n
      · rw [if_pos (by omega), Option.bind_some, if_neg (by simp; omega)]
      · rw [if_neg (by omega), Option.bind_some, if_neg (by simp)]
theorem FnExactHkdfExpand : laws_FnExactHkdfExpand.Pure := by
  intro s l1 n _ h1 _ w1 _
  refine ⟨2000003, ?_⟩
  unfold laws_FnExactHkdfExpand.f
  by_cases b0 : (s.size : Int) > 1048576
  · rw [if_pos b0]
  by_cases b1 : (l1.length : Int) > 1048576
  · rw [if_neg b0, if_pos b1]
  obtain ⟨r, e1, e2⟩ := HkdfExpand_same 1999738 s l1 n (u8ok_wf w1)
  rw [if_neg b0, if_neg b1, toByteS_eq 2000003 l1 (by omega) (by omega), Option.bind_some, e1, Option.bind_some, Option.bind_some, e2, Option.bind_some, if_pos rfl, bne_self_eq_false]
  show laws_FnExactHkdfExpand.j0 (2000002 + 1) _ _ _ = _
  simp only [laws_FnExactHkdfExpand.j0, Bool.false_eq_true, if_false]
  rw [toByteS_eq 2000002 l1 (by omega) (by omega), Option.bind_some, eqByteS_eq 2000002 l1 l1 (by omega) (by omega), Option.bind_some, if_pos (by simp)]
end Go.Proofs.Ytlfpogbonmddmaa.Pure

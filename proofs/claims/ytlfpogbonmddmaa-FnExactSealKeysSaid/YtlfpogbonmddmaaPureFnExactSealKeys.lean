/- For all keys the program's keys of a seal are the reference's. No condition. -/
import Derived.Test.YtlfpogbonmddmaaPx4
import Derived.Test.YtlfpogbonmddmaaPsk
namespace Go.Proofs.Ytlfpogbonmddmaa.Pure
open Go.RowKit Go.Proofs.Ytlfpogbonmddmaa.P Go.Proofs.Ytlfpogbonmddmaa.Pg Go.Proofs.YtlfpogbonmddmaaW.PrintWords Go.Proofs.YtlfpogbonmddmaaW.PrintLast Go.Proofs.YtlfpogbonmddmaaW.PrintMore
theorem SealKeys_same (k : Nat) (s : ByteArray) : ∃ r, spec_SealKeys.f s = some r ∧ impl_SealKeys.f (k + 264) s = some r := by
  unfold spec_SealKeys.f impl_SealKeys.f impl_isLong_string.f
  by_cases b0 : (s.size : Int) > 65536
  · exact ⟨_, by rw [if_pos b0], by rw [Option.bind_some, if_pos (by simp; omega)]⟩
  by_cases b1 : (s.size : Int) = 32
  · refine ⟨(strOfNums ((keysK s).take 32), strOfNums ((keysK s).drop 32), 0), ?_, ?_⟩
    · rw [if_neg b0, if_pos b1, spec_sealKeys_eq s (by omega), Option.bind_some]
    · rw [Option.bind_some, if_neg (by simp; omega), if_pos b1, sealKeys_eq k s (by omega), Option.bind_some]
  · refine ⟨(⟨#[]⟩, ⟨#[]⟩, 1), ?_, ?_⟩
    · rw [if_neg b0, if_neg b1]
    · rw [Option.bind_some, if_neg (by simp; omega), if_neg b1]
theorem FnExactSealKeys : laws_FnExactSealKeys.Pure := by
  intro s _
  refine ⟨264, ?_⟩
  unfold laws_FnExactSealKeys.f
  by_cases b0 : (s.size : Int) > 1048576
  · rw [if_pos b0]
  obtain ⟨r, e1, e2⟩ := SealKeys_same 0 s
  rw [if_neg b0, e1, Option.bind_some, e2, Option.bind_some, if_pos rfl, if_pos rfl, if_pos rfl]
end Go.Proofs.Ytlfpogbonmddmaa.Pure

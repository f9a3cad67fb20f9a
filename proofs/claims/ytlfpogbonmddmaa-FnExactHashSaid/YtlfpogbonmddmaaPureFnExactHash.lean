/- For all texts the program's hash is the reference's. No condition. -/
import Derived.Test.YtlfpogbonmddmaaPx12
import Derived.Test.YtlfpogbonmddmaaPeq
namespace Go.Proofs.Ytlfpogbonmddmaa.Pure
open Go.RowKit Go.Proofs.Ytlfpogbonmddmaa.P Go.Proofs.Ytlfpogbonmddmaa.Pg Go.Proofs.YtlfpogbonmddmaaW.PrintWords Go.Proofs.YtlfpogbonmddmaaW.PrintLast Go.Proofs.YtlfpogbonmddmaaW.PrintMore
theorem u8ok_wf {l : List Int} (h : ∀ x ∈ l, (Lit.int .u8 x).wf = true) : u8ok l := fun x hx => by
  have := h x hx
  simp [Lit.wf, IntKind.min, IntKind.max, IntKind.signed, IntKind.bits] at this
  omega
theorem hash_strOfNums (l : List Int) (hu : u8ok l) (hl : l.length ≤ 1099511627776) : impl_hash.f (strOfNums l) = some (strOfNums (Sha.shaL l)) := by
  unfold impl_hash.f
  rw [if_pos (by rw [← bytesL_length, bytesL_str l hu]; exact hl), bytesL_str l hu]
theorem Hash_same (l : List Int) (hu : u8ok l) : ∃ r, spec_Hash.f l = some r ∧ impl_Hash.f l = some r := by
  unfold spec_Hash.f impl_Hash.f impl_isLong_byte.f
  by_cases b : (l.length : Int) > 65536
  · exact ⟨_, by rw [if_pos b], by rw [Option.bind_some, if_pos (by simp; omega)]⟩
  · refine ⟨strOfNums (Sha.shaL l), ?_, ?_⟩
    · rw [if_neg b]
      unfold spec_l03Hash.f
      rw [if_pos (u8b_of hu), if_pos (by omega), Option.bind_some]
    · rw [Option.bind_some, if_neg (by simp; omega), hash_strOfNums l hu (by omega), Option.bind_some]
theorem FnExactHash : laws_FnExactHash.Pure := by
  intro l0 h0 _ w0
  refine ⟨2000003, ?_⟩
  unfold laws_FnExactHash.f
  by_cases b0 : (l0.length : Int) > 1048576
  · rw [if_pos b0]
  obtain ⟨r, e1, e2⟩ := Hash_same l0 (u8ok_wf w0)
  rw [if_neg b0, toByteS_eq 2000003 l0 (by omega) (by omega), Option.bind_some, e1, Option.bind_some, Option.bind_some, e2, Option.bind_some, if_pos rfl, Option.bind_some, eqByteS_eq 2000003 l0 l0 (by omega) (by omega), Option.bind_some, if_pos (by simp)]
end Go.Proofs.Ytlfpogbonmddmaa.Pure

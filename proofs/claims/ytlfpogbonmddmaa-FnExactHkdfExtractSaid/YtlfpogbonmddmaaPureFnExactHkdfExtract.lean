/- For all keys and texts the program's HKDF extraction is the reference's. No condition. -/
import Derived.Test.YtlfpogbonmddmaaPx5
import Derived.Test.YtlfpogbonmddmaaPhm
namespace Go.Proofs.Ytlfpogbonmddmaa.Pure
open Go.RowKit Go.Proofs.Ytlfpogbonmddmaa.P Go.Proofs.Ytlfpogbonmddmaa.Pg Go.Proofs.YtlfpogbonmddmaaW.PrintWords Go.Proofs.YtlfpogbonmddmaaW.PrintLast Go.Proofs.YtlfpogbonmddmaaW.PrintMore
theorem Extract_same (k : Nat) (l0 l1 : List Int) (u0 : u8ok l0) (u1 : u8ok l1) : ∃ r, spec_HkdfExtract.f l0 l1 = some r ∧ impl_HkdfExtract.f (k + 1) l0 l1 = some r := by
  obtain ⟨r, e1, e2⟩ := Hmac_same k l0 l1 u0 u1
  exact ⟨r, e1, by unfold impl_HkdfExtract.f; rw [e2, Option.bind_some]⟩
theorem FnExactHkdfExtract : laws_FnExactHkdfExtract.Pure := by
  intro l0 l1 h0 _ w0 h1 _ w1
  refine ⟨2000003, ?_⟩
  unfold laws_FnExactHkdfExtract.f
  by_cases b0 : (l0.length : Int) > 1048576
  · rw [if_pos b0]
  by_cases b1 : (l1.length : Int) > 1048576
  · rw [if_neg b0, if_pos b1]
  obtain ⟨r, e1, e2⟩ := Extract_same 2000002 l0 l1 (u8ok_wf w0) (u8ok_wf w1)
  rw [if_neg b0, if_neg b1, toByteS_eq 2000003 l0 (by omega) (by omega), Option.bind_some, toByteS_eq 2000003 l1 (by omega) (by omega), Option.bind_some, e1, Option.bind_some, Option.bind_some, Option.bind_some, e2, Option.bind_some, if_pos rfl, bne_self_eq_false]
  show laws_FnExactHkdfExtract.j0 (2000002 + 1) _ _ _ _ _ = _
  simp only [laws_FnExactHkdfExtract.j0, Bool.false_eq_true, if_false]
  rw [toByteS_eq 2000002 l0 (by omega) (by omega), Option.bind_some, eqByteS_eq 2000002 l0 l0 (by omega) (by omega), Option.bind_some, if_pos (by simp), toByteS_eq 2000002 l1 (by omega) (by omega), Option.bind_some, eqByteS_eq 2000002 l1 l1 (by omega) (by omega), Option.bind_some, if_pos (by simp)]
end Go.Proofs.Ytlfpogbonmddmaa.Pure

/- For all salts, secrets, infos and lengths the program's HKDF is the reference's. No condition. -/
import Derived.Test.YtlfpogbonmddmaaPeq
import Derived.Test.YtlfpogbonmddmaaPx5
import Derived.Test.YtlfpogbonmddmaaPhkdf
namespace Go.Proofs.Ytlfpogbonmddmaa.Pure
open Go.RowKit Go.Proofs.Ytlfpogbonmddmaa.P Go.Proofs.Ytlfpogbonmddmaa.Pg Go.Proofs.YtlfpogbonmddmaaW.PrintWords Go.Proofs.YtlfpogbonmddmaaW.PrintLast Go.Proofs.YtlfpogbonmddmaaW.PrintMore
theorem FnExactHkdf : laws_FnExactHkdf.Pure := by
  intro l0 l1 l2 n h0 _ w0 h1 _ w1 h2 _ w2 _
  refine ⟨2000003, ?_⟩
  unfold laws_FnExactHkdf.f
  by_cases b0 : (l0.length : Int) > 1048576
  · rw [if_pos b0]
  by_cases b1 : (l1.length : Int) > 1048576
  · rw [if_neg b0, if_pos b1]
  by_cases b2 : (l2.length : Int) > 1048576
  · rw [if_neg b0, if_neg b1, if_pos b2]
  obtain ⟨r, e1, e2⟩ := Hkdf_same 1999738 l0 l1 l2 n (u8ok_wf w0) (u8ok_wf w1) (u8ok_wf w2)
  rw [if_neg b0, if_neg b1, if_neg b2, toByteS_eq 2000003 l0 (by omega) (by omega), Option.bind_some, toByteS_eq 2000003 l1 (by omega) (by omega), Option.bind_some, toByteS_eq 2000003 l2 (by omega) (by omega), Option.bind_some, e1, Option.bind_some, Option.bind_some, Option.bind_some, Option.bind_some, e2, Option.bind_some, if_pos rfl, bne_self_eq_false]
  show laws_FnExactHkdf.j0 (2000002 + 1) _ _ _ _ _ _ _ = _
  simp only [laws_FnExactHkdf.j0, Bool.false_eq_true, if_false]
  rw [toByteS_eq 2000002 l0 (by omega) (by omega), Option.bind_some, eqByteS_eq 2000002 l0 l0 (by omega) (by omega), Option.bind_some, if_pos (by simp), toByteS_eq 2000002 l1 (by omega) (by omega), Option.bind_some, eqByteS_eq 2000002 l1 l1 (by omega) (by omega), Option.bind_some, if_pos (by simp), toByteS_eq 2000002 l2 (by omega) (by omega), Option.bind_some, eqByteS_eq 2000002 l2 l2 (by omega) (by omega), Option.bind_some, if_pos (by simp)]
end Go.Proofs.Ytlfpogbonmddmaa.Pure

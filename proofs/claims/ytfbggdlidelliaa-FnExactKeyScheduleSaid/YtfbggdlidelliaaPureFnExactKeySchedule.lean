/- For all keys the program's round keys and their code are the reference's, in memory of their own. No condition. -/
import Derived.Test.YtfbggdlidelliaaPx7
import Derived.Test.YtfbggdlidelliaaPmarkS
import Derived.Test.YtfbggdlidelliaaPks
namespace Go.Proofs.Ytfbggdlidelliaa.Pure
open Go.RowKit Go.Proofs.Ytfbggdlidelliaa.P Go.Proofs.Ytfbggdlidelliaa.Pg Go.Proofs.YtfbggdlidelliaaW.PrintWords Go.Proofs.YtfbggdlidelliaaW.PrintLast Go.Proofs.YtfbggdlidelliaaW.PrintMore
theorem FnExactKeySchedule : laws_FnExactKeySchedule.Pure := by
  intro s _
  refine ⟨1000, ?_⟩
  unfold laws_FnExactKeySchedule.f
  by_cases b0 : (s.size : Int) > 1048576
  · rw [if_pos b0]
  obtain ⟨r, c, hl, e1, e2⟩ := KeySchedule_same 1000 (by decide) s
  obtain ⟨r', em, hl', hh⟩ := markS_held 999 1 r (by omega) (by omega) (by omega)
  have em' : laws_markStringS.f 999 r 1 = some (((1 + r.length : Nat) : Int), r') := em
  have hh' : ∀ k', r.length + 40 < k' → laws_heldStringS.f k' r' 1 = some ((1 + r.length : Nat) : Int) := hh
  rw [if_neg b0, e1, Option.bind_some, e2, Option.bind_some]
  simp only []
  rw [eqS_refl 1000 r (by omega) (by omega), Option.bind_some, if_pos rfl, bne_self_eq_false]
  show laws_FnExactKeySchedule.j0 (999 + 1) s r c r false = some true
  simp only [laws_FnExactKeySchedule.j0, Bool.false_eq_true, if_false]
  rw [em', Option.bind_some]
  simp only []
  rw [hh' 999 (by omega), Option.bind_some, if_neg (by omega), if_pos rfl, e2, Option.bind_some]
  simp only []
  rw [eqS_refl 999 r (by omega) (by omega), Option.bind_some, if_pos rfl, bne_self_eq_false]
  show laws_FnExactKeySchedule.j1 (998 + 1) r' ((1 + r.length : Nat) : Int) false = some true
  simp only [laws_FnExactKeySchedule.j1, Bool.false_eq_true, if_false]
  rw [hh' 998 (by omega), Option.bind_some, if_neg (by omega), if_pos rfl]
end Go.Proofs.Ytfbggdlidelliaa.Pure

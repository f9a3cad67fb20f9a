/- For all whole numbers the program's byte with a substitute and its code are the reference's. No condition. -/
import Derived.Test.YtiapfnpnfekknaaPx9
import Derived.Test.YtiapfnpnfekknaaPs
namespace Go.Proofs.Ytiapfnpnfekknaa.Pure
open Go.RowKit Go.Proofs.Ytiapfnpnfekknaa.P Go.Proofs.Ytiapfnpnfekknaa.Gf Go.Proofs.Ytiapfnpnfekknaa.Pg Go.Proofs.YtiapfnpnfekknaaW.PrintWords Go.Proofs.YtiapfnpnfekknaaW.PrintLast Go.Proofs.YtiapfnpnfekknaaW.PrintMore
def subs : List Int := (List.range 256).map fun a => ((sub a : Nat) : Int)
def backs : List Int := (List.range 256).map fun a => ((unsub a : Nat) : Int)
theorem table_600 : spec_l01Table.f 600 = some subs := by decide +kernel
theorem back_600 : spec_l01Back.f 600 subs = some backs := by decide +kernel
theorem unsub_run (x : Nat) (hx : x < 256) (d : Nat) : ∀ (k b : Nat), b + d = unsub x → d + 20 < k → impl_UnsubByte.l0 k x b = some ((((unsub x : Nat) : Int)), 0) := by
  have hu := unsub_lt x hx
  induction d with
  | zero =>
    intro k b hb hk
    obtain ⟨k, rfl⟩ : ∃ m, k = m + 1 := ⟨k - 1, by omega⟩
    obtain rfl : b = unsub x := by omega
    simp only [impl_UnsubByte.l0]
    rw [mod_byte _ hu, impl_sub_eq k _ hu (by omega), Option.bind_some, mod_byte x hx, sub_unsub x hx, if_pos rfl]
  | succ d ih =>
    intro k b hb hk
    obtain ⟨k, rfl⟩ : ∃ m, k = m + 1 := ⟨k - 1, by omega⟩
    have hb2 : b < 256 := by omega
    have hne : ¬ ((sub b : Nat) : Int) = (x : Int) := by
      intro h
      have h2 : sub b = x := by omega
      have := unsub_sub b hb2
      rw [h2] at this
      omega
    simp only [impl_UnsubByte.l0]
    rw [mod_byte _ hb2, impl_sub_eq k _ hb2 (by omega), Option.bind_some, mod_byte x hx, if_neg hne, suc_w b (by omega)]
    exact ih k (b + 1) (by omega) (by omega)

theorem FnExactUnsubByte : laws_FnExactUnsubByte.Pure := by
  intro a _
  refine ⟨600, ?_⟩
  unfold laws_FnExactUnsubByte.f spec_UnsubByte.f impl_UnsubByte.f
  rcases byte_or a with ⟨x, hx, rfl⟩ | ⟨h1, h2⟩
  · simp only [byte_yes x hx, isByte_yes x hx, Option.bind_some, if_true]
    have hu := unsub_lt x hx
    rw [table_600, Option.bind_some, back_600, Option.bind_some, if_pos (by omega), if_pos (by simp [backs]; omega)]
    have h0 := unsub_run x hx (unsub x) 600 0 (by omega) (by omega)
    rw [show ((0 : Nat) : Int) = 0 from rfl] at h0
    rw [h0, Option.bind_some, Option.bind_some]
    have : rd backs (x : Int) = ((unsub x : Nat) : Int) := by simp [rd, backs, hx]
    simp [this]
  · simp only [h1, h2, Option.bind_some]
    rfl

end Go.Proofs.Ytiapfnpnfekknaa.Pure

/- The program's search for the byte with a substitute ends at unsub (no program in sight). -/
import Derived.Test.YtbpefnfeiidioaaPx2
import Derived.Test.YtbpefnfeiidioaaPs
namespace Go.Proofs.Ytbpefnfeiidioaa.Pg
open Go.RowKit Go.Proofs.Ytbpefnfeiidioaa.P Go.Proofs.Ytbpefnfeiidioaa.Gf Go.Proofs.YtbpefnfeiidioaaW.PrintWords Go.Proofs.YtbpefnfeiidioaaW.PrintLast Go.Proofs.YtbpefnfeiidioaaW.PrintMore
theorem unsub_run (x : Nat) (hx : x < 256) (d : Nat) : ∀ (k b : Nat), b + d = unsub x → d + 20 < k → impl_UnsubByte.l0 k x b = some ((((unsub x : Nat) : Int)), 0) := by
  have hu := unsub_lt x hx
  induction d with
  | zero =>
    intro k b hb hk
    obtain ⟨k, rfl⟩ : ∃ m, k = m + 1 := ⟨k - 1, by omega⟩
    obtain rfl : b = unsub x := by omega
    simp only [impl_UnsubByte.l0]
    rw [mod_byte _ hu, impl_sub_eq k _ hu (by omega), Option.bind_some, mod_byte x hx, sub_unsub x hx, if_pos rfl]
  | succ d ih =>
    intro k b hb hk
    obtain ⟨k, rfl⟩ : ∃ m, k = m + 1 := ⟨k - 1, by omega⟩
    have hb2 : b < 256 := by omega
    have hne : ¬ ((sub b : Nat) : Int) = (x : Int) := by
      intro h
      have h2 : sub b = x := by omega
      have := unsub_sub b hb2
      rw [h2] at this
      omega
    simp only [impl_UnsubByte.l0]
    rw [mod_byte _ hb2, impl_sub_eq k _ hb2 (by omega), Option.bind_some, mod_byte x hx, if_neg hne, suc_w b (by omega)]
    exact ih k (b + 1) (by omega) (by omega)

theorem impl_unsub_eq (k x : Nat) (hx : x < 256) (hk : 280 < k) : impl_UnsubByte.f k (x : Int) = some (((unsub x : Nat) : Int), 0) := by
  unfold impl_UnsubByte.f
  rw [isByte_yes x hx, Option.bind_some, if_pos rfl]
  have hu := unsub_lt x hx
  exact unsub_run x hx (unsub x) k 0 (by omega) (by omega)
end Go.Proofs.Ytbpefnfeiidioaa.Pg

/- A drawn text (no program in sight). -/
import Derived.Test.YtfbggdlidelliaaZCmbPm14
import Derived.Test.YtfbggdlidelliaaZCmbPsrc
namespace Go.Proofs.Ytfbggdlidelliaa.Pg
open Go.RowKit Go.Proofs.Ytfbggdlidelliaa.P Go.Proofs.YtfbggdlidelliaaW.PrintWords Go.Proofs.YtfbggdlidelliaaW.PrintLast Go.Proofs.YtfbggdlidelliaaW.PrintMore
theorem isU8_zeros (n : Nat) : isU8 (List.replicate n 0) := fun x hx => by
  have := List.eq_of_mem_replicate hx
  omega
theorem plain_some {l : List Int} (w : isU8 l) : ∃ r, (∀ k, 40 < k → spec_PlainOf.f k l = some r) ∧ isU8 r ∧ r.length ≤ 100 := by
  have h0 : At 0 0 ((l.length : Int) % 1000) := ⟨by decide, by decide, by omega, by omega⟩
  obtain ⟨K, hK⟩ : ∃ K : Nat, K = 41 := ⟨41, rfl⟩
  obtain ⟨r, a', s', e', u, hl, hA⟩ := bytes_some w h0 (by omega) 30 (by omega) K (by omega)
  have h30 : ((30 : Nat) : Int) = 30 := rfl
  rw [h30] at e'
  obtain ⟨c, a2, s2, e2, c0, c1, _⟩ := next_some w (n := 5) hA (by omega) (by omega)
  have hz : ∃ z : Nat, rd ([0, 0, 16, 32, 50] : List Int) c = (z : Int) ∧ z ≤ 50 := by
    obtain ⟨n, rfl⟩ := Int.eq_ofNat_of_zero_le c0
    have hn : n < 5 := by omega
    match n, hn with
    | 0, _ => exact ⟨0, rfl, by decide⟩
    | 1, _ => exact ⟨0, rfl, by decide⟩
    | 2, _ => exact ⟨16, rfl, by decide⟩
    | 3, _ => exact ⟨32, rfl, by decide⟩
    | 4, _ => exact ⟨50, rfl, by decide⟩
  obtain ⟨z, ez, hz⟩ := hz
  refine ⟨r ++ List.replicate z 0, fun k hk => ?_, isU8_append u (isU8_zeros z), by simp; omega⟩
  have : spec_PlainOf.f K l = some (r ++ List.replicate z 0) := by
    unfold spec_PlainOf.f spec_l00Source.f spec_l00Src_plain.f
    have hl5 : (([0, 0, 16, 32, 50] : List Int).length : Int) = 5 := rfl
    have hlen : r.length + z < 140737488355328 := by omega
    have hz0 : (0 : Int) ≤ (z : Int) := Int.natCast_nonneg z
    rw [Option.bind_some, e', Option.bind_some, Option.bind_some, e2, Option.bind_some, if_pos c0, hl5, if_pos c1, ez, if_pos hz0, Int.toNat_natCast, if_pos hlen, Option.bind_some]
  exact at_rounds (spec_PlainOf.mono _) (by omega) this
end Go.Proofs.Ytfbggdlidelliaa.Pg

/- A choice that some bytes make lies below its bound (no program in sight). -/
import Derived.Test.YtfbggdlidelliaaZAesPx15
namespace Go.Proofs.Ytfbggdlidelliaa.Pg
open Go.RowKit Go.Proofs.Ytfbggdlidelliaa.P Go.Proofs.YtfbggdlidelliaaW.PrintWords Go.Proofs.YtfbggdlidelliaaW.PrintLast
theorem u8_of {x : Int} (h : (Lit.int .u8 x).wf = true) : 0 ≤ x ∧ x ≤ 255 := by
  simp [Lit.wf, IntKind.min, IntKind.max, IntKind.signed, IntKind.bits] at h
  omega
theorem rd_u8 {l : List Int} (w : ∀ x ∈ l, (Lit.int .u8 x).wf = true) (i : Int) : 0 ≤ rd l i ∧ rd l i ≤ 255 := by
  unfold rd
  rcases Nat.lt_or_ge i.toNat l.length with h | h
  · rw [List.getD_eq_getElem?_getD, List.getElem?_eq_getElem h]
    exact u8_of (w _ (List.getElem_mem h))
  · rw [List.getD_eq_getElem?_getD, List.getElem?_eq_none h]
    exact ⟨by decide, by decide⟩
theorem at_some (l : List Int) (hl : l.length ≤ 1048576) (w : ∀ x ∈ l, (Lit.int .u8 x).wf = true) (i n : Nat) (hi : i < 100000) (hn : 1 < n ∧ n < 100000) : ∃ r : Nat, r < n ∧ laws_at.f l (i : Int) (n : Int) = some (r : Int) := by
  unfold laws_at.f
  have hn2 : ¬ (n : Int) ≤ 1 := by omega
  have hn0 : ¬ (n : Int) = 0 := by omega
  rw [if_neg hn2]
  by_cases h0 : (l.length : Int) = 0
  · rw [if_pos h0, if_neg hn0]
    have e : wrap64 ((i : Int) * 7) = ((i * 7 : Nat) : Int) := by unfold wrap64; omega
    rw [e]
    refine ⟨i * 7 % n, Nat.mod_lt _ (by omega), ?_⟩
    rw [Int.tmod_eq_emod_of_nonneg (Int.natCast_nonneg _)]
    rfl
  · rw [if_neg h0]
    have t1 : Int.tmod (i : Int) (l.length : Int) = ((i % l.length : Nat) : Int) := by
      rw [Int.tmod_eq_emod_of_nonneg (Int.natCast_nonneg _)]; rfl
    have e1 : wrap64 ((i : Int) + 1) = ((i + 1 : Nat) : Int) := by unfold wrap64; omega
    have t2 : Int.tmod ((i + 1 : Nat) : Int) (l.length : Int) = (((i + 1) % l.length : Nat) : Int) := by
      rw [Int.tmod_eq_emod_of_nonneg (Int.natCast_nonneg _)]; rfl
    have d1 : Int.tdiv (i : Int) (l.length : Int) = ((i / l.length : Nat) : Int) := by
      rw [Int.tdiv_eq_ediv_of_nonneg (Int.natCast_nonneg _)]; rfl
    have m1 : i % l.length < l.length := Nat.mod_lt _ (by omega)
    have m2 : (i + 1) % l.length < l.length := Nat.mod_lt _ (by omega)
    have q1 : i / l.length ≤ i := Nat.div_le_self _ _
    rw [e1, t1, t2, d1, if_pos (Int.natCast_nonneg _), if_pos (by omega), if_pos (Int.natCast_nonneg _), if_pos (by omega), if_neg hn0]
    obtain ⟨a0, a1⟩ := rd_u8 w ((i % l.length : Nat) : Int)
    obtain ⟨b0, b1⟩ := rd_u8 w (((i + 1) % l.length : Nat) : Int)
    generalize rd l ((i % l.length : Nat) : Int) = a at a0 a1
    generalize rd l (((i + 1) % l.length : Nat) : Int) = b at b0 b1
    generalize i / l.length = q at q1
    have e : wrap64 ((wrap64 ((wrap64 ((wrap64 a) * 31)) + (wrap64 b))) + (wrap64 (q : Int))) = a * 31 + b + q := by unfold wrap64; omega
    rw [e]
    have hp : 0 ≤ a * 31 + b + q := by omega
    refine ⟨((a * 31 + b + q) % n).toNat, ?_, ?_⟩
    · have := Int.emod_lt_of_pos (a * 31 + b + q) (show (0 : Int) < n by omega)
      have := Int.emod_nonneg (a * 31 + b + q) (show (n : Int) ≠ 0 by omega)
      omega
    · rw [Int.tmod_eq_emod_of_nonneg hp]
      have := Int.emod_nonneg (a * 31 + b + q) (show (n : Int) ≠ 0 by omega)
      rw [Int.toNat_of_nonneg this]
end Go.Proofs.Ytfbggdlidelliaa.Pg

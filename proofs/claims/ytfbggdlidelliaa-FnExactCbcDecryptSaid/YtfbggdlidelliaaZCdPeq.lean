/- Slices of bytes, copied and compared: what the printed functions of the laws come to (no program in sight). -/
import Derived.Test.YtfbggdlidelliaaZCdPm1
namespace Go.Proofs.Ytfbggdlidelliaa.Pg
open Go.RowKit Go.Proofs.Ytfbggdlidelliaa.P Go.Proofs.YtfbggdlidelliaaW.PrintWords Go.Proofs.YtfbggdlidelliaaW.PrintLast Go.Proofs.YtfbggdlidelliaaW.PrintMore
theorem suc_int (i : Nat) (hi : i < 9223372036854775807) : wrap64 ((i : Int) + 1) = ((i + 1 : Nat) : Int) := by unfold wrap64; omega
theorem rd_nat (l : List Int) (i : Nat) (h : i < l.length) : rd l (i : Int) = l[i] := by
  simp [rd, h]
theorem toByteS_run (l : List Int) (hl : l.length ≤ 281474976710656) (d : Nat) : ∀ (k i : Nat) (acc : List Int), acc.length = l.length → i + d = l.length → (∀ j, j < i → acc[j]? = l[j]?) → d < k → laws_toByteS.l0 k l acc i = some l := by
  induction d with
  | zero =>
    intro k i acc ha hi hj hk
    obtain ⟨k, rfl⟩ : ∃ m, k = m + 1 := ⟨k - 1, by omega⟩
    simp only [laws_toByteS.l0]
    rw [if_neg (by omega)]
    congr 1
    apply List.ext_getElem?
    intro j
    rcases Nat.lt_or_ge j i with h | h
    · exact hj j h
    · rw [List.getElem?_eq_none (by omega), List.getElem?_eq_none (by omega)]
  | succ d ih =>
    intro k i acc ha hi hj hk
    obtain ⟨k, rfl⟩ : ∃ m, k = m + 1 := ⟨k - 1, by omega⟩
    simp only [laws_toByteS.l0]
    rw [if_pos (by omega), if_pos (by omega), if_pos (by omega), suc_int i (by omega), rd_nat l i (by omega), Int.toNat_natCast]
    refine ih k (i + 1) _ (by rw [List.length_set]; exact ha) (by omega) (fun j hj2 => ?_) (by omega)
    rcases Nat.lt_or_ge j i with h | h
    · rw [List.getElem?_set_ne (by omega)]; exact hj j h
    · obtain rfl : j = i := by omega
      rw [List.getElem?_set_self (by omega), List.getElem?_eq_getElem (by omega)]
theorem toByteS_eq (k : Nat) (l : List Int) (hl : l.length ≤ 281474976710656) (hk : l.length < k) : laws_toByteS.f k l = some l := by
  unfold laws_toByteS.f
  rw [if_pos (by omega), if_pos (by omega)]
  exact toByteS_run l hl l.length k 0 _ (by simp) (by omega) (fun j h => absurd h (by omega)) hk
theorem eqByteS_run (a b : List Int) (hl : a.length ≤ 281474976710656) (he : a.length = b.length) (d : Nat) : ∀ (k i : Nat), i + d = a.length → (∀ j, j < i → a[j]? = b[j]?) → d < k → laws_eqByteS.l0 k a b i = some (a == b) := by
  induction d with
  | zero =>
    intro k i hi hj hk
    obtain ⟨k, rfl⟩ : ∃ m, k = m + 1 := ⟨k - 1, by omega⟩
    simp only [laws_eqByteS.l0]
    rw [if_neg (by omega)]
    have : a = b := by
      apply List.ext_getElem?
      intro j
      rcases Nat.lt_or_ge j i with h | h
      · exact hj j h
      · rw [List.getElem?_eq_none (by omega), List.getElem?_eq_none (by omega)]
    rw [this]; simp
  | succ d ih =>
    intro k i hi hj hk
    obtain ⟨k, rfl⟩ : ∃ m, k = m + 1 := ⟨k - 1, by omega⟩
    simp only [laws_eqByteS.l0]
    rw [if_pos (by omega), if_pos (by omega), if_pos (by omega), suc_int i (by omega), rd_nat a i (by omega), rd_nat b i (by omega)]
    by_cases h : a[i] = b[i]
    · rw [if_pos h]
      refine ih k (i + 1) (by omega) (fun j hj2 => ?_) (by omega)
      rcases Nat.lt_or_ge j i with h2 | h2
      · exact hj j h2
      · obtain rfl : j = i := by omega
        rw [List.getElem?_eq_getElem (by omega), List.getElem?_eq_getElem (by omega), h]
    · rw [if_neg h]
      have : ¬ a = b := by
        rintro rfl
        exact h rfl
      simp [this]
theorem eqByteS_eq (k : Nat) (a b : List Int) (hl : a.length ≤ 281474976710656) (hk : a.length < k) : laws_eqByteS.f k a b = some (a == b) := by
  unfold laws_eqByteS.f
  by_cases he : a.length = b.length
  · rw [if_pos (by omega)]
    exact eqByteS_run a b hl he a.length k 0 (by omega) (fun j h => absurd h (by omega)) hk
  · rw [if_neg (by omega)]
    have : ¬ a = b := fun h => he (by rw [h])
    simp [this]
end Go.Proofs.Ytfbggdlidelliaa.Pg

/- Bytes, marked and held: what is marked is held (no program in sight). -/
import Derived.Test.YtfbggdlidelliaaZCdPm12
import Derived.Test.YtfbggdlidelliaaZCdPeq
namespace Go.Proofs.Ytfbggdlidelliaa.Pg
open Go.RowKit Go.Proofs.Ytfbggdlidelliaa.P Go.Proofs.YtfbggdlidelliaaW.PrintWords Go.Proofs.YtfbggdlidelliaaW.PrintLast Go.Proofs.YtfbggdlidelliaaW.PrintMore
theorem cm (c : Nat) : (c : Int) % 256 = ((c % 256 : Nat) : Int) := by omega
theorem markB_run (d : Nat) : ∀ (k i c : Nat) (l : List Int), i + d = l.length → l.length < 100000000 → c + d < 900000000 → d < k →
    ∃ l', laws_markByteS.l0 k l (c : Int) (i : Int) = some (((c + d : Nat) : Int), l') ∧ l'.length = l.length ∧ (∀ j, j < i → l'[j]? = l[j]?) ∧ ∀ j, i ≤ j → j < l.length → l'[j]? = some (((c + (j - i)) % 256 : Nat) : Int) := by
  induction d with
  | zero =>
    intro k i c l hi _ _ hk
    obtain ⟨k, rfl⟩ : ∃ m, k = m + 1 := ⟨k - 1, by omega⟩
    refine ⟨l, ?_, rfl, fun _ _ => rfl, fun j h1 h2 => by omega⟩
    simp only [laws_markByteS.l0]
    rw [if_neg (by omega)]
    rfl
  | succ d ih =>
    intro k i c l hi hl hc hk
    obtain ⟨k, rfl⟩ : ∃ m, k = m + 1 := ⟨k - 1, by omega⟩
    obtain ⟨l', e, h1, h2, h3⟩ := ih k (i + 1) (c + 1) (l.set i (((c % 256 : Nat)) : Int)) (by rw [List.length_set]; omega) (by rw [List.length_set]; omega) (by omega) (by omega)
    rw [List.length_set] at h1 h3
    refine ⟨l', ?_, h1, fun j hj => ?_, fun j hj1 hj2 => ?_⟩
    · simp only [laws_markByteS.l0]
      rw [if_pos (by omega), if_pos (by omega), Int.toNat_natCast, cm c, suc_int i (by omega), suc_int c (by omega), e]
      congr 3
      omega
    · rw [h2 j (by omega), List.getElem?_set_ne (by omega)]
    · rcases Nat.eq_or_lt_of_le hj1 with e2 | e2
      · subst e2
        rw [h2 i (by omega), List.getElem?_set_self (by omega)]
        simp
      · rw [h3 j (by omega) hj2]
        congr 3
        omega
theorem heldB_run (d : Nat) : ∀ (k i c : Nat) (l : List Int), i + d = l.length → l.length < 100000000 → c + d < 900000000 → d < k → (∀ j, i ≤ j → j < l.length → l[j]? = some (((c + (j - i)) % 256 : Nat) : Int)) →
    laws_heldByteS.l0 k l (c : Int) (i : Int) = some ((c + d : Nat) : Int) := by
  induction d with
  | zero =>
    intro k i c l hi _ _ hk _
    obtain ⟨k, rfl⟩ : ∃ m, k = m + 1 := ⟨k - 1, by omega⟩
    simp only [laws_heldByteS.l0]
    rw [if_neg (by omega)]
    rfl
  | succ d ih =>
    intro k i c l hi hl hc hk hj
    obtain ⟨k, rfl⟩ : ∃ m, k = m + 1 := ⟨k - 1, by omega⟩
    have h0 := hj i (Nat.le_refl _) (by omega)
    have hr : rd l (i : Int) = ((c % 256 : Nat) : Int) := by
      simp [rd, List.getD_eq_getElem?_getD, h0]
    simp only [laws_heldByteS.l0]
    rw [if_pos (by omega), if_pos (by omega), hr, cm c, if_pos rfl, suc_int i (by omega), suc_int c (by omega),
      ih k (i + 1) (c + 1) l (by omega) hl (by omega) (by omega) (fun j h1 h2 => by
        rw [hj j (by omega) h2]
        congr 3
        omega)]
    congr 2
    omega
theorem markB_held (k c : Nat) (l : List Int) (hl : l.length < 100000000) (hc : c + l.length < 900000000) (hk : l.length < k) :
    ∃ l', laws_markByteS.f k l (c : Int) = some (((c + l.length : Nat) : Int), l') ∧ l'.length = l.length ∧ ∀ k', l.length < k' → laws_heldByteS.f k' l' (c : Int) = some ((c + l.length : Nat) : Int) := by
  obtain ⟨l', e, h1, _, h3⟩ := markB_run l.length k 0 c l (by omega) hl hc hk
  refine ⟨l', e, h1, fun k' hk' => ?_⟩
  unfold laws_heldByteS.f
  have := heldB_run l'.length k' 0 c l' (by omega) (by omega) (by omega) (by omega) (fun j _ h => by rw [h1] at h; exact h3 j (by omega) h)
  rw [h1] at this
  exact this
end Go.Proofs.Ytfbggdlidelliaa.Pg

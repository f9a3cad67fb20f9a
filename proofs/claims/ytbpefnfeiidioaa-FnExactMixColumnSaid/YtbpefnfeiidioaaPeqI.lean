/- Slices of ints, copied and compared: what the printed functions of the laws come to (no program in sight). -/
import Derived.Test.YtbpefnfeiidioaaPx2
import Derived.Test.YtbpefnfeiidioaaPx3
namespace Go.Proofs.Ytbpefnfeiidioaa.Pg
open Go.RowKit Go.Proofs.Ytbpefnfeiidioaa.P Go.Proofs.YtbpefnfeiidioaaW.PrintWords Go.Proofs.YtbpefnfeiidioaaW.PrintLast Go.Proofs.YtbpefnfeiidioaaW.PrintMore
theorem suc_ints (i : Nat) (hi : i < 9223372036854775807) : wrap64 ((i : Int) + 1) = ((i + 1 : Nat) : Int) := by unfold wrap64; omega
theorem rd_nats (l : List Int) (i : Nat) (h : i < l.length) : rd l (i : Int) = l[i] := by
  simp [rd, h]
theorem toIntS_run (l : List Int) (hl : l.length ≤ 1000000000000) (d : Nat) : ∀ (k i : Nat) (acc : List Int), acc.length = l.length → i + d = l.length → (∀ j, j < i → acc[j]? = l[j]?) → d < k → laws_toIntS.l0 k l acc i = some l := by
  induction d with
  | zero =>
    intro k i acc ha hi hj hk
    obtain ⟨k, rfl⟩ : ∃ m, k = m + 1 := ⟨k - 1, by omega⟩
    simp only [laws_toIntS.l0]
    rw [if_neg (by omega)]
    congr 1
    apply List.ext_getElem?
    intro j
    rcases Nat.lt_or_ge j i with h | h
    · exact hj j h
    · rw [List.getElem?_eq_none (by omega), List.getElem?_eq_none (by omega)]
  | succ d ih =>
    intro k i acc ha hi hj hk
    obtain ⟨k, rfl⟩ : ∃ m, k = m + 1 := ⟨k - 1, by omega⟩
    simp only [laws_toIntS.l0]
    rw [if_pos (by omega), if_pos (by omega), if_pos (by omega), suc_ints i (by omega), rd_nats l i (by omega), Int.toNat_natCast]
    refine ih k (i + 1) _ (by rw [List.length_set]; exact ha) (by omega) (fun j hj2 => ?_) (by omega)
    rcases Nat.lt_or_ge j i with h | h
    · rw [List.getElem?_set_ne (by omega)]; exact hj j h
    · obtain rfl : j = i := by omega
      rw [List.getElem?_set_self (by omega), List.getElem?_eq_getElem (by omega)]
theorem toIntS_eq (k : Nat) (l : List Int) (hl : l.length ≤ 1000000000000) (hk : l.length < k) : laws_toIntS.f k l = some l := by
  unfold laws_toIntS.f
  rw [if_pos (by omega), if_pos (by omega)]
  exact toIntS_run l hl l.length k 0 _ (by simp) (by omega) (fun j h => absurd h (by omega)) hk
theorem eqIntS_run (a b : List Int) (hl : a.length ≤ 1000000000000) (he : a.length = b.length) (d : Nat) : ∀ (k i : Nat), i + d = a.length → (∀ j, j < i → a[j]? = b[j]?) → d < k → laws_eqIntS.l0 k a b i = some (a == b) := by
  induction d with
  | zero =>
    intro k i hi hj hk
    obtain ⟨k, rfl⟩ : ∃ m, k = m + 1 := ⟨k - 1, by omega⟩
    simp only [laws_eqIntS.l0]
    rw [if_neg (by omega)]
    have : a = b := by
      apply List.ext_getElem?
      intro j
      rcases Nat.lt_or_ge j i with h | h
      · exact hj j h
      · rw [List.getElem?_eq_none (by omega), List.getElem?_eq_none (by omega)]
    rw [this]; simp
  | succ d ih =>
    intro k i hi hj hk
    obtain ⟨k, rfl⟩ : ∃ m, k = m + 1 := ⟨k - 1, by omega⟩
    simp only [laws_eqIntS.l0]
    rw [if_pos (by omega), if_pos (by omega), if_pos (by omega), suc_ints i (by omega), rd_nats a i (by omega), rd_nats b i (by omega)]
    by_cases h : a[i] = b[i]
    · rw [if_pos h]
      refine ih k (i + 1) (by omega) (fun j hj2 => ?_) (by omega)
      rcases Nat.lt_or_ge j i with h2 | h2
      · exact hj j h2
      · obtain rfl : j = i := by omega
        rw [List.getElem?_eq_getElem (by omega), List.getElem?_eq_getElem (by omega), h]
    · rw [if_neg h]
      have : ¬ a = b := by
        rintro rfl
        exact h rfl
      simp [this]
theorem eqIntS_eq (k : Nat) (a b : List Int) (hl : a.length ≤ 1000000000000) (hk : a.length < k) : laws_eqIntS.f k a b = some (a == b) := by
  unfold laws_eqIntS.f
  by_cases he : a.length = b.length
  · rw [if_pos (by omega)]
    exact eqIntS_run a b hl he a.length k 0 (by omega) (fun j h => absurd h (by omega)) hk
  · rw [if_neg (by omega)]
    have : ¬ a = b := fun h => he (by rw [h])
    simp [this]
theorem markI_run (d : Nat) : ∀ (k i c : Nat) (l : List Int), i + d = l.length → l.length < 100000000 → c + d < 900000000 → d < k →
    ∃ l', laws_markIntS.l0 k l (c : Int) (i : Int) = some (((c + d : Nat) : Int), l') ∧ l'.length = l.length ∧ (∀ j, j < i → l'[j]? = l[j]?) ∧ ∀ j, i ≤ j → j < l.length → l'[j]? = some ((c + (j - i) : Nat) : Int) := by
  induction d with
  | zero =>
    intro k i c l hi _ _ hk
    obtain ⟨k, rfl⟩ : ∃ m, k = m + 1 := ⟨k - 1, by omega⟩
    refine ⟨l, ?_, rfl, fun _ _ => rfl, fun j h1 h2 => by omega⟩
    simp only [laws_markIntS.l0]
    rw [if_neg (by omega)]
    rfl
  | succ d ih =>
    intro k i c l hi hl hc hk
    obtain ⟨k, rfl⟩ : ∃ m, k = m + 1 := ⟨k - 1, by omega⟩
    obtain ⟨l', e, h1, h2, h3⟩ := ih k (i + 1) (c + 1) (l.set i (c : Int)) (by rw [List.length_set]; omega) (by rw [List.length_set]; omega) (by omega) (by omega)
    rw [List.length_set] at h1 h3
    refine ⟨l', ?_, h1, fun j hj => ?_, fun j hj1 hj2 => ?_⟩
    · simp only [laws_markIntS.l0]
      rw [if_pos (by omega), if_pos (by omega), Int.toNat_natCast, suc_ints i (by omega), suc_ints c (by omega), e]
      congr 3
      omega
    · rw [h2 j (by omega), List.getElem?_set_ne (by omega)]
    · rcases Nat.eq_or_lt_of_le hj1 with e2 | e2
      · subst e2
        rw [h2 i (by omega), List.getElem?_set_self (by omega)]
        simp
      · rw [h3 j (by omega) hj2]
        congr 2
        omega
theorem heldI_run (d : Nat) : ∀ (k i c : Nat) (l : List Int), i + d = l.length → l.length < 100000000 → c + d < 900000000 → d < k → (∀ j, i ≤ j → j < l.length → l[j]? = some ((c + (j - i) : Nat) : Int)) →
    laws_heldIntS.l0 k l (c : Int) (i : Int) = some ((c + d : Nat) : Int) := by
  induction d with
  | zero =>
    intro k i c l hi _ _ hk _
    obtain ⟨k, rfl⟩ : ∃ m, k = m + 1 := ⟨k - 1, by omega⟩
    simp only [laws_heldIntS.l0]
    rw [if_neg (by omega)]
    rfl
  | succ d ih =>
    intro k i c l hi hl hc hk hj
    obtain ⟨k, rfl⟩ : ∃ m, k = m + 1 := ⟨k - 1, by omega⟩
    have h0 := hj i (Nat.le_refl _) (by omega)
    have hr : rd l (i : Int) = (c : Int) := by
      simp [rd, List.getD_eq_getElem?_getD, h0]
    simp only [laws_heldIntS.l0]
    rw [if_pos (by omega), if_pos (by omega), hr, if_pos rfl, suc_ints i (by omega), suc_ints c (by omega),
      ih k (i + 1) (c + 1) l (by omega) hl (by omega) (by omega) (fun j h1 h2 => by
        rw [hj j (by omega) h2]
        congr 2
        omega)]
    congr 2
    omega
/-- what was marked is held -/
theorem markI_held (k c : Nat) (l : List Int) (hl : l.length < 100000000) (hc : c + l.length < 900000000) (hk : l.length < k) :
    ∃ l', laws_markIntS.f k l (c : Int) = some (((c + l.length : Nat) : Int), l') ∧ l'.length = l.length ∧ ∀ k', l.length < k' → laws_heldIntS.f k' l' (c : Int) = some ((c + l.length : Nat) : Int) := by
  obtain ⟨l', e, h1, _, h3⟩ := markI_run l.length k 0 c l (by omega) hl hc hk
  refine ⟨l', e, h1, fun k' hk' => ?_⟩
  unfold laws_heldIntS.f
  have := heldI_run l'.length k' 0 c l' (by omega) (by omega) (by omega) (by omega) (fun j _ h => by rw [h1] at h; exact h3 j (by omega) h)
  rw [h1] at this
  exact this
end Go.Proofs.Ytbpefnfeiidioaa.Pg

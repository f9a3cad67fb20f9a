/- Lists of texts, marked and held: what is marked is held (no program in sight). -/
import Derived.Test.YtfbggdlidelliaaPx6
namespace Go.Proofs.Ytfbggdlidelliaa.Pg
open Go.RowKit Go.Proofs.Ytfbggdlidelliaa.P Go.Proofs.YtfbggdlidelliaaW.PrintWords Go.Proofs.YtfbggdlidelliaaW.PrintLast Go.Proofs.YtfbggdlidelliaaW.PrintMore
theorem suc_mark (i : Nat) (hi : i < 9223372036854775807) : wrap64 ((i : Int) + 1) = ((i + 1 : Nat) : Int) := by unfold wrap64; omega
theorem markText_run (d : Nat) : ∀ (k n : Nat) (x : ByteArray), n < 10 ^ d → n < 1000000000000 → x.size + d ≤ 1000000 → d < k → ∃ t, laws_markText.l0 k (n : Int) x = some t := by
  induction d with
  | zero =>
    intro k n x hn hb hx hk
    obtain ⟨k, rfl⟩ : ∃ m, k = m + 1 := ⟨k - 1, by omega⟩
    simp only [laws_markText.l0]
    rw [if_neg (by omega), if_pos (by omega)]
    exact ⟨_, rfl⟩
  | succ d ih =>
    intro k n x hn hb hx hk
    obtain ⟨k, rfl⟩ : ∃ m, k = m + 1 := ⟨k - 1, by omega⟩
    simp only [laws_markText.l0]
    by_cases h0 : n = 0
    · rw [if_neg (by omega), if_pos (by omega)]
      exact ⟨_, rfl⟩
    · rw [if_pos (by omega), Option.bind_some]
      have hs : (strOfNums [(wrap64 (48 + (Int.tmod (n : Int) 10))) % 256]).size = 1 := by rw [strOfNums_size]; rfl
      rw [hs, if_pos (by omega)]
      have hd : wrap64 (Int.tdiv (n : Int) 10) = ((n / 10 : Nat) : Int) := by
        rw [Int.tdiv_eq_ediv_of_nonneg (Int.natCast_nonneg _)]; unfold wrap64; omega
      rw [hd]
      exact ih k (n / 10) _ (by rw [Nat.pow_succ] at hn; omega) (by omega) (by rw [ByteArray.size_append, hs]; omega) (by omega)
/-- the text of a mark -/
def markT (n : Nat) : ByteArray := (laws_markText.f 40 (n : Int)).getD ByteArray.empty
theorem markText_eq (k n : Nat) (hn : n < 1000000000) (hk : 40 ≤ k) : laws_markText.f k (n : Int) = some (markT n) := by
  have h : ∃ t, laws_markText.f 40 (n : Int) = some t := by
    unfold laws_markText.f
    by_cases h0 : (n : Int) ≤ 0
    · rw [if_pos h0]; exact ⟨_, rfl⟩
    · rw [if_neg h0]
      exact markText_run 12 40 n _ (by omega) (by omega) (by decide) (by decide)
  obtain ⟨t, ht⟩ := h
  have : markT n = t := by unfold markT; rw [ht]; rfl
  rw [this]
  exact at_rounds (laws_markText.mono _) hk ht
theorem markS_run (d : Nat) : ∀ (k i c : Nat) (l : List ByteArray), i + d = l.length → l.length < 100000000 → c + d < 900000000 → d + 40 < k →
    ∃ l', laws_markStringS.l0 k l (c : Int) (i : Int) = some (((c + d : Nat) : Int), l') ∧ l'.length = l.length ∧ (∀ j, j < i → l'[j]? = l[j]?) ∧ ∀ j, i ≤ j → j < l.length → l'[j]? = some (markT (c + (j - i))) := by
  induction d with
  | zero =>
    intro k i c l hi _ _ hk
    obtain ⟨k, rfl⟩ : ∃ m, k = m + 1 := ⟨k - 1, by omega⟩
    refine ⟨l, ?_, rfl, fun _ _ => rfl, fun j h1 h2 => by omega⟩
    simp only [laws_markStringS.l0]
    rw [if_neg (by omega)]
    rfl
  | succ d ih =>
    intro k i c l hi hl hc hk
    obtain ⟨k, rfl⟩ : ∃ m, k = m + 1 := ⟨k - 1, by omega⟩
    obtain ⟨l', e, h1, h2, h3⟩ := ih k (i + 1) (c + 1) (l.set i (markT c)) (by rw [List.length_set]; omega) (by rw [List.length_set]; omega) (by omega) (by omega)
    rw [List.length_set] at h1 h3
    refine ⟨l', ?_, h1, fun j hj => ?_, fun j hj1 hj2 => ?_⟩
    · simp only [laws_markStringS.l0]
      rw [if_pos (by omega), markText_eq k c (by omega) (by omega), Option.bind_some, if_pos (by omega), Int.toNat_natCast, suc_mark i (by omega), suc_mark c (by omega), e]
      congr 3
      omega
    · rw [h2 j (by omega), List.getElem?_set_ne (by omega)]
    · rcases Nat.eq_or_lt_of_le hj1 with e2 | e2
      · subst e2
        rw [h2 i (by omega), List.getElem?_set_self (by omega)]
        simp
      · rw [h3 j (by omega) hj2]
        congr 2
        omega
theorem heldS_run (d : Nat) : ∀ (k i c : Nat) (l : List ByteArray), i + d = l.length → l.length < 100000000 → c + d < 900000000 → d + 40 < k → (∀ j, i ≤ j → j < l.length → l[j]? = some (markT (c + (j - i)))) →
    laws_heldStringS.l0 k l (c : Int) (i : Int) = some ((c + d : Nat) : Int) := by
  induction d with
  | zero =>
    intro k i c l hi _ _ hk _
    obtain ⟨k, rfl⟩ : ∃ m, k = m + 1 := ⟨k - 1, by omega⟩
    simp only [laws_heldStringS.l0]
    rw [if_neg (by omega)]
    rfl
  | succ d ih =>
    intro k i c l hi hl hc hk hj
    obtain ⟨k, rfl⟩ : ∃ m, k = m + 1 := ⟨k - 1, by omega⟩
    have h0 := hj i (Nat.le_refl _) (by omega)
    have hr : rdOf ByteArray.empty l (i : Int) = markT c := by
      simp [rdOf, List.getD_eq_getElem?_getD, h0]
    simp only [laws_heldStringS.l0]
    rw [if_pos (by omega), if_pos (by omega), markText_eq k c (by omega) (by omega), Option.bind_some, hr, if_pos rfl, suc_mark i (by omega), suc_mark c (by omega),
      ih k (i + 1) (c + 1) l (by omega) hl (by omega) (by omega) (fun j h1 h2 => by
        rw [hj j (by omega) h2]
        congr 2
        omega)]
    congr 2
    omega
/-- what was marked is held -/
theorem markS_held (k c : Nat) (l : List ByteArray) (hl : l.length < 100000000) (hc : c + l.length < 900000000) (hk : l.length + 40 < k) :
    ∃ l', laws_markStringS.f k l (c : Int) = some (((c + l.length : Nat) : Int), l') ∧ l'.length = l.length ∧ ∀ k', l.length + 40 < k' → laws_heldStringS.f k' l' (c : Int) = some ((c + l.length : Nat) : Int) := by
  obtain ⟨l', e, h1, _, h3⟩ := markS_run l.length k 0 c l (by omega) hl hc hk
  refine ⟨l', e, h1, fun k' hk' => ?_⟩
  unfold laws_heldStringS.f
  have := heldS_run l'.length k' 0 c l' (by omega) (by omega) (by omega) (by omega) (fun j _ h => by rw [h1] at h; exact h3 j (by omega) h)
  rw [h1] at this
  exact this
theorem eqS_run (d : Nat) : ∀ (k i : Nat) (l : List ByteArray), i + d = l.length → l.length < 100000000 → d < k → laws_eqStringS.l0 k l l (i : Int) = some true := by
  induction d with
  | zero =>
    intro k i l hi _ hk
    obtain ⟨k, rfl⟩ : ∃ m, k = m + 1 := ⟨k - 1, by omega⟩
    simp only [laws_eqStringS.l0]
    rw [if_neg (by omega)]
  | succ d ih =>
    intro k i l hi hl hk
    obtain ⟨k, rfl⟩ : ∃ m, k = m + 1 := ⟨k - 1, by omega⟩
    simp only [laws_eqStringS.l0]
    rw [if_pos (by omega), if_pos (by omega), if_pos (by omega), if_pos trivial, suc_mark i (by omega)]
    exact ih k (i + 1) l (by omega) hl (by omega)
theorem eqS_refl (k : Nat) (l : List ByteArray) (hl : l.length < 100000000) (hk : l.length < k) : laws_eqStringS.f k l l = some true := by
  unfold laws_eqStringS.f
  rw [if_pos rfl]
  exact eqS_run l.length k 0 l (by omega) hl hk
end Go.Proofs.Ytfbggdlidelliaa.Pg

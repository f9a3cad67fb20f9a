/- For all texts the program tells a name just where the reference does. No condition. -/
import Derived.Test.YtiapfnpnfekknaaPx2
namespace Go.Proofs.Ytiapfnpnfekknaa.Pure
open Go.RowKit Go.Proofs.Ytiapfnpnfekknaa.P Go.Proofs.YtiapfnpnfekknaaW.PrintWords Go.Proofs.YtiapfnpnfekknaaW.PrintLast Go.Proofs.YtiapfnpnfekknaaW.PrintMore
def letter (c : Int) : Prop := (97 ≤ c ∧ c ≤ 122) ∨ (65 ≤ c ∧ c ≤ 90) ∨ c = 95
instance (c : Int) : Decidable (letter c) := by unfold letter; infer_instance
def okc (c i : Int) : Prop := letter c ∨ (¬ i = 0 ∧ 48 ≤ c ∧ c ≤ 57)
instance (c i : Int) : Decidable (okc c i) := by unfold okc; infer_instance
def allok (s : ByteArray) : Nat → Int → Bool
  | 0, _ => true
  | d + 1, i => decide (okc (bt s i) i) && allok s d (i + 1)
theorem letter_eq (c : Int) : spec_l00Letter.f c = some (decide (letter c)) := by
  unfold spec_l00Letter.f letter
  by_cases h1 : 97 ≤ c <;> by_cases h2 : c ≤ 122 <;> by_cases h3 : 65 ≤ c <;> by_cases h4 : c ≤ 90 <;> by_cases h5 : c = 95 <;> simp [h1, h2, h3, h4, h5]
theorem digit_eq (c : Int) : spec_l00Digit.f c = some (decide (48 ≤ c ∧ c ≤ 57)) := by
  unfold spec_l00Digit.f
  by_cases h1 : 48 ≤ c <;> simp [h1]
theorem wrap_s {i : Int} {n : Nat} (h0 : 0 ≤ i) (h : i < (n : Int)) (hn : n ≤ 140737488351232) : wrap64 (i + 1) = i + 1 := by
  unfold wrap64
  omega
set_option maxHeartbeats 4000000 in
theorem impl_step (s : ByteArray) (k : Nat) (i : Int) (h0 : 0 ≤ i) (h : i < (s.size : Int)) (hs : s.size ≤ 140737488351232) :
    impl_NameOK.l0 (k + 1) s (s.size : Int) i = if okc (bt s i) i then impl_NameOK.l0 k s (s.size : Int) (i + 1) else some false := by
  simp only [impl_NameOK.l0]
  rw [if_pos h, if_pos h0, if_pos h, wrap_s h0 h hs]
  generalize bt s i = c
  generalize impl_NameOK.l0 k s (s.size : Int) (i + 1) = r
  unfold okc letter
  by_cases h1 : 97 ≤ c <;> by_cases h2 : c ≤ 122 <;> by_cases h3 : 65 ≤ c <;> by_cases h4 : c ≤ 90 <;> by_cases h5 : c = 95 <;> by_cases h7 : 48 ≤ c <;> by_cases h8 : c ≤ 57
  all_goals first
    | (exfalso; omega)
    | (by_cases h6 : i = 0 <;> simp [h1, h2, h3, h4, h5, h6, h7, h8, Int.not_lt.2, Int.not_le.1])
    | (by_cases h6 : i = 0 <;> simp [h1, h2, h3, h4, h5, h6, h7, h8] <;> (repeat' split) <;> first | rfl | (exfalso; omega))
theorem impl_run (s : ByteArray) (hs : s.size ≤ 140737488351232) (d : Nat) : ∀ (k : Nat) (i : Int), 0 ≤ i → (s.size : Int) - i = d ∧ d < k →
    impl_NameOK.l0 k s (s.size : Int) i = (impl_within.f (s.size : Int) 1 40).bind fun t => some (allok s d i && t) := by
  induction d with
  | zero =>
    intro k i h0 hd
    obtain ⟨k, rfl⟩ : ∃ m, k = m + 1 := ⟨k - 1, by omega⟩
    simp only [impl_NameOK.l0]
    rw [if_neg (by omega)]
    simp [allok]
  | succ d ih =>
    intro k i h0 hd
    obtain ⟨k, rfl⟩ : ∃ m, k = m + 1 := ⟨k - 1, by omega⟩
    rw [impl_step s k i h0 (by omega) hs, ih k (i + 1) (by omega) (by omega)]
    have hw : ∃ b, impl_within.f (s.size : Int) 1 40 = some b := by unfold impl_within.f; split <;> exact ⟨_, rfl⟩
    obtain ⟨b, hb⟩ := hw
    rw [hb]
    by_cases ho : okc (bt s i) i
    · rw [if_pos ho]; simp [allok, ho]
    · rw [if_neg ho]; simp [allok, ho]
theorem spec_run (s : ByteArray) (hs : s.size ≤ 140737488351232) (d : Nat) : ∀ (k : Nat) (i : Int), 1 ≤ i → (s.size : Int) - i = d → d < k → spec_l00Word.l0 k s i = some (allok s d i) := by
  induction d with
  | zero =>
    intro k i h0 hd hk
    obtain ⟨k, rfl⟩ : ∃ m, k = m + 1 := ⟨k - 1, by omega⟩
    simp only [spec_l00Word.l0]
    rw [if_neg (by omega)]
    rfl
  | succ d ih =>
    intro k i h0 hd hk
    obtain ⟨k, rfl⟩ : ∃ m, k = m + 1 := ⟨k - 1, by omega⟩
    simp only [spec_l00Word.l0]
    rw [if_pos (by omega), if_pos (by omega), letter_eq, wrap_s (by omega) (show i < (s.size : Int) by omega) hs, ih k (i + 1) (by omega) (by omega) (by omega), digit_eq]
    simp only [Option.bind_some, allok]
    have h0' : ¬ i = 0 := by omega
    by_cases hl : letter (bt s i)
    · simp [hl, okc]
    · by_cases hd : 48 ≤ bt s i ∧ bt s i ≤ 57
      · simp [hl, okc, hd, h0']
      · simp [hl, okc, hd]

theorem FnExactNameOK : laws_FnExactNameOK.Pure := by
  intro s hs
  refine ⟨s.size + 5, ?_⟩
  unfold laws_FnExactNameOK.f spec_NameOK.f impl_NameOK.f spec_l00Word.f
  by_cases hb : (s.size : Int) > 1048576
  · rw [if_pos hb]
  rw [if_neg hb, impl_run s hs s.size (s.size + 5) 0 (by omega) (by omega)]
  have hw : impl_within.f (s.size : Int) 1 40 = some (decide (1 ≤ s.size ∧ s.size ≤ 40)) := by
    unfold impl_within.f
    by_cases h : 1 ≤ s.size
    · rw [if_pos (by omega)]; simp only [h, true_and]; congr 1; apply decide_eq_decide.2; omega
    · rw [if_neg (by omega)]; simp [h]
  rw [hw]
  by_cases h1 : (s.size : Int) < 1
  · have : ¬ (1 ≤ s.size ∧ s.size ≤ 40) := by omega
    rw [if_pos h1]
    simp [spec_l00Word.j0, this]
  by_cases h2 : (s.size : Int) > 40
  · have : ¬ (1 ≤ s.size ∧ s.size ≤ 40) := by omega
    rw [if_neg h1, if_pos h2]
    simp [spec_l00Word.j0, this]
  have hin : (1 ≤ s.size ∧ s.size ≤ 40) := by omega
  rw [if_neg h1, if_neg h2, if_pos (by omega), letter_eq, Option.bind_some]
  obtain ⟨n, hn⟩ : ∃ n, s.size = n + 1 := ⟨s.size - 1, by omega⟩
  have hj : spec_l00Word.j0 (s.size + 5) s (!decide (letter (bt s 0))) = some (decide (letter (bt s 0)) && allok s n 1) := by
    show spec_l00Word.j0 ((s.size + 4) + 1) s _ = _
    simp only [spec_l00Word.j0]
    by_cases hl : letter (bt s 0)
    · simp only [hl, decide_true, Bool.not_true, Bool.false_eq_true, if_false, Bool.true_and]
      exact spec_run s hs n (s.size + 4) 1 (by omega) (by omega) (by omega)
    · simp [hl]
  have ha : allok s s.size 0 = (decide (letter (bt s 0)) && allok s n 1) := by
    rw [hn]
    show (decide (okc (bt s 0) 0) && allok s n (0 + 1)) = _
    have : decide (okc (bt s 0) 0) = decide (letter (bt s 0)) := by
      apply decide_eq_decide.2
      unfold okc
      simp
    rw [this]
    rfl
  rw [hj, ha]
  simp [hin]

end Go.Proofs.Ytiapfnpnfekknaa.Pure

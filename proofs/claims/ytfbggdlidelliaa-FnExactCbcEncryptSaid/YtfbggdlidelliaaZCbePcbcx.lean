/- The program's CbcEncrypt and the reference's tell the same, in plain lists. -/
import Derived.Test.YtfbggdlidelliaaZCbePe7
import Derived.Test.YtfbggdlidelliaaZCbePe12
import Derived.Test.YtfbggdlidelliaaZCbePkey
namespace Go.Proofs.Ytfbggdlidelliaa.Pg
open Go.RowKit Go.Proofs.Ytfbggdlidelliaa.P Go.Proofs.YtfbggdlidelliaaW.PrintWords Go.Proofs.YtfbggdlidelliaaW.PrintLast Go.Proofs.YtfbggdlidelliaaW.PrintMore
def cbcxL (a0 a1 : ByteArray) (l : List Int) : List Int × Int := if 65536 < a0.size ∨ 65536 < a1.size ∨ 65520 < l.length then ([], 2) else if (a0.size = 16 ∨ a0.size = 32) ∧ a1.size = 16 then (Md.cbcL (Aes.keysL (bytesL a0)) (bytesL a1) (padL l), 0) else ([], 1)
theorem cbcxL_len (a0 a1 : ByteArray) (l : List Int) : (cbcxL a0 a1 l).1.length ≤ 65536 := by
  unfold cbcxL
  split
  · simp
  · split
    · simp only [Md.cbcL, Md.cbcTo_length]
      have := padL_size l
      omega
    · simp
theorem spec_cbcx (k : Nat) (a0 a1 : ByteArray) (l : List Int) (ol : Aes.ok l) (hk : 200000 ≤ k) : spec_CbcEncrypt.f k a0 a1 l = some (cbcxL a0 a1 l) := by
  obtain ⟨k, rfl⟩ : ∃ m, k = m + 1 := ⟨k - 1, by omega⟩
  unfold spec_CbcEncrypt.f cbcxL
  by_cases h0 : 65536 < a0.size
  · rw [if_pos (by omega), if_pos (.inl h0)]
    simp only [spec_CbcEncrypt.j0, if_true]
  rw [if_neg (by omega)]
  by_cases h1 : 65536 < a1.size
  · rw [decide_eq_true (by omega), if_pos (.inr (.inl h1))]
    simp only [spec_CbcEncrypt.j0, if_true]
  rw [decide_eq_false (by omega)]
  simp only [spec_CbcEncrypt.j0, Bool.false_eq_true, if_false]
  by_cases h2 : 65520 < l.length
  · rw [if_pos (by omega), if_pos (.inr (.inr h2))]
  rw [if_neg (by omega), if_neg (show ¬ (65536 < a0.size ∨ 65536 < a1.size ∨ 65520 < l.length) by omega), key_dec, Option.bind_some]
  by_cases h3 : a0.size = 16 ∨ a0.size = 32
  · rw [decide_eq_true h3, if_pos rfl]
    by_cases h4 : a1.size = 16
    · rw [if_pos (by omega), if_pos ⟨h3, h4⟩]
      unfold spec_l02CbcEncrypt.f
      rw [if_pos ⟨u8b_of ol, h3, h4, by omega⟩, Option.bind_some]
    · rw [if_neg (by omega), if_neg (fun h => h4 h.2)]
  · rw [decide_eq_false h3, if_neg (by decide), if_neg (fun h => h3 h.1)]
theorem impl_cbcx (a0 a1 : ByteArray) (l : List Int) (ol : Aes.ok l) : impl_CbcEncrypt.f a0 a1 l = some (cbcxL a0 a1 l) := by
  unfold impl_CbcEncrypt.f cbcxL
  rw [if_pos (u8b_of ol)]
  split
  · rfl
  · split <;> rfl
end Go.Proofs.Ytfbggdlidelliaa.Pg

/- The program's CbcDecrypt and the reference's tell the same, in plain lists. -/
import Derived.Test.YtfbggdlidelliaaZCdPm15
import Derived.Test.YtfbggdlidelliaaZCdPm18
import Derived.Test.YtfbggdlidelliaaZCdPdec
namespace Go.Proofs.Ytfbggdlidelliaa.Pg
open Go.RowKit Go.Proofs.Ytfbggdlidelliaa.P Go.Proofs.YtfbggdlidelliaaW.PrintWords Go.Proofs.YtfbggdlidelliaaW.PrintLast Go.Proofs.YtfbggdlidelliaaW.PrintMore
def uncxL (a0 a1 : ByteArray) (l : List Int) : List Int × Int :=
  if 65536 < a0.size ∨ 65536 < a1.size ∨ 65536 < l.length then ([], 2)
  else if (a0.size = 16 ∨ a0.size = 32) ∧ a1.size = 16 then
    (if l.length % 16 ≠ 0 then ([], 3)
     else match unpadL (Md.uncL (Aes.keysL (bytesL a0)) (bytesL a1) l) with
       | some r => (r, 0)
       | none => ([], 3))
  else ([], 1)
set_option linter.unusedVariables false
theorem unpadL_len {l r : List Int} (h : unpadL l = some r) : r.length ≤ l.length := by
  unfold unpadL at h
  split at h
  · cases h
  · split at h
    · cases h
    · split at h
      · injection h with h
        rw [← h, List.length_take]; omega
      · cases h
theorem uncxL_len (a0 a1 : ByteArray) (l : List Int) : (uncxL a0 a1 l).1.length ≤ 65536 := by
  unfold uncxL
  split
  · simp
  · split
    · split
      · simp
      · split
        · rename_i r hr
          have h1 := unpadL_len hr
          simp only [Md.uncL, Md.uncTo_length] at h1
          show r.length ≤ 65536
          omega
        · simp
    · simp
theorem impl_uncx (a0 a1 : ByteArray) (l : List Int) (ol : Aes.ok l) : impl_CbcDecrypt.f a0 a1 l = some (uncxL a0 a1 l) := by
  unfold impl_CbcDecrypt.f uncxL
  rw [if_pos (u8b_of ol)]
  by_cases h1 : 65536 < a0.size ∨ 65536 < a1.size ∨ 65536 < l.length
  · rw [if_pos h1, if_pos h1]
  rw [if_neg h1, if_neg h1]
  by_cases h2 : (a0.size = 16 ∨ a0.size = 32) ∧ a1.size = 16
  · rw [if_pos h2, if_pos h2]
    by_cases h3 : l.length % 16 ≠ 0
    · rw [if_pos h3, if_pos h3]
    rw [if_neg h3, if_neg h3]
    cases unpadL (Md.uncL (Aes.keysL (bytesL a0)) (bytesL a1) l) <;> rfl
  · rw [if_neg h2, if_neg h2]
theorem spec_uncx (k : Nat) (a0 a1 : ByteArray) (l : List Int) (ol : Aes.ok l) (hk : 200000 ≤ k) : spec_CbcDecrypt.f a0 a1 l = some (uncxL a0 a1 l) := by
  unfold spec_CbcDecrypt.f uncxL
  rw [if_pos (u8b_of ol)]
  by_cases h1 : 65536 < a0.size ∨ 65536 < a1.size ∨ 65536 < l.length
  · rw [if_pos h1, if_pos h1]
  rw [if_neg h1, if_neg h1]
  by_cases h2 : (a0.size = 16 ∨ a0.size = 32) ∧ a1.size = 16
  · rw [if_pos h2, if_pos h2]
    by_cases h3 : l.length % 16 ≠ 0
    · rw [if_pos (.inr h3), if_pos h3]
    rw [if_neg h3]
    by_cases h4 : l.length = 0
    · rw [if_pos (.inl h4)]
      obtain rfl : l = [] := List.eq_nil_of_length_eq_zero h4
      rfl
    rw [if_neg (show ¬ (l.length = 0 ∨ l.length % 16 ≠ 0) from fun h => h.elim h4 h3), if_pos]
    · cases unpadL (Md.uncL (Aes.keysL (bytesL a0)) (bytesL a1) l) <;> rfl
    · intro i hi
      have hb : (Md.blk l i).length = 16 := Md.blk_length _ _ (by omega)
      have := dec_in 1300 (Nat.le_refl _) a0 (strOfNums (Md.blk l i)) h2.1 (by rw [str_size]; exact hb)
      rw [bytesL_str _ (Md.blk_ok ol i)] at this
      exact this
  · rw [if_neg h2, if_neg h2]
end Go.Proofs.Ytfbggdlidelliaa.Pg

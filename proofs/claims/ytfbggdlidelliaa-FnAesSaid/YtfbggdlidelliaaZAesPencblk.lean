/- The reference's EncryptBlock is the program's, in plain lists. -/
import Derived.Test.YtfbggdlidelliaaZAesPx6
import Derived.Test.YtfbggdlidelliaaZAesPx10
import Derived.Test.YtfbggdlidelliaaZAesPenc
namespace Go.Proofs.Ytfbggdlidelliaa.Pg
open Go.RowKit Go.Proofs.Ytfbggdlidelliaa.P Go.Proofs.YtfbggdlidelliaaW.PrintWords Go.Proofs.YtfbggdlidelliaaW.PrintLast
theorem spec_Encrypt_blk (k : Nat) (hk : 2000 ≤ k) (s b : ByteArray) : spec_EncryptBlock.f k s b = impl_EncryptBlock.f s b := by
  obtain ⟨k, rfl⟩ : ∃ m, k = m + 2 := ⟨k - 2, by omega⟩
  have key : spec_l01Key.f s = some (decide (s.size = 16 ∨ s.size = 32)) := by
    unfold spec_l01Key.f
    by_cases h : s.size = 16
    · rw [if_pos (by omega), decide_eq_true (.inl h)]
    · rw [if_neg (by omega)]
      congr 1
      by_cases h2 : s.size = 32
      · rw [decide_eq_true (.inr h2), h2]; rfl
      · rw [decide_eq_false (by omega), beq_eq_false_iff_ne]; omega
  unfold spec_EncryptBlock.f impl_EncryptBlock.f
  by_cases h0 : 65536 < s.size
  · rw [if_pos (by omega), if_pos (.inl h0)]
    simp only [spec_EncryptBlock.j0, if_true]
  by_cases h1 : 65536 < b.size
  · rw [if_neg (by omega), decide_eq_true (by omega), if_pos (.inr h1)]
    simp only [spec_EncryptBlock.j0, if_true]
  rw [if_neg (by omega), decide_eq_false (by omega), if_neg (by omega)]
  show spec_EncryptBlock.j0 (k + 1 + 1) s b false = _
  simp only [spec_EncryptBlock.j0, Bool.false_eq_true, if_false]
  rw [key, Option.bind_some]
  by_cases h2 : s.size = 16 ∨ s.size = 32
  · rw [decide_eq_true h2, if_pos rfl]
    by_cases h3 : b.size = 16
    · have e : ((b.size : Int) != 16) = false := by rw [h3]; rfl
      rw [e, if_pos ⟨h2, h3⟩]
      show spec_EncryptBlock.j1 (k + 1) s b false = _
      simp only [spec_EncryptBlock.j1, Bool.false_eq_true, if_false]
      rw [table_at k (by omega), Option.bind_some, spec_keys s h2, Option.bind_some, enc_in k (by omega) s b h2 h3, Option.bind_some]
    · have e : ((b.size : Int) != 16) = true := by rw [bne_iff_ne]; omega
      rw [e, if_neg (fun x => h3 x.2)]
      simp only [spec_EncryptBlock.j1, if_true]
  · rw [decide_eq_false h2, if_neg (by decide), if_neg (fun x => h2 x.1)]
    simp only [spec_EncryptBlock.j1, if_true]
end Go.Proofs.Ytfbggdlidelliaa.Pg

/- The program's Cmac and the reference's tell the same, in plain lists. -/
import Derived.Test.YtfbggdlidelliaaZCmbPm7
import Derived.Test.YtfbggdlidelliaaZCmbPm12
import Derived.Test.YtfbggdlidelliaaZCmbPkey
namespace Go.Proofs.Ytfbggdlidelliaa.Pg
open Go.RowKit Go.Proofs.Ytfbggdlidelliaa.P Go.Proofs.YtfbggdlidelliaaW.PrintWords Go.Proofs.YtfbggdlidelliaaW.PrintLast Go.Proofs.YtfbggdlidelliaaW.PrintMore
def cmxB (a0 : ByteArray) (l : List Int) : ByteArray × Int := if 65536 < a0.size ∨ 65536 < l.length then (⟨#[]⟩, 2) else if a0.size = 16 ∨ a0.size = 32 then (strOfNums (Md.cmacL (Aes.keysL (bytesL a0)) l), 0) else (⟨#[]⟩, 1)
theorem spec_cmx (a0 : ByteArray) (l : List Int) (ol : Aes.ok l) : spec_Cmac.f a0 l = some (cmxB a0 l) := by
  unfold spec_Cmac.f cmxB
  by_cases h0 : 65536 < a0.size
  · rw [if_pos (by omega), if_pos (.inl h0)]
  rw [if_neg (by omega)]
  by_cases h2 : 65536 < l.length
  · rw [if_pos (by omega), if_pos (.inr h2)]
  rw [if_neg (by omega), if_neg (show ¬ (65536 < a0.size ∨ 65536 < l.length) by omega), key_dec, Option.bind_some]
  by_cases h3 : a0.size = 16 ∨ a0.size = 32
  · rw [decide_eq_true h3, if_pos rfl, if_pos h3]
    unfold spec_l02Cmac.f
    rw [if_pos ⟨u8b_of ol, h3, by omega⟩, Option.bind_some]
  · rw [decide_eq_false h3, if_neg (by decide), if_neg h3]
theorem impl_cmx (a0 : ByteArray) (l : List Int) (ol : Aes.ok l) : impl_Cmac.f a0 l = some (cmxB a0 l) := by
  unfold impl_Cmac.f cmxB
  rw [if_pos (u8b_of ol)]
  split
  · rfl
  · split <;> rfl
theorem cmx_good (a0 : ByteArray) (l : List Int) (h0 : a0.size = 16) (hl : l.length ≤ 65536) : cmxB a0 l = (strOfNums (Md.cmacL (Aes.keysL (bytesL a0)) l), 0) := by
  unfold cmxB
  rw [if_neg (show ¬ (65536 < a0.size ∨ 65536 < l.length) by omega), if_pos (.inl h0)]
end Go.Proofs.Ytfbggdlidelliaa.Pg

/- The program's keys of a seal are the reference's: in plain lists. -/
import Derived.Test.YtlfpogbonmddmaaPx4
import Derived.Test.YtlfpogbonmddmaaPx2
import Derived.Test.YtlfpogbonmddmaaPhk
namespace Go.Proofs.Ytlfpogbonmddmaa.Pg
open Go.RowKit Go.Proofs.Ytlfpogbonmddmaa.P Go.Proofs.YtlfpogbonmddmaaW.PrintWords Go.Proofs.YtlfpogbonmddmaaW.PrintLast Go.Proofs.YtlfpogbonmddmaaW.PrintMore
theorem sealKeys_eq (k : Nat) (s : ByteArray) (h : s.size ≤ 1048576) : impl_sealKeys.f (k + 264) s = some (strOfNums ((keysK s).take 32), strOfNums ((keysK s).drop 32)) := by
  have c1 : (⟨#[115, 101, 97, 108]⟩ : ByteArray) = strOfNums [115, 101, 97, 108] := rfl
  have c2 : (⟨#[107, 101, 121, 115]⟩ : ByteArray) = strOfNums [107, 101, 121, 115] := rfl
  have hb : (bytesL s).length ≤ 1048576 := by rw [bytesL_length]; exact h
  have e1 := hmac_eq (k + 263) [115, 101, 97, 108] (bytesL s) (fun x hx => by simp only [List.mem_cons, List.not_mem_nil, or_false] at hx; omega) (by decide) (u8ok_bytesL s) (by omega)
  have e2 := expand_eq k (Sha.hmacL [115, 101, 97, 108] (bytesL s)) [107, 101, 121, 115] 64 (u8ok_hmacL _ _) (by rw [hmacL_length]; decide) (fun x hx => by simp only [List.mem_cons, List.not_mem_nil, or_false] at hx; omega) (by decide) (by decide)
  rw [str_bytesL] at e1
  have hz : (strOfNums (keysK s)).size = 64 := by rw [size_strOfNums, keysK_length]
  unfold impl_sealKeys.f
  rw [c1, c2, e1, Option.bind_some]
  show (impl_expand.f (k + 264) (strOfNums (Sha.hmacL [115, 101, 97, 108] (bytesL s))) (strOfNums [107, 101, 121, 115]) ((64 : Nat) : Int)).bind _ = _
  rw [e2, Option.bind_some]
  show (if (0 : Int) ≤ 32 then (if 32 ≤ ((strOfNums (keysK s)).size : Int) then some ((strOfNums (keysK s)).extract 0 32, (strOfNums (keysK s)).extract 32 (strOfNums (keysK s)).size) else none) else none) = _
  rw [if_pos (by decide), if_pos (by rw [hz]; decide), hz, str_extract, str_extract2, List.take_of_length_le (l := keysK s) (i := 64) (by rw [keysK_length]; decide)]
theorem spec_sealKeys_eq (s : ByteArray) (h : s.size ≤ 1048576) : spec_l04Keys.f s = some (strOfNums ((keysK s).take 32), strOfNums ((keysK s).drop 32)) := by
  unfold spec_l04Keys.f
  rw [if_pos h]
end Go.Proofs.Ytlfpogbonmddmaa.Pg

/- Words of this session: twice a block but for what was lost; a row of bytes as a text. -/
import Derived.Test.YtfbggdlidelliaaZCmbRg
namespace Go.Proofs.Ytfbggdlidelliaa.P
open Go.RowKit Go.Proofs.YtfbggdlidelliaaW.PrintWords Go.Proofs.YtfbggdlidelliaaW.PrintLast Go.Proofs.YtfbggdlidelliaaW.PrintMore
set_option linter.unusedVariables false
def dbl0 (b : List Int) : List Int := Aes.st fun i => if i < 15 then Go.bits .or .u8 (b.getD i 0 * 2 % 256) (b.getD (i + 1) 0 / 128) else b.getD i 0 * 2 % 256
theorem dbl0_length (b : List Int) : (dbl0 b).length = 16 := Aes.st_length _
theorem dbl0_at (b : List Int) (i : Nat) (hi : i < 16) : (dbl0 b).getD i 0 = if i < 15 then Go.bits .or .u8 (b.getD i 0 * 2 % 256) (b.getD (i + 1) 0 / 128) else b.getD i 0 * 2 % 256 := Aes.st_at _ i hi
theorem dbl0_last (b : List Int) (hb : Aes.ok b) : (dbl0 b).set 15 (Go.bits .xor .u8 (b.getD 15 0 * 2 % 256) (b.getD 0 0 / 128 * 135 % 256)) = Md.dbl b := by
  have h0 := Aes.at_by hb 0
  refine Aes.st_is _ _ (by rw [List.length_set, dbl0_length]) fun j hj => ?_
  rw [List.getD_eq_getElem?_getD, List.getElem?_set]
  by_cases e : 15 = j
  · subst e
    rw [if_pos rfl, if_pos (by rw [dbl0_length]; exact hj)]
    unfold Md.dblAt
    rw [if_neg (by decide)]
    have e2 : b.getD 0 0 / 128 * 135 % 256 = b.getD 0 0 / 128 * 135 := by unfold Aes.by_ at h0; omega
    rw [e2]; rfl
  · rw [if_neg e, ← List.getD_eq_getElem?_getD, dbl0_at b j hj, if_pos (by omega)]
    unfold Md.dblAt
    rw [if_pos (by omega)]
theorem rowB_str {W : World} {B g n c : Nat} {l : List Int} (h : rowB W B (.slice (some ⟨g, 0, none⟩) n c) l) (hn : n = l.length) (hm : l.length ≤ 140737488355328) : Kd.C (Kd.int .u8) W (some ⟨g, 0, none⟩) l.length l := by
  subst hn
  exact rowB_C h hm
end Go.Proofs.Ytfbggdlidelliaa.P

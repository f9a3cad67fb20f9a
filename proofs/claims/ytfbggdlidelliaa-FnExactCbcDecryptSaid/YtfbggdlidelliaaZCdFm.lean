/- Words of this session: columns of a block changed one by one; mixing by doubling alone is mixing (no program in sight). -/
import Derived.Test.YtfbggdlidelliaaZCdHp
import Derived.Test.YtfbggdlidelliaaZCdAes
namespace Go.Proofs.Ytfbggdlidelliaa.P
open Go.RowKit Go.Proofs.YtfbggdlidelliaaW.PrintWords Go.Proofs.YtfbggdlidelliaaW.PrintLast Go.Proofs.YtfbggdlidelliaaW.PrintMore
set_option linter.unusedVariables false
set_option linter.unusedSimpArgs false
def colsF (F : List Int → List Int) (b : List Int) : List Int := F (b.take 4) ++ F ((b.drop 4).take 4) ++ F ((b.drop 8).take 4) ++ F ((b.drop 12).take 4)
theorem colsF_length (F : List Int → List Int) (hF : ∀ c, c.length = 4 → (F c).length = 4) (b : List Int) (hb : b.length = 16) : (colsF F b).length = 16 := by
  unfold colsF
  rw [List.length_append, List.length_append, List.length_append, hF _ (by simp; omega), hF _ (by simp; omega), hF _ (by simp; omega), hF _ (by simp; omega)]
theorem colsF_part (F : List Int → List Int) (hF : ∀ c, c.length = 4 → (F c).length = 4) (b : List Int) (hb : b.length = 16) (k j : Nat) (hk : k < 4) (hj : j < 4) : (colsF F b).getD (4 * k + j) 0 = (F ((b.drop (4 * k)).take 4)).getD j 0 := by
  have h0 := hF (b.take 4) (by simp; omega)
  have h1 := hF ((b.drop 4).take 4) (by simp; omega)
  have h2 := hF ((b.drop 8).take 4) (by simp; omega)
  unfold colsF
  simp only [List.getD_eq_getElem?_getD]
  match k, hk with
  | 0, _ => rw [List.getElem?_append_left (by simp; omega), List.getElem?_append_left (by simp; omega), List.getElem?_append_left (by omega)]; simp
  | 1, _ => rw [List.getElem?_append_left (by simp; omega), List.getElem?_append_left (by simp; omega), List.getElem?_append_right (by omega), h0]; congr 3; omega
  | 2, _ => rw [List.getElem?_append_left (by simp; omega), List.getElem?_append_right (by simp; omega), List.length_append, h0, h1]; congr 3; omega
  | 3, _ => rw [List.getElem?_append_right (by simp; omega), List.length_append, List.length_append, h0, h1, h2]; congr 3; omega
theorem bt_dataF (s : ByteArray) (j : Nat) (hj : j < s.size) : ((s.data.toList.getD j 0).toNat : Int) = bt s (j : Int) := by
  have h2 : j < s.data.toList.length := by simpa using hj
  simp [bt, hj, List.getD_eq_getElem?_getD]
  rfl
theorem bytesL_getD (s : ByteArray) (j : Nat) (hj : j < s.size) : (bytesL s).getD j 0 = bt s (j : Int) := by
  rw [← bt_dataF s j hj]
  have h2 : j < s.data.toList.length := by simpa using hj
  simp [bytesL, List.getD_eq_getElem?_getD, h2, hj]
end Go.Proofs.Ytfbggdlidelliaa.P

/- The reference's encryption of a block is that of plain lists (no program in sight). -/
import Derived.Test.YtfbggdlidelliaaZDBPx6
import Derived.Test.YtfbggdlidelliaaZDBPx0
import Derived.Test.YtfbggdlidelliaaZDBPx7
import Derived.Test.YtfbggdlidelliaaZDBPx8
import Derived.Test.YtfbggdlidelliaaZDBPtab
namespace Go.Proofs.Ytfbggdlidelliaa.Pg
open Go.RowKit Go.Proofs.Ytfbggdlidelliaa.P Go.Proofs.YtfbggdlidelliaaW.PrintWords Go.Proofs.YtfbggdlidelliaaW.PrintLast
set_option linter.unusedVariables false
theorem suc64 (i : Nat) (h : i < 1000000) : wrap64 ((i : Int) + 1) = ((i + 1 : Nat) : Int) := by unfold wrap64; omega
theorem w64b {x : Int} (h : Aes.by_ x) : wrap64 x = x := by unfold Aes.by_ at h; unfold wrap64; omega
theorem rdn (l : List Int) (i : Nat) : rd l (i : Int) = l.getD i 0 := rfl
theorem take_one (l : List Int) (i : Nat) (h : i < l.length) : l.take i ++ [l.getD i 0] = l.take (i + 1) := by
  rw [List.take_add_one, List.getElem?_eq_getElem h, List.getD_eq_getElem?_getD, List.getElem?_eq_getElem h]
  rfl
theorem ok_bytesL (s : ByteArray) : Aes.ok (bytesL s) := u8ok_bytesL s
theorem state_run (s : ByteArray) (hs : s.size = 16) (d : Nat) : ∀ k i, i + d = 16 → d < k → spec_l01State.l0 k s ((bytesL s).take i) (i : Int) = some (bytesL s) := by
  have hl := bytesL_length s
  induction d with
  | zero =>
    intro k i hi hk
    obtain ⟨k, rfl⟩ : ∃ m, k = m + 1 := ⟨k - 1, by omega⟩
    simp only [spec_l01State.l0]
    rw [if_neg (by omega), List.take_of_length_le (by omega)]
  | succ d ih =>
    intro k i hi hk
    obtain ⟨k, rfl⟩ : ∃ m, k = m + 1 := ⟨k - 1, by omega⟩
    simp only [spec_l01State.l0]
    rw [if_pos (by omega), if_pos (by omega), if_pos (by omega), if_pos (by rw [List.length_take]; omega), suc64 i (by omega), ← bytesL_getD s i (by omega), w64b (Aes.at_by (ok_bytesL s) i), take_one _ i (by omega)]
    exact ih k (i + 1) (by omega) (by omega)
theorem state_eq (k : Nat) (hk : 16 < k) (s : ByteArray) (hs : s.size = 16) : spec_l01State.f k s = some (bytesL s) := state_run s hs 16 k 0 rfl hk
theorem xorS_run (a : List Int) (s : ByteArray) (ha : a.length = 16) (oa : Aes.ok a) (hs : s.size = 16) (d : Nat) : ∀ k i, i + d = 16 → d < k → spec_l01Xor.l0 k ((Aes.xorS a (bytesL s)).take i ++ a.drop i) s (i : Int) = some (Aes.xorS a (bytesL s)) := by
  have hX := Aes.xorS_length a (bytesL s)
  induction d with
  | zero =>
    intro k i hi hk
    obtain ⟨k, rfl⟩ : ∃ m, k = m + 1 := ⟨k - 1, by omega⟩
    simp only [spec_l01Xor.l0]
    rw [if_neg (by omega), List.take_of_length_le (by omega), List.drop_eq_nil_of_le (by omega), List.append_nil]
  | succ d ih =>
    intro k i hi hk
    obtain ⟨k, rfl⟩ : ∃ m, k = m + 1 := ⟨k - 1, by omega⟩
    have hd : ((Aes.xorS a (bytesL s)).take i ++ a.drop i).length = 16 := by rw [List.length_append, List.length_take, List.length_drop, hX]; omega
    have e1 : ((Aes.xorS a (bytesL s)).take i ++ a.drop i).getD i 0 = a.getD i 0 := by
      rw [List.getD_eq_getElem?_getD, td_at _ a (by omega) i (by omega)]; rfl
    have e2 := td_set (Aes.xorS a (bytesL s)) a (by omega) i (by omega)
    have e3 : (Aes.xorS a (bytesL s)).getD i 0 = Aes.xr (a.getD i 0) ((bytesL s).getD i 0) := by rw [Aes.xorS, Aes.st_at _ i (by omega)]
    rw [e3] at e2
    simp only [spec_l01Xor.l0]
    rw [if_pos (by omega), if_pos (by omega), if_pos (by omega), if_pos (by omega), suc64 i (by omega), rdn, e1, ← bytesL_getD s i (by omega), w64b (Aes.at_by (ok_bytesL s) i), Aes.xr_i64 (Aes.at_by oa i) (Aes.at_by (ok_bytesL s) i), Int.toNat_natCast, e2]
    exact ih k (i + 1) (by omega) (by omega)
theorem xor_eq (k : Nat) (hk : 16 < k) (a : List Int) (s : ByteArray) (ha : a.length = 16) (oa : Aes.ok a) (hs : s.size = 16) : spec_l01Xor.f k a s = some (Aes.xorS a (bytesL s)) := by
  have := xorS_run a s ha oa hs 16 k 0 rfl hk
  rw [List.take_zero, List.nil_append, List.drop_zero] at this
  exact this
theorem swap_run (T : List Int) (f : Int → Int) (hT : T.length = 256) (hf : ∀ x, Aes.by_ x → T.getD x.toNat 0 = f x) (a : List Int) (ha : a.length = 16) (oa : Aes.ok a) (d : Nat) : ∀ k i, i + d = 16 → d < k →
    spec_l01Swap.l0 k ((Aes.st fun i => f (a.getD i 0)).take i ++ a.drop i) T (i : Int) = some (Aes.st fun i => f (a.getD i 0)) := by
  have hX := Aes.st_length fun i => f (a.getD i 0)
  induction d with
  | zero =>
    intro k i hi hk
    obtain ⟨k, rfl⟩ : ∃ m, k = m + 1 := ⟨k - 1, by omega⟩
    simp only [spec_l01Swap.l0]
    rw [if_neg (by omega), List.take_of_length_le (by omega), List.drop_eq_nil_of_le (by omega), List.append_nil]
  | succ d ih =>
    intro k i hi hk
    obtain ⟨k, rfl⟩ : ∃ m, k = m + 1 := ⟨k - 1, by omega⟩
    have hd : ((Aes.st fun i => f (a.getD i 0)).take i ++ a.drop i).length = 16 := by rw [List.length_append, List.length_take, List.length_drop, hX]; omega
    have e1 : ((Aes.st fun i => f (a.getD i 0)).take i ++ a.drop i).getD i 0 = a.getD i 0 := by
      rw [List.getD_eq_getElem?_getD, td_at _ a (by omega) i (by omega)]; rfl
    have e2 := td_set (Aes.st fun i => f (a.getD i 0)) a (by omega) i (by omega)
    rw [Aes.st_at _ i (by omega)] at e2
    have hb := Aes.at_by oa i
    have e3 : rd T (a.getD i 0) = f (a.getD i 0) := hf _ hb
    unfold Aes.by_ at hb
    simp only [spec_l01Swap.l0]
    rw [if_pos (by omega), if_pos (by omega), if_pos (by omega), rdn, e1, if_pos (by omega), if_pos (by omega), suc64 i (by omega), e3, Int.toNat_natCast, e2]
    exact ih k (i + 1) (by omega) (by omega)
theorem swap_eq (k : Nat) (hk : 16 < k) (T : List Int) (f : Int → Int) (hT : T.length = 256) (hf : ∀ x, Aes.by_ x → T.getD x.toNat 0 = f x) (a : List Int) (ha : a.length = 16) (oa : Aes.ok a) : spec_l01Swap.f k a T = some (Aes.st fun i => f (a.getD i 0)) := by
  have := swap_run T f hT hf a ha oa 16 k 0 rfl hk
  rw [List.take_zero, List.nil_append, List.drop_zero] at this
  exact this
theorem text_run (a : List Int) (ha : a.length = 16) (oa : Aes.ok a) (d : Nat) : ∀ k i, i + d = 16 → d < k → spec_l01Text.l0 k a (a.take i) (i : Int) = some (strOfNums a) := by
  induction d with
  | zero =>
    intro k i hi hk
    obtain ⟨k, rfl⟩ : ∃ m, k = m + 1 := ⟨k - 1, by omega⟩
    simp only [spec_l01Text.l0]
    rw [if_neg (by omega), List.take_of_length_le (by omega)]
  | succ d ih =>
    intro k i hi hk
    obtain ⟨k, rfl⟩ : ∃ m, k = m + 1 := ⟨k - 1, by omega⟩
    have hb := Aes.at_by oa i
    have e : a.getD i 0 % 256 = a.getD i 0 := by unfold Aes.by_ at hb; omega
    simp only [spec_l01Text.l0]
    rw [if_pos (by omega), if_pos (by omega), if_pos (by omega), if_pos (by rw [List.length_take]; omega), suc64 i (by omega), rdn, e, take_one _ i (by omega)]
    exact ih k (i + 1) (by omega) (by omega)
theorem text_eq (k : Nat) (hk : 16 < k) (a : List Int) (ha : a.length = 16) (oa : Aes.ok a) : spec_l01Text.f k a = some (strOfNums a) := text_run a ha oa 16 k 0 rfl hk
theorem rdK (keys : List (List Int)) (r : Nat) (hr : r < keys.length) : rdOf ByteArray.empty (keys.map strOfNums) (r : Int) = strOfNums (keys.getD r []) := by
  unfold rdOf
  rw [Int.toNat_natCast, List.getD_eq_getElem?_getD, List.getElem?_map, List.getElem?_eq_getElem hr, List.getD_eq_getElem?_getD, List.getElem?_eq_getElem hr]
  rfl
theorem key_at {keys : List (List Int)} (h : Aes.keysOk keys) (r : Nat) (hr : r < keys.length) : (keys.getD r []).length = 16 ∧ Aes.ok (keys.getD r []) := by
  rw [List.getD_eq_getElem?_getD, List.getElem?_eq_getElem hr]
  exact h _ (List.getElem_mem hr)
theorem xorK (k : Nat) (hk : 16 < k) {keys : List (List Int)} (h : Aes.keysOk keys) (r : Nat) (hr : r < keys.length) (a : List Int) (ha : a.length = 16) (oa : Aes.ok a) :
    spec_l01Xor.f k a (rdOf ByteArray.empty (keys.map strOfNums) (r : Int)) = some (Aes.xorS a (keys.getD r [])) := by
  have hk2 := key_at h r hr
  rw [rdK keys r hr, xor_eq k hk a _ ha oa (by rw [str_size]; exact hk2.1), bytesL_str _ hk2.2]
theorem spec_keys (key : ByteArray) (hkey : key.size = 16 ∨ key.size = 32) : spec_l01Keys.f key Aes.subs = some ((Aes.keysL (bytesL key)).map strOfNums) := by
  unfold spec_l01Keys.f
  rw [if_pos ⟨rfl, hkey⟩]
end Go.Proofs.Ytfbggdlidelliaa.Pg

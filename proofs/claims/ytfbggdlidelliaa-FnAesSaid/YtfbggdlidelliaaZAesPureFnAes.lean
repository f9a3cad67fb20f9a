/- For all keys and blocks that bytes make: what is encrypted is decrypted, no two blocks become the same under one key, and all is as the reference tells. No condition. -/
import Derived.Test.YtfbggdlidelliaaZAesPx16
import Derived.Test.YtfbggdlidelliaaZAesPat
import Derived.Test.YtfbggdlidelliaaZAesPblob
import Derived.Test.YtfbggdlidelliaaZAesPks
import Derived.Test.YtfbggdlidelliaaZAesPencblk
namespace Go.Proofs.Ytfbggdlidelliaa.Pure
open Go.RowKit Go.Proofs.Ytfbggdlidelliaa.P Go.Proofs.Ytfbggdlidelliaa.Pg Go.Proofs.YtfbggdlidelliaaW.PrintWords Go.Proofs.YtfbggdlidelliaaW.PrintLast
theorem sameT_run (d : Nat) : ∀ (k i : Nat) (l : List ByteArray), i + d = l.length → l.length ≤ 1000 → d < k → laws_sameTexts.l0 k l l (i : Int) = some true := by
  induction d with
  | zero =>
    intro k i l hi hl hk
    obtain ⟨k, rfl⟩ : ∃ m, k = m + 1 := ⟨k - 1, by omega⟩
    simp only [laws_sameTexts.l0]
    rw [if_neg (by omega)]
  | succ d ih =>
    intro k i l hi hl hk
    obtain ⟨k, rfl⟩ : ∃ m, k = m + 1 := ⟨k - 1, by omega⟩
    have hw : wrap64 ((i : Int) + 1) = ((i + 1 : Nat) : Int) := by unfold wrap64; omega
    simp only [laws_sameTexts.l0]
    rw [if_pos (by omega), if_pos (by omega), if_pos (by omega), if_pos trivial, hw]
    exact ih k (i + 1) l (by omega) hl (by omega)
theorem sameT_refl (k : Nat) (l : List ByteArray) (hl : l.length ≤ 1000) (hk : l.length < k) : laws_sameTexts.f k l l = some true := by
  unfold laws_sameTexts.f
  rw [if_pos rfl]
  exact sameT_run l.length k 0 l (by omega) hl hk
theorem enc_str (K A : List Int) (oK : isU8 K) (oA : isU8 A) (hK : K.length = 16 ∨ K.length = 32) (hA : A.length = 16) : impl_EncryptBlock.f (strOfNums K) (strOfNums A) = some (strOfNums (Aes.encL (Aes.keysL K) A), 0) := by
  unfold impl_EncryptBlock.f
  rw [if_neg (by rw [str_size, str_size]; omega), if_pos (by rw [str_size, str_size]; exact ⟨hK, hA⟩), bytesL_str K oK, bytesL_str A oA]
theorem dec_str (K A : List Int) (oK : isU8 K) (oA : isU8 A) (hK : K.length = 16 ∨ K.length = 32) (hA : A.length = 16) : impl_DecryptBlock.f (strOfNums K) (strOfNums A) = some (strOfNums (Aes.decL (Aes.keysL K) A), 0) := by
  unfold impl_DecryptBlock.f
  rw [if_neg (by rw [str_size, str_size]; omega), if_pos (by rw [str_size, str_size]; exact ⟨hK, hA⟩), bytesL_str K oK, bytesL_str A oA]
theorem seven_w (n m : Nat) (h : n / 4 = m) (hm : m ≤ 100) : wrap64 ((wrap64 ((n : Int) / 4)) + 7) = ((m + 7 : Nat) : Int) := by
  have e : (n : Int) / 4 = (m : Int) := by omega
  rw [e]
  unfold wrap64; omega
theorem aes_core (k : Nat) (hk : 2000 ≤ k) (l0 l1 : List Int) (w0 : ∀ x ∈ l0, (Lit.int .u8 x).wf = true) (w1 : ∀ x ∈ l1, (Lit.int .u8 x).wf = true) (b1 : l1.length ≤ 1048576) : laws_FnAes.j0 (k + 1) l0 l1 false = some true := by
  obtain ⟨t, ht, et⟩ := at_some l1 b1 w1 0 2 (by decide) (by decide)
  have et' : laws_at.f l1 0 2 = some (t : Int) := et
  obtain ⟨n, hn, hr⟩ : ∃ n : Nat, (n = 16 ∨ n = 32) ∧ rd [16, 32] (t : Int) = (n : Int) := by
    have : t = 0 ∨ t = 1 := by omega
    rcases this with rfl | rfl
    · exact ⟨16, .inl rfl, rfl⟩
    · exact ⟨32, .inr rfl, rfl⟩
  obtain ⟨K, eK, uK, lK⟩ := blobOf_some (isU8_of w0) n (by omega)
  obtain ⟨A, eA, uA, lA⟩ := blobOf_some (isU8_of w1) 16 (by omega)
  have u7 : isU8 [7] := fun x hx => by obtain rfl := List.mem_singleton.1 hx; omega
  obtain ⟨B, eB, uB, lB⟩ := blobOf_some (isU8_append u7 (isU8_of w1)) 16 (by omega)
  have hK : K.length = 16 ∨ K.length = 32 := by omega
  have hKs : (strOfNums K).size = 16 ∨ (strOfNums K).size = 32 := by rw [str_size]; exact hK
  obtain ⟨X, hX⟩ : ∃ X, X = Aes.encL (Aes.keysL K) A := ⟨_, rfl⟩
  obtain ⟨Y, hY⟩ : ∃ Y, Y = Aes.encL (Aes.keysL K) B := ⟨_, rfl⟩
  have good := Aes.keysL_ok uK
  have oX : isU8 X := by rw [hX]; exact Aes.encL_ok good uA
  have oY : isU8 Y := by rw [hY]; exact Aes.encL_ok good uB
  have lX : X.length = 16 := by rw [hX]; exact Aes.encL_length _ _
  have dX : Aes.decL (Aes.keysL K) X = A := by rw [hX]; exact Aes.dec_enc good lA uA
  have dY : Aes.decL (Aes.keysL K) Y = B := by rw [hY]; exact Aes.dec_enc good lB uB
  have E1 := enc_str K A uK uA hK lA
  have E2 := enc_str K B uK uB hK lB
  have D1 := dec_str K X uK oX hK lX
  rw [← hX] at E1
  rw [← hY] at E2
  rw [dX] at D1
  have S1 := (spec_Encrypt_blk k hk (strOfNums K) (strOfNums A)).trans E1
  have ks := keys_in k (by omega) (strOfNums K) hKs
  rw [bytesL_str K uK] at ks
  have hle : ((Aes.keysL K).map strOfNums).length = n / 4 + 7 := by rw [List.length_map, Aes.keysL_length, lK]
  have sT := sameT_refl k ((Aes.keysL K).map strOfNums) (by rw [hle]; omega) (by rw [hle]; omega)
  have eK1 := eK k (by omega)
  have eA1 : spec_BlobOf.f k l1 16 = some (strOfNums A) := eA k (by omega)
  have eB1 : spec_BlobOf.f k ([7] ++ l1) 16 = some (strOfNums B) := eB k (by omega)
  have hc : (0 : Int) ≤ (t : Int) := by omega
  have hc2 : (t : Int) < (([16, 32] : List Int).length : Int) := by simp; omega
  have hinj : (((strOfNums X).toList == (strOfNums Y).toList) == ((strOfNums A).toList == (strOfNums B).toList)) = true := by
    rw [strEq X Y oX oY, strEq A B uA uB, beq_iff_eq]
    by_cases h : A = B
    · have h2 : X = Y := by rw [hX, hY, h]
      rw [beq_iff_eq.2 h, beq_iff_eq.2 h2]
    · have h2 : X ≠ Y := fun h3 => h (by rw [← dX, ← dY, h3])
      rw [beq_eq_false_iff_ne.2 h, beq_eq_false_iff_ne.2 h2]
  simp only [laws_FnAes.j0, Bool.false_eq_true, if_false]
  rw [Option.bind_some, et', Option.bind_some, if_pos hc, if_pos hc2, hr, eK1, Option.bind_some, eA1, Option.bind_some, Option.bind_some, if_pos (by simp; omega), eB1, Option.bind_some, E1, Option.bind_some, E2, Option.bind_some, S1, Option.bind_some, D1, Option.bind_some, E1, Option.bind_some, ks.2, Option.bind_some, ks.1, Option.bind_some]
  dsimp only
  rw [if_pos rfl, if_pos rfl, if_pos rfl, if_pos rfl, if_pos rfl, if_pos rfl, if_pos rfl, if_pos hinj, if_pos rfl, sT, Option.bind_some, if_pos rfl, hle, str_size, lK, seven_w n (n / 4) rfl (by omega)]
  exact congrArg some (beq_iff_eq.2 rfl)
theorem FnAes : laws_FnAes.Pure := by
  intro l0 l1 _ _ w0 _ _ w1
  refine ⟨2000 + 1, ?_⟩
  unfold laws_FnAes.f
  by_cases b0 : (l0.length : Int) > 1048576
  · rw [if_pos b0]
    simp only [laws_FnAes.j0, if_true]
  rw [if_neg b0]
  by_cases b1 : (l1.length : Int) > 1048576
  · rw [decide_eq_true b1]
    simp only [laws_FnAes.j0, if_true]
  · rw [decide_eq_false b1]
    exact aes_core 2000 (by decide) l0 l1 w0 w1 (by omega)
end Go.Proofs.Ytfbggdlidelliaa.Pure

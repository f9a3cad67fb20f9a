/- The reference's decryption of a block is that of plain lists (no program in sight). -/
import Derived.Test.YtfbggdlidelliaaZCdPm14
import Derived.Test.YtfbggdlidelliaaZCdPm6
import Derived.Test.YtfbggdlidelliaaZCdPm3
import Derived.Test.YtfbggdlidelliaaZCdPm2
import Derived.Test.YtfbggdlidelliaaZCdPcol
namespace Go.Proofs.Ytfbggdlidelliaa.Pg
open Go.RowKit Go.Proofs.Ytfbggdlidelliaa.P Go.Proofs.YtfbggdlidelliaaW.PrintWords Go.Proofs.YtfbggdlidelliaaW.PrintLast Go.Proofs.YtfbggdlidelliaaW.PrintMore
set_option linter.unusedVariables false
theorem back_300 : spec_l01Back.f 300 Aes.subs = some Aes.backs := by decide +kernel
theorem unshift_40 (f : Nat → Int) : spec_l01Shift.f 40 (Aes.st f) (-1) = some (Aes.unshiftS (Aes.st f)) := by kernel_rfl
theorem unshift_eq (k : Nat) (hk : 40 ≤ k) (a : List Int) (ha : a.length = 16) : spec_l01Shift.f k a (-1) = some (Aes.unshiftS a) := by
  have e := Aes.st_is a (fun j => a.getD j 0) ha fun _ _ => rfl
  rw [e]
  exact at_rounds (spec_l01Shift.mono _ _) hk (unshift_40 _)
theorem word0_col {a : List Int} (oa : Aes.ok a) (c : Nat) : Aes.word0 a c = col (Aes.colN a c) := by
  have b : ∀ j, ((a.getD j 0).toNat : Int) = a.getD j 0 := fun j => by have := Aes.at_by oa j; unfold Aes.by_ at this; omega
  unfold Aes.word0 col Aes.colN
  simp only [b]
theorem unmixF_col : col Gf.unmixF = [14, 11, 13, 9] := rfl
theorem cols_step (a : List Int) (ha : a.length = 16) (oa : Aes.ok a) (c k : Nat) (hc : c < 4) (hk : 60 < k) (acc : List Int) (hacc : acc.length ≤ 16) :
    spec_l01Columns.l0 (k + 1) a (col Gf.unmixF) acc ((4 * c : Nat) : Int) = spec_l01Columns.l0 k a (col Gf.unmixF) (acc ++ col (Gf.V4.mx Gf.unmixF (Aes.colN a c))) ((4 * (c + 1) : Nat) : Int) := by
  have w : wrap64 (((4 * c : Nat) : Int) + 4) = ((4 * c + 4 : Nat) : Int) := by unfold wrap64; omega
  simp only [spec_l01Columns.l0]
  rw [if_pos (by omega), if_pos (by omega), w, if_pos (by omega), if_pos (by omega), Int.toNat_natCast, Int.toNat_natCast, word0_is a c (by omega), word0_col oa, mix_eq k _ _ (Aes.colN_ok oa c) unmixF_ok hk, Option.bind_some, if_pos (by rw [col_len]; omega)]
  rfl
theorem columns_eq (k : Nat) (hk : 100 ≤ k) (a : List Int) (ha : a.length = 16) (oa : Aes.ok a) : spec_l01Columns.f k a [14, 11, 13, 9] = some (Aes.mixS Gf.unmixF a) := by
  obtain ⟨k, rfl⟩ : ∃ m, k = m + 5 := ⟨k - 5, by omega⟩
  rw [← unmixF_col]
  unfold spec_l01Columns.f
  show spec_l01Columns.l0 (k + 1 + 1 + 1 + 1 + 1) a (col Gf.unmixF) [] ((4 * 0 : Nat) : Int) = _
  rw [cols_step a ha oa 0 _ (by decide) (by omega) _ (by simp), cols_step a ha oa 1 _ (by decide) (by omega) _ (by simp [col_len]), cols_step a ha oa 2 _ (by decide) (by omega) _ (by simp [col_len]), cols_step a ha oa 3 _ (by decide) (by omega) _ (by simp [col_len])]
  simp only [spec_l01Columns.l0]
  rw [if_neg (by omega)]
  rfl
theorem dec_run {keys : List (List Int)} (h : Aes.keysOk keys) (h0 : 0 < keys.length) (hn : keys.length ≤ 1000) (b : List Int) (hb : b.length = 16) (ob : Aes.ok b) (d : Nat) : ∀ k j, j + d = keys.length - 1 → d + 200 < k →
    spec_l01Decrypt.l0 k (keys.map strOfNums) Aes.backs (Aes.decTo keys b j) (d : Int) = some (strOfNums (Aes.decL keys b)) := by
  have hl : (keys.map strOfNums).length = keys.length := List.length_map ..
  induction d with
  | zero =>
    intro k j hj hk
    obtain ⟨k, rfl⟩ : ∃ m, k = m + 1 := ⟨k - 1, by omega⟩
    have oS := Aes.decTo_ok h ob j
    have lS := Aes.decTo_length keys hb j
    have x := xorK k (by omega) h 0 h0 _ lS oS
    have x' : spec_l01Xor.f k (Aes.decTo keys b j) (rdOf ByteArray.empty (keys.map strOfNums) 0) = _ := x
    simp only [spec_l01Decrypt.l0]
    rw [if_neg (by omega), if_pos (by omega), x', Option.bind_some, text_eq k (by omega) _ (Aes.xorS_length _ _) (Aes.xorS_ok oS (key_at h 0 h0).2), Option.bind_some, Aes.decL, show keys.length - 1 = j from by omega]
  | succ d ih =>
    intro k j hj hk
    obtain ⟨k, rfl⟩ : ∃ m, k = m + 1 := ⟨k - 1, by omega⟩
    have w1 : wrap64 (((keys.map strOfNums).length : Int) - 1) = ((keys.length - 1 : Nat) : Int) := by rw [hl]; unfold wrap64; omega
    have w2 : wrap64 (((d + 1 : Nat) : Int) - 1) = (d : Int) := by unfold wrap64; omega
    have oS := Aes.decTo_ok h ob j
    have lS := Aes.decTo_length keys hb j
    have hx := key_at h (d + 1) (by omega)
    have o1 := Aes.xorS_ok oS hx.2
    have l1 := Aes.xorS_length (Aes.decTo keys b j) (keys.getD (d + 1) [])
    have hi := ih k (j + 1) (by omega) (by omega)
    have ed : keys.length - 1 - j = d + 1 := by omega
    simp only [spec_l01Decrypt.l0]
    rw [if_pos (by omega), if_pos (by omega), if_pos (by omega), xorK k (by omega) h (d + 1) (by omega) _ lS oS, Option.bind_some, w1, w2]
    have sw : ∀ a : List Int, a.length = 16 → Aes.ok a → spec_l01Swap.f k a Aes.backs = some (Aes.unsubS a) := fun a ha oa => swap_eq k (by omega) Aes.backs Aes.ub Aes.backs_length (fun x hx => Aes.backs_at hx) a ha oa
    by_cases h0j : j = 0
    · have e : Aes.decTo keys b (j + 1) = Aes.unsubS (Aes.unshiftS (Aes.xorS (Aes.decTo keys b j) (keys.getD (d + 1) []))) := by
        simp only [Aes.decTo]; rw [if_pos h0j, ed]
      rw [if_neg (by omega), unshift_eq k (by omega) _ l1, Option.bind_some, sw _ (Aes.unshiftS_length _) (Aes.unshiftS_ok o1), Option.bind_some, ← e]
      exact hi
    · have e : Aes.decTo keys b (j + 1) = Aes.unsubS (Aes.unshiftS (Aes.mixS Gf.unmixF (Aes.xorS (Aes.decTo keys b j) (keys.getD (d + 1) [])))) := by
        simp only [Aes.decTo]; rw [if_neg h0j, ed]
      rw [if_pos (by omega), columns_eq k (by omega) _ l1 o1, Option.bind_some, unshift_eq k (by omega) _ (Aes.mixS_length _ _), Option.bind_some, sw _ (Aes.unshiftS_length _) (Aes.unshiftS_ok (Aes.mixS_ok _ o1)), Option.bind_some, ← e]
      exact hi
theorem dec_eq {keys : List (List Int)} (h : Aes.keysOk keys) (h0 : 0 < keys.length) (hn : keys.length ≤ 1000) (k : Nat) (hk : 1300 ≤ k) (s : ByteArray) (hs : s.size = 16) :
    spec_l01Decrypt.f k (keys.map strOfNums) Aes.subs s = some (strOfNums (Aes.decL keys (bytesL s))) := by
  have hl : (keys.map strOfNums).length = keys.length := List.length_map ..
  have w1 : wrap64 (((keys.map strOfNums).length : Int) - 1) = ((keys.length - 1 : Nat) : Int) := by rw [hl]; unfold wrap64; omega
  unfold spec_l01Decrypt.f
  rw [at_rounds (spec_l01Back.mono _) (show 300 ≤ k by omega) back_300, Option.bind_some, state_eq k (by omega) s hs, Option.bind_some, w1]
  exact dec_run h h0 hn (bytesL s) (by rw [bytesL_length, hs]) (ok_bytesL s) (keys.length - 1) k 0 (by omega) (by omega)
theorem dec_in (k : Nat) (hk : 1300 ≤ k) (key s : ByteArray) (hkey : key.size = 16 ∨ key.size = 32) (hs : s.size = 16) :
    spec_l01Decrypt.f k ((Aes.keysL (bytesL key)).map strOfNums) Aes.subs s = some (strOfNums (Aes.decL (Aes.keysL (bytesL key)) (bytesL s))) :=
  dec_eq (Aes.keysL_ok (ok_bytesL key)) (by rw [Aes.keysL_length]; omega) (by rw [Aes.keysL_length, bytesL_length]; omega) k hk s hs
end Go.Proofs.Ytfbggdlidelliaa.Pg

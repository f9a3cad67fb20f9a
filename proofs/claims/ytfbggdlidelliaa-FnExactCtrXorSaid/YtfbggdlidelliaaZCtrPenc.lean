/- The reference's encryption of a block is that of plain lists (no program in sight). -/
import Derived.Test.YtfbggdlidelliaaZCtrPq11
import Derived.Test.YtfbggdlidelliaaZCtrPq5
import Derived.Test.YtfbggdlidelliaaZCtrPtab
namespace Go.Proofs.Ytfbggdlidelliaa.Pg
open Go.RowKit Go.Proofs.Ytfbggdlidelliaa.P Go.Proofs.YtfbggdlidelliaaW.PrintWords Go.Proofs.YtfbggdlidelliaaW.PrintLast Go.Proofs.YtfbggdlidelliaaW.PrintMore
set_option linter.unusedVariables false
theorem suc64 (i : Nat) (h : i < 1000000) : wrap64 ((i : Int) + 1) = ((i + 1 : Nat) : Int) := by unfold wrap64; omega
theorem w64b {x : Int} (h : Aes.by_ x) : wrap64 x = x := by unfold Aes.by_ at h; unfold wrap64; omega
theorem rdn (l : List Int) (i : Nat) : rd l (i : Int) = l.getD i 0 := rfl
theorem take_one (l : List Int) (i : Nat) (h : i < l.length) : l.take i ++ [l.getD i 0] = l.take (i + 1) := by
  rw [List.take_add_one, List.getElem?_eq_getElem h, List.getD_eq_getElem?_getD, List.getElem?_eq_getElem h]
  rfl
theorem ok_bytesL (s : ByteArray) : Aes.ok (bytesL s) := u8ok_bytesL s
theorem state_run (s : ByteArray) (hs : s.size = 16) (d : Nat) : ∀ k i, i + d = 16 → d < k → spec_l01State.l0 k s ((bytesL s).take i) (i : Int) = some (bytesL s) := by
  have hl := bytesL_length s
  induction d with
  | zero =>
    intro k i hi hk
    obtain ⟨k, rfl⟩ : ∃ m, k = m + 1 := ⟨k - 1, by omega⟩
    simp only [spec_l01State.l0]
    rw [if_neg (by omega), List.take_of_length_le (by omega)]
  | succ d ih =>
    intro k i hi hk
    obtain ⟨k, rfl⟩ : ∃ m, k = m + 1 := ⟨k - 1, by omega⟩
    simp only [spec_l01State.l0]
    rw [if_pos (by omega), if_pos (by omega), if_pos (by omega), if_pos (by rw [List.length_take]; omega), suc64 i (by omega), ← bytesL_getD s i (by omega), w64b (Aes.at_by (ok_bytesL s) i), take_one _ i (by omega)]
    exact ih k (i + 1) (by omega) (by omega)
theorem state_eq (k : Nat) (hk : 16 < k) (s : ByteArray) (hs : s.size = 16) : spec_l01State.f k s = some (bytesL s) := state_run s hs 16 k 0 rfl hk
theorem xorS_run (a : List Int) (s : ByteArray) (ha : a.length = 16) (oa : Aes.ok a) (hs : s.size = 16) (d : Nat) : ∀ k i, i + d = 16 → d < k → spec_l01Xor.l0 k ((Aes.xorS a (bytesL s)).take i ++ a.drop i) s (i : Int) = some (Aes.xorS a (bytesL s)) := by
  have hX := Aes.xorS_length a (bytesL s)
  induction d with
  | zero =>
    intro k i hi hk
    obtain ⟨k, rfl⟩ : ∃ m, k = m + 1 := ⟨k - 1, by omega⟩
    simp only [spec_l01Xor.l0]
    rw [if_neg (by omega), List.take_of_length_le (by omega), List.drop_eq_nil_of_le (by omega), List.append_nil]
  | succ d ih =>
    intro k i hi hk
    obtain ⟨k, rfl⟩ : ∃ m, k = m + 1 := ⟨k - 1, by omega⟩
    have hd : ((Aes.xorS a (bytesL s)).take i ++ a.drop i).length = 16 := by rw [List.length_append, List.length_take, List.length_drop, hX]; omega
    have e1 : ((Aes.xorS a (bytesL s)).take i ++ a.drop i).getD i 0 = a.getD i 0 := by
      rw [List.getD_eq_getElem?_getD, td_at _ a (by omega) i (by omega)]; rfl
    have e2 := td_set (Aes.xorS a (bytesL s)) a (by omega) i (by omega)
    have e3 : (Aes.xorS a (bytesL s)).getD i 0 = Aes.xr (a.getD i 0) ((bytesL s).getD i 0) := by rw [Aes.xorS, Aes.st_at _ i (by omega)]
    rw [e3] at e2
    simp only [spec_l01Xor.l0]
    rw [if_pos (by omega), if_pos (by omega), if_pos (by omega), if_pos (by omega), suc64 i (by omega), rdn, e1, ← bytesL_getD s i (by omega), w64b (Aes.at_by (ok_bytesL s) i), Aes.xr_i64 (Aes.at_by oa i) (Aes.at_by (ok_bytesL s) i), Int.toNat_natCast, e2]
    exact ih k (i + 1) (by omega) (by omega)
theorem xor_eq (k : Nat) (hk : 16 < k) (a : List Int) (s : ByteArray) (ha : a.length = 16) (oa : Aes.ok a) (hs : s.size = 16) : spec_l01Xor.f k a s = some (Aes.xorS a (bytesL s)) := by
  have := xorS_run a s ha oa hs 16 k 0 rfl hk
  rw [List.take_zero, List.nil_append, List.drop_zero] at this
  exact this
theorem swap_run (T : List Int) (f : Int → Int) (hT : T.length = 256) (hf : ∀ x, Aes.by_ x → T.getD x.toNat 0 = f x) (a : List Int) (ha : a.length = 16) (oa : Aes.ok a) (d : Nat) : ∀ k i, i + d = 16 → d < k →
    spec_l01Swap.l0 k ((Aes.st fun i => f (a.getD i 0)).take i ++ a.drop i) T (i : Int) = some (Aes.st fun i => f (a.getD i 0)) := by
  have hX := Aes.st_length fun i => f (a.getD i 0)
  induction d with
  | zero =>
    intro k i hi hk
    obtain ⟨k, rfl⟩ : ∃ m, k = m + 1 := ⟨k - 1, by omega⟩
    simp only [spec_l01Swap.l0]
    rw [if_neg (by omega), List.take_of_length_le (by omega), List.drop_eq_nil_of_le (by omega), List.append_nil]
  | succ d ih =>
    intro k i hi hk
    obtain ⟨k, rfl⟩ : ∃ m, k = m + 1 := ⟨k - 1, by omega⟩
    have hd : ((Aes.st fun i => f (a.getD i 0)).take i ++ a.drop i).length = 16 := by rw [List.length_append, List.length_take, List.length_drop, hX]; omega
    have e1 : ((Aes.st fun i => f (a.getD i 0)).take i ++ a.drop i).getD i 0 = a.getD i 0 := by
      rw [List.getD_eq_getElem?_getD, td_at _ a (by omega) i (by omega)]; rfl
    have e2 := td_set (Aes.st fun i => f (a.getD i 0)) a (by omega) i (by omega)
    rw [Aes.st_at _ i (by omega)] at e2
    have hb := Aes.at_by oa i
    have e3 : rd T (a.getD i 0) = f (a.getD i 0) := hf _ hb
    unfold Aes.by_ at hb
    simp only [spec_l01Swap.l0]
    rw [if_pos (by omega), if_pos (by omega), if_pos (by omega), rdn, e1, if_pos (by omega), if_pos (by omega), suc64 i (by omega), e3, Int.toNat_natCast, e2]
    exact ih k (i + 1) (by omega) (by omega)
theorem swap_eq (k : Nat) (hk : 16 < k) (T : List Int) (f : Int → Int) (hT : T.length = 256) (hf : ∀ x, Aes.by_ x → T.getD x.toNat 0 = f x) (a : List Int) (ha : a.length = 16) (oa : Aes.ok a) : spec_l01Swap.f k a T = some (Aes.st fun i => f (a.getD i 0)) := by
  have := swap_run T f hT hf a ha oa 16 k 0 rfl hk
  rw [List.take_zero, List.nil_append, List.drop_zero] at this
  exact this
theorem text_run (a : List Int) (ha : a.length = 16) (oa : Aes.ok a) (d : Nat) : ∀ k i, i + d = 16 → d < k → spec_l01Text.l0 k a (a.take i) (i : Int) = some (strOfNums a) := by
  induction d with
  | zero =>
    intro k i hi hk
    obtain ⟨k, rfl⟩ : ∃ m, k = m + 1 := ⟨k - 1, by omega⟩
    simp only [spec_l01Text.l0]
    rw [if_neg (by omega), List.take_of_length_le (by omega)]
  | succ d ih =>
    intro k i hi hk
    obtain ⟨k, rfl⟩ : ∃ m, k = m + 1 := ⟨k - 1, by omega⟩
    have hb := Aes.at_by oa i
    have e : a.getD i 0 % 256 = a.getD i 0 := by unfold Aes.by_ at hb; omega
    simp only [spec_l01Text.l0]
    rw [if_pos (by omega), if_pos (by omega), if_pos (by omega), if_pos (by rw [List.length_take]; omega), suc64 i (by omega), rdn, e, take_one _ i (by omega)]
    exact ih k (i + 1) (by omega) (by omega)
theorem text_eq (k : Nat) (hk : 16 < k) (a : List Int) (ha : a.length = 16) (oa : Aes.ok a) : spec_l01Text.f k a = some (strOfNums a) := text_run a ha oa 16 k 0 rfl hk
theorem shift_40 (f : Nat → Int) : spec_l01Shift.f 40 (Aes.st f) 1 = some (Aes.shiftS (Aes.st f)) := by kernel_rfl
theorem shift_eq (k : Nat) (hk : 40 ≤ k) (a : List Int) (ha : a.length = 16) : spec_l01Shift.f k a 1 = some (Aes.shiftS a) := by
  have e := Aes.st_is a (fun j => a.getD j 0) ha fun _ _ => rfl
  rw [e]
  exact at_rounds (spec_l01Shift.mono _ _) hk (shift_40 _)
theorem dbl_eq {x : Int} (h : Aes.by_ x) : spec_l01Double.f x = some ((Gf.xt x.toNat : Nat) : Int) := by
  obtain ⟨n, hn, rfl⟩ := Aes.by_nat h
  rw [Int.toNat_natCast]
  have key : ∀ n : Nat, n < 256 → spec_l01Double.f (n : Int) = some ((Gf.xt n : Nat) : Int) := by decide +kernel
  exact key n hn
theorem fast_step (a : List Int) (ha : a.length = 16) (oa : Aes.ok a) (X : List Int) (hX : X.length = 16) (c i k : Nat) (hc : c < 4) (hi : i < 4) (A : Int)
    (hA : A = Go.bits .xor .u8 (Go.bits .xor .u8 (Go.bits .xor .u8 (a.getD (4 * c) 0) (a.getD (4 * c + 1) 0)) (a.getD (4 * c + 2) 0)) (a.getD (4 * c + 3) 0)) :
    spec_l01Fast.l1 (k + 1) a X ((4 * c : Nat) : Int) A (i : Int) = spec_l01Fast.l1 k a (X.set (4 * c + i) ((colsF fastL a).getD (4 * c + i) 0)) ((4 * c : Nat) : Int) A ((i + 1 : Nat) : Int) := by
  have e1 : wrap64 (((4 * c : Nat) : Int) + (i : Int)) = ((4 * c + i : Nat) : Int) := by unfold wrap64; omega
  have e2 : Int.tmod (((i + 1 : Nat) : Int)) 4 = (((i + 1) % 4 : Nat) : Int) := by rw [Int.tmod_eq_emod_of_nonneg (Int.natCast_nonneg _)]; rfl
  have e3 : wrap64 (((4 * c : Nat) : Int) + (((i + 1) % 4 : Nat) : Int)) = ((4 * c + (i + 1) % 4 : Nat) : Int) := by unfold wrap64; omega
  have b := fun j => Aes.at_by oa j
  have hx := Aes.xr_by (b (4 * c + i)) (b (4 * c + (i + 1) % 4))
  have bA : Aes.by_ A := by
    rw [hA]
    exact Aes.xr_by (Aes.xr_by (Aes.xr_by (b _) (b _)) (b _)) (b _)
  have hxt : Aes.by_ ((Gf.xt (Aes.xr (a.getD (4 * c + i) 0) (a.getD (4 * c + (i + 1) % 4) 0)).toNat : Nat) : Int) := Aes.nat_by (Gf.xt_lt _ (by unfold Aes.by_ at hx; omega))
  have q : ∀ j, j < 4 → ((a.drop (4 * c)).take 4).getD j 0 = a.getD (4 * c + j) 0 := fun j hj => by
    simp only [List.getD_eq_getElem?_getD]
    rw [List.getElem?_take_of_lt hj, List.getElem?_drop]
  have eV : (colsF fastL a).getD (4 * c + i) 0 = Aes.xr (Aes.xr (a.getD (4 * c + i) 0) A) ((Gf.xt (Aes.xr (a.getD (4 * c + i) 0) (a.getD (4 * c + (i + 1) % 4) 0)).toNat : Nat) : Int) := by
    rw [colsF_part fastL (fun c _ => fastL_length c) a ha c i hc hi, fastL_at _ i hi, q i hi, q 0 (by decide), q 1 (by decide), q 2 (by decide), q 3 (by decide), q _ (Nat.mod_lt _ (by decide)), hA]
    rfl
  simp only [spec_l01Fast.l1]
  rw [if_pos (by omega), e1, suc64 i (by omega), e2, e3, if_pos (by omega), if_pos (by omega), if_pos (by omega), if_pos (by omega), rdn, rdn, Aes.xr_i64 (b _) (b _), dbl_eq hx, Option.bind_some, if_pos (by omega), Aes.xr_i64 (b _) bA, Aes.xr_i64 (Aes.xr_by (b _) bA) hxt, Int.toNat_natCast, eV]
theorem fast_col (a : List Int) (ha : a.length = 16) (oa : Aes.ok a) (c k : Nat) (hc : c < 4) :
    spec_l01Fast.l0 (k + 6) a ((colsF fastL a).take (4 * c) ++ (List.replicate 16 0).drop (4 * c)) ((4 * c : Nat) : Int) = spec_l01Fast.l0 k a ((colsF fastL a).take (4 * (c + 1)) ++ (List.replicate 16 0).drop (4 * (c + 1))) ((4 * (c + 1) : Nat) : Int) := by
  have hF : (colsF fastL a).length = 16 := colsF_length fastL (fun c _ => fastL_length c) a ha
  have hz : (List.replicate 16 (0 : Int)).length = 16 := List.length_replicate
  have hd : ∀ p, ((colsF fastL a).take p ++ (List.replicate 16 (0 : Int)).drop p).length = 16 ∨ 16 < p := fun p => by simp; omega
  have w : ∀ j : Nat, j ≤ 4 → wrap64 (((4 * c : Nat) : Int) + (j : Int)) = ((4 * c + j : Nat) : Int) := fun j hj => by unfold wrap64; omega
  have b := fun j => Aes.at_by oa j
  have T := fun p (hp : p < 16) => td_set (colsF fastL a) (List.replicate 16 (0 : Int)) (by rw [hF, hz]) p (by omega)
  show spec_l01Fast.l0 (k + 5 + 1) a _ _ = _
  simp only [spec_l01Fast.l0]
  rw [if_pos (by omega), if_pos (by omega), if_pos (by omega), show wrap64 (((4 * c : Nat) : Int) + 1) = _ from w 1 (by decide), show wrap64 (((4 * c : Nat) : Int) + 2) = _ from w 2 (by decide), show wrap64 (((4 * c : Nat) : Int) + 3) = _ from w 3 (by decide),
    if_pos (by omega), if_pos (by omega), if_pos (by omega), if_pos (by omega), if_pos (by omega), if_pos (by omega), rdn, rdn, rdn, rdn, Aes.xr_i64 (b _) (b _), Aes.xr_i64 (Aes.xr_by (b _) (b _)) (b _), Aes.xr_i64 (Aes.xr_by (Aes.xr_by (b _) (b _)) (b _)) (b _)]
  obtain ⟨A, hA⟩ : ∃ A, A = Go.bits .xor .u8 (Go.bits .xor .u8 (Go.bits .xor .u8 (a.getD (4 * c) 0) (a.getD (4 * c + 1) 0)) (a.getD (4 * c + 2) 0)) (a.getD (4 * c + 3) 0) := ⟨_, rfl⟩
  have s := fun X hX i k hi => fast_step a ha oa X hX c i k hc hi A hA
  show spec_l01Fast.l1 (k + 4 + 1) a _ _ (Go.bits .xor .u8 (Go.bits .xor .u8 (Go.bits .xor .u8 (a.getD (4 * c) 0) (a.getD (4 * c + 1) 0)) (a.getD (4 * c + 2) 0)) (a.getD (4 * c + 3) 0)) ((0 : Nat) : Int) = _
  rw [← hA, s _ ((hd (4 * c)).resolve_right (by omega)) 0 (k + 4) (by decide)]
  show spec_l01Fast.l1 (k + 3 + 1) a (((colsF fastL a).take (4 * c) ++ (List.replicate 16 (0 : Int)).drop (4 * c)).set (4 * c) ((colsF fastL a).getD (4 * c) 0)) _ A ((1 : Nat) : Int) = _
  rw [T (4 * c) (by omega), s _ ((hd (4 * c + 1)).resolve_right (by omega)) 1 (k + 3) (by decide)]
  show spec_l01Fast.l1 (k + 2 + 1) a (((colsF fastL a).take (4 * c + 1) ++ (List.replicate 16 (0 : Int)).drop (4 * c + 1)).set (4 * c + 1) ((colsF fastL a).getD (4 * c + 1) 0)) _ A ((2 : Nat) : Int) = _
  rw [T (4 * c + 1) (by omega), s _ ((hd (4 * c + 1 + 1)).resolve_right (by omega)) 2 (k + 2) (by decide)]
  show spec_l01Fast.l1 (k + 1 + 1) a (((colsF fastL a).take (4 * c + 2) ++ (List.replicate 16 (0 : Int)).drop (4 * c + 2)).set (4 * c + 2) ((colsF fastL a).getD (4 * c + 2) 0)) _ A ((3 : Nat) : Int) = _
  rw [T (4 * c + 2) (by omega), s _ ((hd (4 * c + 2 + 1)).resolve_right (by omega)) 3 (k + 1) (by decide)]
  show spec_l01Fast.l1 (k + 1) a (((colsF fastL a).take (4 * c + 3) ++ (List.replicate 16 (0 : Int)).drop (4 * c + 3)).set (4 * c + 3) ((colsF fastL a).getD (4 * c + 3) 0)) _ A ((4 : Nat) : Int) = _
  rw [T (4 * c + 3) (by omega)]
  simp only [spec_l01Fast.l1]
  rw [if_neg (by omega), show wrap64 (((4 * c : Nat) : Int) + 4) = _ from w 4 (by decide)]
  rfl
theorem fast_eq (k : Nat) (hk : 40 ≤ k) (a : List Int) (ha : a.length = 16) (oa : Aes.ok a) : spec_l01Fast.f k a = some (Aes.mixS Gf.mixF a) := by
  obtain ⟨k, rfl⟩ : ∃ m, k = m + 25 := ⟨k - 25, by omega⟩
  have hF : (colsF fastL a).length = 16 := colsF_length fastL (fun c _ => fastL_length c) a ha
  rw [← fast_mix a ha oa]
  unfold spec_l01Fast.f
  rw [if_pos (by decide)]
  have z0 : (colsF fastL a).take (4 * 0) ++ (List.replicate 16 (0 : Int)).drop (4 * 0) = List.replicate 16 0 := rfl
  have z4 : (colsF fastL a).take (4 * (3 + 1)) ++ (List.replicate 16 (0 : Int)).drop (4 * (3 + 1)) = colsF fastL a := by
    rw [List.take_of_length_le (by omega), List.drop_eq_nil_of_le (by simp), List.append_nil]
  have h0 := fast_col a ha oa 0 (k + 1 + 6 + 6 + 6) (by decide)
  have h1 := fast_col a ha oa 1 (k + 1 + 6 + 6) (by decide)
  have h2 := fast_col a ha oa 2 (k + 1 + 6) (by decide)
  have h3 := fast_col a ha oa 3 (k + 1) (by decide)
  rw [z0] at h0
  rw [z4] at h3
  have hz : spec_l01Fast.l0 (k + 1) a (colsF fastL a) ((4 * (3 + 1) : Nat) : Int) = some (colsF fastL a) := by
    simp only [spec_l01Fast.l0]
    rw [if_neg (by omega)]
  exact h0.trans (h1.trans (h2.trans (h3.trans hz)))
theorem rdK (keys : List (List Int)) (r : Nat) (hr : r < keys.length) : rdOf ByteArray.empty (keys.map strOfNums) (r : Int) = strOfNums (keys.getD r []) := by
  unfold rdOf
  rw [Int.toNat_natCast, List.getD_eq_getElem?_getD, List.getElem?_map, List.getElem?_eq_getElem hr, List.getD_eq_getElem?_getD, List.getElem?_eq_getElem hr]
  rfl
theorem key_at {keys : List (List Int)} (h : Aes.keysOk keys) (r : Nat) (hr : r < keys.length) : (keys.getD r []).length = 16 ∧ Aes.ok (keys.getD r []) := by
  rw [List.getD_eq_getElem?_getD, List.getElem?_eq_getElem hr]
  exact h _ (List.getElem_mem hr)
theorem xorK (k : Nat) (hk : 16 < k) {keys : List (List Int)} (h : Aes.keysOk keys) (r : Nat) (hr : r < keys.length) (a : List Int) (ha : a.length = 16) (oa : Aes.ok a) :
    spec_l01Xor.f k a (rdOf ByteArray.empty (keys.map strOfNums) (r : Int)) = some (Aes.xorS a (keys.getD r [])) := by
  have hk2 := key_at h r hr
  rw [rdK keys r hr, xor_eq k hk a _ ha oa (by rw [str_size]; exact hk2.1), bytesL_str _ hk2.2]
theorem enc_run {keys : List (List Int)} (h : Aes.keysOk keys) (hn : keys.length ≤ 1000) (b : List Int) (ob : Aes.ok b) (d : Nat) : ∀ k r, r + 1 + d = keys.length → d + 100 < k →
    spec_l01Encrypt.l0 k (keys.map strOfNums) Aes.subs (Aes.encTo keys b r) ((r + 1 : Nat) : Int) = some (strOfNums (Aes.encL keys b)) := by
  have hl : (keys.map strOfNums).length = keys.length := List.length_map ..
  induction d with
  | zero =>
    intro k r hr hk
    obtain ⟨k, rfl⟩ : ∃ m, k = m + 1 := ⟨k - 1, by omega⟩
    simp only [spec_l01Encrypt.l0]
    rw [if_neg (by omega), text_eq k (by omega) _ (Aes.encTo_length _ _ _) (Aes.encTo_ok h ob _), Option.bind_some, Aes.encL, show keys.length - 1 = r from by omega]
  | succ d ih =>
    intro k r hr hk
    obtain ⟨k, rfl⟩ : ∃ m, k = m + 1 := ⟨k - 1, by omega⟩
    have w1 : wrap64 (((keys.map strOfNums).length : Int) - 1) = ((keys.length - 1 : Nat) : Int) := by rw [hl]; unfold wrap64; omega
    have oS := Aes.encTo_ok h ob r
    have lS := Aes.encTo_length keys b r
    have e1 : spec_l01Swap.f k (Aes.encTo keys b r) Aes.subs = some (Aes.subS (Aes.encTo keys b r)) := swap_eq k (by omega) Aes.subs Aes.sb Aes.subs_length (fun x hx => Aes.subs_at hx) _ lS oS
    have e2 := shift_eq k (by omega) (Aes.subS (Aes.encTo keys b r)) (Aes.subS_length _)
    have o2 := Aes.shiftS_ok (Aes.subS_ok oS)
    have l2 := Aes.shiftS_length (Aes.subS (Aes.encTo keys b r))
    simp only [spec_l01Encrypt.l0]
    rw [if_pos (by omega), e1, Option.bind_some, e2, Option.bind_some, w1]
    have hi := ih k (r + 1) (by omega) (by omega)
    by_cases hlt : r + 1 < keys.length - 1
    · have hi2 : spec_l01Encrypt.l0 k (keys.map strOfNums) Aes.subs (Aes.xorS (Aes.mixS Gf.mixF (Aes.shiftS (Aes.subS (Aes.encTo keys b r)))) (keys.getD (r + 1) [])) ((r + 1 + 1 : Nat) : Int) = some (strOfNums (Aes.encL keys b)) := by
        have e : Aes.encTo keys b (r + 1) = Aes.xorS (Aes.mixS Gf.mixF (Aes.shiftS (Aes.subS (Aes.encTo keys b r)))) (keys.getD (r + 1) []) := by
          simp only [Aes.encTo]; rw [if_pos hlt]
        rw [← e]; exact hi
      rw [if_pos (by omega), fast_eq k (by omega) _ l2 o2, Option.bind_some, if_pos (by omega), xorK k (by omega) h (r + 1) (by omega) _ (Aes.mixS_length _ _) (Aes.mixS_ok _ o2), Option.bind_some, suc64 (r + 1) (by omega)]
      exact hi2
    · have hi2 : spec_l01Encrypt.l0 k (keys.map strOfNums) Aes.subs (Aes.xorS (Aes.shiftS (Aes.subS (Aes.encTo keys b r))) (keys.getD (r + 1) [])) ((r + 1 + 1 : Nat) : Int) = some (strOfNums (Aes.encL keys b)) := by
        have e : Aes.encTo keys b (r + 1) = Aes.xorS (Aes.shiftS (Aes.subS (Aes.encTo keys b r))) (keys.getD (r + 1) []) := by
          simp only [Aes.encTo]; rw [if_neg hlt]
        rw [← e]; exact hi
      rw [if_neg (by omega), if_pos (by omega), xorK k (by omega) h (r + 1) (by omega) _ l2 o2, Option.bind_some, suc64 (r + 1) (by omega)]
      exact hi2
theorem enc_eq {keys : List (List Int)} (h : Aes.keysOk keys) (h0 : 0 < keys.length) (hn : keys.length ≤ 1000) (k : Nat) (hk : 1200 ≤ k) (s : ByteArray) (hs : s.size = 16) :
    spec_l01Encrypt.f k (keys.map strOfNums) Aes.subs s = some (strOfNums (Aes.encL keys (bytesL s))) := by
  have hl : (keys.map strOfNums).length = keys.length := List.length_map ..
  have e := enc_run h hn (bytesL s) (ok_bytesL s) (keys.length - 1) k 0 (by omega) (by omega)
  have x := xorK k (by omega) h 0 h0 (bytesL s) (by rw [bytesL_length, hs]) (ok_bytesL s)
  have x' : spec_l01Xor.f k (bytesL s) (rdOf ByteArray.empty (keys.map strOfNums) 0) = _ := x
  unfold spec_l01Encrypt.f
  rw [state_eq k (by omega) s hs, Option.bind_some, if_pos (by omega), x', Option.bind_some]
  exact e
theorem keysL_good (key : ByteArray) : Aes.keysOk (Aes.keysL (bytesL key)) := Aes.keysL_ok (ok_bytesL key)
theorem spec_keys (key : ByteArray) (hkey : key.size = 16 ∨ key.size = 32) : spec_l01Keys.f key Aes.subs = some ((Aes.keysL (bytesL key)).map strOfNums) := by
  unfold spec_l01Keys.f
  rw [if_pos ⟨rfl, hkey⟩]
end Go.Proofs.Ytfbggdlidelliaa.Pg

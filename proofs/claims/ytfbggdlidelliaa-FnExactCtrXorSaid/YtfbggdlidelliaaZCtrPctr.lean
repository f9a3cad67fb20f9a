/- The reference's stream is Md.ctrL (no program in sight). -/
import Derived.Test.YtfbggdlidelliaaZCtrPq11
import Derived.Test.YtfbggdlidelliaaZCtrPq6
import Derived.Test.YtfbggdlidelliaaZCtrPenc
import Derived.Test.YtfbggdlidelliaaZCtrMd
namespace Go.Proofs.Ytfbggdlidelliaa.Pg
open Go.RowKit Go.Proofs.Ytfbggdlidelliaa.P Go.Proofs.YtfbggdlidelliaaW.PrintWords Go.Proofs.YtfbggdlidelliaaW.PrintLast Go.Proofs.YtfbggdlidelliaaW.PrintMore
set_option linter.unusedVariables false
theorem four_eq (n : Int) : spec_l02Four.f n = some (Sha.four n) := rfl
theorem len_T (R l : List Int) (hR : R.length = l.length) (j : Nat) : (R.take j ++ l.drop j).length = l.length := by
  rw [List.length_append, List.length_take, List.length_drop, hR]; omega
theorem end_T (R l : List Int) (hR : R.length = l.length) (j : Nat) (h : l.length ≤ j) : R.take j ++ l.drop j = R := by
  rw [List.take_of_length_le (by omega), List.drop_eq_nil_of_le (by omega), List.append_nil]
theorem bt_str (E : List Int) (oE : Aes.ok E) (i : Nat) (hi : i < E.length) : bt (strOfNums E) (i : Int) = E.getD i 0 := by
  rw [← bytesL_getD _ i (by rw [str_size]; exact hi), bytesL_str E oE]
theorem ctr_step (a1 : ByteArray) (K : List ByteArray) (l R E : List Int) (hR : R.length = l.length) (hE : E.length = 16) (oE : Aes.ok E) (hl : l.length ≤ 1000000) (p ed k j : Nat) (hed : ed ≤ l.length ∧ ed ≤ p + 16) (hpj : p ≤ j) (hj : j < ed)
    (hA : R.getD j 0 = Aes.xr (l.getD j 0) (E.getD (j - p) 0)) :
    spec_l02Ctr.l1 (k + 1) a1 Aes.subs K (R.take j ++ l.drop j) (p : Int) (strOfNums E) (j : Int) = spec_l02Ctr.l1 k a1 Aes.subs K (R.take (j + 1) ++ l.drop (j + 1)) (p : Int) (strOfNums E) ((j + 1 : Nat) : Int) := by
  have hw : wrap64 ((p : Int) + 16) = ((p + 16 : Nat) : Int) := by unfold wrap64; omega
  have hw2 : wrap64 ((j : Int) - (p : Int)) = ((j - p : Nat) : Int) := by unfold wrap64; omega
  have hL := len_T R l hR j
  have e1 : (R.take j ++ l.drop j).getD j 0 = l.getD j 0 := by
    rw [List.getD_eq_getElem?_getD, td_at R l hR j (by omega)]; rfl
  have e2 := td_set R l hR j (by omega)
  rw [hA] at e2
  simp only [spec_l02Ctr.l1]
  rw [hw, hw2, if_pos (by omega), if_pos (by omega), if_pos (by omega), if_pos (by omega), if_pos (by rw [str_size]; omega), suc64 j (by omega), rdn, e1, bt_str E oE _ (by omega), Int.toNat_natCast]
  unfold Aes.xr at e2
  rw [e2]
theorem ctr_inner (a1 : ByteArray) (K : List ByteArray) (l R E : List Int) (hR : R.length = l.length) (hE : E.length = 16) (oE : Aes.ok E) (hl : l.length ≤ 1000000) (p ed : Nat) (hed : ed ≤ l.length ∧ ed ≤ p + 16 ∧ (ed = l.length ∨ ed = p + 16))
    (hA : ∀ j, p ≤ j → j < ed → R.getD j 0 = Aes.xr (l.getD j 0) (E.getD (j - p) 0)) (d : Nat) : ∀ m j, p ≤ j → j + d = ed →
    spec_l02Ctr.l1 (m + d + 1) a1 Aes.subs K (R.take j ++ l.drop j) (p : Int) (strOfNums E) (j : Int) = spec_l02Ctr.l0 m a1 Aes.subs K (R.take ed ++ l.drop ed) ((p + 16 : Nat) : Int) := by
  induction d with
  | zero =>
    intro m j hpj hj
    have hw : wrap64 ((p : Int) + 16) = ((p + 16 : Nat) : Int) := by unfold wrap64; omega
    have hL := len_T R l hR j
    obtain rfl : j = ed := by omega
    show spec_l02Ctr.l1 (m + 1) _ _ _ _ _ _ _ = _
    simp only [spec_l02Ctr.l1]
    rw [hw]
    by_cases h : j < l.length
    · rw [if_pos (by omega), if_neg (by omega)]
    · rw [if_neg (by omega)]
  | succ d ih =>
    intro m j hpj hj
    show spec_l02Ctr.l1 (m + d + 1 + 1) _ _ _ _ _ _ _ = _
    rw [ctr_step a1 K l R E hR hE oE hl p ed (m + d + 1) j ⟨hed.1, hed.2.1⟩ hpj (by omega) (hA j hpj (by omega))]
    exact ih m (j + 1) (by omega) (by omega)
theorem ctr_outer {keys : List (List Int)} (hk : Aes.keysOk keys) (h0 : 0 < keys.length) (hn : keys.length ≤ 1000) (a1 : ByteArray) (ha : a1.size = 12) (l : List Int) (ol : Aes.ok l) (hl : l.length ≤ 900000) (d : Nat) : ∀ k q, l.length ≤ 16 * q + 16 * d → 18 * d + 1300 ≤ k →
    spec_l02Ctr.l0 k a1 Aes.subs (keys.map strOfNums) ((Md.ctrL keys (bytesL a1) l).take (16 * q) ++ l.drop (16 * q)) ((16 * q : Nat) : Int) = some (Md.ctrL keys (bytesL a1) l) := by
  have hR := Md.ctrL_length keys (bytesL a1) l
  have stop : ∀ k q, l.length ≤ 16 * q → spec_l02Ctr.l0 (k + 1) a1 Aes.subs (keys.map strOfNums) ((Md.ctrL keys (bytesL a1) l).take (16 * q) ++ l.drop (16 * q)) ((16 * q : Nat) : Int) = some (Md.ctrL keys (bytesL a1) l) := fun k q h => by
    have hL := len_T _ l hR (16 * q)
    simp only [spec_l02Ctr.l0]
    rw [if_neg (by omega), end_T _ l hR _ h]
  induction d with
  | zero =>
    intro k q hq hk2
    obtain ⟨k, rfl⟩ : ∃ m, k = m + 1 := ⟨k - 1, by omega⟩
    exact stop k q (by omega)
  | succ d ih =>
    intro k q hq hk2
    obtain ⟨k, rfl⟩ : ∃ m, k = m + 1 := ⟨k - 1, by omega⟩
    by_cases hlt : 16 * q < l.length
    · have hL := len_T _ l hR (16 * q)
      have w1 : wrap64 (Int.tdiv ((16 * q : Nat) : Int) 16) = (q : Int) := by
        rw [Int.tdiv_eq_ediv_of_nonneg (Int.natCast_nonneg _), show ((16 * q : Nat) : Int) / 16 = (q : Int) from by omega]
        unfold wrap64; omega
      have w2 : wrap64 (1 + (q : Int)) = ((q + 1 : Nat) : Int) := by unfold wrap64; omega
      have hs : (a1 ++ strOfNums (Sha.four ((q + 1 : Nat) : Int))).size = 16 := by rw [ByteArray.size_append, ha, str_size]; rfl
      have hb : bytesL (a1 ++ strOfNums (Sha.four ((q + 1 : Nat) : Int))) = bytesL a1 ++ Sha.four ((q + 1 : Nat) : Int) := by
        have e : a1 ++ strOfNums (Sha.four ((q + 1 : Nat) : Int)) = strOfNums (bytesL a1 ++ Sha.four ((q + 1 : Nat) : Int)) := by
          rw [← strOfNums_append, str_bytesL]
        rw [e]
        exact bytesL_str _ (Aes.ok_append (ok_bytesL a1) (Md.four_by _))
      have e := enc_eq hk h0 hn k (by omega) _ hs
      rw [hb] at e
      have e' : spec_l01Encrypt.f k (keys.map strOfNums) Aes.subs (a1 ++ strOfNums (Sha.four ((q + 1 : Nat) : Int))) = some (strOfNums (Md.ctrB keys (bytesL a1) q)) := e
      simp only [spec_l02Ctr.l0]
      rw [if_pos (by omega), w1, w2, four_eq, Option.bind_some, if_pos (by rw [ha, str_size]; show 12 + 4 ≤ _; omega), e', Option.bind_some]
      obtain ⟨ed, hed⟩ : ∃ x, x = if l.length < 16 * q + 16 then l.length else 16 * q + 16 := ⟨_, rfl⟩
      have hed2 : ed ≤ l.length ∧ ed ≤ 16 * q + 16 ∧ (ed = l.length ∨ ed = 16 * q + 16) ∧ 16 * q < ed := by rw [hed]; split <;> omega
      have oE := Md.ctrB_ok hk (ok_bytesL a1) q
      have inn := ctr_inner a1 (keys.map strOfNums) l _ (Md.ctrB keys (bytesL a1) q) hR (Md.ctrB_length _ _ _) oE (by omega) (16 * q) ed ⟨hed2.1, hed2.2.1, hed2.2.2.1⟩ (fun j h1 h2 => by
        rw [Md.ctrL_at _ _ _ j (by omega), show j / 16 = q from by omega, show j % 16 = j - 16 * q from by omega]) (ed - 16 * q) (k - (ed - 16 * q) - 1) (16 * q) (Nat.le_refl _) (by omega)
      rw [show k - (ed - 16 * q) - 1 + (ed - 16 * q) + 1 = k from by omega] at inn
      rw [inn]
      have eT : (Md.ctrL keys (bytesL a1) l).take ed ++ l.drop ed = (Md.ctrL keys (bytesL a1) l).take (16 * (q + 1)) ++ l.drop (16 * (q + 1)) := by
        rcases hed2.2.2.1 with h | h
        · rw [end_T _ l hR _ (by omega), end_T _ l hR _ (by omega)]
        · rw [h, show 16 * (q + 1) = 16 * q + 16 from by omega]
      rw [eT]
      exact ih (k - (ed - 16 * q) - 1) (q + 1) (by omega) (by omega)
    · exact stop k q (by omega)
theorem sctr_eq (k : Nat) (a0 a1 : ByteArray) (l : List Int) (ol : Aes.ok l) (h0 : a0.size = 16 ∨ a0.size = 32) (h1 : a1.size = 12) (hl : l.length ≤ 900000) (hk : 2 * l.length + 2000 ≤ k) :
    spec_l02Ctr.f k a0 a1 l = some (Md.ctrL (Aes.keysL (bytesL a0)) (bytesL a1) l) := by
  unfold spec_l02Ctr.f
  rw [table_at k (by omega), Option.bind_some, spec_keys a0 h0, Option.bind_some, Option.bind_some, if_pos (by simp; omega)]
  exact ctr_outer (keysL_good a0) (by rw [Aes.keysL_length]; omega) (by rw [Aes.keysL_length, bytesL_length]; omega) a1 h1 l ol hl (l.length / 16 + 1) k 0 (by omega) (by omega)
end Go.Proofs.Ytfbggdlidelliaa.Pg

/- Laid by a program of this session: of Pctr, Psealx, Rl, Psealb, Psealw what this law uses. -/
import Derived.Test.YtlfpogbonmddmaaZObPt8
import Derived.Test.YtlfpogbonmddmaaZObPt15
import Derived.Test.YtlfpogbonmddmaaZObM24
import Derived.Test.YtlfpogbonmddmaaZObM9
import Derived.Deep.MidRow
import Derived.Great.BuildSlice
import Derived.Test.YtlfpogbonmddmaaProg
import Derived.RegionTactic
import Derived.BigRegion
import Derived.Test.YtlfpogbonmddmaaZObPt9
namespace Go.Proofs.Ytlfpogbonmddmaa.Pg
open Go.RowKit Go.Proofs.Ytlfpogbonmddmaa.P Go.Proofs.YtlfpogbonmddmaaW.PrintWords Go.Proofs.YtlfpogbonmddmaaW.PrintLast Go.Proofs.YtlfpogbonmddmaaW.PrintMore
set_option linter.unusedVariables false
theorem four_eq (n : Int) : spec_l02Four.f n = some (Sha.four n) := rfl
theorem len_T (R l : List Int) (hR : R.length = l.length) (j : Nat) : (R.take j ++ l.drop j).length = l.length := by
  rw [List.length_append, List.length_take, List.length_drop, hR]; omega
theorem end_T (R l : List Int) (hR : R.length = l.length) (j : Nat) (h : l.length ≤ j) : R.take j ++ l.drop j = R := by
  rw [List.take_of_length_le (by omega), List.drop_eq_nil_of_le (by omega), List.append_nil]
theorem bt_str (E : List Int) (oE : Aes.ok E) (i : Nat) (hi : i < E.length) : bt (strOfNums E) (i : Int) = E.getD i 0 := by
  rw [← bytesL_getD _ i (by rw [str_size]; exact hi), bytesL_str E oE]
theorem ctr_step (a1 : ByteArray) (K : List ByteArray) (l R E : List Int) (hR : R.length = l.length) (hE : E.length = 16) (oE : Aes.ok E) (hl : l.length ≤ 1000000) (p ed k j : Nat) (hed : ed ≤ l.length ∧ ed ≤ p + 16) (hpj : p ≤ j) (hj : j < ed)
    (hA : R.getD j 0 = Aes.xr (l.getD j 0) (E.getD (j - p) 0)) :
    spec_l02Ctr.l1 (k + 1) a1 Aes.subs K (R.take j ++ l.drop j) (p : Int) (strOfNums E) (j : Int) = spec_l02Ctr.l1 k a1 Aes.subs K (R.take (j + 1) ++ l.drop (j + 1)) (p : Int) (strOfNums E) ((j + 1 : Nat) : Int) := by
  have hw : wrap64 ((p : Int) + 16) = ((p + 16 : Nat) : Int) := by unfold wrap64; omega
  have hw2 : wrap64 ((j : Int) - (p : Int)) = ((j - p : Nat) : Int) := by unfold wrap64; omega
  have hL := len_T R l hR j
  have e1 : (R.take j ++ l.drop j).getD j 0 = l.getD j 0 := by
    rw [List.getD_eq_getElem?_getD, td_at R l hR j (by omega)]; rfl
  have e2 := td_set R l hR j (by omega)
  rw [hA] at e2
  simp only [spec_l02Ctr.l1]
  rw [hw, hw2, if_pos (by omega), if_pos (by omega), if_pos (by omega), if_pos (by omega), if_pos (by rw [str_size]; omega), suc64 j (by omega), rdn, e1, bt_str E oE _ (by omega), Int.toNat_natCast]
  unfold Aes.xr at e2
  rw [e2]
theorem ctr_inner (a1 : ByteArray) (K : List ByteArray) (l R E : List Int) (hR : R.length = l.length) (hE : E.length = 16) (oE : Aes.ok E) (hl : l.length ≤ 1000000) (p ed : Nat) (hed : ed ≤ l.length ∧ ed ≤ p + 16 ∧ (ed = l.length ∨ ed = p + 16))
    (hA : ∀ j, p ≤ j → j < ed → R.getD j 0 = Aes.xr (l.getD j 0) (E.getD (j - p) 0)) (d : Nat) : ∀ m j, p ≤ j → j + d = ed →
    spec_l02Ctr.l1 (m + d + 1) a1 Aes.subs K (R.take j ++ l.drop j) (p : Int) (strOfNums E) (j : Int) = spec_l02Ctr.l0 m a1 Aes.subs K (R.take ed ++ l.drop ed) ((p + 16 : Nat) : Int) := by
  induction d with
  | zero =>
    intro m j hpj hj
    have hw : wrap64 ((p : Int) + 16) = ((p + 16 : Nat) : Int) := by unfold wrap64; omega
    have hL := len_T R l hR j
    obtain rfl : j = ed := by omega
    show spec_l02Ctr.l1 (m + 1) _ _ _ _ _ _ _ = _
    simp only [spec_l02Ctr.l1]
    rw [hw]
    by_cases h : j < l.length
    · rw [if_pos (by omega), if_neg (by omega)]
    · rw [if_neg (by omega)]
  | succ d ih =>
    intro m j hpj hj
    show spec_l02Ctr.l1 (m + d + 1 + 1) _ _ _ _ _ _ _ = _
    rw [ctr_step a1 K l R E hR hE oE hl p ed (m + d + 1) j ⟨hed.1, hed.2.1⟩ hpj (by omega) (hA j hpj (by omega))]
    exact ih m (j + 1) (by omega) (by omega)
theorem ctr_outer {keys : List (List Int)} (hk : Aes.keysOk keys) (h0 : 0 < keys.length) (hn : keys.length ≤ 1000) (a1 : ByteArray) (ha : a1.size = 12) (l : List Int) (ol : Aes.ok l) (hl : l.length ≤ 900000) (d : Nat) : ∀ k q, l.length ≤ 16 * q + 16 * d → 18 * d + 1300 ≤ k →
    spec_l02Ctr.l0 k a1 Aes.subs (keys.map strOfNums) ((Md.ctrL keys (bytesL a1) l).take (16 * q) ++ l.drop (16 * q)) ((16 * q : Nat) : Int) = some (Md.ctrL keys (bytesL a1) l) := by
  have hR := Md.ctrL_length keys (bytesL a1) l
  have stop : ∀ k q, l.length ≤ 16 * q → spec_l02Ctr.l0 (k + 1) a1 Aes.subs (keys.map strOfNums) ((Md.ctrL keys (bytesL a1) l).take (16 * q) ++ l.drop (16 * q)) ((16 * q : Nat) : Int) = some (Md.ctrL keys (bytesL a1) l) := fun k q h => by
    have hL := len_T _ l hR (16 * q)
    simp only [spec_l02Ctr.l0]
    rw [if_neg (by omega), end_T _ l hR _ h]
  induction d with
  | zero =>
    intro k q hq hk2
    obtain ⟨k, rfl⟩ : ∃ m, k = m + 1 := ⟨k - 1, by omega⟩
    exact stop k q (by omega)
  | succ d ih =>
    intro k q hq hk2
    obtain ⟨k, rfl⟩ : ∃ m, k = m + 1 := ⟨k - 1, by omega⟩
    by_cases hlt : 16 * q < l.length
    · have hL := len_T _ l hR (16 * q)
      have w1 : wrap64 (Int.tdiv ((16 * q : Nat) : Int) 16) = (q : Int) := by
        rw [Int.tdiv_eq_ediv_of_nonneg (Int.natCast_nonneg _), show ((16 * q : Nat) : Int) / 16 = (q : Int) from by omega]
        unfold wrap64; omega
      have w2 : wrap64 (1 + (q : Int)) = ((q + 1 : Nat) : Int) := by unfold wrap64; omega
      have hs : (a1 ++ strOfNums (Sha.four ((q + 1 : Nat) : Int))).size = 16 := by rw [ByteArray.size_append, ha, str_size]; rfl
      have hb : bytesL (a1 ++ strOfNums (Sha.four ((q + 1 : Nat) : Int))) = bytesL a1 ++ Sha.four ((q + 1 : Nat) : Int) := by
        have e : a1 ++ strOfNums (Sha.four ((q + 1 : Nat) : Int)) = strOfNums (bytesL a1 ++ Sha.four ((q + 1 : Nat) : Int)) := by
          rw [← strOfNums_append, str_bytesL]
        rw [e]
        exact bytesL_str _ (Aes.ok_append (ok_bytesL a1) (Md.four_by _))
      have e := enc_eq hk h0 hn k (by omega) _ hs
      rw [hb] at e
      have e' : spec_l01Encrypt.f k (keys.map strOfNums) Aes.subs (a1 ++ strOfNums (Sha.four ((q + 1 : Nat) : Int))) = some (strOfNums (Md.ctrB keys (bytesL a1) q)) := e
      simp only [spec_l02Ctr.l0]
      rw [if_pos (by omega), w1, w2, four_eq, Option.bind_some, if_pos (by rw [ha, str_size]; show 12 + 4 ≤ _; omega), e', Option.bind_some]
      obtain ⟨ed, hed⟩ : ∃ x, x = if l.length < 16 * q + 16 then l.length else 16 * q + 16 := ⟨_, rfl⟩
      have hed2 : ed ≤ l.length ∧ ed ≤ 16 * q + 16 ∧ (ed = l.length ∨ ed = 16 * q + 16) ∧ 16 * q < ed := by rw [hed]; split <;> omega
      have oE := Md.ctrB_ok hk (ok_bytesL a1) q
      have inn := ctr_inner a1 (keys.map strOfNums) l _ (Md.ctrB keys (bytesL a1) q) hR (Md.ctrB_length _ _ _) oE (by omega) (16 * q) ed ⟨hed2.1, hed2.2.1, hed2.2.2.1⟩ (fun j h1 h2 => by
        rw [Md.ctrL_at _ _ _ j (by omega), show j / 16 = q from by omega, show j % 16 = j - 16 * q from by omega]) (ed - 16 * q) (k - (ed - 16 * q) - 1) (16 * q) (Nat.le_refl _) (by omega)
      rw [show k - (ed - 16 * q) - 1 + (ed - 16 * q) + 1 = k from by omega] at inn
      rw [inn]
      have eT : (Md.ctrL keys (bytesL a1) l).take ed ++ l.drop ed = (Md.ctrL keys (bytesL a1) l).take (16 * (q + 1)) ++ l.drop (16 * (q + 1)) := by
        rcases hed2.2.2.1 with h | h
        · rw [end_T _ l hR _ (by omega), end_T _ l hR _ (by omega)]
        · rw [h, show 16 * (q + 1) = 16 * q + 16 from by omega]
      rw [eT]
      exact ih (k - (ed - 16 * q) - 1) (q + 1) (by omega) (by omega)
    · exact stop k q (by omega)
theorem sctr_eq (k : Nat) (a0 a1 : ByteArray) (l : List Int) (ol : Aes.ok l) (h0 : a0.size = 16 ∨ a0.size = 32) (h1 : a1.size = 12) (hl : l.length ≤ 900000) (hk : 2 * l.length + 2000 ≤ k) :
    spec_l02Ctr.f k a0 a1 l = some (Md.ctrL (Aes.keysL (bytesL a0)) (bytesL a1) l) := by
  unfold spec_l02Ctr.f
  rw [table_at k (by omega), Option.bind_some, spec_keys a0 h0, Option.bind_some, Option.bind_some, if_pos (by simp; omega)]
  exact ctr_outer (keysL_good a0) (by rw [Aes.keysL_length]; omega) (by rw [Aes.keysL_length, bytesL_length]; omega) a1 h1 l ol hl (l.length / 16 + 1) k 0 (by omega) (by omega)
theorem ictr_eq (a0 a1 : ByteArray) (l : List Int) (ol : Aes.ok l) (h0 : a0.size = 16 ∨ a0.size = 32) (h1 : a1.size = 12) (hl : l.length ≤ 900000) : impl_ctr.f a0 a1 l = some (Md.ctrL (Aes.keysL (bytesL a0)) (bytesL a1) l) := by
  unfold impl_ctr.f
  rw [if_pos ⟨u8b_of ol, h0, h1, by omega⟩]
end Go.Proofs.Ytlfpogbonmddmaa.Pg
namespace Go.Proofs.Ytlfpogbonmddmaa.Pg
open Go.RowKit Go.Proofs.Ytlfpogbonmddmaa.P Go.Proofs.YtlfpogbonmddmaaW.PrintWords Go.Proofs.YtlfpogbonmddmaaW.PrintLast Go.Proofs.YtlfpogbonmddmaaW.PrintMore
set_option linter.unusedVariables false
set_option linter.unusedSimpArgs false
theorem sx_bytesOf4 (k : Nat) (n : Int) (hk : 5 < k) : impl_bytesOf.f k n 4 = some (strOfNums (Sha.four n)) := by
  obtain ⟨k, rfl⟩ : ∃ m, k = m + 6 := ⟨k - 6, by omega⟩
  have w3 : wrap64 3 = 3 := by unfold wrap64; omega
  have w2 : wrap64 2 = 2 := by unfold wrap64; omega
  have w1 : wrap64 1 = 1 := by unfold wrap64; omega
  have w0 : wrap64 0 = 0 := by unfold wrap64; omega
  have wm : wrap64 (-1) = -1 := by unfold wrap64; omega
  have e : n / 65536 / 256 = n / 16777216 := by omega
  have e2 : n / 256 / 256 = n / 65536 := by omega
  simp [impl_bytesOf.f, impl_bytesOf.l0, w3, w2, w1, w0, wm, Sha.four, List.replicate, e, e2]
def kE (key : ByteArray) : List Int := (keysK key).take 32
def kM (key : ByteArray) : List Int := (keysK key).drop 32
theorem u8ok_keysK (s : ByteArray) : u8ok (keysK s) := fun x hx => by
  rw [keysK, exp_take _ _ 64 2 (by decide) (by decide)] at hx
  exact (exp_u8 _ _ _).1 x (List.mem_of_mem_take hx)
theorem kE_ok (key : ByteArray) : u8ok (kE key) ∧ (kE key).length = 32 := ⟨fun x hx => u8ok_keysK key x (List.mem_of_mem_take hx), by rw [kE, List.length_take, keysK_length]; rfl⟩
theorem kM_ok (key : ByteArray) : u8ok (kM key) ∧ (kM key).length = 32 := ⟨fun x hx => u8ok_keysK key x (List.mem_of_mem_drop hx), by rw [kM, List.length_drop, keysK_length]⟩
def sealE (key nonce : ByteArray) (b : List Int) : List Int := Md.ctrL (Aes.keysL (kE key)) (bytesL nonce) b
def sealT (key nonce : ByteArray) (x e : List Int) : List Int := (Sha.hmacL (kM key) (tagAll nonce x e)).take 16
def sealL (key nonce : ByteArray) (x b : List Int) : List Int := sealE key nonce b ++ sealT key nonce x (sealE key nonce b)
def openL (key nonce : ByteArray) (x b : List Int) : Option (List Int) :=
  if b.length < 16 then none else if sealT key nonce x (b.take (b.length - 16)) = b.drop (b.length - 16) then some (sealE key nonce (b.take (b.length - 16))) else none
theorem sealE_length (key nonce : ByteArray) (b : List Int) : (sealE key nonce b).length = b.length := Md.ctrL_length _ _ _
theorem sealE_ok (key nonce : ByteArray) {b : List Int} (h : u8ok b) : u8ok (sealE key nonce b) := Md.ctrL_ok (Aes.keysL_ok (kE_ok key).1) (u8ok_bytesL nonce) h
theorem sealT_length (key nonce : ByteArray) (x e : List Int) : (sealT key nonce x e).length = 16 := by rw [sealT, List.length_take, hmacL_length]; rfl
theorem sealT_ok (key nonce : ByteArray) (x e : List Int) : u8ok (sealT key nonce x e) := fun y hy => u8ok_hmacL _ _ y (List.mem_of_mem_take hy)
theorem sealL_length (key nonce : ByteArray) (x b : List Int) : (sealL key nonce x b).length = b.length + 16 := by rw [sealL, List.length_append, sealE_length, sealT_length]
theorem sealL_ok (key nonce : ByteArray) (x : List Int) {b : List Int} (h : u8ok b) : u8ok (sealL key nonce x b) := u8ok_append (sealE_ok key nonce h) (sealT_ok _ _ _ _)
theorem tag_eq (k : Nat) (n : ByteArray) (m x e : List Int) (um : u8ok m) (ux : u8ok x) (ue : u8ok e) (hm : m.length = 32) (hn : n.size ≤ 1048576) (hx : x.length ≤ 1048576) (he : e.length ≤ 1048576) (hk : 10 ≤ k) :
    impl_tag.f k (strOfNums m) n (strOfNums x) (strOfNums e) = some (strOfNums ((Sha.hmacL m (tagAll n x e)).take 16)) := by
  obtain ⟨k, rfl⟩ : ∃ j, k = j + 1 := ⟨k - 1, by omega⟩
  have hF : (Sha.four (x.length : Int)).length = 4 := rfl
  have en : n = strOfNums (bytesL n) := (str_bytesL n).symm
  have hall : tagAll n x e = ((bytesL n ++ Sha.four (x.length : Int)) ++ x) ++ e := rfl
  have hlen : (tagAll n x e).length ≤ 4000000 := by rw [hall]; simp only [List.length_append, bytesL_length, hF]; omega
  have hu : u8ok (tagAll n x e) := u8ok_append (u8ok_append (u8ok_append (u8ok_bytesL n) (u8ok_four _)) ux) ue
  unfold impl_tag.f
  rw [size_strOfNums, sx_bytesOf4 _ _ (by omega), Option.bind_some]
  have e1 : n ++ strOfNums (Sha.four (x.length : Int)) = strOfNums (bytesL n ++ Sha.four (x.length : Int)) := by
    rw [← str_app, str_bytesL]
  rw [e1, str_app, str_app, ← hall, size_strOfNums, size_strOfNums, size_strOfNums, size_strOfNums]
  simp only [List.length_append, bytesL_length, hF]
  rw [if_pos (by omega), if_pos (by omega), if_pos (by omega), hmac_eq k m (tagAll n x e) um (by omega) hu (by omega), Option.bind_some, if_pos (by decide), if_pos (by rw [size_strOfNums, hmacL_length]; decide), str_extract]
theorem ctr32 (key nonce : ByteArray) (b : List Int) (ub : u8ok b) (hn : nonce.size = 12) (hb : b.length ≤ 65536) : impl_ctr.f (strOfNums (kE key)) nonce b = some (sealE key nonce b) := by
  rw [ictr_eq _ _ _ ub (.inr (by rw [size_strOfNums]; exact (kE_ok key).2)) hn (by omega), bytesL_str _ (kE_ok key).1]
  rfl
theorem sctr32 (k : Nat) (key nonce : ByteArray) (b : List Int) (ub : u8ok b) (hn : nonce.size = 12) (hb : b.length ≤ 65536) (hk : 200000 ≤ k) : spec_l02Ctr.f k (strOfNums (kE key)) nonce b = some (sealE key nonce b) := by
  rw [sctr_eq k _ _ _ ub (.inr (by rw [size_strOfNums]; exact (kE_ok key).2)) hn (by omega) (by omega), bytesL_str _ (kE_ok key).1]
  rfl
theorem iseal_eq (key nonce : ByteArray) (x b : List Int) (ux : u8ok x) (ub : u8ok b) (hk : key.size = 32) (hn : nonce.size = 12) (hx : x.length ≤ 65536) (hb : b.length ≤ 65536) :
    impl_seal.f key nonce (strOfNums x) (strOfNums b) = some (strOfNums (sealL key nonce x b)) := by
  unfold impl_seal.f
  have e1 := sealKeys_eq (300000 - 264) key (by omega)
  rw [show 300000 - 264 + 264 = 300000 from rfl] at e1
  rw [e1, Option.bind_some]
  show (impl_ctr.f (strOfNums (kE key)) nonce (bytesL (strOfNums b))).bind _ = _
  rw [bytesL_str b ub, ctr32 key nonce b ub hn hb, Option.bind_some]
  show (impl_tag.f 300000 (strOfNums (kM key)) nonce (strOfNums x) (strOfNums (sealE key nonce b))).bind _ = _
  rw [tag_eq _ _ _ _ _ (kM_ok key).1 ux (sealE_ok key nonce ub) (kM_ok key).2 (by omega) (by omega) (by rw [sealE_length]; omega) (by decide), Option.bind_some]
  show (if (sealE key nonce b).length + (strOfNums (sealT key nonce x (sealE key nonce b))).size ≤ 4000000 then some (strOfNums (sealE key nonce b) ++ strOfNums (sealT key nonce x (sealE key nonce b))) else none) = _
  rw [if_pos (by rw [size_strOfNums, sealT_length, sealE_length]; omega), str_app]
  rfl
theorem sseal_eq (k : Nat) (key nonce : ByteArray) (x b : List Int) (ux : u8ok x) (ub : u8ok b) (hk : key.size = 32) (hn : nonce.size = 12) (hx : x.length ≤ 65536) (hb : b.length ≤ 65536) (hkk : 200000 ≤ k) :
    spec_l04Seal.f k key nonce x b = some (sealL key nonce x b) := by
  unfold spec_l04Seal.f
  rw [spec_sealKeys_eq key (by omega), Option.bind_some]
  show (spec_l02Ctr.f k (strOfNums (kE key)) nonce b).bind _ = _
  rw [sctr32 k key nonce b ub hn hb hkk, Option.bind_some]
  show (spec_l04Tag.f (strOfNums (kM key)) nonce x (sealE key nonce b)).bind _ = _
  unfold spec_l04Tag.f
  rw [if_pos ⟨u8b_of ux, u8b_of (sealE_ok key nonce ub), by rw [size_strOfNums, (kM_ok key).2]; decide, by omega, by omega, by rw [sealE_length]; omega⟩, bytesL_str _ (kM_ok key).1, Option.bind_some]
  show (if (sealE key nonce b).length + (strOfNums (sealT key nonce x (sealE key nonce b))).size < 140737488355328 then some (sealE key nonce b ++ bytesOf (strOfNums (sealT key nonce x (sealE key nonce b)))) else none) = _
  rw [if_pos (by rw [size_strOfNums, sealT_length, sealE_length]; omega)]
  rw [show bytesOf (strOfNums (sealT key nonce x (sealE key nonce b))) = sealT key nonce x (sealE key nonce b) from bytesL_str _ (sealT_ok _ _ _ _)]
  rfl
theorem openL_ok {key nonce : ByteArray} {x b r : List Int} (ub : u8ok b) (h : openL key nonce x b = some r) : u8ok r ∧ r.length ≤ b.length := by
  unfold openL at h
  split at h
  · cases h
  · split at h
    · injection h with h
      subst h
      exact ⟨sealE_ok key nonce (fun y hy => ub y (List.mem_of_mem_take hy)), by rw [sealE_length, List.length_take]; omega⟩
    · cases h
theorem toList_str (l m : List Int) (ul : u8ok l) (um : u8ok m) : (strOfNums l).toList = (strOfNums m).toList ↔ l = m := by
  rw [← beq_iff_eq, strEq l m ul um, beq_iff_eq]
theorem str_cut (l : List Int) (n : Nat) : (strOfNums l).extract n l.length = strOfNums (l.drop n) := by
  rw [str_extract2, List.take_length]
set_option maxHeartbeats 2000000 in
theorem iopen_eq (key nonce : ByteArray) (x b : List Int) (ux : u8ok x) (ub : u8ok b) (hk : key.size = 32) (hn : nonce.size = 12) (hx : x.length ≤ 65536) (hb : b.length ≤ 65536) :
    impl_unseal.f key nonce (strOfNums x) (strOfNums b) = some (match openL key nonce x b with | some r => (strOfNums r, true) | none => (⟨#[]⟩, false)) := by
  unfold impl_unseal.f openL
  rw [size_strOfNums]
  by_cases h1 : b.length < 16
  · rw [if_pos h1, if_pos h1]
  rw [if_neg h1, if_neg h1, if_neg (by omega)]
  have e1 := sealKeys_eq (300000 - 264) key (by omega)
  rw [show 300000 - 264 + 264 = 300000 from rfl] at e1
  rw [e1, Option.bind_some]
  have ut : u8ok (b.take (b.length - 16)) := fun y hy => ub y (List.mem_of_mem_take hy)
  have hl : (b.take (b.length - 16)).length ≤ 65536 := by rw [List.length_take]; omega
  show (impl_tag.f 300000 (strOfNums (kM key)) nonce (strOfNums x) ((strOfNums b).extract 0 (b.length - 16))).bind _ = _
  rw [str_extract, tag_eq _ _ _ _ _ (kM_ok key).1 ux ut (kM_ok key).2 (by omega) (by omega) (by omega) (by decide), Option.bind_some]
  show (if (strOfNums (sealT key nonce x (b.take (b.length - 16)))).toList = ((strOfNums b).extract (b.length - 16) b.length).toList then (impl_ctr.f (strOfNums (kE key)) nonce (bytesL (strOfNums (b.take (b.length - 16))))).bind _ else _) = _
  rw [str_cut, bytesL_str _ ut, ctr32 key nonce _ ut hn hl, Option.bind_some]
  have hiff := toList_str (sealT key nonce x (b.take (b.length - 16))) (b.drop (b.length - 16)) (sealT_ok _ _ _ _) (fun y hy => ub y (List.mem_of_mem_drop hy))
  by_cases h2 : sealT key nonce x (b.take (b.length - 16)) = b.drop (b.length - 16)
  · rw [if_pos (hiff.2 h2), if_pos h2]
  · rw [if_neg (fun h => h2 (hiff.1 h)), if_neg h2]
set_option maxHeartbeats 2000000 in
theorem sopen_eq (key nonce : ByteArray) (x b : List Int) (ux : u8ok x) (ub : u8ok b) (hk : key.size = 32) (hn : nonce.size = 12) (hx : x.length ≤ 65536) (hb : b.length ≤ 65536) :
    spec_l04Open.f key nonce x b = some (match openL key nonce x b with | some r => (r, true) | none => ([], false)) := by
  unfold spec_l04Open.f openL
  by_cases h1 : b.length < 16
  · rw [if_pos h1, if_pos h1]
  rw [if_neg h1, if_neg h1, if_neg (by omega), spec_sealKeys_eq key (by omega), Option.bind_some]
  have ut : u8ok (b.take (b.length - 16)) := fun y hy => ub y (List.mem_of_mem_take hy)
  have hl : (b.take (b.length - 16)).length ≤ 65536 := by rw [List.length_take]; omega
  show (spec_l04Tag.f (strOfNums (kM key)) nonce x (b.take (b.length - 16))).bind _ = _
  unfold spec_l04Tag.f
  rw [if_pos ⟨u8b_of ux, u8b_of ut, by rw [size_strOfNums, (kM_ok key).2]; decide, by omega, by omega, by omega⟩, bytesL_str _ (kM_ok key).1, Option.bind_some]
  show (if (strOfNums (sealT key nonce x (b.take (b.length - 16)))).toList = (strOfNums (b.drop (b.length - 16))).toList then (spec_l02Ctr.f 300000 (strOfNums (kE key)) nonce (b.take (b.length - 16))).bind _ else _) = _
  rw [sctr32 300000 key nonce _ ut hn hl (by decide), Option.bind_some]
  have hiff := toList_str (sealT key nonce x (b.take (b.length - 16))) (b.drop (b.length - 16)) (sealT_ok _ _ _ _) (fun y hy => ub y (List.mem_of_mem_drop hy))
  by_cases h2 : sealT key nonce x (b.take (b.length - 16)) = b.drop (b.length - 16)
  · rw [if_pos (hiff.2 h2), if_pos h2]
  · rw [if_neg (fun h => h2 (hiff.1 h)), if_neg h2]
end Go.Proofs.Ytlfpogbonmddmaa.Pg
namespace Go.Proofs.Ytlfpogbonmddmaa.P
open Go.RowKit Go.Proofs.YtlfpogbonmddmaaW.PrintWords Go.Proofs.YtlfpogbonmddmaaW.PrintLast Go.Proofs.YtlfpogbonmddmaaW.PrintMore
set_option linter.unusedVariables false
set_option linter.unusedSimpArgs false
def RB (W : World) (B : Nat) (v : Value) (l : List Int) : Prop := (v = .slice none 0 0 ∧ l = []) ∨ rowB W B v l
theorem RB_nil (W : World) (B : Nat) : RB W B (.slice none 0 0) [] := .inl ⟨rfl, rfl⟩
theorem RB_below {W W' : World} {B : Nat} {v : Value} {l : List Int} (h : RB W B v l) (hb : Below W.heap.size W W') : RB W' B v l := h.imp id fun h => rowB_below h hb
theorem RB_reads {W : World} {B : Nat} {v : Value} {l : List Int} (h : RB W B v l) (hm : l.length ≤ 140737488355328) : ∃ A c, v = .slice A l.length c ∧ l.length ≤ c ∧ Kd.C (Kd.int .u8) W A l.length l := by
  rcases h with ⟨rfl, rfl⟩ | h
  · exact Kd.R_reads (Kd.R_nil (Kd.int .u8) 0 W 0 (fun _ => True))
  · obtain ⟨g, cap, rfl, hl⟩ := rowB_form h
    exact ⟨_, cap, rfl, hl, rowB_C h hm⟩
theorem rowB_setL {W : World} {B g cap : Nat} {l : List Int} (h : rowB W B (.slice (some ⟨g, 0, none⟩) l.length cap) l) (i : Nat) (hi : i < l.length) (x : Int) :
    rowB (W.setCell ⟨g, i, none⟩ (.int .u8 x)) B (.slice (some ⟨g, 0, none⟩) l.length cap) (l.set i x) := by
  obtain ⟨g2, cap2, e, hg, hl, hc, hv⟩ := h
  injection e with e1 e2 e3
  injection e1 with e1
  injection e1 with e1
  subst e1 e3
  have hw : W.setCell ⟨g, i, none⟩ (.int .u8 x) = W.setCells g i [.int .u8 x] := rfl
  have hin : (W.setCells g i [.int .u8 x]).cell? ⟨g, i, none⟩ = some (.int .u8 x) := by
    have := World.cell?_setCells_in g [.int .u8 x] i W (fun j hj => (hc _ (by simp at hj; omega)).1) 0 (by simp)
    simpa using this
  have hout : ∀ j, j ≠ i → (W.setCells g i [.int .u8 x]).cell? ⟨g, j, none⟩ = W.cell? ⟨g, j, none⟩ := fun j hj => World.cell?_setCells_out g _ _ W _ (fun _ _ => by simp only [List.length_cons, List.length_nil]; omega)
  rw [hw]
  refine ⟨g, cap, by rw [List.length_set], hg, by rw [List.length_set]; exact hl, fun j hj => ⟨?_, ?_⟩, fun j hj => ?_⟩
  · by_cases hji : j = i
    · subst hji; rw [hin]; rfl
    · rw [hout j hji]; exact (hc j hj).1
  · rw [World.frozen?_setCells]; exact (hc j hj).2
  · rw [List.length_set] at hj
    by_cases hji : j = i
    · subst hji
      rw [hin, List.getD_eq_getElem?_getD, List.getElem?_set_self hi]; rfl
    · rw [hout j hji, hv j hj, List.getD_eq_getElem?_getD, List.getD_eq_getElem?_getD, List.getElem?_set_ne (fun e => hji e.symm)]
def markTo (m : Nat) (l : List Int) (i : Nat) : List Int := (List.range i).map (fun j => ((m + j : Nat) : Int) % 256) ++ l.drop i
theorem markTo_length (m : Nat) (l : List Int) (i : Nat) (h : i ≤ l.length) : (markTo m l i).length = l.length := by simp [markTo]; omega
theorem markTo_set (m : Nat) (l : List Int) (i : Nat) (h : i < l.length) : (markTo m l i).set i (((m + i : Nat) : Int) % 256) = markTo m l (i + 1) := by
  have h1 : ((List.range i).map (fun j => ((m + j : Nat) : Int) % 256)).length = i := by simp
  unfold markTo
  rw [List.set_append_right _ _ (by rw [h1]; exact Nat.le_refl _), h1, Nat.sub_self, List.drop_eq_getElem_cons h, List.set_cons_zero, List.range_succ, List.map_append, List.map_cons, List.map_nil, List.append_assoc]
  rfl
set_option maxHeartbeats 4000000 in
theorem mark_rowB (m : Nat) (l : List Int) (g cap B : Nat) (w : World) (h : rowB w B (.slice (some ⟨g, 0, none⟩) l.length cap) l) (hB : B ≤ g) (hm : m + l.length ≤ 1000000000) :
    Calls Try.prog 18 #[.slice (some ⟨g, 0, none⟩) l.length cap, .int .i64 (m : Int)] w fun e w' => e = .returned (.int .i64 ((m + l.length : Nat) : Int)) ∧ rowB w' B (.slice (some ⟨g, 0, none⟩) l.length cap) (markTo m l l.length) ∧ (∀ k, k ≠ g → w'.heap[k]? = w.heap[k]?) ∧ Below B w w' := by
  have HL := Aside0.mk hm
  have HB := Aside0.mk hB
  have h0 : Aside0 (rowB w B (.slice (some ⟨g, 0, none⟩) l.length cap) (markTo m l 0)) := ⟨h⟩
  clear h hm hB
  go_enter Try.func18, Try.ntmps18
  go_wp2
  go_loopw [1, 5] (fun v1 v5 wr => ∃ i : Nat, i ≤ l.length ∧ v1 = .int .i64 ((m + i : Nat) : Int) ∧ v5 = .int .i64 (i : Int) ∧ Aside0 (rowB wr B (.slice (some ⟨g, 0, none⟩) l.length cap) (markTo m l i)) ∧ Aside0 (∀ k, k ≠ g → wr.heap[k]? = w.heap[k]?) ∧ Aside0 (Below B w wr)) (fun _ v5 _ => l.length - (intOf v5).toNat)
  case atStart => exact ⟨0, Nat.zero_le _, rfl, rfl, h0, ⟨fun _ _ => rfl⟩, ⟨Below.refl _ _⟩⟩
  case round =>
    obtain ⟨i, hi, rfl, rfl, HR, HK, HW⟩ := hrel
    by_cases hlt : i < l.length
    · have hR : rowB wr B (.slice (some ⟨g, 0, none⟩) (markTo m l i).length cap) (markTo m l i) := by rw [markTo_length m l i hi]; exact HR.out
      obtain ⟨g2, cap2, e2, _, hl2, hc2, hv2⟩ := id hR
      injection e2 with e1 _ e3
      injection e1 with e1
      injection e1 with e1
      subst e1 e3
      rw [markTo_length m l i hi] at hl2 hv2
      have i0 : (0 : Int) ≤ (i : Int) := Int.natCast_nonneg i
      have i1 : (i : Int) < (l.length : Int) := by omega
      have hd : decide ((i : Int) < (l.length : Int)) = true := decide_eq_true i1
      have hd2 : decide (i < l.length) = true := decide_eq_true hlt
      have cc := hv2 i hlt
      obtain ⟨x, hx⟩ : ∃ x, x = (markTo m l i).getD i 0 := ⟨_, rfl⟩
      rw [← hx] at cc
      have zz := (hc2 i (by omega)).2
      have HS := rowB_setL hR i (by rw [markTo_length m l i hi]; exact hlt) (((m + i : Nat) : Int) % 256)
      rw [markTo_set m l i hlt, markTo_length m l i hi] at HS
      have HS := Aside0.mk HS
      have HKS : Aside0 (∀ k, k ≠ g → (wr.setCell ⟨g, i, none⟩ (.int .u8 (((m + i : Nat) : Int) % 256))).heap[k]? = w.heap[k]?) := ⟨fun k hk => (Below.heap_setCell wr ⟨g, i, none⟩ _ k hk).trans (HK.out k hk)⟩
      have HWS : Aside0 (Below B w (wr.setCell ⟨g, i, none⟩ (.int .u8 (((m + i : Nat) : Int) % 256)))) := ⟨below_setCells HW.out g HB.out [.int .u8 (((m + i : Nat) : Int) % 256)] i⟩
      obtain ⟨p, hp⟩ : ∃ p : Nat, p = m + i := ⟨_, rfl⟩
      have HPE : Aside0 (p + 1 = m + (i + 1) ∧ p < 9223372036854775807 ∧ i < 9223372036854775807) := ⟨by have := HL.out; omega⟩
      rw [← hp] at HS HKS HWS ⊢
      clear hx hR hv2 hc2 hl2 hp
      go_wp2
      go_roundw
      case rel => exact ⟨i + 1, by omega, by rw [suc_natW p HPE.out.2.1, HPE.out.1], by rw [suc_natW i HPE.out.2.2], HS, HKS, HWS⟩
      case measure => rw [suc_natW i HPE.out.2.2]; simp [intOf]; omega
    · have hd : decide ((i : Int) < (l.length : Int)) = false := decide_eq_false (by omega)
      have hd2 : decide (i < l.length) = false := decide_eq_false hlt
      obtain rfl : i = l.length := by omega
      go_wp2
      go_ret
      exact ⟨rfl, HR.out, HK.out, HW.out⟩
end Go.Proofs.Ytlfpogbonmddmaa.P
namespace Go.Proofs.Ytlfpogbonmddmaa.Pg
open Go.RowKit Go.Proofs.Ytlfpogbonmddmaa.P Go.Proofs.YtlfpogbonmddmaaW.PrintWords Go.Proofs.YtlfpogbonmddmaaW.PrintLast Go.Proofs.YtlfpogbonmddmaaW.PrintMore
set_option linter.unusedVariables false
set_option linter.unusedSimpArgs false
theorem long2_s (a0 a1 : ByteArray) (b : Bool) (h : b = decide (65536 < a0.size ∨ 65536 < a1.size)) : impl_isLong_string.f [a0, a1] = some b := by
  subst h
  unfold impl_isLong_string.f
  congr 1
  simp only [List.any_cons, List.any_nil, Bool.or_false]
  rw [Bool.decide_or]
  congr 1
  · exact decide_eq_decide.2 (by omega)
  · exact decide_eq_decide.2 (by omega)
theorem longB_s (l : List Int) (b : Bool) (h : b = decide (65536 < l.length)) : impl_isLong_byte.f [l] = some b := by
  subst h
  unfold impl_isLong_byte.f
  congr 1
  simp only [List.any_cons, List.any_nil, Bool.or_false]
  exact decide_eq_decide.2 (by omega)
theorem longBB_s (l m : List Int) (b : Bool) (h : b = decide (65536 < l.length ∨ 65536 < m.length)) : impl_isLong_byte.f [l, m] = some b := by
  subst h
  unfold impl_isLong_byte.f
  congr 1
  simp only [List.any_cons, List.any_nil, Bool.or_false]
  rw [Bool.decide_or]
  congr 1
  · exact decide_eq_decide.2 (by omega)
  · exact decide_eq_decide.2 (by omega)
theorem C_two_slice {W : World} {g : Nat} {A A' : Option Addr} {n c n' c' : Nat} {xs ys : List Int} {T : TypeId} {fr : Nat × Nat} (h : W.heap[g]? = some (.cells #[.slice A n c, .slice A' n' c'] T fr)) (hn : xs.length = n) (hc : n ≤ c) (hC : Kd.C (Kd.int .u8) W A xs.length xs) (hn' : ys.length = n') (hc' : n' ≤ c') (hC' : Kd.C (Kd.int .u8) W A' ys.length ys) :
    Kd.C (Kd.slice 5 (Kd.int .u8)) W (some ⟨g, 0, none⟩) 2 [xs, ys] := by
  subst hn hn'
  refine ⟨rfl, by decide, fun _ => ⟨⟨g, 0, none⟩, rfl, fun j p hj => ?_⟩⟩
  match j, hj with
  | 0, hj =>
    obtain rfl : xs = p := by simpa using hj
    refine ⟨[.slice A xs.length c], rfl, ⟨A, c, rfl, hc, hC⟩, fun i u hu => ?_⟩
    match i, hu with
    | 0, hu =>
      obtain rfl : Value.slice A xs.length c = u := by simpa using hu
      rw [add_plain]
      simpa using cell_of_row W g 0 _ _ _ h
  | 1, hj =>
    obtain rfl : ys = p := by simpa using hj
    refine ⟨[.slice A' ys.length c'], rfl, ⟨A', c', rfl, hc', hC'⟩, fun i u hu => ?_⟩
    match i, hu with
    | 0, hu =>
      obtain rfl : Value.slice A' ys.length c' = u := by simpa using hu
      rw [add_plain]
      show W.cell? ⟨g, 1, none⟩ = _
      simpa using cell_of_row W g 1 _ _ _ h
def sealX (a0 a1 : ByteArray) (x b : List Int) : List Int × Int :=
  if 65536 < a0.size ∨ 65536 < a1.size ∨ 65536 < x.length ∨ 65520 < b.length then ([], 2) else if a0.size = 32 ∧ a1.size = 12 then (sealL a0 a1 x b, 0) else ([], 1)
def openX (a0 a1 : ByteArray) (x b : List Int) : List Int × Int :=
  if 65536 < a0.size ∨ 65536 < a1.size ∨ 65536 < x.length ∨ 65536 < b.length then ([], 2) else if a0.size = 32 ∧ a1.size = 12 then
    (if b.length < 16 then ([], 3) else match openL a0 a1 x b with | some r => (r, 0) | none => ([], 10)) else ([], 1)
set_option maxHeartbeats 4000000 in
set_option maxRecDepth 100000 in
theorem SealBytes_in (a0 a1 : ByteArray) (A2 : Option Addr) (c2 : Nat) (l2 : List Int) (A3 : Option Addr) (c3 : Nat) (l3 : List Int) (r1 : List Int) (r2 : Int) (w0 : World) (hr2 : Kd.C (Kd.int .u8) w0 A2 l2.length l2) (hc2 : l2.length ≤ c2) (hr3 : Kd.C (Kd.int .u8) w0 A3 l3.length l3) (hc3 : l3.length ≤ c3) (u2 : u8ok l2) (u3 : u8ok l3) (h : sealX a0 a1 l2 l3 = (r1, r2)) :
    Calls Try.prog 16 #[.string a0, .string a1, .slice A2 l2.length c2, .slice A3 l3.length c3] w0 fun e w' => ∃ v0_ : Value, e = .returned (.tuple #[v0_, .int .i64 r2]) ∧ RB w' w0.heap.size v0_ r1 ∧ Below w0.heap.size w0 w' := by
  unfold sealX at h
  have HR2 := Aside0.mk hr2
  have HC2 := Aside0.mk hc2
  have HR3 := Aside0.mk hr3
  have HC3 := Aside0.mk hc3
  by_cases h1 : 65536 < a0.size ∨ 65536 < a1.size
  · rw [if_pos (by omega)] at h
    obtain ⟨rfl, rfl⟩ : ([] : List Int) = r1 ∧ (2 : Int) = r2 := by simpa using h
    have HF := Aside0.mk (long2_s a0 a1 true (decide_eq_true h1).symm)
    clear h h1 hr2 hc2 hr3 hc3 u2 u3
    go_enter Try.func16, Try.ntmps16
    go_wp2_with fail
    refine (impl_isLong_string.calls _ _ [a0, a1] true _ (C_two_string (g := w0.heap.size) (T := 9) (fr := (0, 0)) (blk_new w0 _)) (Nat.le_refl _) HF.out).mono ?_
    rintro e wa ⟨rfl, hd⟩
    have HBa := Aside0.mk (below_then (below_alloc (Below.refl _ _) _) (by simp) hd.below : Below w0.heap.size w0 wa)
    clear hd
    go_wp2
    go_ret2
    exact ⟨_, rfl, RB_nil _ _, HBa.out⟩
  have HF := Aside0.mk (long2_s a0 a1 false (decide_eq_false h1).symm)
  by_cases h2 : 65536 < l2.length
  · rw [if_pos (by omega)] at h
    obtain ⟨rfl, rfl⟩ : ([] : List Int) = r1 ∧ (2 : Int) = r2 := by simpa using h
    have HF2 := Aside0.mk (longB_s l2 true (decide_eq_true h2).symm)
    clear h h1 hr2 hc2 hr3 hc3 u2 u3 h2
    go_enter Try.func16, Try.ntmps16
    go_wp2_with fail
    refine (impl_isLong_string.calls _ _ [a0, a1] false _ (C_two_string (g := w0.heap.size) (T := 9) (fr := (0, 0)) (blk_new w0 _)) (Nat.le_refl _) HF.out).mono ?_
    rintro e wa ⟨rfl, hd⟩
    have HBa := Aside0.mk (below_then (below_alloc (Below.refl _ _) _) (by simp) hd.below : Below w0.heap.size w0 wa)
    clear hd
    go_wp2_with fail
    have hC := C_one_slice (c := c2) (xs := l2) (blk_new wa (Obj.cells #[Value.slice A2 l2.length c2] 22)) rfl HC2.out (Kd.C_alloc (Kd.C_below HR2.out HBa.out) _)
    refine (impl_isLong_byte.calls _ 1 [l2] _ _ hC (Nat.le_refl _) HF2.out).mono ?_
    rintro e wb ⟨rfl, hd⟩
    have HBb := Aside0.mk (below_then (below_alloc HBa.out _) (by have := HBa.out.size; simp; omega) hd.below : Below w0.heap.size w0 wb)
    clear hd hC
    go_wp2
    go_ret2
    exact ⟨_, rfl, RB_nil _ _, HBb.out⟩
  have HF2 := Aside0.mk (longB_s l2 false (decide_eq_false h2).symm)
  by_cases h3 : 65520 < l3.length
  · rw [if_pos (by omega)] at h
    obtain ⟨rfl, rfl⟩ : ([] : List Int) = r1 ∧ (2 : Int) = r2 := by simpa using h
    have d1 : decide (65520 < (l3.length : Int)) = true := decide_eq_true (by omega)
    have d2 : decide (65520 < l3.length) = true := decide_eq_true h3
    clear h h1 hr2 hc2 hr3 hc3 u2 u3 h2 h3
    go_enter Try.func16, Try.ntmps16
    go_wp2_with fail
    refine (impl_isLong_string.calls _ _ [a0, a1] false _ (C_two_string (g := w0.heap.size) (T := 9) (fr := (0, 0)) (blk_new w0 _)) (Nat.le_refl _) HF.out).mono ?_
    rintro e wa ⟨rfl, hd⟩
    have HBa := Aside0.mk (below_then (below_alloc (Below.refl _ _) _) (by simp) hd.below : Below w0.heap.size w0 wa)
    clear hd
    go_wp2_with fail
    have hC := C_one_slice (c := c2) (xs := l2) (blk_new wa (Obj.cells #[Value.slice A2 l2.length c2] 22)) rfl HC2.out (Kd.C_alloc (Kd.C_below HR2.out HBa.out) _)
    refine (impl_isLong_byte.calls _ 1 [l2] _ _ hC (Nat.le_refl _) HF2.out).mono ?_
    rintro e wb ⟨rfl, hd⟩
    have HBb := Aside0.mk (below_then (below_alloc HBa.out _) (by have := HBa.out.size; simp; omega) hd.below : Below w0.heap.size w0 wb)
    clear hd hC
    go_wp2
    go_ret2
    exact ⟨_, rfl, RB_nil _ _, HBb.out⟩
  have d1 : decide (65520 < (l3.length : Int)) = false := decide_eq_false (by omega)
  have d2 : decide (65520 < l3.length) = false := decide_eq_false h3
  rw [if_neg (by omega)] at h
  by_cases h4 : ¬ (a0.size = 32)
  · rw [if_neg (fun h => h4 h.1)] at h
    obtain ⟨rfl, rfl⟩ : ([] : List Int) = r1 ∧ (1 : Int) = r2 := by simpa using h
    have d3 : ((a0.size : Int) != 32) = true := by rw [bne_iff_ne]; omega
    have d4 : ¬ (a0.size : Int) = 32 := by omega
    have d5 : decide ((a0.size : Int) = 32) = false := decide_eq_false d4
    have d6 : ((a0.size : Int) == 32) = false := by rw [beq_eq_false_iff_ne]; exact d4
    clear h h1 hr2 hc2 hr3 hc3 u2 u3 h4 h2 h3
    go_enter Try.func16, Try.ntmps16
    go_wp2_with fail
    refine (impl_isLong_string.calls _ _ [a0, a1] false _ (C_two_string (g := w0.heap.size) (T := 9) (fr := (0, 0)) (blk_new w0 _)) (Nat.le_refl _) HF.out).mono ?_
    rintro e wa ⟨rfl, hd⟩
    have HBa := Aside0.mk (below_then (below_alloc (Below.refl _ _) _) (by simp) hd.below : Below w0.heap.size w0 wa)
    clear hd
    go_wp2_with fail
    have hC := C_one_slice (c := c2) (xs := l2) (blk_new wa (Obj.cells #[Value.slice A2 l2.length c2] 22)) rfl HC2.out (Kd.C_alloc (Kd.C_below HR2.out HBa.out) _)
    refine (impl_isLong_byte.calls _ 1 [l2] _ _ hC (Nat.le_refl _) HF2.out).mono ?_
    rintro e wb ⟨rfl, hd⟩
    have HBb := Aside0.mk (below_then (below_alloc HBa.out _) (by have := HBa.out.size; simp; omega) hd.below : Below w0.heap.size w0 wb)
    clear hd hC
    go_wp2
    go_ret2
    exact ⟨_, rfl, RB_nil _ _, HBb.out⟩
  replace h4 := Classical.not_not.1 h4
  have e3 : ((a0.size : Int) != 32) = false := by rw [h4]; rfl
  have e4 : (a0.size : Int) = 32 := by omega
  by_cases h5 : ¬ (a1.size = 12)
  · rw [if_neg (fun h => h5 h.2)] at h
    obtain ⟨rfl, rfl⟩ : ([] : List Int) = r1 ∧ (1 : Int) = r2 := by simpa using h
    have d3 : ((a1.size : Int) != 12) = true := by rw [bne_iff_ne]; omega
    have d4 : ¬ (a1.size : Int) = 12 := by omega
    have d5 : decide ((a1.size : Int) = 12) = false := decide_eq_false d4
    have d6 : ((a1.size : Int) == 12) = false := by rw [beq_eq_false_iff_ne]; exact d4
    clear h h1 hr2 hc2 hr3 hc3 u2 u3 h4 h5 h2 h3
    go_enter Try.func16, Try.ntmps16
    go_wp2_with fail
    refine (impl_isLong_string.calls _ _ [a0, a1] false _ (C_two_string (g := w0.heap.size) (T := 9) (fr := (0, 0)) (blk_new w0 _)) (Nat.le_refl _) HF.out).mono ?_
    rintro e wa ⟨rfl, hd⟩
    have HBa := Aside0.mk (below_then (below_alloc (Below.refl _ _) _) (by simp) hd.below : Below w0.heap.size w0 wa)
    clear hd
    go_wp2_with fail
    have hC := C_one_slice (c := c2) (xs := l2) (blk_new wa (Obj.cells #[Value.slice A2 l2.length c2] 22)) rfl HC2.out (Kd.C_alloc (Kd.C_below HR2.out HBa.out) _)
    refine (impl_isLong_byte.calls _ 1 [l2] _ _ hC (Nat.le_refl _) HF2.out).mono ?_
    rintro e wb ⟨rfl, hd⟩
    have HBb := Aside0.mk (below_then (below_alloc HBa.out _) (by have := HBa.out.size; simp; omega) hd.below : Below w0.heap.size w0 wb)
    clear hd hC
    go_wp2
    go_ret2
    exact ⟨_, rfl, RB_nil _ _, HBb.out⟩
  replace h5 := Classical.not_not.1 h5
  have e5 : ((a1.size : Int) != 12) = false := by rw [h5]; rfl
  have e6 : (a1.size : Int) = 12 := by omega
  rw [if_pos ⟨h4, h5⟩] at h
  obtain ⟨rfl, rfl⟩ : sealL a0 a1 l2 l3 = r1 ∧ (0 : Int) = r2 := by simpa using h
  have HS : Aside0 (impl_seal.f a0 a1 (strOfNums l2) (strOfNums l3) = some (strOfNums (sealL a0 a1 l2 l3))) := ⟨iseal_eq a0 a1 l2 l3 u2 u3 h4 h5 (by omega) (by omega)⟩
  have HSL : Aside0 ((sealL a0 a1 l2 l3).length ≤ 70000) := ⟨by rw [sealL_length]; omega⟩
  have HSU : Aside0 (u8ok (sealL a0 a1 l2 l3)) := ⟨sealL_ok a0 a1 l2 u3⟩
  obtain ⟨L, hL⟩ : ∃ L, L = sealL a0 a1 l2 l3 := ⟨_, rfl⟩
  rw [← hL] at HS HSL HSU ⊢
  clear hL
  clear h h1 hr2 hc2 hr3 hc3 u2 u3 h2 h3 h4 h5
  go_enter Try.func16, Try.ntmps16
  go_wp2_with fail
  refine (impl_isLong_string.calls _ _ [a0, a1] false _ (C_two_string (g := w0.heap.size) (T := 9) (fr := (0, 0)) (blk_new w0 _)) (Nat.le_refl _) HF.out).mono ?_
  rintro e wa ⟨rfl, hd⟩
  have HBa := Aside0.mk (below_then (below_alloc (Below.refl _ _) _) (by simp) hd.below : Below w0.heap.size w0 wa)
  clear hd
  go_wp2_with fail
  have hC := C_one_slice (c := c2) (xs := l2) (blk_new wa (Obj.cells #[Value.slice A2 l2.length c2] 22)) rfl HC2.out (Kd.C_alloc (Kd.C_below HR2.out HBa.out) _)
  refine (impl_isLong_byte.calls _ 1 [l2] _ _ hC (Nat.le_refl _) HF2.out).mono ?_
  rintro e wb ⟨rfl, hd⟩
  have HBb := Aside0.mk (below_then (below_alloc HBa.out _) (by have := HBa.out.size; simp; omega) hd.below : Below w0.heap.size w0 wb)
  clear hd hC
  have k2 := Kd.C_string (P := Try.prog) (dst := 9) (src := 22) (c := c2) Try.underlying22 Try.underlying5 Try.underlying9 (Kd.C_below HR2.out HBb.out)
  have k3 := Kd.C_string (P := Try.prog) (dst := 9) (src := 22) (c := c3) Try.underlying22 Try.underlying5 Try.underlying9 (Kd.C_below HR3.out HBb.out)
  go_wp2_with fail
  refine (impl_seal.calls a0 a1 (strOfNums l2) (strOfNums l3) (strOfNums L) _ HS.out).mono ?_
  rintro e wd ⟨rfl, hb⟩
  have HBd := Aside0.mk (HBb.out.trans (hb.mono HBb.out.size))
  clear hb k2 k3
  have hsz : (strOfNums L).size = L.length := str_size L
  have kc := Lib.run_convert_string_bytes (P := Try.prog) wd 9 22 5 (strOfNums L) Try.underlying9 Try.underlying22 Try.underlying5
  have HRB := Aside0.mk (conv_rowB wd w0.heap.size 5 (strOfNums L) HBd.out.size)
  have HBW := Aside0.mk (Go.Proofs.Ytlfpogbonmddmaa.P.bytes_below HBd.out HBd.out.size 5 (strOfNums L))
  rw [bytesL_str L HSU.out] at HRB
  generalize Lib.bytesWorld wd 5 (strOfNums L) = WE at kc HRB HBW
  generalize grownCap wd (strOfNums L).size 0 5 = cE at kc HRB
  clear hsz
  go_wp2
  go_ret2
  exact ⟨_, rfl, .inr HRB.out, HBW.out⟩
set_option maxHeartbeats 4000000 in
set_option maxRecDepth 100000 in
theorem OpenBytes_in (a0 a1 : ByteArray) (A2 : Option Addr) (c2 : Nat) (l2 : List Int) (A3 : Option Addr) (c3 : Nat) (l3 : List Int) (r1 : List Int) (r2 : Int) (w0 : World) (hr2 : Kd.C (Kd.int .u8) w0 A2 l2.length l2) (hc2 : l2.length ≤ c2) (hr3 : Kd.C (Kd.int .u8) w0 A3 l3.length l3) (hc3 : l3.length ≤ c3) (u2 : u8ok l2) (u3 : u8ok l3) (h : openX a0 a1 l2 l3 = (r1, r2)) :
    Calls Try.prog 21 #[.string a0, .string a1, .slice A2 l2.length c2, .slice A3 l3.length c3] w0 fun e w' => ∃ v0_ : Value, e = .returned (.tuple #[v0_, .int .i64 r2]) ∧ RB w' w0.heap.size v0_ r1 ∧ Below w0.heap.size w0 w' := by
  unfold openX at h
  have HR2 := Aside0.mk hr2
  have HC2 := Aside0.mk hc2
  have HR3 := Aside0.mk hr3
  have HC3 := Aside0.mk hc3
  by_cases h1 : 65536 < a0.size ∨ 65536 < a1.size
  · rw [if_pos (by omega)] at h
    obtain ⟨rfl, rfl⟩ : ([] : List Int) = r1 ∧ (2 : Int) = r2 := by simpa using h
    have HF := Aside0.mk (long2_s a0 a1 true (decide_eq_true h1).symm)
    clear h h1 hr2 hc2 hr3 hc3 u2 u3
    go_enter Try.func21, Try.ntmps21
    go_wp2_with fail
    refine (impl_isLong_string.calls _ _ [a0, a1] true _ (C_two_string (g := w0.heap.size) (T := 9) (fr := (0, 0)) (blk_new w0 _)) (Nat.le_refl _) HF.out).mono ?_
    rintro e wa ⟨rfl, hd⟩
    have HBa := Aside0.mk (below_then (below_alloc (Below.refl _ _) _) (by simp) hd.below : Below w0.heap.size w0 wa)
    clear hd
    go_wp2
    go_ret2
    exact ⟨_, rfl, RB_nil _ _, HBa.out⟩
  have HF := Aside0.mk (long2_s a0 a1 false (decide_eq_false h1).symm)
  by_cases h2 : 65536 < l2.length ∨ 65536 < l3.length
  · rw [if_pos (by omega)] at h
    obtain ⟨rfl, rfl⟩ : ([] : List Int) = r1 ∧ (2 : Int) = r2 := by simpa using h
    have HF2 := Aside0.mk (longBB_s l2 l3 true (decide_eq_true h2).symm)
    clear h h1 hr2 hc2 hr3 hc3 u2 u3 h2
    go_enter Try.func21, Try.ntmps21
    go_wp2_with fail
    refine (impl_isLong_string.calls _ _ [a0, a1] false _ (C_two_string (g := w0.heap.size) (T := 9) (fr := (0, 0)) (blk_new w0 _)) (Nat.le_refl _) HF.out).mono ?_
    rintro e wa ⟨rfl, hd⟩
    have HBa := Aside0.mk (below_then (below_alloc (Below.refl _ _) _) (by simp) hd.below : Below w0.heap.size w0 wa)
    clear hd
    go_wp2_with fail
    have hC := C_two_slice (c := c2) (c' := c3) (xs := l2) (ys := l3) (blk_new wa (Obj.cells #[Value.slice A2 l2.length c2, Value.slice A3 l3.length c3] 22)) rfl HC2.out (Kd.C_alloc (Kd.C_below HR2.out HBa.out) _) rfl HC3.out (Kd.C_alloc (Kd.C_below HR3.out HBa.out) _)
    refine (impl_isLong_byte.calls _ 2 [l2, l3] _ _ hC (Nat.le_refl _) HF2.out).mono ?_
    rintro e wb ⟨rfl, hd⟩
    have HBb := Aside0.mk (below_then (below_alloc HBa.out _) (by have := HBa.out.size; simp; omega) hd.below : Below w0.heap.size w0 wb)
    clear hd hC
    go_wp2
    go_ret2
    exact ⟨_, rfl, RB_nil _ _, HBb.out⟩
  have HF2 := Aside0.mk (longBB_s l2 l3 false (decide_eq_false h2).symm)
  rw [if_neg (by omega)] at h
  by_cases h4 : ¬ (a0.size = 32)
  · rw [if_neg (fun h => h4 h.1)] at h
    obtain ⟨rfl, rfl⟩ : ([] : List Int) = r1 ∧ (1 : Int) = r2 := by simpa using h
    have d3 : ((a0.size : Int) != 32) = true := by rw [bne_iff_ne]; omega
    have d4 : ¬ (a0.size : Int) = 32 := by omega
    have d5 : decide ((a0.size : Int) = 32) = false := decide_eq_false d4
    have d6 : ((a0.size : Int) == 32) = false := by rw [beq_eq_false_iff_ne]; exact d4
    clear h h1 hr2 hc2 hr3 hc3 u2 u3 h4 h2
    go_enter Try.func21, Try.ntmps21
    go_wp2_with fail
    refine (impl_isLong_string.calls _ _ [a0, a1] false _ (C_two_string (g := w0.heap.size) (T := 9) (fr := (0, 0)) (blk_new w0 _)) (Nat.le_refl _) HF.out).mono ?_
    rintro e wa ⟨rfl, hd⟩
    have HBa := Aside0.mk (below_then (below_alloc (Below.refl _ _) _) (by simp) hd.below : Below w0.heap.size w0 wa)
    clear hd
    go_wp2_with fail
    have hC := C_two_slice (c := c2) (c' := c3) (xs := l2) (ys := l3) (blk_new wa (Obj.cells #[Value.slice A2 l2.length c2, Value.slice A3 l3.length c3] 22)) rfl HC2.out (Kd.C_alloc (Kd.C_below HR2.out HBa.out) _) rfl HC3.out (Kd.C_alloc (Kd.C_below HR3.out HBa.out) _)
    refine (impl_isLong_byte.calls _ 2 [l2, l3] _ _ hC (Nat.le_refl _) HF2.out).mono ?_
    rintro e wb ⟨rfl, hd⟩
    have HBb := Aside0.mk (below_then (below_alloc HBa.out _) (by have := HBa.out.size; simp; omega) hd.below : Below w0.heap.size w0 wb)
    clear hd hC
    go_wp2
    go_ret2
    exact ⟨_, rfl, RB_nil _ _, HBb.out⟩
  replace h4 := Classical.not_not.1 h4
  have e3 : ((a0.size : Int) != 32) = false := by rw [h4]; rfl
  have e4 : (a0.size : Int) = 32 := by omega
  by_cases h5 : ¬ (a1.size = 12)
  · rw [if_neg (fun h => h5 h.2)] at h
    obtain ⟨rfl, rfl⟩ : ([] : List Int) = r1 ∧ (1 : Int) = r2 := by simpa using h
    have d3 : ((a1.size : Int) != 12) = true := by rw [bne_iff_ne]; omega
    have d4 : ¬ (a1.size : Int) = 12 := by omega
    have d5 : decide ((a1.size : Int) = 12) = false := decide_eq_false d4
    have d6 : ((a1.size : Int) == 12) = false := by rw [beq_eq_false_iff_ne]; exact d4
    clear h h1 hr2 hc2 hr3 hc3 u2 u3 h4 h5 h2
    go_enter Try.func21, Try.ntmps21
    go_wp2_with fail
    refine (impl_isLong_string.calls _ _ [a0, a1] false _ (C_two_string (g := w0.heap.size) (T := 9) (fr := (0, 0)) (blk_new w0 _)) (Nat.le_refl _) HF.out).mono ?_
    rintro e wa ⟨rfl, hd⟩
    have HBa := Aside0.mk (below_then (below_alloc (Below.refl _ _) _) (by simp) hd.below : Below w0.heap.size w0 wa)
    clear hd
    go_wp2_with fail
    have hC := C_two_slice (c := c2) (c' := c3) (xs := l2) (ys := l3) (blk_new wa (Obj.cells #[Value.slice A2 l2.length c2, Value.slice A3 l3.length c3] 22)) rfl HC2.out (Kd.C_alloc (Kd.C_below HR2.out HBa.out) _) rfl HC3.out (Kd.C_alloc (Kd.C_below HR3.out HBa.out) _)
    refine (impl_isLong_byte.calls _ 2 [l2, l3] _ _ hC (Nat.le_refl _) HF2.out).mono ?_
    rintro e wb ⟨rfl, hd⟩
    have HBb := Aside0.mk (below_then (below_alloc HBa.out _) (by have := HBa.out.size; simp; omega) hd.below : Below w0.heap.size w0 wb)
    clear hd hC
    go_wp2
    go_ret2
    exact ⟨_, rfl, RB_nil _ _, HBb.out⟩
  replace h5 := Classical.not_not.1 h5
  have e5 : ((a1.size : Int) != 12) = false := by rw [h5]; rfl
  have e6 : (a1.size : Int) = 12 := by omega
  rw [if_pos ⟨h4, h5⟩] at h
  by_cases h6 : l3.length < 16
  · rw [if_pos h6] at h
    obtain ⟨rfl, rfl⟩ : ([] : List Int) = r1 ∧ (3 : Int) = r2 := by simpa using h
    have d1 : decide ((l3.length : Int) < 16) = true := decide_eq_true (by omega)
    have d2 : decide (l3.length < 16) = true := decide_eq_true h6
    clear h h1 hr2 hc2 hr3 hc3 u2 u3 h2 h4 h5 h6
    go_enter Try.func21, Try.ntmps21
    go_wp2_with fail
    refine (impl_isLong_string.calls _ _ [a0, a1] false _ (C_two_string (g := w0.heap.size) (T := 9) (fr := (0, 0)) (blk_new w0 _)) (Nat.le_refl _) HF.out).mono ?_
    rintro e wa ⟨rfl, hd⟩
    have HBa := Aside0.mk (below_then (below_alloc (Below.refl _ _) _) (by simp) hd.below : Below w0.heap.size w0 wa)
    clear hd
    go_wp2_with fail
    have hC := C_two_slice (c := c2) (c' := c3) (xs := l2) (ys := l3) (blk_new wa (Obj.cells #[Value.slice A2 l2.length c2, Value.slice A3 l3.length c3] 22)) rfl HC2.out (Kd.C_alloc (Kd.C_below HR2.out HBa.out) _) rfl HC3.out (Kd.C_alloc (Kd.C_below HR3.out HBa.out) _)
    refine (impl_isLong_byte.calls _ 2 [l2, l3] _ _ hC (Nat.le_refl _) HF2.out).mono ?_
    rintro e wb ⟨rfl, hd⟩
    have HBb := Aside0.mk (below_then (below_alloc HBa.out _) (by have := HBa.out.size; simp; omega) hd.below : Below w0.heap.size w0 wb)
    clear hd hC
    go_wp2
    go_ret2
    exact ⟨_, rfl, RB_nil _ _, HBb.out⟩
  have d1 : decide ((l3.length : Int) < 16) = false := decide_eq_false (by omega)
  have d2 : decide (l3.length < 16) = false := decide_eq_false h6
  rw [if_neg h6] at h
  cases ho : openL a0 a1 l2 l3 with
  | none =>
    rw [ho] at h
    obtain ⟨rfl, rfl⟩ : ([] : List Int) = r1 ∧ (10 : Int) = r2 := by simpa using h
    have HS : Aside0 (impl_unseal.f a0 a1 (strOfNums l2) (strOfNums l3) = some (⟨#[]⟩, false)) := ⟨by rw [iopen_eq a0 a1 l2 l3 u2 u3 h4 h5 (by omega) (by omega), ho]⟩
    clear h h1 hr2 hc2 hr3 hc3 u2 u3 h2 h4 h5 h6 ho
    go_enter Try.func21, Try.ntmps21
    go_wp2_with fail
    refine (impl_isLong_string.calls _ _ [a0, a1] false _ (C_two_string (g := w0.heap.size) (T := 9) (fr := (0, 0)) (blk_new w0 _)) (Nat.le_refl _) HF.out).mono ?_
    rintro e wa ⟨rfl, hd⟩
    have HBa := Aside0.mk (below_then (below_alloc (Below.refl _ _) _) (by simp) hd.below : Below w0.heap.size w0 wa)
    clear hd
    go_wp2_with fail
    have hC := C_two_slice (c := c2) (c' := c3) (xs := l2) (ys := l3) (blk_new wa (Obj.cells #[Value.slice A2 l2.length c2, Value.slice A3 l3.length c3] 22)) rfl HC2.out (Kd.C_alloc (Kd.C_below HR2.out HBa.out) _) rfl HC3.out (Kd.C_alloc (Kd.C_below HR3.out HBa.out) _)
    refine (impl_isLong_byte.calls _ 2 [l2, l3] _ _ hC (Nat.le_refl _) HF2.out).mono ?_
    rintro e wb ⟨rfl, hd⟩
    have HBb := Aside0.mk (below_then (below_alloc HBa.out _) (by have := HBa.out.size; simp; omega) hd.below : Below w0.heap.size w0 wb)
    clear hd hC
    have k2 := Kd.C_string (P := Try.prog) (dst := 9) (src := 22) (c := c2) Try.underlying22 Try.underlying5 Try.underlying9 (Kd.C_below HR2.out HBb.out)
    have k3 := Kd.C_string (P := Try.prog) (dst := 9) (src := 22) (c := c3) Try.underlying22 Try.underlying5 Try.underlying9 (Kd.C_below HR3.out HBb.out)
    go_wp2_with fail
    refine (impl_unseal.calls a0 a1 (strOfNums l2) (strOfNums l3) ⟨#[]⟩ false _ HS.out).mono ?_
    rintro e wd ⟨rfl, hb⟩
    have HBd := Aside0.mk (HBb.out.trans (hb.mono HBb.out.size))
    clear hb k2 k3
    go_wp2
    go_ret2
    exact ⟨_, rfl, RB_nil _ _, HBd.out⟩
  | some L =>
    rw [ho] at h
    obtain ⟨rfl, rfl⟩ : L = r1 ∧ (0 : Int) = r2 := by simpa using h
    have HS : Aside0 (impl_unseal.f a0 a1 (strOfNums l2) (strOfNums l3) = some (strOfNums L, true)) := ⟨by rw [iopen_eq a0 a1 l2 l3 u2 u3 h4 h5 (by omega) (by omega), ho]⟩
    have HSU : Aside0 (u8ok L) := ⟨(openL_ok u3 ho).1⟩
    clear h h1 hr2 hc2 hr3 hc3 u2 u3 h2 h4 h5 h6 ho
    go_enter Try.func21, Try.ntmps21
    go_wp2_with fail
    refine (impl_isLong_string.calls _ _ [a0, a1] false _ (C_two_string (g := w0.heap.size) (T := 9) (fr := (0, 0)) (blk_new w0 _)) (Nat.le_refl _) HF.out).mono ?_
    rintro e wa ⟨rfl, hd⟩
    have HBa := Aside0.mk (below_then (below_alloc (Below.refl _ _) _) (by simp) hd.below : Below w0.heap.size w0 wa)
    clear hd
    go_wp2_with fail
    have hC := C_two_slice (c := c2) (c' := c3) (xs := l2) (ys := l3) (blk_new wa (Obj.cells #[Value.slice A2 l2.length c2, Value.slice A3 l3.length c3] 22)) rfl HC2.out (Kd.C_alloc (Kd.C_below HR2.out HBa.out) _) rfl HC3.out (Kd.C_alloc (Kd.C_below HR3.out HBa.out) _)
    refine (impl_isLong_byte.calls _ 2 [l2, l3] _ _ hC (Nat.le_refl _) HF2.out).mono ?_
    rintro e wb ⟨rfl, hd⟩
    have HBb := Aside0.mk (below_then (below_alloc HBa.out _) (by have := HBa.out.size; simp; omega) hd.below : Below w0.heap.size w0 wb)
    clear hd hC
    have k2 := Kd.C_string (P := Try.prog) (dst := 9) (src := 22) (c := c2) Try.underlying22 Try.underlying5 Try.underlying9 (Kd.C_below HR2.out HBb.out)
    have k3 := Kd.C_string (P := Try.prog) (dst := 9) (src := 22) (c := c3) Try.underlying22 Try.underlying5 Try.underlying9 (Kd.C_below HR3.out HBb.out)
    go_wp2_with fail
    refine (impl_unseal.calls a0 a1 (strOfNums l2) (strOfNums l3) (strOfNums L) true _ HS.out).mono ?_
    rintro e wd ⟨rfl, hb⟩
    have HBd := Aside0.mk (HBb.out.trans (hb.mono HBb.out.size))
    clear hb k2 k3
    have hsz : (strOfNums L).size = L.length := str_size L
    have kc := Lib.run_convert_string_bytes (P := Try.prog) wd 9 22 5 (strOfNums L) Try.underlying9 Try.underlying22 Try.underlying5
    have HRB := Aside0.mk (conv_rowB wd w0.heap.size 5 (strOfNums L) HBd.out.size)
    have HBW := Aside0.mk (Go.Proofs.Ytlfpogbonmddmaa.P.bytes_below HBd.out HBd.out.size 5 (strOfNums L))
    rw [bytesL_str L HSU.out] at HRB
    generalize Lib.bytesWorld wd 5 (strOfNums L) = WE at kc HRB HBW
    generalize grownCap wd (strOfNums L).size 0 5 = cE at kc HRB
    clear hsz
    go_wp2
    go_ret2
    exact ⟨_, rfl, .inr HRB.out, HBW.out⟩
end Go.Proofs.Ytlfpogbonmddmaa.Pg
namespace Go.Proofs.Ytlfpogbonmddmaa.Pg
open Go.RowKit Go.Proofs.Ytlfpogbonmddmaa.P Go.Proofs.YtlfpogbonmddmaaW.PrintWords Go.Proofs.YtlfpogbonmddmaaW.PrintLast Go.Proofs.YtlfpogbonmddmaaW.PrintMore
set_option linter.unusedVariables false
set_option linter.unusedSimpArgs false
theorem RB_of_R {W : World} {B : Nat} {v : Value} {l : List Int} (h : Kd.R (Kd.int .u8) 5 W B (fun _ => True) v l) : RB W B v l := by
  obtain ⟨A, c, rfl, _, _⟩ := Kd.R_reads h
  cases A with
  | none =>
    refine .inl ?_
    have ho := Kd.own_of_R h
    obtain ⟨hl, hx | ⟨g, cap, cur, e, _⟩⟩ := ho
    · have h1 := hx.1
      injection h1 with _ h2 h3
      subst h3
      have : l = [] := List.eq_nil_of_length_eq_zero hx.2
      subst this
      exact ⟨rfl, rfl⟩
    · injection e with e1
      cases e1
  | some a => exact .inr (own_rowB (by have := Kd.own_of_R h; exact this) (fun e => by injection e with e1; cases e1))
theorem RB_same {W W' : World} {B : Nat} {v : Value} {l : List Int} (h : RB W B v l) (hk : ∀ k, B ≤ k → k < W.heap.size → W'.heap[k]? = W.heap[k]?) : RB W' B v l := h.imp id fun h => rowB_same h hk
theorem RB_top {W : World} {B : Nat} {v : Value} {l : List Int} (h : RB W B v l) (hl : l ≠ []) : ∀ g, v.ownBlock = some g → g < W.heap.size := by
  rcases h with ⟨rfl, rfl⟩ | h
  · exact absurd rfl hl
  · obtain ⟨g, cap, rfl, hg, hc0, hc, hv⟩ := h
    intro k hk
    have e : g = k := by simpa [Value.ownBlock] using hk
    subst e
    have h0 : 0 < l.length := List.length_pos_iff.2 hl
    exact cell_lt (a := ⟨g, 0, none⟩) (hc 0 (by omega)).1
theorem mark_RB (m : Nat) (l : List Int) (A : Option Addr) (c : Nat) (B T : Nat) (w : World) (h : RB w B (.slice A l.length c) l) (hT : l ≠ [] → ∀ g, (Value.slice A l.length c).ownBlock = some g → g < T) (hm : m + l.length ≤ 1000000000) :
    Calls Try.prog 18 #[.slice A l.length c, .int .i64 (m : Int)] w fun e w' => e = .returned (.int .i64 ((m + l.length : Nat) : Int)) ∧ RB w' B (.slice A l.length c) (markTo m l l.length) ∧ (∀ k, (k < B ∨ T ≤ k) → w'.heap[k]? = w.heap[k]?) ∧ Below B w w' := by
  by_cases hl : l = []
  · subst hl
    have HH := Aside0.mk h
    clear h hT hm
    go_enter Try.func18, Try.ntmps18
    go_wp2
    go_loopw [1, 5] (fun v1 v5 wr => v1 = .int .i64 (m : Int) ∧ v5 = .int .i64 0 ∧ wr = w) (fun _ _ _ => 0)
    case atStart => exact ⟨rfl, rfl, rfl⟩
    case round =>
      obtain ⟨rfl, rfl, rfl⟩ := hrel
      go_wp2
      go_ret
      exact ⟨by simp, HH.out, fun _ _ => rfl, Below.refl _ _⟩
  · rcases h with ⟨_, h⟩ | h
    · exact absurd h hl
    obtain ⟨g, cap, e, hl2⟩ := rowB_form h
    injection e with e1 _ e3
    subst e1 e3
    have hg : B ≤ g := by
      obtain ⟨g2, cap2, e, hg, _⟩ := h
      injection e with e1
      injection e1 with e1
      injection e1 with e1
      omega
    have hgT := hT hl g rfl
    refine (mark_rowB m l g c B w h hg hm).mono ?_
    rintro e w' ⟨rfl, h1, h2, h3⟩
    exact ⟨rfl, .inr h1, fun k hk => h2 k (by omega), h3⟩
theorem held_to (m : Nat) (l : List Int) (k : Nat) (hl : l.length < 100000000) (hm : m + l.length < 900000000) (hk : l.length < k) : laws_heldByteS.f k (markTo m l l.length) (m : Int) = some ((m + l.length : Nat) : Int) := by
  have hz : (markTo m l l.length).length = l.length := markTo_length m l _ (Nat.le_refl _)
  unfold laws_heldByteS.f
  have h := heldB_run l.length k 0 m (markTo m l l.length) (by omega) (by omega) (by omega) (by omega) (fun j _ hj => by
    rw [hz] at hj
    unfold markTo
    rw [List.getElem?_append_left (by simpa using hj), List.getElem?_map, List.getElem?_range hj]
    simp only [Option.map_some, Nat.sub_zero]
    rw [cm])
  exact h
theorem openX_len (a0 a1 : ByteArray) (x b : List Int) (ub : u8ok b) : (openX a0 a1 x b).1.length ≤ 70000 := by
  unfold openX
  split
  · simp
  · split
    · split
      · simp
      · split
        · rename_i r hr
          have := (openL_ok ub hr).2
          show r.length ≤ 70000
          omega
        · simp
    · simp
theorem spec_sealx (a0 a1 : ByteArray) (x b : List Int) (ux : u8ok x) (ub : u8ok b) : spec_SealBytes.f 300000 a0 a1 x b = some (sealX a0 a1 x b) := by
  have hw : wrap64 (65536 - 16) = 65520 := by unfold wrap64; omega
  unfold spec_SealBytes.f sealX
  by_cases h0 : 65536 < a0.size
  · rw [if_pos (by omega), if_pos (.inl h0)]
    simp only [spec_SealBytes.j0, if_true]
  rw [if_neg (by omega)]
  by_cases h1 : 65536 < a1.size
  · rw [if_pos (by omega), if_pos (.inr (.inl h1))]
    simp only [spec_SealBytes.j0, if_true]
  rw [if_neg (by omega)]
  by_cases h2 : 65536 < x.length
  · rw [if_pos (by omega), if_pos (.inr (.inr (.inl h2)))]
    simp only [spec_SealBytes.j0, if_true]
  rw [if_neg (by omega)]
  by_cases h3 : 65520 < b.length
  · rw [if_pos (show 65536 < a0.size ∨ 65536 < a1.size ∨ 65536 < x.length ∨ 65520 < b.length from .inr (.inr (.inr h3)))]
    by_cases h4 : 65536 < b.length
    · rw [decide_eq_true (by omega)]
      simp only [spec_SealBytes.j0, if_true]
    rw [decide_eq_false (by omega)]
    simp only [spec_SealBytes.j0, Bool.false_eq_true, if_false]
    unfold spec_l04Code.f
    rw [if_neg (by omega), hw, decide_eq_true (by omega)]
    simp [spec_l04Code.j0]
  rw [decide_eq_false (by omega), if_neg (show ¬ (65536 < a0.size ∨ 65536 < a1.size ∨ 65536 < x.length ∨ 65520 < b.length) by omega)]
  simp only [spec_SealBytes.j0, Bool.false_eq_true, if_false]
  unfold spec_l04Code.f
  rw [if_neg (by omega), hw, decide_eq_false (by omega)]
  simp only [spec_l04Code.j0, Bool.false_eq_true, if_false]
  by_cases h5 : a0.size = 32
  · by_cases h6 : a1.size = 12
    · rw [sseal_eq _ a0 a1 x b ux ub h5 h6 (by omega) (by omega) (by decide)]
      simp [h5, h6]
    · have h7 : ¬ ((a1.size : Int) = 12) := by omega
      simp [h5, h6, h7]
  · have h7 : ¬ ((a0.size : Int) = 32) := by omega
    simp [h5, h7]
theorem spec_openx (a0 a1 : ByteArray) (x b : List Int) (ux : u8ok x) (ub : u8ok b) : spec_OpenBytes.f 300000 a0 a1 x b = some (openX a0 a1 x b) := by
  have hw : wrap64 (65536 - 0) = 65536 := by unfold wrap64; omega
  unfold spec_OpenBytes.f openX
  by_cases h0 : 65536 < a0.size
  · rw [if_pos (by omega), if_pos (.inl h0)]
    simp only [spec_OpenBytes.j0, if_true]
  rw [if_neg (by omega)]
  by_cases h1 : 65536 < a1.size
  · rw [if_pos (by omega), if_pos (.inr (.inl h1))]
    simp only [spec_OpenBytes.j0, if_true]
  rw [if_neg (by omega)]
  by_cases h2 : 65536 < x.length
  · rw [if_pos (by omega), if_pos (.inr (.inr (.inl h2)))]
    simp only [spec_OpenBytes.j0, if_true]
  rw [if_neg (by omega)]
  by_cases h3 : 65536 < b.length
  · rw [decide_eq_true (by omega), if_pos (.inr (.inr (.inr h3)))]
    simp only [spec_OpenBytes.j0, if_true]
  rw [decide_eq_false (by omega), if_neg (show ¬ (65536 < a0.size ∨ 65536 < a1.size ∨ 65536 < x.length ∨ 65536 < b.length) by omega)]
  simp only [spec_OpenBytes.j0, Bool.false_eq_true, if_false]
  unfold spec_l04Code.f
  rw [if_neg (by omega), hw, decide_eq_false (by omega)]
  simp only [spec_l04Code.j0, Bool.false_eq_true, if_false]
  by_cases h5 : a0.size = 32
  · by_cases h6 : a1.size = 12
    · by_cases h8 : b.length < 16
      · have h9 : (b.length : Int) < 16 := by omega
        simp [h5, h6, h8, h9]
      · have h9 : ¬ ((b.length : Int) < 16) := by omega
        rw [sopen_eq a0 a1 x b ux ub h5 h6 (by omega) (by omega)]
        simp [h5, h6, h8, h9]
        cases openL a0 a1 x b <;> simp
    · have h7 : ¬ ((a1.size : Int) = 12) := by omega
      simp [h5, h6, h7]
  · have h7 : ¬ ((a0.size : Int) = 32) := by omega
    simp [h5, h7]
end Go.Proofs.Ytlfpogbonmddmaa.Pg

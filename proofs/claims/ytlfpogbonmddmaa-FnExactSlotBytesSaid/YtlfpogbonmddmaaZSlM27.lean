/- Laid by a program of this session: of Pctr, Psealx, Rl, Psealw, Pslotb, PlawSlot what this law uses. -/
import Derived.Test.YtlfpogbonmddmaaZSlPt8
import Derived.Test.YtlfpogbonmddmaaZSlM23
import Derived.Test.YtlfpogbonmddmaaZSlM26
import Derived.Test.YtlfpogbonmddmaaZSlM9
import Derived.Test.YtlfpogbonmddmaaZSlPt1
import Derived.Test.YtlfpogbonmddmaaZSlPt3
import Derived.Test.YtlfpogbonmddmaaZSlM19
import Derived.Test.YtlfpogbonmddmaaProg
import Derived.RegionTactic
import Derived.BigRegion
import Derived.Test.YtlfpogbonmddmaaZSlPt9
import Derived.Test.YtlfpogbonmddmaaZSlPt19
namespace Go.Proofs.Ytlfpogbonmddmaa.Pg
open Go.RowKit Go.Proofs.Ytlfpogbonmddmaa.P Go.Proofs.YtlfpogbonmddmaaW.PrintWords Go.Proofs.YtlfpogbonmddmaaW.PrintLast Go.Proofs.YtlfpogbonmddmaaW.PrintMore
set_option linter.unusedVariables false
theorem four_eq (n : Int) : spec_l02Four.f n = some (Sha.four n) := rfl
theorem len_T (R l : List Int) (hR : R.length = l.length) (j : Nat) : (R.take j ++ l.drop j).length = l.length := by
  rw [List.length_append, List.length_take, List.length_drop, hR]; omega
theorem end_T (R l : List Int) (hR : R.length = l.length) (j : Nat) (h : l.length ≤ j) : R.take j ++ l.drop j = R := by
  rw [List.take_of_length_le (by omega), List.drop_eq_nil_of_le (by omega), List.append_nil]
theorem bt_str (E : List Int) (oE : Aes.ok E) (i : Nat) (hi : i < E.length) : bt (strOfNums E) (i : Int) = E.getD i 0 := by
  rw [← bytesL_getD _ i (by rw [str_size]; exact hi), bytesL_str E oE]
theorem ctr_step (a1 : ByteArray) (K : List ByteArray) (l R E : List Int) (hR : R.length = l.length) (hE : E.length = 16) (oE : Aes.ok E) (hl : l.length ≤ 1000000) (p ed k j : Nat) (hed : ed ≤ l.length ∧ ed ≤ p + 16) (hpj : p ≤ j) (hj : j < ed)
    (hA : R.getD j 0 = Aes.xr (l.getD j 0) (E.getD (j - p) 0)) :
    spec_l02Ctr.l1 (k + 1) a1 Aes.subs K (R.take j ++ l.drop j) (p : Int) (strOfNums E) (j : Int) = spec_l02Ctr.l1 k a1 Aes.subs K (R.take (j + 1) ++ l.drop (j + 1)) (p : Int) (strOfNums E) ((j + 1 : Nat) : Int) := by
  have hw : wrap64 ((p : Int) + 16) = ((p + 16 : Nat) : Int) := by unfold wrap64; omega
  have hw2 : wrap64 ((j : Int) - (p : Int)) = ((j - p : Nat) : Int) := by unfold wrap64; omega
  have hL := len_T R l hR j
  have e1 : (R.take j ++ l.drop j).getD j 0 = l.getD j 0 := by
    rw [List.getD_eq_getElem?_getD, td_at R l hR j (by omega)]; rfl
  have e2 := td_set R l hR j (by omega)
  rw [hA] at e2
  simp only [spec_l02Ctr.l1]
  rw [hw, hw2, if_pos (by omega), if_pos (by omega), if_pos (by omega), if_pos (by omega), if_pos (by rw [str_size]; omega), suc64 j (by omega), rdn, e1, bt_str E oE _ (by omega), Int.toNat_natCast]
  unfold Aes.xr at e2
  rw [e2]
theorem ctr_inner (a1 : ByteArray) (K : List ByteArray) (l R E : List Int) (hR : R.length = l.length) (hE : E.length = 16) (oE : Aes.ok E) (hl : l.length ≤ 1000000) (p ed : Nat) (hed : ed ≤ l.length ∧ ed ≤ p + 16 ∧ (ed = l.length ∨ ed = p + 16))
    (hA : ∀ j, p ≤ j → j < ed → R.getD j 0 = Aes.xr (l.getD j 0) (E.getD (j - p) 0)) (d : Nat) : ∀ m j, p ≤ j → j + d = ed →
    spec_l02Ctr.l1 (m + d + 1) a1 Aes.subs K (R.take j ++ l.drop j) (p : Int) (strOfNums E) (j : Int) = spec_l02Ctr.l0 m a1 Aes.subs K (R.take ed ++ l.drop ed) ((p + 16 : Nat) : Int) := by
  induction d with
  | zero =>
    intro m j hpj hj
    have hw : wrap64 ((p : Int) + 16) = ((p + 16 : Nat) : Int) := by unfold wrap64; omega
    have hL := len_T R l hR j
    obtain rfl : j = ed := by omega
    show spec_l02Ctr.l1 (m + 1) _ _ _ _ _ _ _ = _
    simp only [spec_l02Ctr.l1]
    rw [hw]
    by_cases h : j < l.length
    · rw [if_pos (by omega), if_neg (by omega)]
    · rw [if_neg (by omega)]
  | succ d ih =>
    intro m j hpj hj
    show spec_l02Ctr.l1 (m + d + 1 + 1) _ _ _ _ _ _ _ = _
    rw [ctr_step a1 K l R E hR hE oE hl p ed (m + d + 1) j ⟨hed.1, hed.2.1⟩ hpj (by omega) (hA j hpj (by omega))]
    exact ih m (j + 1) (by omega) (by omega)
theorem ctr_outer {keys : List (List Int)} (hk : Aes.keysOk keys) (h0 : 0 < keys.length) (hn : keys.length ≤ 1000) (a1 : ByteArray) (ha : a1.size = 12) (l : List Int) (ol : Aes.ok l) (hl : l.length ≤ 900000) (d : Nat) : ∀ k q, l.length ≤ 16 * q + 16 * d → 18 * d + 1300 ≤ k →
    spec_l02Ctr.l0 k a1 Aes.subs (keys.map strOfNums) ((Md.ctrL keys (bytesL a1) l).take (16 * q) ++ l.drop (16 * q)) ((16 * q : Nat) : Int) = some (Md.ctrL keys (bytesL a1) l) := by
  have hR := Md.ctrL_length keys (bytesL a1) l
  have stop : ∀ k q, l.length ≤ 16 * q → spec_l02Ctr.l0 (k + 1) a1 Aes.subs (keys.map strOfNums) ((Md.ctrL keys (bytesL a1) l).take (16 * q) ++ l.drop (16 * q)) ((16 * q : Nat) : Int) = some (Md.ctrL keys (bytesL a1) l) := fun k q h => by
    have hL := len_T _ l hR (16 * q)
    simp only [spec_l02Ctr.l0]
    rw [if_neg (by omega), end_T _ l hR _ h]
  induction d with
  | zero =>
    intro k q hq hk2
    obtain ⟨k, rfl⟩ : ∃ m, k = m + 1 := ⟨k - 1, by omega⟩
    exact stop k q (by omega)
  | succ d ih =>
    intro k q hq hk2
    obtain ⟨k, rfl⟩ : ∃ m, k = m + 1 := ⟨k - 1, by omega⟩
    by_cases hlt : 16 * q < l.length
    · have hL := len_T _ l hR (16 * q)
      have w1 : wrap64 (Int.tdiv ((16 * q : Nat) : Int) 16) = (q : Int) := by
        rw [Int.tdiv_eq_ediv_of_nonneg (Int.natCast_nonneg _), show ((16 * q : Nat) : Int) / 16 = (q : Int) from by omega]
        unfold wrap64; omega
      have w2 : wrap64 (1 + (q : Int)) = ((q + 1 : Nat) : Int) := by unfold wrap64; omega
      have hs : (a1 ++ strOfNums (Sha.four ((q + 1 : Nat) : Int))).size = 16 := by rw [ByteArray.size_append, ha, str_size]; rfl
      have hb : bytesL (a1 ++ strOfNums (Sha.four ((q + 1 : Nat) : Int))) = bytesL a1 ++ Sha.four ((q + 1 : Nat) : Int) := by
        have e : a1 ++ strOfNums (Sha.four ((q + 1 : Nat) : Int)) = strOfNums (bytesL a1 ++ Sha.four ((q + 1 : Nat) : Int)) := by
          rw [← strOfNums_append, str_bytesL]
        rw [e]
        exact bytesL_str _ (Aes.ok_append (ok_bytesL a1) (Md.four_by _))
      have e := enc_eq hk h0 hn k (by omega) _ hs
      rw [hb] at e
      have e' : spec_l01Encrypt.f k (keys.map strOfNums) Aes.subs (a1 ++ strOfNums (Sha.four ((q + 1 : Nat) : Int))) = some (strOfNums (Md.ctrB keys (bytesL a1) q)) := e
      simp only [spec_l02Ctr.l0]
      rw [if_pos (by omega), w1, w2, four_eq, Option.bind_some, if_pos (by rw [ha, str_size]; show 12 + 4 ≤ _; omega), e', Option.bind_some]
      obtain ⟨ed, hed⟩ : ∃ x, x = if l.length < 16 * q + 16 then l.length else 16 * q + 16 := ⟨_, rfl⟩
      have hed2 : ed ≤ l.length ∧ ed ≤ 16 * q + 16 ∧ (ed = l.length ∨ ed = 16 * q + 16) ∧ 16 * q < ed := by rw [hed]; split <;> omega
      have oE := Md.ctrB_ok hk (ok_bytesL a1) q
      have inn := ctr_inner a1 (keys.map strOfNums) l _ (Md.ctrB keys (bytesL a1) q) hR (Md.ctrB_length _ _ _) oE (by omega) (16 * q) ed ⟨hed2.1, hed2.2.1, hed2.2.2.1⟩ (fun j h1 h2 => by
        rw [Md.ctrL_at _ _ _ j (by omega), show j / 16 = q from by omega, show j % 16 = j - 16 * q from by omega]) (ed - 16 * q) (k - (ed - 16 * q) - 1) (16 * q) (Nat.le_refl _) (by omega)
      rw [show k - (ed - 16 * q) - 1 + (ed - 16 * q) + 1 = k from by omega] at inn
      rw [inn]
      have eT : (Md.ctrL keys (bytesL a1) l).take ed ++ l.drop ed = (Md.ctrL keys (bytesL a1) l).take (16 * (q + 1)) ++ l.drop (16 * (q + 1)) := by
        rcases hed2.2.2.1 with h | h
        · rw [end_T _ l hR _ (by omega), end_T _ l hR _ (by omega)]
        · rw [h, show 16 * (q + 1) = 16 * q + 16 from by omega]
      rw [eT]
      exact ih (k - (ed - 16 * q) - 1) (q + 1) (by omega) (by omega)
    · exact stop k q (by omega)
theorem sctr_eq (k : Nat) (a0 a1 : ByteArray) (l : List Int) (ol : Aes.ok l) (h0 : a0.size = 16 ∨ a0.size = 32) (h1 : a1.size = 12) (hl : l.length ≤ 900000) (hk : 2 * l.length + 2000 ≤ k) :
    spec_l02Ctr.f k a0 a1 l = some (Md.ctrL (Aes.keysL (bytesL a0)) (bytesL a1) l) := by
  unfold spec_l02Ctr.f
  rw [table_at k (by omega), Option.bind_some, spec_keys a0 h0, Option.bind_some, Option.bind_some, if_pos (by simp; omega)]
  exact ctr_outer (keysL_good a0) (by rw [Aes.keysL_length]; omega) (by rw [Aes.keysL_length, bytesL_length]; omega) a1 h1 l ol hl (l.length / 16 + 1) k 0 (by omega) (by omega)
theorem ictr_eq (a0 a1 : ByteArray) (l : List Int) (ol : Aes.ok l) (h0 : a0.size = 16 ∨ a0.size = 32) (h1 : a1.size = 12) (hl : l.length ≤ 900000) : impl_ctr.f a0 a1 l = some (Md.ctrL (Aes.keysL (bytesL a0)) (bytesL a1) l) := by
  unfold impl_ctr.f
  rw [if_pos ⟨u8b_of ol, h0, h1, by omega⟩]
end Go.Proofs.Ytlfpogbonmddmaa.Pg
namespace Go.Proofs.Ytlfpogbonmddmaa.Pg
open Go.RowKit Go.Proofs.Ytlfpogbonmddmaa.P Go.Proofs.YtlfpogbonmddmaaW.PrintWords Go.Proofs.YtlfpogbonmddmaaW.PrintLast Go.Proofs.YtlfpogbonmddmaaW.PrintMore
set_option linter.unusedVariables false
set_option linter.unusedSimpArgs false
theorem sx_bytesOf4 (k : Nat) (n : Int) (hk : 5 < k) : impl_bytesOf.f k n 4 = some (strOfNums (Sha.four n)) := by
  obtain ⟨k, rfl⟩ : ∃ m, k = m + 6 := ⟨k - 6, by omega⟩
  have w3 : wrap64 3 = 3 := by unfold wrap64; omega
  have w2 : wrap64 2 = 2 := by unfold wrap64; omega
  have w1 : wrap64 1 = 1 := by unfold wrap64; omega
  have w0 : wrap64 0 = 0 := by unfold wrap64; omega
  have wm : wrap64 (-1) = -1 := by unfold wrap64; omega
  have e : n / 65536 / 256 = n / 16777216 := by omega
  have e2 : n / 256 / 256 = n / 65536 := by omega
  simp [impl_bytesOf.f, impl_bytesOf.l0, w3, w2, w1, w0, wm, Sha.four, List.replicate, e, e2]
def kE (key : ByteArray) : List Int := (keysK key).take 32
def kM (key : ByteArray) : List Int := (keysK key).drop 32
theorem u8ok_keysK (s : ByteArray) : u8ok (keysK s) := fun x hx => by
  rw [keysK, exp_take _ _ 64 2 (by decide) (by decide)] at hx
  exact (exp_u8 _ _ _).1 x (List.mem_of_mem_take hx)
theorem kE_ok (key : ByteArray) : u8ok (kE key) ∧ (kE key).length = 32 := ⟨fun x hx => u8ok_keysK key x (List.mem_of_mem_take hx), by rw [kE, List.length_take, keysK_length]; rfl⟩
theorem kM_ok (key : ByteArray) : u8ok (kM key) ∧ (kM key).length = 32 := ⟨fun x hx => u8ok_keysK key x (List.mem_of_mem_drop hx), by rw [kM, List.length_drop, keysK_length]⟩
def sealE (key nonce : ByteArray) (b : List Int) : List Int := Md.ctrL (Aes.keysL (kE key)) (bytesL nonce) b
def sealT (key nonce : ByteArray) (x e : List Int) : List Int := (Sha.hmacL (kM key) (tagAll nonce x e)).take 16
def sealL (key nonce : ByteArray) (x b : List Int) : List Int := sealE key nonce b ++ sealT key nonce x (sealE key nonce b)
theorem sealE_length (key nonce : ByteArray) (b : List Int) : (sealE key nonce b).length = b.length := Md.ctrL_length _ _ _
theorem sealE_ok (key nonce : ByteArray) {b : List Int} (h : u8ok b) : u8ok (sealE key nonce b) := Md.ctrL_ok (Aes.keysL_ok (kE_ok key).1) (u8ok_bytesL nonce) h
theorem sealT_length (key nonce : ByteArray) (x e : List Int) : (sealT key nonce x e).length = 16 := by rw [sealT, List.length_take, hmacL_length]; rfl
theorem sealT_ok (key nonce : ByteArray) (x e : List Int) : u8ok (sealT key nonce x e) := fun y hy => u8ok_hmacL _ _ y (List.mem_of_mem_take hy)
theorem sealL_length (key nonce : ByteArray) (x b : List Int) : (sealL key nonce x b).length = b.length + 16 := by rw [sealL, List.length_append, sealE_length, sealT_length]
theorem sealL_ok (key nonce : ByteArray) (x : List Int) {b : List Int} (h : u8ok b) : u8ok (sealL key nonce x b) := u8ok_append (sealE_ok key nonce h) (sealT_ok _ _ _ _)
theorem tag_eq (k : Nat) (n : ByteArray) (m x e : List Int) (um : u8ok m) (ux : u8ok x) (ue : u8ok e) (hm : m.length = 32) (hn : n.size ≤ 1048576) (hx : x.length ≤ 1048576) (he : e.length ≤ 1048576) (hk : 10 ≤ k) :
    impl_tag.f k (strOfNums m) n (strOfNums x) (strOfNums e) = some (strOfNums ((Sha.hmacL m (tagAll n x e)).take 16)) := by
  obtain ⟨k, rfl⟩ : ∃ j, k = j + 1 := ⟨k - 1, by omega⟩
  have hF : (Sha.four (x.length : Int)).length = 4 := rfl
  have en : n = strOfNums (bytesL n) := (str_bytesL n).symm
  have hall : tagAll n x e = ((bytesL n ++ Sha.four (x.length : Int)) ++ x) ++ e := rfl
  have hlen : (tagAll n x e).length ≤ 4000000 := by rw [hall]; simp only [List.length_append, bytesL_length, hF]; omega
  have hu : u8ok (tagAll n x e) := u8ok_append (u8ok_append (u8ok_append (u8ok_bytesL n) (u8ok_four _)) ux) ue
  unfold impl_tag.f
  rw [size_strOfNums, sx_bytesOf4 _ _ (by omega), Option.bind_some]
  have e1 : n ++ strOfNums (Sha.four (x.length : Int)) = strOfNums (bytesL n ++ Sha.four (x.length : Int)) := by
    rw [← str_app, str_bytesL]
  rw [e1, str_app, str_app, ← hall, size_strOfNums, size_strOfNums, size_strOfNums, size_strOfNums]
  simp only [List.length_append, bytesL_length, hF]
  rw [if_pos (by omega), if_pos (by omega), if_pos (by omega), hmac_eq k m (tagAll n x e) um (by omega) hu (by omega), Option.bind_some, if_pos (by decide), if_pos (by rw [size_strOfNums, hmacL_length]; decide), str_extract]
theorem ctr32 (key nonce : ByteArray) (b : List Int) (ub : u8ok b) (hn : nonce.size = 12) (hb : b.length ≤ 65536) : impl_ctr.f (strOfNums (kE key)) nonce b = some (sealE key nonce b) := by
  rw [ictr_eq _ _ _ ub (.inr (by rw [size_strOfNums]; exact (kE_ok key).2)) hn (by omega), bytesL_str _ (kE_ok key).1]
  rfl
theorem sctr32 (k : Nat) (key nonce : ByteArray) (b : List Int) (ub : u8ok b) (hn : nonce.size = 12) (hb : b.length ≤ 65536) (hk : 200000 ≤ k) : spec_l02Ctr.f k (strOfNums (kE key)) nonce b = some (sealE key nonce b) := by
  rw [sctr_eq k _ _ _ ub (.inr (by rw [size_strOfNums]; exact (kE_ok key).2)) hn (by omega) (by omega), bytesL_str _ (kE_ok key).1]
  rfl
theorem iseal_eq (key nonce : ByteArray) (x b : List Int) (ux : u8ok x) (ub : u8ok b) (hk : key.size = 32) (hn : nonce.size = 12) (hx : x.length ≤ 65536) (hb : b.length ≤ 65536) :
    impl_seal.f key nonce (strOfNums x) (strOfNums b) = some (strOfNums (sealL key nonce x b)) := by
  unfold impl_seal.f
  have e1 := sealKeys_eq (300000 - 264) key (by omega)
  rw [show 300000 - 264 + 264 = 300000 from rfl] at e1
  rw [e1, Option.bind_some]
  show (impl_ctr.f (strOfNums (kE key)) nonce (bytesL (strOfNums b))).bind _ = _
  rw [bytesL_str b ub, ctr32 key nonce b ub hn hb, Option.bind_some]
  show (impl_tag.f 300000 (strOfNums (kM key)) nonce (strOfNums x) (strOfNums (sealE key nonce b))).bind _ = _
  rw [tag_eq _ _ _ _ _ (kM_ok key).1 ux (sealE_ok key nonce ub) (kM_ok key).2 (by omega) (by omega) (by rw [sealE_length]; omega) (by decide), Option.bind_some]
  show (if (sealE key nonce b).length + (strOfNums (sealT key nonce x (sealE key nonce b))).size ≤ 4000000 then some (strOfNums (sealE key nonce b) ++ strOfNums (sealT key nonce x (sealE key nonce b))) else none) = _
  rw [if_pos (by rw [size_strOfNums, sealT_length, sealE_length]; omega), str_app]
  rfl
theorem sseal_eq (k : Nat) (key nonce : ByteArray) (x b : List Int) (ux : u8ok x) (ub : u8ok b) (hk : key.size = 32) (hn : nonce.size = 12) (hx : x.length ≤ 65536) (hb : b.length ≤ 65536) (hkk : 200000 ≤ k) :
    spec_l04Seal.f k key nonce x b = some (sealL key nonce x b) := by
  unfold spec_l04Seal.f
  rw [spec_sealKeys_eq key (by omega), Option.bind_some]
  show (spec_l02Ctr.f k (strOfNums (kE key)) nonce b).bind _ = _
  rw [sctr32 k key nonce b ub hn hb hkk, Option.bind_some]
  show (spec_l04Tag.f (strOfNums (kM key)) nonce x (sealE key nonce b)).bind _ = _
  unfold spec_l04Tag.f
  rw [if_pos ⟨u8b_of ux, u8b_of (sealE_ok key nonce ub), by rw [size_strOfNums, (kM_ok key).2]; decide, by omega, by omega, by rw [sealE_length]; omega⟩, bytesL_str _ (kM_ok key).1, Option.bind_some]
  show (if (sealE key nonce b).length + (strOfNums (sealT key nonce x (sealE key nonce b))).size < 140737488355328 then some (sealE key nonce b ++ bytesOf (strOfNums (sealT key nonce x (sealE key nonce b)))) else none) = _
  rw [if_pos (by rw [size_strOfNums, sealT_length, sealE_length]; omega)]
  rw [show bytesOf (strOfNums (sealT key nonce x (sealE key nonce b))) = sealT key nonce x (sealE key nonce b) from bytesL_str _ (sealT_ok _ _ _ _)]
  rfl
end Go.Proofs.Ytlfpogbonmddmaa.Pg
namespace Go.Proofs.Ytlfpogbonmddmaa.P
open Go.RowKit Go.Proofs.YtlfpogbonmddmaaW.PrintWords Go.Proofs.YtlfpogbonmddmaaW.PrintLast Go.Proofs.YtlfpogbonmddmaaW.PrintMore
set_option linter.unusedVariables false
set_option linter.unusedSimpArgs false
def RB (W : World) (B : Nat) (v : Value) (l : List Int) : Prop := (v = .slice none 0 0 ∧ l = []) ∨ rowB W B v l
theorem RB_nil (W : World) (B : Nat) : RB W B (.slice none 0 0) [] := .inl ⟨rfl, rfl⟩
theorem RB_below {W W' : World} {B : Nat} {v : Value} {l : List Int} (h : RB W B v l) (hb : Below W.heap.size W W') : RB W' B v l := h.imp id fun h => rowB_below h hb
theorem RB_reads {W : World} {B : Nat} {v : Value} {l : List Int} (h : RB W B v l) (hm : l.length ≤ 140737488355328) : ∃ A c, v = .slice A l.length c ∧ l.length ≤ c ∧ Kd.C (Kd.int .u8) W A l.length l := by
  rcases h with ⟨rfl, rfl⟩ | h
  · exact Kd.R_reads (Kd.R_nil (Kd.int .u8) 0 W 0 (fun _ => True))
  · obtain ⟨g, cap, rfl, hl⟩ := rowB_form h
    exact ⟨_, cap, rfl, hl, rowB_C h hm⟩
theorem rowB_setL {W : World} {B g cap : Nat} {l : List Int} (h : rowB W B (.slice (some ⟨g, 0, none⟩) l.length cap) l) (i : Nat) (hi : i < l.length) (x : Int) :
    rowB (W.setCell ⟨g, i, none⟩ (.int .u8 x)) B (.slice (some ⟨g, 0, none⟩) l.length cap) (l.set i x) := by
  obtain ⟨g2, cap2, e, hg, hl, hc, hv⟩ := h
  injection e with e1 e2 e3
  injection e1 with e1
  injection e1 with e1
  subst e1 e3
  have hw : W.setCell ⟨g, i, none⟩ (.int .u8 x) = W.setCells g i [.int .u8 x] := rfl
  have hin : (W.setCells g i [.int .u8 x]).cell? ⟨g, i, none⟩ = some (.int .u8 x) := by
    have := World.cell?_setCells_in g [.int .u8 x] i W (fun j hj => (hc _ (by simp at hj; omega)).1) 0 (by simp)
    simpa using this
  have hout : ∀ j, j ≠ i → (W.setCells g i [.int .u8 x]).cell? ⟨g, j, none⟩ = W.cell? ⟨g, j, none⟩ := fun j hj => World.cell?_setCells_out g _ _ W _ (fun _ _ => by simp only [List.length_cons, List.length_nil]; omega)
  rw [hw]
  refine ⟨g, cap, by rw [List.length_set], hg, by rw [List.length_set]; exact hl, fun j hj => ⟨?_, ?_⟩, fun j hj => ?_⟩
  · by_cases hji : j = i
    · subst hji; rw [hin]; rfl
    · rw [hout j hji]; exact (hc j hj).1
  · rw [World.frozen?_setCells]; exact (hc j hj).2
  · rw [List.length_set] at hj
    by_cases hji : j = i
    · subst hji
      rw [hin, List.getD_eq_getElem?_getD, List.getElem?_set_self hi]; rfl
    · rw [hout j hji, hv j hj, List.getD_eq_getElem?_getD, List.getD_eq_getElem?_getD, List.getElem?_set_ne (fun e => hji e.symm)]
def markTo (m : Nat) (l : List Int) (i : Nat) : List Int := (List.range i).map (fun j => ((m + j : Nat) : Int) % 256) ++ l.drop i
theorem markTo_length (m : Nat) (l : List Int) (i : Nat) (h : i ≤ l.length) : (markTo m l i).length = l.length := by simp [markTo]; omega
theorem markTo_set (m : Nat) (l : List Int) (i : Nat) (h : i < l.length) : (markTo m l i).set i (((m + i : Nat) : Int) % 256) = markTo m l (i + 1) := by
  have h1 : ((List.range i).map (fun j => ((m + j : Nat) : Int) % 256)).length = i := by simp
  unfold markTo
  rw [List.set_append_right _ _ (by rw [h1]; exact Nat.le_refl _), h1, Nat.sub_self, List.drop_eq_getElem_cons h, List.set_cons_zero, List.range_succ, List.map_append, List.map_cons, List.map_nil, List.append_assoc]
  rfl
set_option maxHeartbeats 4000000 in
theorem mark_rowB (m : Nat) (l : List Int) (g cap B : Nat) (w : World) (h : rowB w B (.slice (some ⟨g, 0, none⟩) l.length cap) l) (hB : B ≤ g) (hm : m + l.length ≤ 1000000000) :
    Calls Try.prog 18 #[.slice (some ⟨g, 0, none⟩) l.length cap, .int .i64 (m : Int)] w fun e w' => e = .returned (.int .i64 ((m + l.length : Nat) : Int)) ∧ rowB w' B (.slice (some ⟨g, 0, none⟩) l.length cap) (markTo m l l.length) ∧ (∀ k, k ≠ g → w'.heap[k]? = w.heap[k]?) ∧ Below B w w' := by
  have HL := Aside0.mk hm
  have HB := Aside0.mk hB
  have h0 : Aside0 (rowB w B (.slice (some ⟨g, 0, none⟩) l.length cap) (markTo m l 0)) := ⟨h⟩
  clear h hm hB
  go_enter Try.func18, Try.ntmps18
  go_wp2
  go_loopw [1, 5] (fun v1 v5 wr => ∃ i : Nat, i ≤ l.length ∧ v1 = .int .i64 ((m + i : Nat) : Int) ∧ v5 = .int .i64 (i : Int) ∧ Aside0 (rowB wr B (.slice (some ⟨g, 0, none⟩) l.length cap) (markTo m l i)) ∧ Aside0 (∀ k, k ≠ g → wr.heap[k]? = w.heap[k]?) ∧ Aside0 (Below B w wr)) (fun _ v5 _ => l.length - (intOf v5).toNat)
  case atStart => exact ⟨0, Nat.zero_le _, rfl, rfl, h0, ⟨fun _ _ => rfl⟩, ⟨Below.refl _ _⟩⟩
  case round =>
    obtain ⟨i, hi, rfl, rfl, HR, HK, HW⟩ := hrel
    by_cases hlt : i < l.length
    · have hR : rowB wr B (.slice (some ⟨g, 0, none⟩) (markTo m l i).length cap) (markTo m l i) := by rw [markTo_length m l i hi]; exact HR.out
      obtain ⟨g2, cap2, e2, _, hl2, hc2, hv2⟩ := id hR
      injection e2 with e1 _ e3
      injection e1 with e1
      injection e1 with e1
      subst e1 e3
      rw [markTo_length m l i hi] at hl2 hv2
      have i0 : (0 : Int) ≤ (i : Int) := Int.natCast_nonneg i
      have i1 : (i : Int) < (l.length : Int) := by omega
      have hd : decide ((i : Int) < (l.length : Int)) = true := decide_eq_true i1
      have hd2 : decide (i < l.length) = true := decide_eq_true hlt
      have cc := hv2 i hlt
      obtain ⟨x, hx⟩ : ∃ x, x = (markTo m l i).getD i 0 := ⟨_, rfl⟩
      rw [← hx] at cc
      have zz := (hc2 i (by omega)).2
      have HS := rowB_setL hR i (by rw [markTo_length m l i hi]; exact hlt) (((m + i : Nat) : Int) % 256)
      rw [markTo_set m l i hlt, markTo_length m l i hi] at HS
      have HS := Aside0.mk HS
      have HKS : Aside0 (∀ k, k ≠ g → (wr.setCell ⟨g, i, none⟩ (.int .u8 (((m + i : Nat) : Int) % 256))).heap[k]? = w.heap[k]?) := ⟨fun k hk => (Below.heap_setCell wr ⟨g, i, none⟩ _ k hk).trans (HK.out k hk)⟩
      have HWS : Aside0 (Below B w (wr.setCell ⟨g, i, none⟩ (.int .u8 (((m + i : Nat) : Int) % 256)))) := ⟨below_setCells HW.out g HB.out [.int .u8 (((m + i : Nat) : Int) % 256)] i⟩
      obtain ⟨p, hp⟩ : ∃ p : Nat, p = m + i := ⟨_, rfl⟩
      have HPE : Aside0 (p + 1 = m + (i + 1) ∧ p < 9223372036854775807 ∧ i < 9223372036854775807) := ⟨by have := HL.out; omega⟩
      rw [← hp] at HS HKS HWS ⊢
      clear hx hR hv2 hc2 hl2 hp
      go_wp2
      go_roundw
      case rel => exact ⟨i + 1, by omega, by rw [suc_natW p HPE.out.2.1, HPE.out.1], by rw [suc_natW i HPE.out.2.2], HS, HKS, HWS⟩
      case measure => rw [suc_natW i HPE.out.2.2]; simp [intOf]; omega
    · have hd : decide ((i : Int) < (l.length : Int)) = false := decide_eq_false (by omega)
      have hd2 : decide (i < l.length) = false := decide_eq_false hlt
      obtain rfl : i = l.length := by omega
      go_wp2
      go_ret
      exact ⟨rfl, HR.out, HK.out, HW.out⟩
end Go.Proofs.Ytlfpogbonmddmaa.P
namespace Go.Proofs.Ytlfpogbonmddmaa.Pg
open Go.RowKit Go.Proofs.Ytlfpogbonmddmaa.P Go.Proofs.YtlfpogbonmddmaaW.PrintWords Go.Proofs.YtlfpogbonmddmaaW.PrintLast Go.Proofs.YtlfpogbonmddmaaW.PrintMore
set_option linter.unusedVariables false
set_option linter.unusedSimpArgs false
theorem RB_top {W : World} {B : Nat} {v : Value} {l : List Int} (h : RB W B v l) (hl : l ≠ []) : ∀ g, v.ownBlock = some g → g < W.heap.size := by
  rcases h with ⟨rfl, rfl⟩ | h
  · exact absurd rfl hl
  · obtain ⟨g, cap, rfl, hg, hc0, hc, hv⟩ := h
    intro k hk
    have e : g = k := by simpa [Value.ownBlock] using hk
    subst e
    have h0 : 0 < l.length := List.length_pos_iff.2 hl
    exact cell_lt (a := ⟨g, 0, none⟩) (hc 0 (by omega)).1
theorem mark_RB (m : Nat) (l : List Int) (A : Option Addr) (c : Nat) (B T : Nat) (w : World) (h : RB w B (.slice A l.length c) l) (hT : l ≠ [] → ∀ g, (Value.slice A l.length c).ownBlock = some g → g < T) (hm : m + l.length ≤ 1000000000) :
    Calls Try.prog 18 #[.slice A l.length c, .int .i64 (m : Int)] w fun e w' => e = .returned (.int .i64 ((m + l.length : Nat) : Int)) ∧ RB w' B (.slice A l.length c) (markTo m l l.length) ∧ (∀ k, (k < B ∨ T ≤ k) → w'.heap[k]? = w.heap[k]?) ∧ Below B w w' := by
  by_cases hl : l = []
  · subst hl
    have HH := Aside0.mk h
    clear h hT hm
    go_enter Try.func18, Try.ntmps18
    go_wp2
    go_loopw [1, 5] (fun v1 v5 wr => v1 = .int .i64 (m : Int) ∧ v5 = .int .i64 0 ∧ wr = w) (fun _ _ _ => 0)
    case atStart => exact ⟨rfl, rfl, rfl⟩
    case round =>
      obtain ⟨rfl, rfl, rfl⟩ := hrel
      go_wp2
      go_ret
      exact ⟨by simp, HH.out, fun _ _ => rfl, Below.refl _ _⟩
  · rcases h with ⟨_, h⟩ | h
    · exact absurd h hl
    obtain ⟨g, cap, e, hl2⟩ := rowB_form h
    injection e with e1 _ e3
    subst e1 e3
    have hg : B ≤ g := by
      obtain ⟨g2, cap2, e, hg, _⟩ := h
      injection e with e1
      injection e1 with e1
      injection e1 with e1
      omega
    have hgT := hT hl g rfl
    refine (mark_rowB m l g c B w h hg hm).mono ?_
    rintro e w' ⟨rfl, h1, h2, h3⟩
    exact ⟨rfl, .inr h1, fun k hk => h2 k (by omega), h3⟩
theorem held_to (m : Nat) (l : List Int) (k : Nat) (hl : l.length < 100000000) (hm : m + l.length < 900000000) (hk : l.length < k) : laws_heldByteS.f k (markTo m l l.length) (m : Int) = some ((m + l.length : Nat) : Int) := by
  have hz : (markTo m l l.length).length = l.length := markTo_length m l _ (Nat.le_refl _)
  unfold laws_heldByteS.f
  have h := heldB_run l.length k 0 m (markTo m l l.length) (by omega) (by omega) (by omega) (by omega) (fun j _ hj => by
    rw [hz] at hj
    unfold markTo
    rw [List.getElem?_append_left (by simpa using hj), List.getElem?_map, List.getElem?_range hj]
    simp only [Option.map_some, Nat.sub_zero]
    rw [cm])
  exact h
end Go.Proofs.Ytlfpogbonmddmaa.Pg
namespace Go.Proofs.Ytlfpogbonmddmaa.Pg
open Go.RowKit Go.Proofs.Ytlfpogbonmddmaa.P Go.Proofs.YtlfpogbonmddmaaW.PrintWords Go.Proofs.YtlfpogbonmddmaaW.PrintLast Go.Proofs.YtlfpogbonmddmaaW.PrintMore
set_option linter.unusedVariables false
set_option linter.unusedSimpArgs false
theorem sl_long (a0 : ByteArray) (b : Bool) (h : b = decide (65536 < a0.size)) : impl_isLong_string.f [a0] = some b := by
  subst h
  unfold impl_isLong_string.f
  congr 1
  simp only [List.any_cons, List.any_nil, Bool.or_false]
  exact decide_eq_decide.2 (by omega)
def slN (a b : Int) : List Int := (Sha.four 0 ++ Sha.four a) ++ Sha.four b
theorem sl_four_size (n : Int) : (strOfNums (Sha.four n)).size = 4 := by rw [strOfNums_size]; rfl
theorem sl_snonce (a b : Int) : spec_l04Nonce.f a b = some (strOfNums (slN a b)) := by
  have e : ∀ n : Int, spec_l02Four.f n = some (Sha.four n) := fun n => rfl
  unfold spec_l04Nonce.f
  simp only [e, Option.bind_some, ByteArray.size_append, sl_four_size]
  simp [slN, str_app]
theorem sl_inonce (k : Nat) (a b : Int) (hk : 5 < k) : impl_sealNonce.f k a b = some (strOfNums (slN a b)) := by
  unfold impl_sealNonce.f
  simp only [sx_bytesOf4 k _ hk, Option.bind_some, ByteArray.size_append, sl_four_size]
  simp [slN, str_app]
theorem slotL_ok : u8ok slotL := fun x hx => by simp only [slotL, List.mem_cons, List.not_mem_nil, or_false] at hx; omega
def slotB (a0 : ByteArray) (a1 ep : Int) (dt : ByteArray) : List Int := Sha.four ep ++ sealL a0 (strOfNums (slN a1 ep)) slotL (bytesL dt)
theorem slotB_length (a0 : ByteArray) (a1 ep : Int) (dt : ByteArray) : (slotB a0 a1 ep dt).length = dt.size + 20 := by
  rw [slotB, List.length_append, sealL_length, bytesL_length]
  show 4 + _ = _
  omega
theorem slotB_ok (a0 : ByteArray) (a1 ep : Int) (dt : ByteArray) : u8ok (slotB a0 a1 ep dt) := u8ok_append (u8ok_four ep) (sealL_ok _ _ _ (u8ok_bytesL dt))
theorem sl_islot (a0 : ByteArray) (a1 ep : Int) (dt : ByteArray) (hk : a0.size = 32) (hd : dt.size ≤ 170) : impl_slotBytes.f 300000 a0 a1 ep dt = some (strOfNums (slotB a0 a1 ep dt)) := by
  have hn : (strOfNums (slN a1 ep)).size = 12 := by rw [size_strOfNums]; rfl
  have e := iseal_eq a0 (strOfNums (slN a1 ep)) slotL (bytesL dt) slotL_ok (u8ok_bytesL dt) hk hn (by decide) (by rw [bytesL_length]; omega)
  rw [str_bytesL] at e
  have c : (⟨#[115, 108, 111, 116]⟩ : ByteArray) = strOfNums slotL := rfl
  unfold impl_slotBytes.f
  rw [sx_bytesOf4 _ _ (by decide), Option.bind_some, sl_inonce _ _ _ (by decide), Option.bind_some, c, e, Option.bind_some, size_strOfNums, size_strOfNums, sealL_length, bytesL_length, if_pos (by show 4 + _ ≤ _; omega), str_app]
  rfl
theorem sl_sslot (a0 : ByteArray) (a1 ep : Int) (dt : ByteArray) (hk : a0.size = 32) (hd : dt.size ≤ 170) : spec_l06Bytes.f a0 a1 ep dt = some (slotB a0 a1 ep dt) := by
  have hn : (strOfNums (slN a1 ep)).size = 12 := by rw [size_strOfNums]; rfl
  have e := sseal_eq 300000 a0 (strOfNums (slN a1 ep)) slotL (bytesL dt) slotL_ok (u8ok_bytesL dt) hk hn (by decide) (by rw [bytesL_length]; omega) (by decide)
  have e4 : spec_l02Four.f ep = some (Sha.four ep) := rfl
  unfold spec_l06Bytes.f
  rw [e4, Option.bind_some, sl_snonce, Option.bind_some]
  show (spec_l04Seal.f 300000 a0 (strOfNums (slN a1 ep)) slotL (bytesL dt)).bind _ = _
  rw [e, Option.bind_some, sealL_length, bytesL_length, if_pos ⟨by show 4 + _ ≤ _; omega, by omega⟩]
  rfl
def slotX (a0 : ByteArray) (a1 ep : Int) (dt : ByteArray) : List Int × Int :=
  if 65536 < a0.size then ([], 2) else if a0.size = 32 ∧ 1 ≤ ep ∧ ep ≤ 4294967295 ∧ dt.size ≤ 170 then (if 0 ≤ a1 ∧ a1 ≤ 1 then (slotB a0 a1 ep dt, 0) else ([], 4)) else ([], 1)
theorem slotX_len (a0 : ByteArray) (a1 ep : Int) (dt : ByteArray) : (slotX a0 a1 ep dt).1.length ≤ 70000 := by
  unfold slotX
  split
  · simp
  · split
    · rename_i h
      split
      · show (slotB a0 a1 ep dt).length ≤ 70000
        rw [slotB_length]; omega
      · simp
    · simp
theorem sl_okI (ep : Int) (dt : ByteArray) (b : Bool) (h : b = decide (1 ≤ ep ∧ ep ≤ 4294967295 ∧ dt.size ≤ 170)) : impl_SlotOK.f ep dt = some b := by
  subst h
  unfold impl_SlotOK.f impl_within.f
  have hi : ((dt.size : Int) ≤ 170) ↔ dt.size ≤ 170 := by omega
  by_cases h0 : 1 ≤ ep <;> by_cases h1 : ep ≤ 4294967295 <;> simp [h0, h1, hi]
theorem sl_okS (ep : Int) (dt : ByteArray) (b : Bool) (h : b = decide (1 ≤ ep ∧ ep ≤ 4294967295 ∧ dt.size ≤ 170)) : spec_SlotOK.f ep dt = some b := by
  subst h
  unfold spec_SlotOK.f spec_l01In.f
  have hi : ((dt.size : Int) ≤ 170) ↔ dt.size ≤ 170 := by omega
  by_cases h0 : 1 ≤ ep <;> by_cases h1 : ep ≤ 4294967295 <;> simp [h0, h1, hi]
theorem sl_plI (a1 : Int) (b : Bool) (h : b = decide (0 ≤ a1 ∧ a1 ≤ 1)) : impl_isPlace.f a1 = some b := by
  subst h
  unfold impl_isPlace.f impl_within.f
  by_cases h0 : 0 ≤ a1 <;> by_cases h1 : a1 ≤ 1 <;> simp [h0, h1]
theorem sl_plS (a1 : Int) (b : Bool) (h : b = decide (0 ≤ a1 ∧ a1 ≤ 1)) : spec_l01In.f a1 0 1 = some b := by
  subst h
  unfold spec_l01In.f
  by_cases h0 : 0 ≤ a1 <;> by_cases h1 : a1 ≤ 1 <;> simp [h0, h1]
theorem spec_slotx (a0 : ByteArray) (a1 ep : Int) (dt : ByteArray) : spec_SlotBytes.f 300000 a0 a1 ep dt = some (slotX a0 a1 ep dt) := by
  unfold spec_SlotBytes.f slotX
  by_cases h0 : 65536 < a0.size
  · rw [if_pos (by omega), if_pos h0]
  rw [if_neg (by omega), if_neg h0]
  by_cases h1 : a0.size = 32
  · rw [if_pos (by omega)]
    by_cases h2 : 1 ≤ ep ∧ ep ≤ 4294967295 ∧ dt.size ≤ 170
    · rw [sl_okS ep dt true (decide_eq_true h2).symm, Option.bind_some, if_pos ⟨h1, h2⟩]
      simp only [spec_SlotBytes.j0, Bool.not_true, Bool.false_eq_true, if_false]
      by_cases h3 : 0 ≤ a1 ∧ a1 ≤ 1
      · rw [sl_plS a1 true (decide_eq_true h3).symm, Option.bind_some, if_pos rfl, if_pos h3, sl_sslot _ _ _ _ h1 h2.2.2, Option.bind_some]
      · rw [sl_plS a1 false (decide_eq_false h3).symm, Option.bind_some, if_neg (by decide), if_neg h3]
    · rw [sl_okS ep dt false (decide_eq_false h2).symm, Option.bind_some, if_neg (fun h => h2 h.2)]
      simp only [spec_SlotBytes.j0, Bool.not_false, if_true]
  · rw [if_neg (by omega), if_neg (fun h => h1 h.1)]
    simp only [spec_SlotBytes.j0, if_true]
set_option maxHeartbeats 4000000 in
set_option maxRecDepth 100000 in
theorem SlotBytes_in (a0 : ByteArray) (a1 ep : Int) (dt : ByteArray) (r1 : List Int) (r2 : Int) (w0 : World) (h : slotX a0 a1 ep dt = (r1, r2)) :
    Calls Try.prog 33 #[.string a0, .int .i64 a1, .agg #[.int .i64 ep, .string dt]] w0 fun e w' => ∃ v0_ : Value, e = .returned (.tuple #[v0_, .int .i64 r2]) ∧ RB w' w0.heap.size v0_ r1 ∧ Below w0.heap.size w0 w' := by
  unfold slotX at h
  have HB := Aside0.mk (Below.refl w0.heap.size w0)
  by_cases h1 : 65536 < a0.size
  · rw [if_pos h1] at h
    obtain ⟨rfl, rfl⟩ : ([] : List Int) = r1 ∧ (2 : Int) = r2 := by simpa using h
    have HF := Aside0.mk (sl_long a0 true (decide_eq_true h1).symm)
    clear h h1
    go_enter Try.func33, Try.ntmps33
    go_wp2_with ((with_reducible refine gate_dst (N := 5) rfl ?_); refine box_event ?hg (N := 5) ?hd (cs := #[.int .i64 ep, .string dt]) (t := 40) ?hr ?_; (case hd => rfl); (case hg => rfl); (case hr => first | (go_simp; done) | (go_simp; rfl)); intro gb hg w8 hbox hb; have n0_ := Aside0.mk (below_step HB.out hb); have n1_ := Aside0.mk (hbox); clear HB; have HB := n0_; have BK := n1_; clear n0_ n1_; clear hb hbox hg)
    refine (impl_isLong_string.calls _ _ [a0] true _ (C_one_string (g := w8.heap.size) (T := 9) (fr := (0, 0)) (blk_new w8 _)) (Nat.le_refl _) HF.out).mono ?_
    rintro e wa ⟨rfl, hd⟩
    have hBa := below_then (below_alloc (Below.refl w8.heap.size w8) (Obj.cells #[Value.string a0] 9)) (by simp) hd.below
    have BK := Aside0.mk (blk_below BK.out hBa)
    have HB := Aside0.mk (below_then HB.out HB.out.size hBa)
    clear hd hBa
    have hk0 := (blk_cell BK.out 0).trans rfl
    have hk1 := (blk_cell BK.out 1).trans rfl
    go_wp2
    go_ret2
    exact ⟨_, rfl, RB_nil _ _, HB.out⟩
  rw [if_neg h1] at h
  have HF := Aside0.mk (sl_long a0 false (decide_eq_false h1).symm)
  by_cases h2 : ¬ (a0.size = 32)
  · rw [if_neg (fun h => h2 h.1)] at h
    obtain ⟨rfl, rfl⟩ : ([] : List Int) = r1 ∧ (1 : Int) = r2 := by simpa using h
    have d3 : ((a0.size : Int) != 32) = true := by rw [bne_iff_ne]; omega
    have d4 : ¬ (a0.size : Int) = 32 := by omega
    have d5 : decide ((a0.size : Int) = 32) = false := decide_eq_false d4
    have d6 : ((a0.size : Int) == 32) = false := by rw [beq_eq_false_iff_ne]; exact d4
    clear h h1 h2
    go_enter Try.func33, Try.ntmps33
    go_wp2_with ((with_reducible refine gate_dst (N := 5) rfl ?_); refine box_event ?hg (N := 5) ?hd (cs := #[.int .i64 ep, .string dt]) (t := 40) ?hr ?_; (case hd => rfl); (case hg => rfl); (case hr => first | (go_simp; done) | (go_simp; rfl)); intro gb hg w8 hbox hb; have n0_ := Aside0.mk (below_step HB.out hb); have n1_ := Aside0.mk (hbox); clear HB; have HB := n0_; have BK := n1_; clear n0_ n1_; clear hb hbox hg)
    refine (impl_isLong_string.calls _ _ [a0] false _ (C_one_string (g := w8.heap.size) (T := 9) (fr := (0, 0)) (blk_new w8 _)) (Nat.le_refl _) HF.out).mono ?_
    rintro e wa ⟨rfl, hd⟩
    have hBa := below_then (below_alloc (Below.refl w8.heap.size w8) (Obj.cells #[Value.string a0] 9)) (by simp) hd.below
    have BK := Aside0.mk (blk_below BK.out hBa)
    have HB := Aside0.mk (below_then HB.out HB.out.size hBa)
    clear hd hBa
    have hk0 := (blk_cell BK.out 0).trans rfl
    have hk1 := (blk_cell BK.out 1).trans rfl
    go_wp2
    go_ret2
    exact ⟨_, rfl, RB_nil _ _, HB.out⟩
  replace h2 := Classical.not_not.1 h2
  have e3 : ((a0.size : Int) != 32) = false := by rw [h2]; rfl
  have e4 : (a0.size : Int) = 32 := by omega
  by_cases h3 : ¬ (1 ≤ ep ∧ ep ≤ 4294967295 ∧ dt.size ≤ 170)
  · rw [if_neg (fun h => h3 h.2)] at h
    obtain ⟨rfl, rfl⟩ : ([] : List Int) = r1 ∧ (1 : Int) = r2 := by simpa using h
    have HO := Aside0.mk (sl_okI ep dt false (decide_eq_false h3).symm)
    clear h h1 h2 h3
    go_enter Try.func33, Try.ntmps33
    go_wp2_with ((with_reducible refine gate_dst (N := 5) rfl ?_); refine box_event ?hg (N := 5) ?hd (cs := #[.int .i64 ep, .string dt]) (t := 40) ?hr ?_; (case hd => rfl); (case hg => rfl); (case hr => first | (go_simp; done) | (go_simp; rfl)); intro gb hg w8 hbox hb; have n0_ := Aside0.mk (below_step HB.out hb); have n1_ := Aside0.mk (hbox); clear HB; have HB := n0_; have BK := n1_; clear n0_ n1_; clear hb hbox hg)
    refine (impl_isLong_string.calls _ _ [a0] false _ (C_one_string (g := w8.heap.size) (T := 9) (fr := (0, 0)) (blk_new w8 _)) (Nat.le_refl _) HF.out).mono ?_
    rintro e wa ⟨rfl, hd⟩
    have hBa := below_then (below_alloc (Below.refl w8.heap.size w8) (Obj.cells #[Value.string a0] 9)) (by simp) hd.below
    have BK := Aside0.mk (blk_below BK.out hBa)
    have HB := Aside0.mk (below_then HB.out HB.out.size hBa)
    clear hd hBa
    have hk0 := (blk_cell BK.out 0).trans rfl
    have hk1 := (blk_cell BK.out 1).trans rfl
    go_wp2_with fail
    refine (impl_SlotOK.calls ep dt false _ HO.out).mono ?_
    rintro e wb ⟨rfl, hb⟩
    have BK := Aside0.mk (blk_below BK.out hb)
    have HB := Aside0.mk (below_then HB.out HB.out.size hb)
    clear hb hk0 hk1
    have hk0 := (blk_cell BK.out 0).trans rfl
    have hk1 := (blk_cell BK.out 1).trans rfl
    go_wp2
    go_ret2
    exact ⟨_, rfl, RB_nil _ _, HB.out⟩
  replace h3 := Classical.not_not.1 h3
  have HO := Aside0.mk (sl_okI ep dt true (decide_eq_true h3).symm)
  rw [if_pos ⟨h2, h3⟩] at h
  by_cases h4 : ¬ (0 ≤ a1 ∧ a1 ≤ 1)
  · rw [if_neg h4] at h
    obtain ⟨rfl, rfl⟩ : ([] : List Int) = r1 ∧ (4 : Int) = r2 := by simpa using h
    have HP := Aside0.mk (sl_plI a1 false (decide_eq_false h4).symm)
    clear h h1 h2 h3 h4
    go_enter Try.func33, Try.ntmps33
    go_wp2_with ((with_reducible refine gate_dst (N := 5) rfl ?_); refine box_event ?hg (N := 5) ?hd (cs := #[.int .i64 ep, .string dt]) (t := 40) ?hr ?_; (case hd => rfl); (case hg => rfl); (case hr => first | (go_simp; done) | (go_simp; rfl)); intro gb hg w8 hbox hb; have n0_ := Aside0.mk (below_step HB.out hb); have n1_ := Aside0.mk (hbox); clear HB; have HB := n0_; have BK := n1_; clear n0_ n1_; clear hb hbox hg)
    refine (impl_isLong_string.calls _ _ [a0] false _ (C_one_string (g := w8.heap.size) (T := 9) (fr := (0, 0)) (blk_new w8 _)) (Nat.le_refl _) HF.out).mono ?_
    rintro e wa ⟨rfl, hd⟩
    have hBa := below_then (below_alloc (Below.refl w8.heap.size w8) (Obj.cells #[Value.string a0] 9)) (by simp) hd.below
    have BK := Aside0.mk (blk_below BK.out hBa)
    have HB := Aside0.mk (below_then HB.out HB.out.size hBa)
    clear hd hBa
    have hk0 := (blk_cell BK.out 0).trans rfl
    have hk1 := (blk_cell BK.out 1).trans rfl
    go_wp2_with fail
    refine (impl_SlotOK.calls ep dt true _ HO.out).mono ?_
    rintro e wb ⟨rfl, hb⟩
    have BK := Aside0.mk (blk_below BK.out hb)
    have HB := Aside0.mk (below_then HB.out HB.out.size hb)
    clear hb hk0 hk1
    have hk0 := (blk_cell BK.out 0).trans rfl
    have hk1 := (blk_cell BK.out 1).trans rfl
    go_wp2_with fail
    refine (impl_isPlace.calls a1 false _ HP.out).mono ?_
    rintro e wc ⟨rfl, hd⟩
    have hb := hd.below
    have BK := Aside0.mk (blk_below BK.out hb)
    have HB := Aside0.mk (below_then HB.out HB.out.size hb)
    clear hb hd hk0 hk1
    have hk0 := (blk_cell BK.out 0).trans rfl
    have hk1 := (blk_cell BK.out 1).trans rfl
    go_wp2
    go_ret2
    exact ⟨_, rfl, RB_nil _ _, HB.out⟩
  replace h4 := Classical.not_not.1 h4
  have HP := Aside0.mk (sl_plI a1 true (decide_eq_true h4).symm)
  rw [if_pos h4] at h
  obtain ⟨rfl, rfl⟩ : slotB a0 a1 ep dt = r1 ∧ (0 : Int) = r2 := by simpa using h
  have HS : Aside0 (impl_slotBytes.f 300000 a0 a1 ep dt = some (strOfNums (slotB a0 a1 ep dt))) := ⟨sl_islot a0 a1 ep dt h2 h3.2.2⟩
  have HSU : Aside0 (u8ok (slotB a0 a1 ep dt)) := ⟨slotB_ok a0 a1 ep dt⟩
  obtain ⟨L, hL⟩ : ∃ L, L = slotB a0 a1 ep dt := ⟨_, rfl⟩
  rw [← hL] at HS HSU ⊢
  clear hL
  clear h h1 h2 h3 h4
  go_enter Try.func33, Try.ntmps33
  go_wp2_with ((with_reducible refine gate_dst (N := 5) rfl ?_); refine box_event ?hg (N := 5) ?hd (cs := #[.int .i64 ep, .string dt]) (t := 40) ?hr ?_; (case hd => rfl); (case hg => rfl); (case hr => first | (go_simp; done) | (go_simp; rfl)); intro gb hg w8 hbox hb; have n0_ := Aside0.mk (below_step HB.out hb); have n1_ := Aside0.mk (hbox); clear HB; have HB := n0_; have BK := n1_; clear n0_ n1_; clear hb hbox hg)
  refine (impl_isLong_string.calls _ _ [a0] false _ (C_one_string (g := w8.heap.size) (T := 9) (fr := (0, 0)) (blk_new w8 _)) (Nat.le_refl _) HF.out).mono ?_
  rintro e wa ⟨rfl, hd⟩
  have hBa := below_then (below_alloc (Below.refl w8.heap.size w8) (Obj.cells #[Value.string a0] 9)) (by simp) hd.below
  have BK := Aside0.mk (blk_below BK.out hBa)
  have HB := Aside0.mk (below_then HB.out HB.out.size hBa)
  clear hd hBa
  have hk0 := (blk_cell BK.out 0).trans rfl
  have hk1 := (blk_cell BK.out 1).trans rfl
  go_wp2_with fail
  refine (impl_SlotOK.calls ep dt true _ HO.out).mono ?_
  rintro e wb ⟨rfl, hb⟩
  have BK := Aside0.mk (blk_below BK.out hb)
  have HB := Aside0.mk (below_then HB.out HB.out.size hb)
  clear hb hk0 hk1
  have hk0 := (blk_cell BK.out 0).trans rfl
  have hk1 := (blk_cell BK.out 1).trans rfl
  go_wp2_with fail
  refine (impl_isPlace.calls a1 true _ HP.out).mono ?_
  rintro e wc ⟨rfl, hd⟩
  have hb := hd.below
  have BK := Aside0.mk (blk_below BK.out hb)
  have HB := Aside0.mk (below_then HB.out HB.out.size hb)
  clear hb hd hk0 hk1
  have hk0 := (blk_cell BK.out 0).trans rfl
  have hk1 := (blk_cell BK.out 1).trans rfl
  go_wp2_with fail
  refine (impl_slotBytes.calls 300000 a0 a1 ep dt (strOfNums L) _ HS.out).mono ?_
  rintro e wd ⟨rfl, hb⟩
  have HB := Aside0.mk (below_then HB.out HB.out.size hb)
  clear hb hk0 hk1
  have kc := Lib.run_convert_string_bytes (P := Try.prog) wd 9 22 5 (strOfNums L) Try.underlying9 Try.underlying22 Try.underlying5
  have HRB := Aside0.mk (conv_rowB wd w0.heap.size 5 (strOfNums L) HB.out.size)
  have HBW := Aside0.mk (Go.Proofs.Ytlfpogbonmddmaa.P.bytes_below HB.out HB.out.size 5 (strOfNums L))
  rw [bytesL_str L HSU.out] at HRB
  generalize Lib.bytesWorld wd 5 (strOfNums L) = WE at kc HRB HBW
  generalize grownCap wd (strOfNums L).size 0 5 = cE at kc HRB
  go_wp2
  go_ret2
  exact ⟨_, rfl, .inr HRB.out, HBW.out⟩
end Go.Proofs.Ytlfpogbonmddmaa.Pg
namespace Go.Proofs.Ytlfpogbonmddmaa.Pg
open Go.RowKit Go.Proofs.Ytlfpogbonmddmaa.P Go.Proofs.YtlfpogbonmddmaaW.PrintWords Go.Proofs.YtlfpogbonmddmaaW.PrintLast Go.Proofs.YtlfpogbonmddmaaW.PrintMore
set_option linter.unusedVariables false
set_option linter.unusedSimpArgs false
theorem sl_sz (ep : Int) (dt : ByteArray) (h : dt.size ≤ 1048576) : laws_szSlot.f ep dt 1048576 = some ((1048576 - dt.size : Nat) : Int) := by
  have hw : wrap64 (1048576 - (dt.size : Int)) = ((1048576 - dt.size : Nat) : Int) := by unfold wrap64; omega
  unfold laws_szSlot.f
  rw [hw, if_neg (by clear hw; omega)]
theorem sl_sz_over (ep : Int) (dt : ByteArray) (h : 1048576 < dt.size) (h2 : dt.size ≤ 9223372036854775807) : laws_szSlot.f ep dt 1048576 = some (-1) := by
  have hw : wrap64 (1048576 - (dt.size : Int)) = 1048576 - (dt.size : Int) := by unfold wrap64; omega
  unfold laws_szSlot.f
  rw [hw, if_pos (by clear hw; omega)]
set_option maxHeartbeats 8000000 in
set_option maxRecDepth 100000 in
theorem slot_law_long (a0 : ByteArray) (a1 ep : Int) (dt : ByteArray) (w : World) (b0 : 1048576 < a0.size) :
    Calls Try.prog 6 #[.string a0, .int .i64 a1, .agg #[.int .i64 ep, .string dt]] w fun e w' => e = .returned (.bool true) ∧ Below w.heap.size w w' := by
  have HB := Aside0.mk (Below.refl w.heap.size w)
  have d0 : decide (1048576 < (a0.size : Int)) = true := decide_eq_true (by omega)
  have d1 : decide (1048576 < a0.size) = true := decide_eq_true b0
  clear b0
  go_enter Try.func6, Try.ntmps6
  go_wp2_with ((with_reducible refine gate_dst (N := 5) rfl ?_); refine box_event ?hg (N := 5) ?hd (cs := #[.int .i64 ep, .string dt]) (t := 37) ?hr ?_; (case hd => rfl); (case hg => rfl); (case hr => first | (go_simp; done) | (go_simp; rfl)); intro gb hg w8 hbox hb; have n0_ := Aside0.mk (below_step HB.out hb); have n1_ := Aside0.mk (hbox); clear HB; have HB := n0_; have BK := n1_; clear n0_ n1_; clear hb hbox hg; have hk0 := (blk_cell BK.out 0).trans rfl; have hk1 := (blk_cell BK.out 1).trans rfl)
  go_ret
  exact ⟨rfl, HB.out⟩
set_option maxHeartbeats 8000000 in
set_option maxRecDepth 100000 in
theorem slot_law_over (a0 : ByteArray) (a1 ep : Int) (dt : ByteArray) (w : World) (b0 : a0.size ≤ 1048576) (b1 : 1048576 < dt.size) (b2 : dt.size ≤ 9223372036854775807) :
    Calls Try.prog 6 #[.string a0, .int .i64 a1, .agg #[.int .i64 ep, .string dt]] w fun e w' => e = .returned (.bool true) ∧ Below w.heap.size w w' := by
  have HB := Aside0.mk (Below.refl w.heap.size w)
  have d0 : decide (1048576 < (a0.size : Int)) = false := decide_eq_false (by omega)
  have d1 : decide (1048576 < a0.size) = false := decide_eq_false (by omega)
  have HSZ := Aside0.mk (sl_sz_over ep dt b1 b2)
  clear b0 b1 b2
  go_enter Try.func6, Try.ntmps6
  go_wp2_with ((with_reducible refine gate_dst (N := 5) rfl ?_); refine box_event ?hg (N := 5) ?hd (cs := #[.int .i64 ep, .string dt]) (t := 37) ?hr ?_; (case hd => rfl); (case hg => rfl); (case hr => first | (go_simp; done) | (go_simp; rfl)); intro gb hg w8 hbox hb; have n0_ := Aside0.mk (below_step HB.out hb); have n1_ := Aside0.mk (hbox); clear HB; have HB := n0_; have BK := n1_; clear n0_ n1_; clear hb hbox hg; have hk0 := (blk_cell BK.out 0).trans rfl; have hk1 := (blk_cell BK.out 1).trans rfl)
  refine (laws_szSlot.calls ep dt 1048576 (-1) _ HSZ.out).mono ?_
  rintro e w1 ⟨rfl, hb⟩
  have HB := Aside0.mk (below_then HB.out HB.out.size hb)
  clear hb hk0 hk1
  go_wp2
  go_ret
  exact ⟨rfl, HB.out⟩
set_option maxHeartbeats 8000000 in
set_option maxRecDepth 100000 in
theorem slot_law (a0 : ByteArray) (a1 ep : Int) (dt : ByteArray) (w : World) (b0 : a0.size ≤ 1048576) (b1 : dt.size ≤ 1048576) :
    Calls Try.prog 6 #[.string a0, .int .i64 a1, .agg #[.int .i64 ep, .string dt]] w fun e w' => e = .returned (.bool true) ∧ Below w.heap.size w w' := by
  obtain ⟨rl, rc, hx⟩ : ∃ rl rc, slotX a0 a1 ep dt = (rl, rc) := ⟨_, _, rfl⟩
  have hlen : rl.length ≤ 70000 := by have := slotX_len a0 a1 ep dt; rw [hx] at this; exact this
  have ES : Aside0 (spec_SlotBytes.f 300000 a0 a1 ep dt = some (rl, rc)) := ⟨by rw [spec_slotx a0 a1 ep dt, hx]⟩
  have EX := Aside0.mk hx
  have HSZ := Aside0.mk (sl_sz ep dt b1)
  have HTO : Aside0 (laws_toSlot.f ep dt = some (ep, dt)) := ⟨rfl⟩
  have QR : Aside0 (laws_eqByteS.f 2000000 rl rl = some true) := ⟨by rw [eqByteS_eq 2000000 rl rl (by omega) (by omega)]; simp⟩
  have HD : Aside0 (laws_heldByteS.f 2000000 (markTo 1 rl rl.length) 1 = some ((1 + rl.length : Nat) : Int)) := ⟨held_to 1 rl 2000000 (by omega) (by omega) (by omega)⟩
  have HLZ : Aside0 (rl.length ≤ 70000 ∧ (markTo 1 rl rl.length).length = rl.length) := ⟨hlen, markTo_length _ _ _ (Nat.le_refl _)⟩
  have HB := Aside0.mk (Below.refl w.heap.size w)
  have d0 : decide (1048576 < (a0.size : Int)) = false := decide_eq_false (by omega)
  have d1 : decide (1048576 < a0.size) = false := decide_eq_false (by omega)
  obtain ⟨lf, hlf⟩ : ∃ lf : Nat, lf = 1048576 - dt.size := ⟨_, rfl⟩
  rw [← hlf] at HSZ
  have d2 : decide ((lf : Int) < 0) = false := decide_eq_false (by omega)
  clear hx hlen b0 b1 hlf
  go_enter Try.func6, Try.ntmps6
  go_wp2_with ((with_reducible refine gate_dst (N := 5) rfl ?_); refine box_event ?hg (N := 5) ?hd (cs := #[.int .i64 ep, .string dt]) (t := 37) ?hr ?_; (case hd => rfl); (case hg => rfl); (case hr => first | (go_simp; done) | (go_simp; rfl)); intro gb hg w8 hbox hb; have n0_ := Aside0.mk (below_step HB.out hb); have n1_ := Aside0.mk (hbox); clear HB; have HB := n0_; have BK := n1_; clear n0_ n1_; clear hb hbox hg; have hk0 := (blk_cell BK.out 0).trans rfl; have hk1 := (blk_cell BK.out 1).trans rfl)
  refine (laws_szSlot.calls ep dt 1048576 (lf : Int) _ HSZ.out).mono ?_
  rintro e w9 ⟨rfl, hb⟩
  have HB := Aside0.mk (below_then HB.out HB.out.size hb)
  have BK := Aside0.mk (blk_below BK.out hb)
  clear hb hk0 hk1
  have hk0 := (blk_cell BK.out 0).trans rfl
  have hk1 := (blk_cell BK.out 1).trans rfl
  go_wp2_with fail
  refine (laws_toSlot.calls ep dt ep dt _ HTO.out).mono ?_
  rintro e w10 ⟨rfl, hb⟩
  have HB := Aside0.mk (below_then HB.out HB.out.size hb)
  have BK := Aside0.mk (blk_below BK.out hb)
  clear hb hk0 hk1
  have hk0 := (blk_cell BK.out 0).trans rfl
  have hk1 := (blk_cell BK.out 1).trans rfl
  go_wp2_with fail
  refine (spec_SlotBytes.calls 300000 a0 a1 ep dt rl rc _ ES.out).mono ?_
  rintro e w11 ⟨v, rfl, hR, hb⟩
  have HB := Aside0.mk (below_then HB.out HB.out.size hb)
  have BK := Aside0.mk (blk_below BK.out hb)
  obtain ⟨A_w, c_w, rfl, hcc, hCC⟩ := Kd.R_reads hR
  have HC_w := Aside0.mk hCC
  have HL_w := Aside0.mk hcc
  clear hb hk0 hk1 hR hcc hCC
  have hk0 := (blk_cell BK.out 0).trans rfl
  have hk1 := (blk_cell BK.out 1).trans rfl
  go_wp2_with fail
  refine (laws_toSlot.calls ep dt ep dt _ HTO.out).mono ?_
  rintro e w12 ⟨rfl, hb⟩
  have HB := Aside0.mk (below_then HB.out HB.out.size hb)
  have BK := Aside0.mk (blk_below BK.out hb)
  have HC_w := Aside0.mk (Kd.C_below HC_w.out hb)
  clear hb hk0 hk1
  have hk0 := (blk_cell BK.out 0).trans rfl
  have hk1 := (blk_cell BK.out 1).trans rfl
  have HA : Aside0 (Below w12.heap.size w12 w12) := ⟨Below.refl _ _⟩
  have HWA := HC_w
  have HWS : Aside0 (w.heap.size ≤ w12.heap.size) := ⟨HB.out.size⟩
  have BKA := BK
  go_wp2_with fail
  refine (SlotBytes_in a0 a1 ep dt rl rc _ EX.out).mono ?_
  rintro e w13 ⟨v, rfl, hR, hb⟩
  have HB := Aside0.mk (below_then HB.out HB.out.size hb)
  have HA := Aside0.mk (below_then HA.out HA.out.size hb)
  have BK := Aside0.mk (blk_below BK.out hb)
  have HC_w := Aside0.mk (Kd.C_below HC_w.out hb)
  have HRB_g := Aside0.mk hR
  obtain ⟨A_g, c_g, rfl, hcc, hCC⟩ := RB_reads HRB_g.out (by have := HLZ.out; omega)
  have HC_g := Aside0.mk hCC
  have HL_g := Aside0.mk hcc
  have HT_g : Aside0 (rl ≠ [] → ∀ g, (Value.slice A_g rl.length c_g).ownBlock = some g → g < w13.heap.size) := ⟨RB_top HRB_g.out⟩
  clear hb hk0 hk1 hR hcc hCC
  have hk0 := (blk_cell BK.out 0).trans rfl
  have hk1 := (blk_cell BK.out 1).trans rfl
  go_wp2_with fail
  refine (laws_eqByteS.calls 2000000 A_g c_g rl A_w c_w rl true _ HC_g.out HL_g.out HC_w.out HL_w.out QR.out).mono ?_
  rintro e w14 ⟨rfl, hd⟩
  have hb := hd.below
  have HB := Aside0.mk (below_then HB.out HB.out.size hb)
  have HA := Aside0.mk (below_then HA.out HA.out.size hb)
  have BK := Aside0.mk (blk_below BK.out hb)
  have HC_w := Aside0.mk (Kd.C_below HC_w.out hb)
  have HC_g := Aside0.mk (Kd.C_below HC_g.out hb)
  have HRB_g := Aside0.mk (RB_below HRB_g.out hb)
  clear hb hk0 hk1 hd
  have hk0 := (blk_cell BK.out 0).trans rfl
  have hk1 := (blk_cell BK.out 1).trans rfl
  go_wp2_with fail
  refine (mark_RB 1 rl A_g c_g w12.heap.size w13.heap.size _ HRB_g.out HT_g.out (by have := HLZ.out; omega)).mono ?_
  rintro e w15 ⟨rfl, hm1, hm2, hm4⟩
  obtain ⟨M_g, hM⟩ : ∃ M : Nat, M = 1 + rl.length := ⟨_, rfl⟩
  rw [← hM]
  have HM_g := Aside0.mk hM
  clear hM
  have HB : Aside0 (Below w.heap.size w w15) := ⟨HB.out.trans (hm4.mono HWS.out)⟩
  have HA : Aside0 (Below w12.heap.size w12 w15) := ⟨HA.out.trans hm4⟩
  have BK := Aside0.mk (blk_below BKA.out HA.out)
  have HC_w := Aside0.mk (Kd.C_below HWA.out HA.out)
  have HRB_g := Aside0.mk hm1
  clear hm1 hm2 hm4 hk0 hk1 HC_g
  obtain ⟨ML, hML⟩ : ∃ L, L = markTo 1 rl rl.length := ⟨_, rfl⟩
  have HMZ : Aside0 (ML.length = rl.length) := ⟨by rw [hML]; exact HLZ.out.2⟩
  have HDM : Aside0 (laws_heldByteS.f 2000000 ML 1 = some (M_g : Int)) := ⟨by rw [hML, HM_g.out]; exact HD.out⟩
  rw [← hML] at HRB_g
  clear hML HD
  have d9 : decide ((M_g : Int) < 0) = false := decide_eq_false (by omega)
  have d10 : ((M_g : Int) != (M_g : Int)) = false := bne_self_eq_false _
  have hk0 := (blk_cell BK.out 0).trans rfl
  have hk1 := (blk_cell BK.out 1).trans rfl
  have HC_g : Aside0 (Kd.C (Kd.int .u8) w15 A_g ML.length ML) := ⟨by obtain ⟨A', c', e', _, h'⟩ := RB_reads HRB_g.out (by have := HLZ.out; have := HMZ.out; omega); injection e' with e1; rw [e1]; exact h'⟩
  have hh := laws_heldByteS.calls 2000000 A_g c_g ML 1 (M_g : Int) _ HC_g.out (by rw [HMZ.out]; exact HL_g.out) HDM.out
  rw [HMZ.out] at hh
  go_wp2_with fail
  refine (hh).mono ?_
  rintro e w16 ⟨rfl, hd⟩
  have hb := hd.below
  have HB := Aside0.mk (below_then HB.out HB.out.size hb)
  have HA := Aside0.mk (below_then HA.out HA.out.size hb)
  have BK := Aside0.mk (blk_below BK.out hb)
  have HC_w := Aside0.mk (Kd.C_below HC_w.out hb)
  have HRB_g := Aside0.mk (RB_below HRB_g.out hb)
  clear hb hk0 hk1 hd HC_g hh
  have hk0 := (blk_cell BK.out 0).trans rfl
  have hk1 := (blk_cell BK.out 1).trans rfl
  go_wp2_with fail
  refine (laws_toSlot.calls ep dt ep dt _ HTO.out).mono ?_
  rintro e w17 ⟨rfl, hb⟩
  have HB := Aside0.mk (below_then HB.out HB.out.size hb)
  have HA := Aside0.mk (below_then HA.out HA.out.size hb)
  have BK := Aside0.mk (blk_below BK.out hb)
  have HC_w := Aside0.mk (Kd.C_below HC_w.out hb)
  have HRB_g := Aside0.mk (RB_below HRB_g.out hb)
  clear hb hk0 hk1
  have hk0 := (blk_cell BK.out 0).trans rfl
  have hk1 := (blk_cell BK.out 1).trans rfl
  go_wp2_with fail
  refine (SlotBytes_in a0 a1 ep dt rl rc _ EX.out).mono ?_
  rintro e w18 ⟨v, rfl, hR, hb⟩
  have HB := Aside0.mk (below_then HB.out HB.out.size hb)
  have HA := Aside0.mk (below_then HA.out HA.out.size hb)
  have BK := Aside0.mk (blk_below BK.out hb)
  have HC_w := Aside0.mk (Kd.C_below HC_w.out hb)
  have HRB_g := Aside0.mk (RB_below HRB_g.out hb)
  have HRB_h := Aside0.mk hR
  obtain ⟨A_h, c_h, rfl, hcc, hCC⟩ := RB_reads HRB_h.out (by have := HLZ.out; omega)
  have HC_h := Aside0.mk hCC
  have HL_h := Aside0.mk hcc
  have HT_h : Aside0 (rl ≠ [] → ∀ g, (Value.slice A_h rl.length c_h).ownBlock = some g → g < w18.heap.size) := ⟨RB_top HRB_h.out⟩
  clear hb hk0 hk1 hR hcc hCC
  have hk0 := (blk_cell BK.out 0).trans rfl
  have hk1 := (blk_cell BK.out 1).trans rfl
  go_wp2_with fail
  refine (laws_eqByteS.calls 2000000 A_h c_h rl A_w c_w rl true _ HC_h.out HL_h.out HC_w.out HL_w.out QR.out).mono ?_
  rintro e w19 ⟨rfl, hd⟩
  have hb := hd.below
  have HB := Aside0.mk (below_then HB.out HB.out.size hb)
  have HA := Aside0.mk (below_then HA.out HA.out.size hb)
  have BK := Aside0.mk (blk_below BK.out hb)
  have HC_w := Aside0.mk (Kd.C_below HC_w.out hb)
  have HC_h := Aside0.mk (Kd.C_below HC_h.out hb)
  have HRB_g := Aside0.mk (RB_below HRB_g.out hb)
  have HRB_h := Aside0.mk (RB_below HRB_h.out hb)
  clear hb hk0 hk1 hd
  have hk0 := (blk_cell BK.out 0).trans rfl
  have hk1 := (blk_cell BK.out 1).trans rfl
  have HC_g : Aside0 (Kd.C (Kd.int .u8) w19 A_g ML.length ML) := ⟨by obtain ⟨A', c', e', _, h'⟩ := RB_reads HRB_g.out (by have := HLZ.out; have := HMZ.out; omega); injection e' with e1; rw [e1]; exact h'⟩
  have hh := laws_heldByteS.calls 2000000 A_g c_g ML 1 (M_g : Int) _ HC_g.out (by rw [HMZ.out]; exact HL_g.out) HDM.out
  rw [HMZ.out] at hh
  go_wp2_with fail
  refine (hh).mono ?_
  rintro e w20 ⟨rfl, hd⟩
  have hb := hd.below
  have HB := Aside0.mk (below_then HB.out HB.out.size hb)
  have HA := Aside0.mk (below_then HA.out HA.out.size hb)
  have BK := Aside0.mk (blk_below BK.out hb)
  have HC_w := Aside0.mk (Kd.C_below HC_w.out hb)
  have HC_h := Aside0.mk (Kd.C_below HC_h.out hb)
  have HRB_g := Aside0.mk (RB_below HRB_g.out hb)
  have HRB_h := Aside0.mk (RB_below HRB_h.out hb)
  clear hb hk0 hk1 hd HC_g hh
  have hk0 := (blk_cell BK.out 0).trans rfl
  have hk1 := (blk_cell BK.out 1).trans rfl
  go_wp2
  go_ret
  exact ⟨rfl, HB.out⟩
theorem FnExactSlotBytes_walk (a0 : ByteArray) (a1 ep : Int) (dt : ByteArray) (w : World) (b2 : dt.size ≤ 9223372036854775807) :
    Calls Try.prog 6 #[.string a0, .int .i64 a1, .agg #[.int .i64 ep, .string dt]] w fun e w' => e = .returned (.bool true) ∧ Below w.heap.size w w' := by
  by_cases b0 : 1048576 < a0.size
  · exact slot_law_long a0 a1 ep dt w b0
  by_cases b1 : 1048576 < dt.size
  · exact slot_law_over a0 a1 ep dt w (by omega) b1 b2
  exact slot_law a0 a1 ep dt w (by omega) (by omega)
end Go.Proofs.Ytlfpogbonmddmaa.Pg

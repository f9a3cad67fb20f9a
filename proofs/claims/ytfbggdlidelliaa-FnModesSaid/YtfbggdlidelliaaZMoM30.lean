/- Laid by a program of this session: of Psrc, Pblob, Pplain, Penc, Pctr, Pkey, Pctrx, Pcbcx, Pcol, Puncx, Pmodes, WSized what this law uses. -/
import Derived.Test.YtfbggdlidelliaaZMoPm22
import Derived.Test.YtfbggdlidelliaaZMoM11
import Derived.Test.YtfbggdlidelliaaZMoPm6
import Derived.Test.YtfbggdlidelliaaZMoPm3
import Derived.Test.YtfbggdlidelliaaZMoPm2
import Derived.Test.YtfbggdlidelliaaZMoPm20
import Derived.Test.YtfbggdlidelliaaZMoPm21
import Derived.Test.YtfbggdlidelliaaZMoPm7
import Derived.Test.YtfbggdlidelliaaZMoM22
import Derived.Test.YtfbggdlidelliaaZMoPm4
import Derived.Test.YtfbggdlidelliaaZMoM10
import Derived.Test.YtfbggdlidelliaaZMoPm15
import Derived.Test.YtfbggdlidelliaaZMoPm18
import Derived.Test.YtfbggdlidelliaaZMoWLast
import Derived.Test.YtfbggdlidelliaaZMoWMore
import Derived.RegionTactic
import Derived.BigRegion
import Derived.SizedLaws
import Derived.ChangeSlices
namespace Go.Proofs.Ytfbggdlidelliaa.Pg
open Go.RowKit Go.Proofs.Ytfbggdlidelliaa.P Go.Proofs.YtfbggdlidelliaaW.PrintWords Go.Proofs.YtfbggdlidelliaaW.PrintLast Go.Proofs.YtfbggdlidelliaaW.PrintMore
theorem rd_src {l : List Int} (w : isU8 l) (i : Int) : 0 ≤ rd l i ∧ rd l i ≤ 255 := by
  unfold rd
  rcases Nat.lt_or_ge i.toNat l.length with h | h
  · rw [List.getD_eq_getElem?_getD, List.getElem?_eq_getElem h]
    exact w _ (List.getElem_mem h)
  · rw [List.getD_eq_getElem?_getD, List.getElem?_eq_none h]
    exact ⟨by decide, by decide⟩
theorem byteSeed_bd (s b : Int) : 0 ≤ byteSeed s b ∧ byteSeed s b < 2147483648 := by unfold byteSeed; omega
def At (B a s : Int) : Prop := 0 ≤ a ∧ a ≤ B ∧ 0 ≤ s ∧ s < 2147483648
theorem byte_some {l : List Int} (w : isU8 l) {B a s : Int} (h : At B a s) (hB : B ≤ 1000000000000) : ∃ r a' s', spec_l00Src_byte.f l a s = some (r, a', s') ∧ 0 ≤ r ∧ r ≤ 255 ∧ At (B + 1) a' s' := by
  obtain ⟨h0, h1, h2, h3⟩ := h
  obtain ⟨r0, r1⟩ := rd_src w a
  unfold spec_l00Src_byte.f
  rw [if_pos ⟨h0, by omega, h2, h3, r0, r1⟩]
  split
  · obtain ⟨b0, b1⟩ := byteSeed_bd s (rd l a)
    exact ⟨_, _, _, rfl, r0, r1, by omega, by omega, b0, b1⟩
  · split
    · exact ⟨_, _, _, rfl, by decide, by decide, by omega, by omega, h2, h3⟩
    · obtain ⟨b0, b1⟩ := byteNext_bd s
      exact ⟨_, _, _, rfl, by omega, by omega, by omega, by omega, b0, b1⟩
theorem next_some {l : List Int} (w : isU8 l) {B a s n : Int} (h : At B a s) (hB : B ≤ 100000000000) (hn : 1 ≤ n) : ∃ r a' s', spec_l00Src_next.f l a s n = some (r, a', s') ∧ 0 ≤ r ∧ r < n ∧ At (B + 3) a' s' := by
  unfold spec_l00Src_next.f
  by_cases h1 : n ≤ 1
  · rw [if_pos h1]
    obtain ⟨h0, h2, h3, h4⟩ := h
    exact ⟨_, _, _, rfl, by decide, by omega, h0, by omega, h3, h4⟩
  rw [if_neg h1]
  have hn0 : ¬ n = 0 := by omega
  by_cases h2 : n ≤ 256
  · rw [if_pos h2]
    obtain ⟨r, a', s', e, r0, r1, g0, g1, g2, g3⟩ := byte_some w h (by omega)
    rw [e, Option.bind_some, if_neg hn0]
    refine ⟨Int.tmod r n, a', s', rfl, ?_, ?_, g0, by omega, g2, g3⟩
    · exact Int.tmod_nonneg _ r0
    · exact Int.tmod_lt_of_pos _ (by omega)
  · rw [if_neg h2]
    obtain ⟨x, a1, s1, e1, x0, x1, g1⟩ := byte_some w h (by omega)
    obtain ⟨y, a2, s2, e2, y0, y1, g2⟩ := byte_some w g1 (by omega)
    obtain ⟨z, a3, s3, e3, z0, z1, g30, g31, g32, g33⟩ := byte_some w g2 (by omega)
    rw [e1, Option.bind_some, e2, Option.bind_some, e3, Option.bind_some, if_neg hn0]
    have hw : wrap64 ((wrap64 ((wrap64 (x * 65536)) + (wrap64 (y * 256)))) + z) = x * 65536 + y * 256 + z := by unfold wrap64; omega
    simp only [hw]
    clear hw
    refine ⟨Int.tmod (x * 65536 + y * 256 + z) n, a3, s3, rfl, ?_, ?_, g30, by omega, g32, g33⟩
    · exact Int.tmod_nonneg _ (by omega)
    · exact Int.tmod_lt_of_pos _ (by omega)
theorem isU8_snoc {l : List Int} (w : isU8 l) {x : Int} (h : 0 ≤ x ∧ x ≤ 255) : isU8 (l ++ [x]) := by
  intro y hy
  rcases List.mem_append.1 hy with hy | hy
  · exact w y hy
  · rw [List.mem_singleton.1 hy]; exact h
theorem isU8_nil : isU8 [] := fun x hx => by cases hx
theorem isU8_append {l m : List Int} (w : isU8 l) (v : isU8 m) : isU8 (l ++ m) := by
  intro y hy
  rcases List.mem_append.1 hy with hy | hy
  · exact w y hy
  · exact v y hy
theorem bytes_run {l : List Int} (w : isU8 l) (d : Nat) : ∀ (k : Nat) (acc : List Int) (B a s : Int), d < k → isU8 acc → acc.length + d ≤ 100000 → At B a s → B + 3 * (d : Int) ≤ 100000000000 →
    ∃ r a' s', spec_l00Src_bytes.l0 k acc (d : Int) l a s = some (r, a', s') ∧ isU8 r ∧ r.length = acc.length + d ∧ At (B + 3 * d) a' s' := by
  induction d with
  | zero =>
    intro k acc B a s hk ha hl hA hB
    obtain ⟨k, rfl⟩ : ∃ m, k = m + 1 := ⟨k - 1, by omega⟩
    refine ⟨acc, a, s, ?_, ha, by omega, ?_⟩
    · simp only [spec_l00Src_bytes.l0]; rw [if_neg (by omega)]
    · simpa using hA
  | succ d ih =>
    intro k acc B a s hk ha hl hA hB
    obtain ⟨k, rfl⟩ : ∃ m, k = m + 1 := ⟨k - 1, by omega⟩
    obtain ⟨r, a1, s1, e, r0, r1, hA1⟩ := next_some w (n := 256) hA (by omega) (by decide)
    have hm : r % 256 = r := by omega
    have hw : wrap64 (((d + 1 : Nat) : Int) - 1) = (d : Int) := by unfold wrap64; omega
    obtain ⟨r', a', s', e', u', hl', hA'⟩ := ih k (acc ++ [r]) (B + 3) a1 s1 (by omega) (isU8_snoc ha ⟨r0, by omega⟩) (by simp; omega) hA1 (by omega)
    refine ⟨r', a', s', ?_, u', by simp at hl'; omega, ?_⟩
    · simp only [spec_l00Src_bytes.l0]
      rw [if_pos (by omega), e, Option.bind_some, if_pos (by omega)]
      simp only [hm, hw]
      exact e'
    · have : B + 3 + 3 * (d : Int) = B + 3 * ((d + 1 : Nat) : Int) := by omega
      rw [← this]; exact hA'
theorem bytes_some {l : List Int} (w : isU8 l) {B a s : Int} (h : At B a s) (hB : B ≤ 1000000) (n : Nat) (hn : n ≤ 1000) (k : Nat) (hk : n < k) :
    ∃ r a' s', spec_l00Src_bytes.f k l a s (n : Int) = some (r, a', s') ∧ isU8 r ∧ r.length ≤ n ∧ At (B + 4000) a' s' := by
  unfold spec_l00Src_bytes.f
  have hw : wrap64 ((n : Int) + 1) = (n : Int) + 1 := by unfold wrap64; omega
  rw [hw]
  clear hw
  obtain ⟨r, a1, s1, e, r0, r1, hA1⟩ := next_some w (n := (n : Int) + 1) h (by omega) (by omega)
  rw [e, Option.bind_some]
  obtain ⟨d, rfl⟩ := Int.eq_ofNat_of_zero_le r0
  obtain ⟨r', a', s', e', u', hl', g0, g1, g2, g3⟩ := bytes_run w d k [] (B + 3) a1 s1 (by omega) isU8_nil (by simp; omega) hA1 (by omega)
  exact ⟨r', a', s', e', u', by simp at hl'; omega, g0, by omega, g2, g3⟩
end Go.Proofs.Ytfbggdlidelliaa.Pg
namespace Go.Proofs.Ytfbggdlidelliaa.Pg
open Go.RowKit Go.Proofs.Ytfbggdlidelliaa.P Go.Proofs.YtfbggdlidelliaaW.PrintWords Go.Proofs.YtfbggdlidelliaaW.PrintLast Go.Proofs.YtfbggdlidelliaaW.PrintMore
theorem blob_run {l : List Int} (w : isU8 l) (d : Nat) : ∀ (k n i : Nat) (acc : List Int) (B a s : Int), i + d = n → n ≤ 1000 → d < k → isU8 acc → acc.length = i → At B a s → B + 3 * (d : Int) ≤ 100000000000 →
    ∃ r a' s', spec_l00Src_blob.l0 k (n : Int) acc (i : Int) l a s = some (strOfNums r, a', s') ∧ isU8 r ∧ r.length = n := by
  induction d with
  | zero =>
    intro k n i acc B a s hi hn hk ha hl hA hB
    obtain ⟨k, rfl⟩ : ∃ m, k = m + 1 := ⟨k - 1, by omega⟩
    refine ⟨acc, a, s, ?_, ha, by omega⟩
    simp only [spec_l00Src_blob.l0]
    rw [if_neg (by omega)]
  | succ d ih =>
    intro k n i acc B a s hi hn hk ha hl hA hB
    obtain ⟨k, rfl⟩ : ∃ m, k = m + 1 := ⟨k - 1, by omega⟩
    obtain ⟨r, a1, s1, e, r0, r1, hA1⟩ := next_some w (n := 256) hA (by omega) (by decide)
    have hm : r % 256 = r := by omega
    have hw : wrap64 ((i : Int) + 1) = ((i + 1 : Nat) : Int) := by unfold wrap64; omega
    obtain ⟨r', a', s', e', u', hl'⟩ := ih k n (i + 1) (acc ++ [r]) (B + 3) a1 s1 (by omega) hn (by omega) (isU8_snoc ha ⟨r0, by omega⟩) (by simp; omega) hA1 (by omega)
    refine ⟨r', a', s', ?_, u', hl'⟩
    simp only [spec_l00Src_blob.l0]
    rw [if_pos (by omega), e, Option.bind_some, if_pos (by omega)]
    simp only [hm, hw]
    exact e'
theorem blobOf_some {l : List Int} (w : isU8 l) (n : Nat) (hn : n ≤ 1000) : ∃ r, (∀ k, n < k → spec_BlobOf.f k l (n : Int) = some (strOfNums r)) ∧ isU8 r ∧ r.length = n := by
  have h0 : At 0 0 ((l.length : Int) % 1000) := ⟨by decide, by decide, by omega, by omega⟩
  obtain ⟨r, a', s', e, u, hl⟩ := blob_run w n (n + 1) n 0 [] 0 0 ((l.length : Int) % 1000) (by omega) hn (by omega) isU8_nil rfl h0 (by omega)
  refine ⟨r, fun k hk => ?_, u, hl⟩
  have : spec_BlobOf.f (n + 1) l (n : Int) = some (strOfNums r) := by
    unfold spec_BlobOf.f spec_l00Source.f spec_l00Src_blob.f
    rw [Option.bind_some]
    have e2 : spec_l00Src_blob.l0 (n + 1) (n : Int) [] 0 l 0 ((l.length : Int) % 1000) = some (strOfNums r, a', s') := e
    simp only [e2]
    rfl
  exact at_rounds (spec_BlobOf.mono _ _) hk this
end Go.Proofs.Ytfbggdlidelliaa.Pg
namespace Go.Proofs.Ytfbggdlidelliaa.Pg
open Go.RowKit Go.Proofs.Ytfbggdlidelliaa.P Go.Proofs.YtfbggdlidelliaaW.PrintWords Go.Proofs.YtfbggdlidelliaaW.PrintLast Go.Proofs.YtfbggdlidelliaaW.PrintMore
theorem isU8_zeros (n : Nat) : isU8 (List.replicate n 0) := fun x hx => by
  have := List.eq_of_mem_replicate hx
  omega
theorem plain_some {l : List Int} (w : isU8 l) : ∃ r, (∀ k, 40 < k → spec_PlainOf.f k l = some r) ∧ isU8 r ∧ r.length ≤ 100 := by
  have h0 : At 0 0 ((l.length : Int) % 1000) := ⟨by decide, by decide, by omega, by omega⟩
  obtain ⟨K, hK⟩ : ∃ K : Nat, K = 41 := ⟨41, rfl⟩
  obtain ⟨r, a', s', e', u, hl, hA⟩ := bytes_some w h0 (by omega) 30 (by omega) K (by omega)
  have h30 : ((30 : Nat) : Int) = 30 := rfl
  rw [h30] at e'
  obtain ⟨c, a2, s2, e2, c0, c1, _⟩ := next_some w (n := 5) hA (by omega) (by omega)
  have hz : ∃ z : Nat, rd ([0, 0, 16, 32, 50] : List Int) c = (z : Int) ∧ z ≤ 50 := by
    obtain ⟨n, rfl⟩ := Int.eq_ofNat_of_zero_le c0
    have hn : n < 5 := by omega
    match n, hn with
    | 0, _ => exact ⟨0, rfl, by decide⟩
    | 1, _ => exact ⟨0, rfl, by decide⟩
    | 2, _ => exact ⟨16, rfl, by decide⟩
    | 3, _ => exact ⟨32, rfl, by decide⟩
    | 4, _ => exact ⟨50, rfl, by decide⟩
  obtain ⟨z, ez, hz⟩ := hz
  refine ⟨r ++ List.replicate z 0, fun k hk => ?_, isU8_append u (isU8_zeros z), by simp; omega⟩
  have : spec_PlainOf.f K l = some (r ++ List.replicate z 0) := by
    unfold spec_PlainOf.f spec_l00Source.f spec_l00Src_plain.f
    have hl5 : (([0, 0, 16, 32, 50] : List Int).length : Int) = 5 := rfl
    have hlen : r.length + z < 140737488355328 := by omega
    have hz0 : (0 : Int) ≤ (z : Int) := Int.natCast_nonneg z
    rw [Option.bind_some, e', Option.bind_some, Option.bind_some, e2, Option.bind_some, if_pos c0, hl5, if_pos c1, ez, if_pos hz0, Int.toNat_natCast, if_pos hlen, Option.bind_some]
  exact at_rounds (spec_PlainOf.mono _) (by omega) this
end Go.Proofs.Ytfbggdlidelliaa.Pg
namespace Go.Proofs.Ytfbggdlidelliaa.Pg
open Go.RowKit Go.Proofs.Ytfbggdlidelliaa.P
theorem spec_keys (key : ByteArray) (hkey : key.size = 16 ∨ key.size = 32) : spec_l01Keys.f key Aes.subs = some ((Aes.keysL (bytesL key)).map strOfNums) := by
  unfold spec_l01Keys.f
  rw [if_pos ⟨rfl, hkey⟩]
end Go.Proofs.Ytfbggdlidelliaa.Pg
namespace Go.Proofs.Ytfbggdlidelliaa.Pg
open Go.RowKit Go.Proofs.Ytfbggdlidelliaa.P Go.Proofs.YtfbggdlidelliaaW.PrintWords Go.Proofs.YtfbggdlidelliaaW.PrintLast Go.Proofs.YtfbggdlidelliaaW.PrintMore
set_option linter.unusedVariables false
theorem four_eq (n : Int) : spec_l02Four.f n = some (Sha.four n) := rfl
theorem len_T (R l : List Int) (hR : R.length = l.length) (j : Nat) : (R.take j ++ l.drop j).length = l.length := by
  rw [List.length_append, List.length_take, List.length_drop, hR]; omega
theorem end_T (R l : List Int) (hR : R.length = l.length) (j : Nat) (h : l.length ≤ j) : R.take j ++ l.drop j = R := by
  rw [List.take_of_length_le (by omega), List.drop_eq_nil_of_le (by omega), List.append_nil]
theorem bt_str (E : List Int) (oE : Aes.ok E) (i : Nat) (hi : i < E.length) : bt (strOfNums E) (i : Int) = E.getD i 0 := by
  rw [← bytesL_getD _ i (by rw [str_size]; exact hi), bytesL_str E oE]
theorem ctr_step (a1 : ByteArray) (K : List ByteArray) (l R E : List Int) (hR : R.length = l.length) (hE : E.length = 16) (oE : Aes.ok E) (hl : l.length ≤ 1000000) (p ed k j : Nat) (hed : ed ≤ l.length ∧ ed ≤ p + 16) (hpj : p ≤ j) (hj : j < ed)
    (hA : R.getD j 0 = Aes.xr (l.getD j 0) (E.getD (j - p) 0)) :
    spec_l02Ctr.l1 (k + 1) a1 Aes.subs K (R.take j ++ l.drop j) (p : Int) (strOfNums E) (j : Int) = spec_l02Ctr.l1 k a1 Aes.subs K (R.take (j + 1) ++ l.drop (j + 1)) (p : Int) (strOfNums E) ((j + 1 : Nat) : Int) := by
  have hw : wrap64 ((p : Int) + 16) = ((p + 16 : Nat) : Int) := by unfold wrap64; omega
  have hw2 : wrap64 ((j : Int) - (p : Int)) = ((j - p : Nat) : Int) := by unfold wrap64; omega
  have hL := len_T R l hR j
  have e1 : (R.take j ++ l.drop j).getD j 0 = l.getD j 0 := by
    rw [List.getD_eq_getElem?_getD, td_at R l hR j (by omega)]; rfl
  have e2 := td_set R l hR j (by omega)
  rw [hA] at e2
  simp only [spec_l02Ctr.l1]
  rw [hw, hw2, if_pos (by omega), if_pos (by omega), if_pos (by omega), if_pos (by omega), if_pos (by rw [str_size]; omega), suc64 j (by omega), rdn, e1, bt_str E oE _ (by omega), Int.toNat_natCast]
  unfold Aes.xr at e2
  rw [e2]
theorem ctr_inner (a1 : ByteArray) (K : List ByteArray) (l R E : List Int) (hR : R.length = l.length) (hE : E.length = 16) (oE : Aes.ok E) (hl : l.length ≤ 1000000) (p ed : Nat) (hed : ed ≤ l.length ∧ ed ≤ p + 16 ∧ (ed = l.length ∨ ed = p + 16))
    (hA : ∀ j, p ≤ j → j < ed → R.getD j 0 = Aes.xr (l.getD j 0) (E.getD (j - p) 0)) (d : Nat) : ∀ m j, p ≤ j → j + d = ed →
    spec_l02Ctr.l1 (m + d + 1) a1 Aes.subs K (R.take j ++ l.drop j) (p : Int) (strOfNums E) (j : Int) = spec_l02Ctr.l0 m a1 Aes.subs K (R.take ed ++ l.drop ed) ((p + 16 : Nat) : Int) := by
  induction d with
  | zero =>
    intro m j hpj hj
    have hw : wrap64 ((p : Int) + 16) = ((p + 16 : Nat) : Int) := by unfold wrap64; omega
    have hL := len_T R l hR j
    obtain rfl : j = ed := by omega
    show spec_l02Ctr.l1 (m + 1) _ _ _ _ _ _ _ = _
    simp only [spec_l02Ctr.l1]
    rw [hw]
    by_cases h : j < l.length
    · rw [if_pos (by omega), if_neg (by omega)]
    · rw [if_neg (by omega)]
  | succ d ih =>
    intro m j hpj hj
    show spec_l02Ctr.l1 (m + d + 1 + 1) _ _ _ _ _ _ _ = _
    rw [ctr_step a1 K l R E hR hE oE hl p ed (m + d + 1) j ⟨hed.1, hed.2.1⟩ hpj (by omega) (hA j hpj (by omega))]
    exact ih m (j + 1) (by omega) (by omega)
theorem ctr_outer {keys : List (List Int)} (hk : Aes.keysOk keys) (h0 : 0 < keys.length) (hn : keys.length ≤ 1000) (a1 : ByteArray) (ha : a1.size = 12) (l : List Int) (ol : Aes.ok l) (hl : l.length ≤ 900000) (d : Nat) : ∀ k q, l.length ≤ 16 * q + 16 * d → 18 * d + 1300 ≤ k →
    spec_l02Ctr.l0 k a1 Aes.subs (keys.map strOfNums) ((Md.ctrL keys (bytesL a1) l).take (16 * q) ++ l.drop (16 * q)) ((16 * q : Nat) : Int) = some (Md.ctrL keys (bytesL a1) l) := by
  have hR := Md.ctrL_length keys (bytesL a1) l
  have stop : ∀ k q, l.length ≤ 16 * q → spec_l02Ctr.l0 (k + 1) a1 Aes.subs (keys.map strOfNums) ((Md.ctrL keys (bytesL a1) l).take (16 * q) ++ l.drop (16 * q)) ((16 * q : Nat) : Int) = some (Md.ctrL keys (bytesL a1) l) := fun k q h => by
    have hL := len_T _ l hR (16 * q)
    simp only [spec_l02Ctr.l0]
    rw [if_neg (by omega), end_T _ l hR _ h]
  induction d with
  | zero =>
    intro k q hq hk2
    obtain ⟨k, rfl⟩ : ∃ m, k = m + 1 := ⟨k - 1, by omega⟩
    exact stop k q (by omega)
  | succ d ih =>
    intro k q hq hk2
    obtain ⟨k, rfl⟩ : ∃ m, k = m + 1 := ⟨k - 1, by omega⟩
    by_cases hlt : 16 * q < l.length
    · have hL := len_T _ l hR (16 * q)
      have w1 : wrap64 (Int.tdiv ((16 * q : Nat) : Int) 16) = (q : Int) := by
        rw [Int.tdiv_eq_ediv_of_nonneg (Int.natCast_nonneg _), show ((16 * q : Nat) : Int) / 16 = (q : Int) from by omega]
        unfold wrap64; omega
      have w2 : wrap64 (1 + (q : Int)) = ((q + 1 : Nat) : Int) := by unfold wrap64; omega
      have hs : (a1 ++ strOfNums (Sha.four ((q + 1 : Nat) : Int))).size = 16 := by rw [ByteArray.size_append, ha, str_size]; rfl
      have hb : bytesL (a1 ++ strOfNums (Sha.four ((q + 1 : Nat) : Int))) = bytesL a1 ++ Sha.four ((q + 1 : Nat) : Int) := by
        have e : a1 ++ strOfNums (Sha.four ((q + 1 : Nat) : Int)) = strOfNums (bytesL a1 ++ Sha.four ((q + 1 : Nat) : Int)) := by
          rw [← strOfNums_append, str_bytesL]
        rw [e]
        exact bytesL_str _ (Aes.ok_append (ok_bytesL a1) (Md.four_by _))
      have e := enc_eq hk h0 hn k (by omega) _ hs
      rw [hb] at e
      have e' : spec_l01Encrypt.f k (keys.map strOfNums) Aes.subs (a1 ++ strOfNums (Sha.four ((q + 1 : Nat) : Int))) = some (strOfNums (Md.ctrB keys (bytesL a1) q)) := e
      simp only [spec_l02Ctr.l0]
      rw [if_pos (by omega), w1, w2, four_eq, Option.bind_some, if_pos (by rw [ha, str_size]; show 12 + 4 ≤ _; omega), e', Option.bind_some]
      obtain ⟨ed, hed⟩ : ∃ x, x = if l.length < 16 * q + 16 then l.length else 16 * q + 16 := ⟨_, rfl⟩
      have hed2 : ed ≤ l.length ∧ ed ≤ 16 * q + 16 ∧ (ed = l.length ∨ ed = 16 * q + 16) ∧ 16 * q < ed := by rw [hed]; split <;> omega
      have oE := Md.ctrB_ok hk (ok_bytesL a1) q
      have inn := ctr_inner a1 (keys.map strOfNums) l _ (Md.ctrB keys (bytesL a1) q) hR (Md.ctrB_length _ _ _) oE (by omega) (16 * q) ed ⟨hed2.1, hed2.2.1, hed2.2.2.1⟩ (fun j h1 h2 => by
        rw [Md.ctrL_at _ _ _ j (by omega), show j / 16 = q from by omega, show j % 16 = j - 16 * q from by omega]) (ed - 16 * q) (k - (ed - 16 * q) - 1) (16 * q) (Nat.le_refl _) (by omega)
      rw [show k - (ed - 16 * q) - 1 + (ed - 16 * q) + 1 = k from by omega] at inn
      rw [inn]
      have eT : (Md.ctrL keys (bytesL a1) l).take ed ++ l.drop ed = (Md.ctrL keys (bytesL a1) l).take (16 * (q + 1)) ++ l.drop (16 * (q + 1)) := by
        rcases hed2.2.2.1 with h | h
        · rw [end_T _ l hR _ (by omega), end_T _ l hR _ (by omega)]
        · rw [h, show 16 * (q + 1) = 16 * q + 16 from by omega]
      rw [eT]
      exact ih (k - (ed - 16 * q) - 1) (q + 1) (by omega) (by omega)
    · exact stop k q (by omega)
theorem sctr_eq (k : Nat) (a0 a1 : ByteArray) (l : List Int) (ol : Aes.ok l) (h0 : a0.size = 16 ∨ a0.size = 32) (h1 : a1.size = 12) (hl : l.length ≤ 900000) (hk : 2 * l.length + 2000 ≤ k) :
    spec_l02Ctr.f k a0 a1 l = some (Md.ctrL (Aes.keysL (bytesL a0)) (bytesL a1) l) := by
  unfold spec_l02Ctr.f
  rw [table_at k (by omega), Option.bind_some, spec_keys a0 h0, Option.bind_some, Option.bind_some, if_pos (by simp; omega)]
  exact ctr_outer (keysL_good a0) (by rw [Aes.keysL_length]; omega) (by rw [Aes.keysL_length, bytesL_length]; omega) a1 h1 l ol hl (l.length / 16 + 1) k 0 (by omega) (by omega)
end Go.Proofs.Ytfbggdlidelliaa.Pg
namespace Go.Proofs.Ytfbggdlidelliaa.Pg
open Go.RowKit Go.Proofs.Ytfbggdlidelliaa.P Go.Proofs.YtfbggdlidelliaaW.PrintWords Go.Proofs.YtfbggdlidelliaaW.PrintLast Go.Proofs.YtfbggdlidelliaaW.PrintMore
theorem key_dec (s : ByteArray) : spec_l01Key.f s = some (decide (s.size = 16 ∨ s.size = 32)) := by
  unfold spec_l01Key.f
  by_cases h : s.size = 16
  · rw [if_pos (by omega), decide_eq_true (.inl h)]
  · rw [if_neg (by omega)]
    congr 1
    by_cases h2 : s.size = 32
    · rw [decide_eq_true (.inr h2), h2]; rfl
    · rw [decide_eq_false (by omega), beq_eq_false_iff_ne]; omega
end Go.Proofs.Ytfbggdlidelliaa.Pg
namespace Go.Proofs.Ytfbggdlidelliaa.Pg
open Go.RowKit Go.Proofs.Ytfbggdlidelliaa.P Go.Proofs.YtfbggdlidelliaaW.PrintWords Go.Proofs.YtfbggdlidelliaaW.PrintLast Go.Proofs.YtfbggdlidelliaaW.PrintMore
def ctrxL (a0 a1 : ByteArray) (l : List Int) : List Int × Int := if 65536 < a0.size ∨ 65536 < a1.size ∨ 65536 < l.length then ([], 2) else if (a0.size = 16 ∨ a0.size = 32) ∧ a1.size = 12 then (Md.ctrL (Aes.keysL (bytesL a0)) (bytesL a1) l, 0) else ([], 1)
theorem spec_ctrx (k : Nat) (a0 a1 : ByteArray) (l : List Int) (ol : Aes.ok l) (hk : 200000 ≤ k) : spec_CtrXor.f k a0 a1 l = some (ctrxL a0 a1 l) := by
  obtain ⟨k, rfl⟩ : ∃ m, k = m + 1 := ⟨k - 1, by omega⟩
  unfold spec_CtrXor.f ctrxL
  by_cases h0 : 65536 < a0.size
  · rw [if_pos (by omega), if_pos (.inl h0)]
    simp only [spec_CtrXor.j0, if_true]
  rw [if_neg (by omega)]
  by_cases h1 : 65536 < a1.size
  · rw [decide_eq_true (by omega), if_pos (.inr (.inl h1))]
    simp only [spec_CtrXor.j0, if_true]
  rw [decide_eq_false (by omega)]
  simp only [spec_CtrXor.j0, Bool.false_eq_true, if_false]
  by_cases h2 : 65536 < l.length
  · rw [if_pos (by omega), if_pos (.inr (.inr h2))]
  rw [if_neg (by omega), if_neg (show ¬ (65536 < a0.size ∨ 65536 < a1.size ∨ 65536 < l.length) by omega), key_dec, Option.bind_some]
  by_cases h3 : a0.size = 16 ∨ a0.size = 32
  · rw [decide_eq_true h3, if_pos rfl]
    by_cases h4 : a1.size = 12
    · rw [if_pos (by omega), if_pos ⟨h3, h4⟩, sctr_eq k a0 a1 l ol h3 h4 (by omega) (by omega), Option.bind_some]
    · rw [if_neg (by omega), if_neg (fun h => h4 h.2)]
  · rw [decide_eq_false h3, if_neg (by decide), if_neg (fun h => h3 h.1)]
theorem impl_ctrx (a0 a1 : ByteArray) (l : List Int) (ol : Aes.ok l) : impl_CtrXor.f a0 a1 l = some (ctrxL a0 a1 l) := by
  unfold impl_CtrXor.f ctrxL
  rw [if_pos (u8b_of ol)]
  split
  · rfl
  · split <;> rfl
end Go.Proofs.Ytfbggdlidelliaa.Pg
namespace Go.Proofs.Ytfbggdlidelliaa.Pg
open Go.RowKit Go.Proofs.Ytfbggdlidelliaa.P Go.Proofs.YtfbggdlidelliaaW.PrintWords Go.Proofs.YtfbggdlidelliaaW.PrintLast Go.Proofs.YtfbggdlidelliaaW.PrintMore
def cbcxL (a0 a1 : ByteArray) (l : List Int) : List Int × Int := if 65536 < a0.size ∨ 65536 < a1.size ∨ 65520 < l.length then ([], 2) else if (a0.size = 16 ∨ a0.size = 32) ∧ a1.size = 16 then (Md.cbcL (Aes.keysL (bytesL a0)) (bytesL a1) (padL l), 0) else ([], 1)
theorem spec_cbcx (k : Nat) (a0 a1 : ByteArray) (l : List Int) (ol : Aes.ok l) (hk : 200000 ≤ k) : spec_CbcEncrypt.f k a0 a1 l = some (cbcxL a0 a1 l) := by
  obtain ⟨k, rfl⟩ : ∃ m, k = m + 1 := ⟨k - 1, by omega⟩
  unfold spec_CbcEncrypt.f cbcxL
  by_cases h0 : 65536 < a0.size
  · rw [if_pos (by omega), if_pos (.inl h0)]
    simp only [spec_CbcEncrypt.j0, if_true]
  rw [if_neg (by omega)]
  by_cases h1 : 65536 < a1.size
  · rw [decide_eq_true (by omega), if_pos (.inr (.inl h1))]
    simp only [spec_CbcEncrypt.j0, if_true]
  rw [decide_eq_false (by omega)]
  simp only [spec_CbcEncrypt.j0, Bool.false_eq_true, if_false]
  by_cases h2 : 65520 < l.length
  · rw [if_pos (by omega), if_pos (.inr (.inr h2))]
  rw [if_neg (by omega), if_neg (show ¬ (65536 < a0.size ∨ 65536 < a1.size ∨ 65520 < l.length) by omega), key_dec, Option.bind_some]
  by_cases h3 : a0.size = 16 ∨ a0.size = 32
  · rw [decide_eq_true h3, if_pos rfl]
    by_cases h4 : a1.size = 16
    · rw [if_pos (by omega), if_pos ⟨h3, h4⟩]
      unfold spec_l02CbcEncrypt.f
      rw [if_pos ⟨u8b_of ol, h3, h4, by omega⟩, Option.bind_some]
    · rw [if_neg (by omega), if_neg (fun h => h4 h.2)]
  · rw [decide_eq_false h3, if_neg (by decide), if_neg (fun h => h3 h.1)]
theorem impl_cbcx (a0 a1 : ByteArray) (l : List Int) (ol : Aes.ok l) : impl_CbcEncrypt.f a0 a1 l = some (cbcxL a0 a1 l) := by
  unfold impl_CbcEncrypt.f cbcxL
  rw [if_pos (u8b_of ol)]
  split
  · rfl
  · split <;> rfl
end Go.Proofs.Ytfbggdlidelliaa.Pg
namespace Go.Proofs.Ytfbggdlidelliaa.Pg
open Go.RowKit Go.Proofs.Ytfbggdlidelliaa.P Go.Proofs.Ytfbggdlidelliaa.Gf Go.Proofs.YtfbggdlidelliaaW.PrintWords Go.Proofs.YtfbggdlidelliaaW.PrintLast Go.Proofs.YtfbggdlidelliaaW.PrintMore
set_option linter.unusedVariables false
def at4 (u : V4) (i : Nat) : Nat := match i with | 0 => u.a | 1 => u.b | 2 => u.c | _ => u.d
def col (u : V4) : List Int := [(u.a : Int), (u.b : Int), (u.c : Int), (u.d : Int)]
theorem rd_col (u : V4) (i : Nat) (hi : i < 4) : rd (col u) (i : Int) = (at4 u i : Nat) := by
  match i, hi with
  | 0, _ => rfl
  | 1, _ => rfl
  | 2, _ => rfl
  | 3, _ => rfl
theorem getD_col (u : V4) (i : Nat) (hi : i < 4) : (col u).getD i 0 = (at4 u i : Nat) := by
  match i, hi with
  | 0, _ => rfl
  | 1, _ => rfl
  | 2, _ => rfl
  | 3, _ => rfl
end Go.Proofs.Ytfbggdlidelliaa.Pg
namespace Go.Proofs.Ytfbggdlidelliaa.Pg
open Go.RowKit Go.Proofs.Ytfbggdlidelliaa.P Go.Proofs.YtfbggdlidelliaaW.PrintWords Go.Proofs.YtfbggdlidelliaaW.PrintLast Go.Proofs.YtfbggdlidelliaaW.PrintMore
def uncxL (a0 a1 : ByteArray) (l : List Int) : List Int × Int :=
  if 65536 < a0.size ∨ 65536 < a1.size ∨ 65536 < l.length then ([], 2)
  else if (a0.size = 16 ∨ a0.size = 32) ∧ a1.size = 16 then
    (if l.length % 16 ≠ 0 then ([], 3)
     else match unpadL (Md.uncL (Aes.keysL (bytesL a0)) (bytesL a1) l) with
       | some r => (r, 0)
       | none => ([], 3))
  else ([], 1)
set_option linter.unusedVariables false
theorem impl_uncx (a0 a1 : ByteArray) (l : List Int) (ol : Aes.ok l) : impl_CbcDecrypt.f a0 a1 l = some (uncxL a0 a1 l) := by
  unfold impl_CbcDecrypt.f uncxL
  rw [if_pos (u8b_of ol)]
  by_cases h1 : 65536 < a0.size ∨ 65536 < a1.size ∨ 65536 < l.length
  · rw [if_pos h1, if_pos h1]
  rw [if_neg h1, if_neg h1]
  by_cases h2 : (a0.size = 16 ∨ a0.size = 32) ∧ a1.size = 16
  · rw [if_pos h2, if_pos h2]
    by_cases h3 : l.length % 16 ≠ 0
    · rw [if_pos h3, if_pos h3]
    rw [if_neg h3, if_neg h3]
    cases unpadL (Md.uncL (Aes.keysL (bytesL a0)) (bytesL a1) l) <;> rfl
  · rw [if_neg h2, if_neg h2]
end Go.Proofs.Ytfbggdlidelliaa.Pg
namespace Go.Proofs.Ytfbggdlidelliaa.Pg
open Go.RowKit Go.Proofs.Ytfbggdlidelliaa.P Go.Proofs.YtfbggdlidelliaaW.PrintWords Go.Proofs.YtfbggdlidelliaaW.PrintLast Go.Proofs.YtfbggdlidelliaaW.PrintMore
set_option linter.unusedVariables false
set_option linter.unusedSimpArgs false
theorem unpad_padM (b : List Int) : unpadL (padL b) = some b := by
  have hl := padL_len b
  have hr : rd (padL b) (((padL b).length : Int) - 1) = ((16 - b.length % 16 : Nat) : Int) := by
    have e : ((padL b).length : Int) - 1 = (((padL b).length - 1 : Nat) : Int) := by omega
    rw [e, rd_natW _ _ (by omega)]
    unfold padL
    rw [List.getElem_append_right (by simp; omega), List.getElem_replicate]
    omega
  have ht : (padL b).take ((padL b).length - (16 - b.length % 16)) = b := by
    rw [hl]
    have : b.length + (16 - b.length % 16) - (16 - b.length % 16) = b.length := by omega
    rw [this]
    unfold padL
    rw [List.take_append_of_le_length (Nat.le_refl _), List.take_length]
  unfold unpadL
  rw [if_neg (by omega), hr, Int.toNat_natCast, if_neg (by omega), ht]
  rw [if_pos (by simp)]
theorem padL_take (b : List Int) : (padL (b.take (16 * (b.length / 16)))).take (16 * (b.length / 16)) = (padL b).take (16 * (b.length / 16)) := by
  unfold padL
  rw [List.take_append_of_le_length (by simp; omega), List.take_append_of_le_length (by omega), List.take_take, Nat.min_self]
theorem modes_vals (K N F B : List Int) (uK : isU8 K) (lK : K.length = 32) (uN : isU8 N) (lN : N.length = 12) (uF : isU8 F) (lF : F.length = 16) (uB : isU8 B) (lB : B.length ≤ 100) :
    ∃ X P T : List Int, impl_CtrXor.f (strOfNums K) (strOfNums N) B = some (X, 0) ∧ spec_CtrXor.f 300000 (strOfNums K) (strOfNums N) B = some (X, 0) ∧ impl_CtrXor.f (strOfNums K) (strOfNums N) X = some (B, 0) ∧
      impl_CbcEncrypt.f (strOfNums K) (strOfNums F) B = some (P, 0) ∧ spec_CbcEncrypt.f 300000 (strOfNums K) (strOfNums F) B = some (P, 0) ∧ impl_CbcDecrypt.f (strOfNums K) (strOfNums F) P = some (B, 0) ∧
      impl_CbcEncrypt.f (strOfNums K) (strOfNums F) (B.take (16 * (B.length / 16))) = some (T, 0) ∧ T.length = 16 * (B.length / 16) + 16 ∧ P.length ≤ 200 ∧ X.length ≤ 100 ∧ 16 * (B.length / 16) ≤ P.length ∧ T.take (16 * (B.length / 16)) = P.take (16 * (B.length / 16)) := by
  have kK : (strOfNums K).size = 32 := by rw [str_size]; exact lK
  have kN : (strOfNums N).size = 12 := by rw [str_size]; exact lN
  have kF : (strOfNums F).size = 16 := by rw [str_size]; exact lF
  have good := Aes.keysL_ok uK
  have ctr : ∀ l : List Int, l.length ≤ 100 → ctrxL (strOfNums K) (strOfNums N) l = (Md.ctrL (Aes.keysL K) N l, 0) := fun l hl => by
    unfold ctrxL
    rw [if_neg (by omega), if_pos ⟨.inr kK, kN⟩, bytesL_str K uK, bytesL_str N uN]
  have cbc : ∀ l : List Int, l.length ≤ 100 → cbcxL (strOfNums K) (strOfNums F) l = (Md.cbcL (Aes.keysL K) F (padL l), 0) := fun l hl => by
    unfold cbcxL
    rw [if_neg (by omega), if_pos ⟨.inr kK, kF⟩, bytesL_str K uK, bytesL_str F uF]
  have oX := Md.ctrL_ok good uN uB
  have lX := Md.ctrL_length (Aes.keysL K) N B
  have lP : (padL B).length = 16 * (B.length / 16 + 1) := padL_size B
  have cl : ∀ l : List Int, (Md.cbcL (Aes.keysL K) F (padL l)).length = 16 * (l.length / 16 + 1) := fun l => by
    unfold Md.cbcL
    rw [Md.cbcTo_length, padL_size]
    omega
  have hP : Aes.ok (Md.cbcL (Aes.keysL K) F (padL B)) := (Md.cbcTo_ok good uF (padL_ok uB) _).1
  have htl : (B.take (16 * (B.length / 16))).length = 16 * (B.length / 16) := by rw [List.length_take]; omega
  refine ⟨Md.ctrL (Aes.keysL K) N B, Md.cbcL (Aes.keysL K) F (padL B), Md.cbcL (Aes.keysL K) F (padL (B.take (16 * (B.length / 16)))), ?_, ?_, ?_, ?_, ?_, ?_, ?_, ?_, ?_, ?_, ?_, ?_⟩
  · rw [impl_ctrx _ _ _ uB, ctr B lB]
  · rw [spec_ctrx _ _ _ _ uB (by decide), ctr B lB]
  · rw [impl_ctrx _ _ _ oX, ctr _ (by omega), Md.ctrL_twice good uN uB]
  · rw [impl_cbcx _ _ _ uB, cbc B lB]
  · rw [spec_cbcx _ _ _ _ uB (by decide), cbc B lB]
  · rw [impl_uncx _ _ _ hP]
    unfold uncxL
    rw [if_neg (by have := cl B; omega), if_pos ⟨.inr kK, kF⟩, if_neg (by have := cl B; omega), bytesL_str K uK, bytesL_str F uF, Md.uncL_cbc good uF lF (padL_ok uB) (by omega), unpad_padM]
  · rw [impl_cbcx _ _ _ (fun x hx => uB x (List.mem_of_mem_take hx)), cbc _ (by omega)]
  · rw [cl, htl]; omega
  · rw [cl]; omega
  · omega
  · rw [cl]; omega
  · exact Md.cbcL_first _ _ _ _ _ (by rw [padL_size, htl]; omega) (by rw [lP]; omega) (padL_take B)
def modes_T17 : Bool × List (List Nat × List Nat) := (true, [([], []), ([0], [0]), ([1], [1]), ([2], [2]), ([3, 2], [2, 3]), ([2], [2]), ([5, 2], [2, 5]), ([4, 6, 2], [2, 4, 6]), ([2, 7], [2, 7]), ([8, 2], [8]), ([9], [9]), ([9], [9]), ([10, 11, 9], [9, 10, 11]), ([12, 9], [9, 12]), ([9], [9]), ([9], [9]), ([14, 15, 9], [9, 14, 15]), ([16, 9], [9, 16]), ([13, 17, 9], [9, 13, 17]), ([9, 18], [9, 18]), ([19, 9, 0, 1, 2, 3, 4, 5, 6, 7, 8, 9, 10, 11, 12, 13, 14, 15, 16, 17, 18, 19], [19])])
def modes_B17 : List Nat := [0, 1, 3, 7, 15, 7, 39, 127, 255, 511, 1023, 1023, 4095, 8191, 1023, 1023, 50175, 115711, 262143, 524287, 1048575]
theorem modes_tab17 : rtab .any (opsOf Try.f12 17) = modes_T17 := by kernel_rfl
theorem modes_bits17 : waitsOk modes_T17.2 modes_B17 = true := by kernel_rfl
set_option maxHeartbeats 4000000 in
set_option maxRecDepth 100000 in
theorem modes_in (A0 : Option Addr) (c0 : Nat) (l0 : List Int) (A1 : Option Addr) (c1 : Nat) (l1 : List Int) (w : World) (hr0 : Kd.C (Kd.int .u8) w A0 l0.length l0) (hc0 : l0.length ≤ c0) (hr1 : Kd.C (Kd.int .u8) w A1 l1.length l1) (hc1 : l1.length ≤ c1) (h0 : isU8 l0) (h1 : isU8 l1) (b0 : l0.length ≤ 1048576) (b1 : l1.length ≤ 1048576) :
    Calls Try.prog 12 #[.slice A0 l0.length c0, .slice A1 l1.length c1] w fun e w' => e = .returned (.bool true) ∧ Below w.heap.size w w' := by
  obtain ⟨K, eK, uK, lK⟩ := blobOf_some h0 32 (by omega)
  obtain ⟨N, eN, uN, lN⟩ := blobOf_some h1 12 (by omega)
  obtain ⟨F, eF, uF, lF⟩ := blobOf_some h1 16 (by omega)
  obtain ⟨B, eB, uB, lB⟩ := plain_some h1
  obtain ⟨X, P, T, e1, e2, e3, e4, e5, e6, e7, lT, lP, lX, lPk, hT⟩ := modes_vals K N F B uK lK uN lN uF lF uB lB
  have EK : Aside0 (spec_BlobOf.f 1000 l0 32 = some (strOfNums K)) := ⟨eK 1000 (by decide)⟩
  have EN : Aside0 (spec_BlobOf.f 1000 l1 12 = some (strOfNums N)) := ⟨eN 1000 (by decide)⟩
  have EF : Aside0 (spec_BlobOf.f 1000 l1 16 = some (strOfNums F)) := ⟨eF 1000 (by decide)⟩
  have EB : Aside0 (spec_PlainOf.f 1000 l1 = some B) := ⟨eB 1000 (by decide)⟩
  have E1 := Aside0.mk e1
  have E2 := Aside0.mk e2
  have E3 := Aside0.mk e3
  have E4 := Aside0.mk e4
  have E5 := Aside0.mk e5
  have E6 := Aside0.mk e6
  have E7 := Aside0.mk e7
  have HLB := Aside0.mk lB
  have HLP := Aside0.mk lP
  have HLX := Aside0.mk lX
  have HLT := Aside0.mk lT
  have HLK := Aside0.mk lPk
  have HTP := Aside0.mk hT
  have HR0 := Aside0.mk hr0
  have HC0 := Aside0.mk hc0
  have HR1 := Aside0.mk hr1
  have HC1 := Aside0.mk hc1
  have d0 : decide (1048576 < (l0.length : Int)) = false := decide_eq_false (by omega)
  have d1 : decide (1048576 < (l1.length : Int)) = false := decide_eq_false (by omega)
  have d2 : decide (1048576 < l0.length) = false := decide_eq_false (by omega)
  have d3 : decide (1048576 < l1.length) = false := decide_eq_false (by omega)
  clear eK eN eF eB e1 e2 e3 e4 e5 e6 e7 uK uN uF uB lK lN lF lB lP lX lT lPk hT hr0 hc0 hr1 hc1 h0 h1 b0 b1
  go_enter Try.func12, Try.ntmps12
  go_wp2_with fail
  refine (spec_BlobOf.calls 1000 A0 c0 l0 32 (strOfNums K) _ HR0.out HC0.out EK.out).mono ?_
  rintro e w1 ⟨rfl, hb⟩
  have HB1 : Aside0 (Below w.heap.size w w1) := ⟨hb⟩
  clear hb
  go_wp2_with fail
  refine (spec_BlobOf.calls 1000 A1 c1 l1 12 (strOfNums N) _ (Kd.C_below HR1.out HB1.out) HC1.out EN.out).mono ?_
  rintro e w2 ⟨rfl, hb⟩
  have HB2 : Aside0 (Below w.heap.size w w2) := ⟨below_then HB1.out HB1.out.size hb⟩
  clear hb
  go_wp2_with fail
  refine (spec_BlobOf.calls 1000 A1 c1 l1 16 (strOfNums F) _ (Kd.C_below HR1.out HB2.out) HC1.out EF.out).mono ?_
  rintro e w3 ⟨rfl, hb⟩
  have HB3 : Aside0 (Below w.heap.size w w3) := ⟨below_then HB2.out HB2.out.size hb⟩
  clear hb
  go_wp2_with fail
  refine (spec_PlainOf.calls 1000 A1 c1 l1 B _ (Kd.C_below HR1.out HB3.out) HC1.out EB.out).mono ?_
  rintro e w4 ⟨v, rfl, hR, hb⟩
  have HB4 : Aside0 (Below w.heap.size w w4) := ⟨below_then HB3.out HB3.out.size hb⟩
  obtain ⟨AB, cB, rfl, hcx, hCx⟩ := Kd.R_reads hR
  have HAB := Aside0.mk hCx
  have HCAB := Aside0.mk hcx
  clear hb hR hcx hCx
  go_wp2_with fail
  refine (impl_CtrXor.calls (strOfNums K) (strOfNums N) AB cB B X 0 _ HAB.out HCAB.out E1.out).mono ?_
  rintro e w5 ⟨v, rfl, hR, hb⟩
  have HB5 : Aside0 (Below w.heap.size w w5) := ⟨below_then HB4.out HB4.out.size hb⟩
  obtain ⟨AX, cX, rfl, hcx, hCx⟩ := Kd.R_reads hR
  have HAB := Aside0.mk (Kd.C_below HAB.out hb)
  have HAX := Aside0.mk hCx
  have HCAX := Aside0.mk hcx
  clear hb hR hcx hCx
  go_wp2_with fail
  refine (spec_CtrXor.calls 300000 (strOfNums K) (strOfNums N) AB cB B X 0 _ HAB.out HCAB.out E2.out).mono ?_
  rintro e w6 ⟨v, rfl, hR, hb⟩
  have HB6 : Aside0 (Below w.heap.size w w6) := ⟨below_then HB5.out HB5.out.size hb⟩
  obtain ⟨AW, cW, rfl, hcx, hCx⟩ := Kd.R_reads hR
  have HAB := Aside0.mk (Kd.C_below HAB.out hb)
  have HAX := Aside0.mk (Kd.C_below HAX.out hb)
  have HAW := Aside0.mk hCx
  have HCAW := Aside0.mk hcx
  clear hb hR hcx hCx
  go_wp2_with fail
  refine (impl_CtrXor.calls (strOfNums K) (strOfNums N) AX cX X B 0 _ HAX.out HCAX.out E3.out).mono ?_
  rintro e w7 ⟨v, rfl, hR, hb⟩
  have HB7 : Aside0 (Below w.heap.size w w7) := ⟨below_then HB6.out HB6.out.size hb⟩
  obtain ⟨AY, cY, rfl, hcx, hCx⟩ := Kd.R_reads hR
  have HAB := Aside0.mk (Kd.C_below HAB.out hb)
  have HAX := Aside0.mk (Kd.C_below HAX.out hb)
  have HAW := Aside0.mk (Kd.C_below HAW.out hb)
  have HAY := Aside0.mk hCx
  have HCAY := Aside0.mk hcx
  clear hb hR hcx hCx
  go_wp2_with fail
  refine (impl_CbcEncrypt.calls (strOfNums K) (strOfNums F) AB cB B P 0 _ HAB.out HCAB.out E4.out).mono ?_
  rintro e w8 ⟨v, rfl, hR, hb⟩
  have HB8 : Aside0 (Below w.heap.size w w8) := ⟨below_then HB7.out HB7.out.size hb⟩
  obtain ⟨AP, cP, rfl, hcx, hCx⟩ := Kd.R_reads hR
  have HAB := Aside0.mk (Kd.C_below HAB.out hb)
  have HAX := Aside0.mk (Kd.C_below HAX.out hb)
  have HAW := Aside0.mk (Kd.C_below HAW.out hb)
  have HAY := Aside0.mk (Kd.C_below HAY.out hb)
  have HAP := Aside0.mk hCx
  have HCAP := Aside0.mk hcx
  clear hb hR hcx hCx
  go_wp2_with fail
  refine (spec_CbcEncrypt.calls 300000 (strOfNums K) (strOfNums F) AB cB B P 0 _ HAB.out HCAB.out E5.out).mono ?_
  rintro e w9 ⟨v, rfl, hR, hb⟩
  have HB9 : Aside0 (Below w.heap.size w w9) := ⟨below_then HB8.out HB8.out.size hb⟩
  obtain ⟨AT, cT, rfl, hcx, hCx⟩ := Kd.R_reads hR
  have HAB := Aside0.mk (Kd.C_below HAB.out hb)
  have HAX := Aside0.mk (Kd.C_below HAX.out hb)
  have HAW := Aside0.mk (Kd.C_below HAW.out hb)
  have HAY := Aside0.mk (Kd.C_below HAY.out hb)
  have HAP := Aside0.mk (Kd.C_below HAP.out hb)
  have HAT := Aside0.mk hCx
  have HCAT := Aside0.mk hcx
  clear hb hR hcx hCx
  go_wp2_with fail
  refine (impl_CbcDecrypt.calls (strOfNums K) (strOfNums F) AP cP P B 0 _ HAP.out HCAP.out E6.out).mono ?_
  rintro e w10 ⟨v, rfl, hR, hb⟩
  have HB10 : Aside0 (Below w.heap.size w w10) := ⟨below_then HB9.out HB9.out.size hb⟩
  obtain ⟨AQ, cQ, rfl, hcx, hCx⟩ := Kd.R_reads hR
  have HAB := Aside0.mk (Kd.C_below HAB.out hb)
  have HAX := Aside0.mk (Kd.C_below HAX.out hb)
  have HAW := Aside0.mk (Kd.C_below HAW.out hb)
  have HAY := Aside0.mk (Kd.C_below HAY.out hb)
  have HAP := Aside0.mk (Kd.C_below HAP.out hb)
  have HAT := Aside0.mk (Kd.C_below HAT.out hb)
  have HAQ := Aside0.mk hCx
  have HCAQ := Aside0.mk hcx
  clear hb hR hcx hCx
  have kAB := Kd.C_string (P := Try.prog) (dst := 9) (src := 28) (c := cB) Try.underlying28 Try.underlying5 Try.underlying9 HAB.out
  have kAX := Kd.C_string (P := Try.prog) (dst := 9) (src := 28) (c := cX) Try.underlying28 Try.underlying5 Try.underlying9 HAX.out
  have kAW := Kd.C_string (P := Try.prog) (dst := 9) (src := 28) (c := cW) Try.underlying28 Try.underlying5 Try.underlying9 HAW.out
  have kAY := Kd.C_string (P := Try.prog) (dst := 9) (src := 28) (c := cY) Try.underlying28 Try.underlying5 Try.underlying9 HAY.out
  have kAP := Kd.C_string (P := Try.prog) (dst := 9) (src := 28) (c := cP) Try.underlying28 Try.underlying5 Try.underlying9 HAP.out
  have kAT := Kd.C_string (P := Try.prog) (dst := 9) (src := 28) (c := cT) Try.underlying28 Try.underlying5 Try.underlying9 HAT.out
  have kAQ := Kd.C_string (P := Try.prog) (dst := 9) (src := 28) (c := cQ) Try.underlying28 Try.underlying5 Try.underlying9 HAQ.out
  obtain ⟨q, hq⟩ : ∃ q : Nat, q = 16 * (B.length / 16) := ⟨_, rfl⟩
  have HQ := Aside0.mk hq
  have HQB : Aside0 (q ≤ B.length) := ⟨by omega⟩
  have hkw : wrap64 (wrap64 ((B.length : Int) / 16) * 16) = (q : Int) := by
    have h1 := HLB.out
    have e : (B.length : Int) / 16 = ((B.length / 16 : Nat) : Int) := by omega
    rw [e]
    unfold wrap64
    omega
  have q0 : (0 : Int) ≤ (q : Int) := Int.natCast_nonneg q
  have q1 : (q : Int) ≤ (cB : Int) := by have h1 := HQB.out; have h2 := HCAB.out; omega
  have q2 : q ≤ cB := by have h1 := HQB.out; have h2 := HCAB.out; omega
  rw [← hq] at E7 HLT HLK HTP
  clear hq
  go_wp2_with fail
  have hz : (B.take q).length = q := by rw [List.length_take]; exact Nat.min_eq_left HQB.out
  have hcall := impl_CbcEncrypt.calls (strOfNums K) (strOfNums F) AB cB (B.take q) T 0 w10 (Kd.C_take HAB.out HQB.out) (by rw [hz]; exact q2) E7.out
  rw [hz] at hcall
  refine hcall.mono ?_
  have HKW := Aside0.mk hkw
  clear hcall hkw
  rintro e w11 ⟨v, rfl, hR, hb⟩
  have HB11 : Aside0 (Below w.heap.size w w11) := ⟨below_then HB10.out HB10.out.size hb⟩
  obtain ⟨AH, cH, rfl, hcx, hCx⟩ := Kd.R_reads hR
  have hTq : (T.take q).length = q := by rw [List.length_take]; exact Nat.min_eq_left (by have := HLT.out; omega)
  have hPq : (P.take q).length = q := by rw [List.length_take]; exact Nat.min_eq_left HLK.out
  have kH := Kd.C_string (P := Try.prog) (dst := 9) (src := 28) (c := cH) Try.underlying28 Try.underlying5 Try.underlying9 (Kd.C_take (Kd.C_below hCx (below_drew (Below.refl w11.heap.size w11))) (m := q) (by have := HLT.out; omega))
  have kP := Kd.C_string (P := Try.prog) (dst := 9) (src := 28) (c := cP) Try.underlying28 Try.underlying5 Try.underlying9 (Kd.C_take (Kd.C_below (Kd.C_below HAP.out hb) (below_drew (Below.refl w11.heap.size w11))) HLK.out)
  rw [hTq] at kH
  rw [hPq, ← HTP.out] at kP
  have q3 : (q : Int) ≤ (cH : Int) := by have h1 := HLT.out; omega
  have q4 : (q : Int) ≤ (cP : Int) := by have h1 := HCAP.out; have h2 := HLK.out; omega
  have hT2 : (q : Int) + 16 = (T.length : Int) := by have h1 := HLT.out; omega
  have hkw := HKW.out
  have hT1 : wrap64 ((q : Int) + 16) = (T.length : Int) := by clear hkw; have h1 := HLT.out; have h2 := HLB.out; have h3 := HQB.out; unfold wrap64; omega
  have hT3 : IntKind.i64.wrap (T.length : Int) = (T.length : Int) := by clear hkw hT1; rw [i64_w]; have h1 := HLT.out; have h2 := HLB.out; have h3 := HQB.out; unfold wrap64; omega
  clear hb hR hCx
  clear kAB kAX kAW kAY kAP kAT kAQ
  go_upto_region 17 with (fail)
  refine start_ (n := 21) (S := fun w' => w' = w11.drew) (ds := []) #[false, false, false, false, false, false, false, false, false, false, false, false, false, false, false, false, false, false, false, false, false] (by kernel_rfl) rfl rfl rfl (fun hHeld => ?_)
  refine with_tabW modes_tab17 modes_bits17 (fun HT_ HW_ => ?_)
  refine pure_ (i := 0) (N := some 137) (v := ?_) (a' := ?_) #[true, false, false, false, false, false, false, false, false, false, false, false, false, false, false, false, false, false, false, false, false] rfl rfl (any_of HT_.out (by kernel_rfl)) (fun _ _ _ h => h) (Or.inl ⟨by rfl, ?_⟩) ?_ ?_
  rotate_left
  · intro w'
    go_simp
    with_reducible rfl
  rotate_left
  · simp only [Act.put, List.setIfInBounds_toArray, List.set_cons_zero, List.set_cons_succ, i64_w, i32_w]
    rfl
  refine pure_ (i := 1) (N := some 138) (v := ?_) (a' := ?_) #[true, true, false, false, false, false, false, false, false, false, false, false, false, false, false, false, false, false, false, false, false] rfl rfl (any_of HT_.out (by kernel_rfl)) (fun _ _ _ h => h) (Or.inl ⟨by rfl, ?_⟩) ?_ ?_
  rotate_left
  · intro w'
    go_simp
    with_reducible rfl
  rotate_left
  · simp only [Act.put, List.setIfInBounds_toArray, List.set_cons_zero, List.set_cons_succ, i64_w, i32_w]
    rfl
  refine pure_ (i := 2) (N := some 139) (v := ?_) (a' := ?_) #[true, true, true, false, false, false, false, false, false, false, false, false, false, false, false, false, false, false, false, false, false] rfl rfl (any_of HT_.out (by kernel_rfl)) (fun _ _ _ h => h) (Or.inl ⟨by rfl, ?_⟩) ?_ ?_
  rotate_left
  · intro w'
    go_simp
    with_reducible rfl
  rotate_left
  · simp only [Act.put, List.setIfInBounds_toArray, List.set_cons_zero, List.set_cons_succ, i64_w, i32_w]
    rfl
  refine pure_ (i := 3) (N := some 140) (v := ?_) (a' := ?_) #[true, true, true, true, false, false, false, false, false, false, false, false, false, false, false, false, false, false, false, false, false] rfl rfl (any_of HT_.out (by kernel_rfl)) (fun _ _ _ h => h) (Or.inl ⟨by rfl, ?_⟩) ?_ ?_
  rotate_left
  · intro w'
    go_simp
    with_reducible rfl
  rotate_left
  · simp only [Act.put, List.setIfInBounds_toArray, List.set_cons_zero, List.set_cons_succ, i64_w, i32_w]
    rfl
  refine pure_ (i := 4) (N := some 141) (v := ?_) (a' := ?_) #[true, true, true, true, true, false, false, false, false, false, false, false, false, false, false, false, false, false, false, false, false] rfl rfl (any_of HT_.out (by kernel_rfl)) (fun _ _ _ h => h) (Or.inl ⟨by rfl, ?_⟩) ?_ ?_
  rotate_left
  · intro w'
    go_simp
    with_reducible rfl
  rotate_left
  · simp only [Act.put, List.setIfInBounds_toArray, List.set_cons_zero, List.set_cons_succ, i64_w, i32_w]
    rfl
  refine pure_ (i := 5) (N := some 142) (v := ?_) (a' := ?_) #[true, true, true, true, true, true, false, false, false, false, false, false, false, false, false, false, false, false, false, false, false] rfl rfl (any_of HT_.out (by kernel_rfl)) (fun _ _ _ h => h) (Or.inl ⟨by rfl, ?_⟩) ?_ ?_
  rotate_left
  · intro w'
    go_simp
    with_reducible rfl
  rotate_left
  · simp only [Act.put, List.setIfInBounds_toArray, List.set_cons_zero, List.set_cons_succ, i64_w, i32_w]
    rfl
  refine pure_ (i := 6) (N := some 143) (v := ?_) (a' := ?_) #[true, true, true, true, true, true, true, false, false, false, false, false, false, false, false, false, false, false, false, false, false] rfl rfl (any_of HT_.out (by kernel_rfl)) (fun _ _ _ h => h) (Or.inl ⟨by rfl, ?_⟩) ?_ ?_
  rotate_left
  · intro w'
    go_simp
    with_reducible rfl
  rotate_left
  · simp only [Act.put, List.setIfInBounds_toArray, List.set_cons_zero, List.set_cons_succ, i64_w, i32_w]
    rfl
  refine pure_ (i := 7) (N := some 144) (v := ?_) (a' := ?_) #[true, true, true, true, true, true, true, true, false, false, false, false, false, false, false, false, false, false, false, false, false] rfl rfl (any_of HT_.out (by kernel_rfl)) (fun _ _ _ h => h) (Or.inl ⟨by rfl, ?_⟩) ?_ ?_
  rotate_left
  · intro w'
    go_simp
    with_reducible rfl
  rotate_left
  · simp only [Act.put, List.setIfInBounds_toArray, List.set_cons_zero, List.set_cons_succ, i64_w, i32_w]
    rfl
  refine pure_ (i := 8) (N := some 145) (v := ?_) (a' := ?_) #[true, true, true, true, true, true, true, true, true, false, false, false, false, false, false, false, false, false, false, false, false] rfl rfl (any_of HT_.out (by kernel_rfl)) (fun _ _ _ h => h) (Or.inl ⟨by rfl, ?_⟩) ?_ ?_
  rotate_left
  · intro w'
    go_simp
    with_reducible rfl
  rotate_left
  · simp only [Act.put, List.setIfInBounds_toArray, List.set_cons_zero, List.set_cons_succ, i64_w, i32_w]
    rfl
  refine pure_ (i := 9) (N := some 146) (v := ?_) (a' := ?_) #[true, true, true, true, true, true, true, true, true, true, false, false, false, false, false, false, false, false, false, false, false] rfl rfl (any_of HT_.out (by kernel_rfl)) (fun _ _ _ h => h) (Or.inl ⟨by rfl, ?_⟩) ?_ ?_
  rotate_left
  · intro w'
    go_simp
    with_reducible rfl
  rotate_left
  · simp only [Act.put, List.setIfInBounds_toArray, List.set_cons_zero, List.set_cons_succ, i64_w, i32_w]
    rfl
  refine pure_ (i := 10) (N := some 147) (v := ?_) (a' := ?_) #[true, true, true, true, true, true, true, true, true, true, true, false, false, false, false, false, false, false, false, false, false] rfl rfl (any_of HT_.out (by kernel_rfl)) (fun _ _ _ h => h) (Or.inl ⟨by rfl, ?_⟩) ?_ ?_
  rotate_left
  · intro w'
    go_simp
    with_reducible rfl
  rotate_left
  · simp only [Act.put, List.setIfInBounds_toArray, List.set_cons_zero, List.set_cons_succ, i64_w, i32_w]
    rfl
  refine pure_ (i := 11) (N := some 148) (v := ?_) (a' := ?_) #[true, true, true, true, true, true, true, true, true, true, true, true, false, false, false, false, false, false, false, false, false] rfl rfl (any_of HT_.out (by kernel_rfl)) (fun _ _ _ h => h) (Or.inl ⟨by rfl, ?_⟩) ?_ ?_
  rotate_left
  · intro w'
    go_simp
    with_reducible rfl
  rotate_left
  · simp only [Act.put, List.setIfInBounds_toArray, List.set_cons_zero, List.set_cons_succ, i64_w, i32_w]
    rfl
  refine pure_ (i := 12) (N := some 149) (v := ?_) (a' := ?_) #[true, true, true, true, true, true, true, true, true, true, true, true, true, false, false, false, false, false, false, false, false] rfl rfl (any_of HT_.out (by kernel_rfl)) (fun _ _ _ h => h) (Or.inl ⟨by rfl, ?_⟩) ?_ ?_
  rotate_left
  · intro w'
    go_simp
    with_reducible rfl
  rotate_left
  · simp only [Act.put, List.setIfInBounds_toArray, List.set_cons_zero, List.set_cons_succ, i64_w, i32_w]
    rfl
  refine pure_ (i := 14) (N := some 151) (v := ?_) (a' := ?_) #[true, true, true, true, true, true, true, true, true, true, true, true, true, false, true, false, false, false, false, false, false] rfl rfl (any_of HT_.out (by kernel_rfl)) (fun _ _ _ h => h) (Or.inl ⟨by rfl, ?_⟩) ?_ ?_
  rotate_left
  · intro w'
    go_simp
    with_reducible rfl
  rotate_left
  · simp only [Act.put, List.setIfInBounds_toArray, List.set_cons_zero, List.set_cons_succ, i64_w, i32_w]
    rfl
  refine pure_ (i := 15) (N := some 152) (v := ?_) (a' := ?_) #[true, true, true, true, true, true, true, true, true, true, true, true, true, false, true, true, false, false, false, false, false] rfl rfl (any_of HT_.out (by kernel_rfl)) (fun _ _ _ h => h) (Or.inl ⟨by rfl, ?_⟩) ?_ ?_
  rotate_left
  · intro w'
    go_simp
    with_reducible rfl
  rotate_left
  · simp only [Act.put, List.setIfInBounds_toArray, List.set_cons_zero, List.set_cons_succ, i64_w, i32_w]
    rfl
  refine pure_ (i := 16) (N := some 153) (v := ?_) (a' := ?_) #[true, true, true, true, true, true, true, true, true, true, true, true, true, false, true, true, true, false, false, false, false] rfl rfl (any_of HT_.out (by kernel_rfl)) (fun _ _ _ h => h) (Or.inl ⟨by rfl, ?_⟩) ?_ ?_
  rotate_left
  · intro w'
    go_simp
    with_reducible rfl
  rotate_left
  · simp only [Act.put, List.setIfInBounds_toArray, List.set_cons_zero, List.set_cons_succ, i64_w, i32_w]
    rfl
  refine take_ (i := 13) (N := some 150) (v := ?_) (a' := ?_) #[true, true, true, true, true, true, true, true, true, true, true, true, true, true, true, true, true, false, false, false, false] rfl rfl (take_ofW HT_.out HW_.out (by kernel_rfl)) (fun _ _ _ h => h) (Or.inl ⟨by rfl, ?_⟩) hHeld ?_ ?_
  rotate_left
  · rintro w' rfl
    go_simp
    with_reducible rfl
  rotate_left
  · simp only [Act.put, List.setIfInBounds_toArray, List.set_cons_zero, List.set_cons_succ, i64_w, i32_w]
    rfl
  refine take_ (i := 17) (N := some 154) (v := ?_) (a' := ?_) #[true, true, true, true, true, true, true, true, true, true, true, true, true, true, true, true, true, true, false, false, false] rfl rfl (take_ofW HT_.out HW_.out (by kernel_rfl)) (fun _ _ _ h => h) (Or.inl ⟨by rfl, ?_⟩) hHeld ?_ ?_
  rotate_left
  · rintro w' rfl
    go_simp
    with_reducible rfl
  rotate_left
  · simp only [Act.put, List.setIfInBounds_toArray, List.set_cons_zero, List.set_cons_succ, i64_w, i32_w]
    rfl
  refine pure_ (i := 18) (N := some 155) (v := ?_) (a' := ?_) #[true, true, true, true, true, true, true, true, true, true, true, true, true, true, true, true, true, true, true, false, false] rfl rfl (any_of HT_.out (by kernel_rfl)) (fun _ _ _ h => h) (Or.inl ⟨by rfl, ?_⟩) ?_ ?_
  rotate_left
  · intro w'
    go_simp
    with_reducible rfl
  rotate_left
  · simp only [Act.put, List.setIfInBounds_toArray, List.set_cons_zero, List.set_cons_succ, i64_w, i32_w]
    rfl
  refine pure_ (i := 19) (N := some 156) (v := ?_) (a' := ?_) #[true, true, true, true, true, true, true, true, true, true, true, true, true, true, true, true, true, true, true, true, false] rfl rfl (any_of HT_.out (by kernel_rfl)) (fun _ _ _ h => h) (Or.inl ⟨by rfl, ?_⟩) ?_ ?_
  rotate_left
  · intro w'
    go_simp
    with_reducible rfl
  rotate_left
  · simp only [Act.put, List.setIfInBounds_toArray, List.set_cons_zero, List.set_cons_succ, i64_w, i32_w]
    rfl
  refine pure_ (i := 20) (N := some 4) (v := ?_) (a' := ?_) #[true, true, true, true, true, true, true, true, true, true, true, true, true, true, true, true, true, true, true, true, true] rfl rfl (any_of HT_.out (by kernel_rfl)) (fun _ _ _ h => h) (Or.inl ⟨by rfl, ?_⟩) ?_ ?_
  rotate_left
  · intro w'
    go_simp
    with_reducible rfl
  rotate_left
  · simp only [Act.put, List.setIfInBounds_toArray, List.set_cons_zero, List.set_cons_succ, i64_w, i32_w]
    rfl
  refine done_ (done_of HT_.out (by kernel_rfl)) ?_
  go_wp2
  go_ret
  exact ⟨rfl, below_drew HB11.out⟩
theorem FnModes_walk (a0 : Option Addr) (len0 cap0 : Nat) (z0 : List Int) (a1 : Option Addr) (len1 cap1 : Nat) (z1 : List Int) (w : World) (w0 : (a0 = none ∧ len0 = 0 ∧ cap0 = 0 ∧ z0 = []) ∨ ∃ x, a0 = some x ∧ len0 ≤ cap0 ∧ cap0 ≤ maxLen ∧ z0.length = cap0 ∧ (∀ i, i < z0.length → w.cell? (x.add i) = some (.int .u8 (z0.getD i 0))) ∧ ∀ n ∈ z0, (Lit.int .u8 n).wf = true) (y0 : len0 * 1 ≤ 140737488351232) (w1 : (a1 = none ∧ len1 = 0 ∧ cap1 = 0 ∧ z1 = []) ∨ ∃ x, a1 = some x ∧ len1 ≤ cap1 ∧ cap1 ≤ maxLen ∧ z1.length = cap1 ∧ (∀ i, i < z1.length → w.cell? (x.add i) = some (.int .u8 (z1.getD i 0))) ∧ ∀ n ∈ z1, (Lit.int .u8 n).wf = true) (y1 : len1 * 1 ≤ 140737488351232) :
    Calls Try.prog 12 #[.slice a0 len0 cap0, .slice a1 len1 cap1] w fun e w' => e = .returned (.bool true) ∧ Below w.heap.size w w' := by
  obtain ⟨l0, rfl, hr0, hm0, hw0, hc0⟩ := ReadsInt.ofRowC w0
  obtain ⟨l1, rfl, hr1, hm1, hw1, hc1⟩ := ReadsInt.ofRowC w1
  by_cases b0 : 1048576 < l0.length
  · have d0 : decide (1048576 < (l0.length : Int)) = true := decide_eq_true (by omega)
    have d2 : decide (1048576 < l0.length) = true := decide_eq_true b0
    clear hr0 hr1 hc0 hc1 hm0 hm1 hw0 hw1 w0 w1 b0 y0 y1
    go_enter Try.func12, Try.ntmps12
    go_wp2
    go_ret
    exact ⟨rfl, Below.refl _ _⟩
  by_cases b1 : 1048576 < l1.length
  · have d0 : decide (1048576 < (l0.length : Int)) = false := decide_eq_false (by omega)
    have d2 : decide (1048576 < l0.length) = false := decide_eq_false b0
    have d1 : decide (1048576 < (l1.length : Int)) = true := decide_eq_true (by omega)
    have d3 : decide (1048576 < l1.length) = true := decide_eq_true b1
    clear hr0 hr1 hc0 hc1 hm0 hm1 hw0 hw1 w0 w1 b0 b1 y0 y1
    go_enter Try.func12, Try.ntmps12
    go_wp2
    go_ret
    exact ⟨rfl, Below.refl _ _⟩
  exact modes_in _ _ l0 _ _ l1 w (Kd.C_of_reads (d := (0 : Int)) (h1 := fun _ => rfl) hr0) hc0 (Kd.C_of_reads (d := (0 : Int)) (h1 := fun _ => rfl) hr1) hc1 (isU8_of hw0) (isU8_of hw1) (by omega) (by omega)
end Go.Proofs.Ytfbggdlidelliaa.Pg
namespace Go.Proofs.YtfbggdlidelliaaW.PrintWords
open Go.ChangeShapes Go.WideShapes
theorem sized_ints {H : Type} {enc : TypeId × Value → H} {P : Program} {W : World} {base : Nat} {spare : Nat → Bool} {held : Bool} {t e : TypeId} {k : IntKind} {a : Option Addr} {len cap : Nat} {d : DataW H} {ps : List MemPlace} {ts : List TypeId} {ds : List (DataW H)} {j : Nat}
    (hsz : (DataW.weightsEach P ts ds).all (· ≤ reachBytes) = true) (ht : ts[j]? = some t) (hd : ds[j]? = some d) (hu : P.underlying t = some (.slice e)) (he : P.underlying e = some (.int k)) (hc : P.cellsOf e = 1) {B : Nat} (hB : P.bytesOf e = B)
    (h : DataW.Trod enc P W base spare held t (.slice a len cap) d ps) : len * B ≤ 140737488351232 := by
  obtain ⟨fuel, hf⟩ := h
  rcases open_ints hu he hc hf with ⟨hcs, _⟩ | ⟨x, l, c, zs, hcs, _, hl, _, hz, hx, _, _⟩
  · simp [Value.cells] at hcs
    obtain ⟨rfl, rfl, rfl⟩ := hcs
    simp
  · simp [Value.cells] at hcs
    obtain ⟨rfl, rfl, rfl⟩ := hcs
    obtain ⟨hx, _⟩ := Prod.mk.inj hx
    subst hx
    have z := sized_slice hsz ht hd hu
    rw [hB] at z
    have hl2 : len ≤ zs.length := by
      rw [hz]
      split
      · exact hl
      · exact Nat.le_refl _
    have h1 : (lits (H := H) k (zs.take len)).length + (lits (H := H) k (zs.drop len)).length = zs.length := by
      simp [lits]
      omega
    rw [h1] at z
    exact Nat.le_trans (Nat.mul_le_mul_right _ hl2) z
end Go.Proofs.YtfbggdlidelliaaW.PrintWords

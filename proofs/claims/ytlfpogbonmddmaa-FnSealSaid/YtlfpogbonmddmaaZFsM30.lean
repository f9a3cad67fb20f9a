/- Laid by a program of this session: of Psrc, Pblob, Pbof, Pplain, Phm, Phk, Psk, Penc, Pctr, Psealx, Rl what this law uses. -/
import Derived.Test.YtlfpogbonmddmaaZFsM29
import Derived.Test.YtlfpogbonmddmaaZFsPt17
import Derived.Test.YtlfpogbonmddmaaZFsPt16
import Derived.Test.YtlfpogbonmddmaaZFsM11
import Derived.Test.YtlfpogbonmddmaaZFsM21
import Derived.Test.YtlfpogbonmddmaaZFsPt2
import Derived.Test.YtlfpogbonmddmaaZFsPt3
import Derived.Test.YtlfpogbonmddmaaZFsPt7
import Derived.Test.YtlfpogbonmddmaaZFsPt4
import Derived.Test.YtlfpogbonmddmaaZFsPt8
import Derived.Test.YtlfpogbonmddmaaZFsPt15
import Derived.Test.YtlfpogbonmddmaaZFsM10
import Derived.Deep.MidRow
import Derived.Lib.AppendStr
import Derived.Great.BuildSlice
import Derived.Test.YtlfpogbonmddmaaProg
import Derived.RegionTactic
import Derived.BigRegion
namespace Go.Proofs.Ytlfpogbonmddmaa.Pg
open Go.RowKit Go.Proofs.Ytlfpogbonmddmaa.P Go.Proofs.YtlfpogbonmddmaaW.PrintWords Go.Proofs.YtlfpogbonmddmaaW.PrintLast Go.Proofs.YtlfpogbonmddmaaW.PrintMore
theorem rd_src {l : List Int} (w : isU8 l) (i : Int) : 0 ≤ rd l i ∧ rd l i ≤ 255 := by
 unfold rd
 rcases Nat.lt_or_ge i.toNat l.length with h | h
 · rw [List.getD_eq_getElem?_getD, List.getElem?_eq_getElem h]
   exact w _ (List.getElem_mem h)
 · rw [List.getD_eq_getElem?_getD, List.getElem?_eq_none h]
   exact ⟨by decide, by decide⟩
theorem byteSeed_bd (s b : Int) : 0 ≤ byteSeed s b ∧ byteSeed s b < 2147483648 := by unfold byteSeed; omega
def At (B a s : Int) : Prop := 0 ≤ a ∧ a ≤ B ∧ 0 ≤ s ∧ s < 2147483648
theorem byte_some {l : List Int} (w : isU8 l) {B a s : Int} (h : At B a s) (hB : B ≤ 1000000000000) : ∃ r a' s', spec_l00Src_byte.f l a s = some (r, a', s') ∧ 0 ≤ r ∧ r ≤ 255 ∧ At (B + 1) a' s' := by
 obtain ⟨h0, h1, h2, h3⟩ := h
 obtain ⟨r0, r1⟩ := rd_src w a
 unfold spec_l00Src_byte.f
 rw [if_pos ⟨h0, by omega, h2, h3, r0, r1⟩]
 split
 · obtain ⟨b0, b1⟩ := byteSeed_bd s (rd l a)
   exact ⟨_, _, _, rfl, r0, r1, by omega, by omega, b0, b1⟩
 · split
   · exact ⟨_, _, _, rfl, by decide, by decide, by omega, by omega, h2, h3⟩
   · obtain ⟨b0, b1⟩ := byteNext_bd s
     exact ⟨_, _, _, rfl, by omega, by omega, by omega, by omega, b0, b1⟩
theorem next_some {l : List Int} (w : isU8 l) {B a s n : Int} (h : At B a s) (hB : B ≤ 100000000000) (hn : 1 ≤ n) : ∃ r a' s', spec_l00Src_next.f l a s n = some (r, a', s') ∧ 0 ≤ r ∧ r < n ∧ At (B + 3) a' s' := by
 unfold spec_l00Src_next.f
 by_cases h1 : n ≤ 1
 · rw [if_pos h1]
   obtain ⟨h0, h2, h3, h4⟩ := h
   exact ⟨_, _, _, rfl, by decide, by omega, h0, by omega, h3, h4⟩
 rw [if_neg h1]
 have hn0 : ¬ n = 0 := by omega
 by_cases h2 : n ≤ 256
 · rw [if_pos h2]
   obtain ⟨r, a', s', e, r0, r1, g0, g1, g2, g3⟩ := byte_some w h (by omega)
   rw [e, Option.bind_some, if_neg hn0]
   refine ⟨Int.tmod r n, a', s', rfl, ?_, ?_, g0, by omega, g2, g3⟩
   · exact Int.tmod_nonneg _ r0
   · exact Int.tmod_lt_of_pos _ (by omega)
 · rw [if_neg h2]
   obtain ⟨x, a1, s1, e1, x0, x1, g1⟩ := byte_some w h (by omega)
   obtain ⟨y, a2, s2, e2, y0, y1, g2⟩ := byte_some w g1 (by omega)
   obtain ⟨z, a3, s3, e3, z0, z1, g30, g31, g32, g33⟩ := byte_some w g2 (by omega)
   rw [e1, Option.bind_some, e2, Option.bind_some, e3, Option.bind_some, if_neg hn0]
   have hw : wrap64 ((wrap64 ((wrap64 (x * 65536)) + (wrap64 (y * 256)))) + z) = x * 65536 + y * 256 + z := by unfold wrap64; omega
   simp only [hw]
   clear hw
   refine ⟨Int.tmod (x * 65536 + y * 256 + z) n, a3, s3, rfl, ?_, ?_, g30, by omega, g32, g33⟩
   · exact Int.tmod_nonneg _ (by omega)
   · exact Int.tmod_lt_of_pos _ (by omega)
theorem isU8_snoc {l : List Int} (w : isU8 l) {x : Int} (h : 0 ≤ x ∧ x ≤ 255) : isU8 (l ++ [x]) := by
 intro y hy
 rcases List.mem_append.1 hy with hy | hy
 · exact w y hy
 · rw [List.mem_singleton.1 hy]; exact h
theorem isU8_nil : isU8 [] := fun x hx => by cases hx
theorem isU8_append {l m : List Int} (w : isU8 l) (v : isU8 m) : isU8 (l ++ m) := by
 intro y hy
 rcases List.mem_append.1 hy with hy | hy
 · exact w y hy
 · exact v y hy
theorem bytes_run {l : List Int} (w : isU8 l) (d : Nat) : ∀ (k : Nat) (acc : List Int) (B a s : Int), d < k → isU8 acc → acc.length + d ≤ 100000 → At B a s → B + 3 * (d : Int) ≤ 100000000000 →
   ∃ r a' s', spec_l00Src_bytes.l0 k acc (d : Int) l a s = some (r, a', s') ∧ isU8 r ∧ r.length = acc.length + d ∧ At (B + 3 * d) a' s' := by
 induction d with
 | zero =>
   intro k acc B a s hk ha hl hA hB
   obtain ⟨k, rfl⟩ : ∃ m, k = m + 1 := ⟨k - 1, by omega⟩
   refine ⟨acc, a, s, ?_, ha, by omega, ?_⟩
   · simp only [spec_l00Src_bytes.l0]; rw [if_neg (by omega)]
   · simpa using hA
 | succ d ih =>
   intro k acc B a s hk ha hl hA hB
   obtain ⟨k, rfl⟩ : ∃ m, k = m + 1 := ⟨k - 1, by omega⟩
   obtain ⟨r, a1, s1, e, r0, r1, hA1⟩ := next_some w (n := 256) hA (by omega) (by decide)
   have hm : r % 256 = r := by omega
   have hw : wrap64 (((d + 1 : Nat) : Int) - 1) = (d : Int) := by unfold wrap64; omega
   obtain ⟨r', a', s', e', u', hl', hA'⟩ := ih k (acc ++ [r]) (B + 3) a1 s1 (by omega) (isU8_snoc ha ⟨r0, by omega⟩) (by simp; omega) hA1 (by omega)
   refine ⟨r', a', s', ?_, u', by simp at hl'; omega, ?_⟩
   · simp only [spec_l00Src_bytes.l0]
     rw [if_pos (by omega), e, Option.bind_some, if_pos (by omega)]
     simp only [hm, hw]
     exact e'
   · have : B + 3 + 3 * (d : Int) = B + 3 * ((d + 1 : Nat) : Int) := by omega
     rw [← this]; exact hA'
theorem bytes_some {l : List Int} (w : isU8 l) {B a s : Int} (h : At B a s) (hB : B ≤ 1000000) (n : Nat) (hn : n ≤ 1000) (k : Nat) (hk : n < k) :
   ∃ r a' s', spec_l00Src_bytes.f k l a s (n : Int) = some (r, a', s') ∧ isU8 r ∧ r.length ≤ n ∧ At (B + 4000) a' s' := by
 unfold spec_l00Src_bytes.f
 have hw : wrap64 ((n : Int) + 1) = (n : Int) + 1 := by unfold wrap64; omega
 rw [hw]
 clear hw
 obtain ⟨r, a1, s1, e, r0, r1, hA1⟩ := next_some w (n := (n : Int) + 1) h (by omega) (by omega)
 rw [e, Option.bind_some]
 obtain ⟨d, rfl⟩ := Int.eq_ofNat_of_zero_le r0
 obtain ⟨r', a', s', e', u', hl', g0, g1, g2, g3⟩ := bytes_run w d k [] (B + 3) a1 s1 (by omega) isU8_nil (by simp; omega) hA1 (by omega)
 exact ⟨r', a', s', e', u', by simp at hl'; omega, g0, by omega, g2, g3⟩
end Go.Proofs.Ytlfpogbonmddmaa.Pg
namespace Go.Proofs.Ytlfpogbonmddmaa.Pg
open Go.RowKit Go.Proofs.Ytlfpogbonmddmaa.P Go.Proofs.YtlfpogbonmddmaaW.PrintWords Go.Proofs.YtlfpogbonmddmaaW.PrintLast Go.Proofs.YtlfpogbonmddmaaW.PrintMore
theorem blob_run {l : List Int} (w : isU8 l) (d : Nat) : ∀ (k n i : Nat) (acc : List Int) (B a s : Int), i + d = n → n ≤ 1000 → d < k → isU8 acc → acc.length = i → At B a s → B + 3 * (d : Int) ≤ 100000000000 →
   ∃ r a' s', spec_l00Src_blob.l0 k (n : Int) acc (i : Int) l a s = some (strOfNums r, a', s') ∧ isU8 r ∧ r.length = n := by
 induction d with
 | zero =>
   intro k n i acc B a s hi hn hk ha hl hA hB
   obtain ⟨k, rfl⟩ : ∃ m, k = m + 1 := ⟨k - 1, by omega⟩
   refine ⟨acc, a, s, ?_, ha, by omega⟩
   simp only [spec_l00Src_blob.l0]
   rw [if_neg (by omega)]
 | succ d ih =>
   intro k n i acc B a s hi hn hk ha hl hA hB
   obtain ⟨k, rfl⟩ : ∃ m, k = m + 1 := ⟨k - 1, by omega⟩
   obtain ⟨r, a1, s1, e, r0, r1, hA1⟩ := next_some w (n := 256) hA (by omega) (by decide)
   have hm : r % 256 = r := by omega
   have hw : wrap64 ((i : Int) + 1) = ((i + 1 : Nat) : Int) := by unfold wrap64; omega
   obtain ⟨r', a', s', e', u', hl'⟩ := ih k n (i + 1) (acc ++ [r]) (B + 3) a1 s1 (by omega) hn (by omega) (isU8_snoc ha ⟨r0, by omega⟩) (by simp; omega) hA1 (by omega)
   refine ⟨r', a', s', ?_, u', hl'⟩
   simp only [spec_l00Src_blob.l0]
   rw [if_pos (by omega), e, Option.bind_some, if_pos (by omega)]
   simp only [hm, hw]
   exact e'
theorem blobOf_some {l : List Int} (w : isU8 l) (n : Nat) (hn : n ≤ 1000) : ∃ r, (∀ k, n < k → spec_BlobOf.f k l (n : Int) = some (strOfNums r)) ∧ isU8 r ∧ r.length = n := by
 have h0 : At 0 0 ((l.length : Int) % 1000) := ⟨by decide, by decide, by omega, by omega⟩
 obtain ⟨r, a', s', e, u, hl⟩ := blob_run w n (n + 1) n 0 [] 0 0 ((l.length : Int) % 1000) (by omega) hn (by omega) isU8_nil rfl h0 (by omega)
 refine ⟨r, fun k hk => ?_, u, hl⟩
 have : spec_BlobOf.f (n + 1) l (n : Int) = some (strOfNums r) := by
   unfold spec_BlobOf.f spec_l00Source.f spec_l00Src_blob.f
   rw [Option.bind_some]
   have e2 : spec_l00Src_blob.l0 (n + 1) (n : Int) [] 0 l 0 ((l.length : Int) % 1000) = some (strOfNums r, a', s') := e
   simp only [e2]
   rfl
 exact at_rounds (spec_BlobOf.mono _ _) hk this
end Go.Proofs.Ytlfpogbonmddmaa.Pg
namespace Go.Proofs.Ytlfpogbonmddmaa.Pg
open Go.RowKit Go.Proofs.Ytlfpogbonmddmaa.P Go.Proofs.YtlfpogbonmddmaaW.PrintWords Go.Proofs.YtlfpogbonmddmaaW.PrintLast Go.Proofs.YtlfpogbonmddmaaW.PrintMore
theorem bytesOf_some {l : List Int} (w : isU8 l) (n : Nat) (hn : n ≤ 1000) : ∃ r, (∀ k, n < k → spec_BytesOf.f k l (n : Int) = some r) ∧ isU8 r ∧ r.length ≤ n := by
 have h0 : At 0 0 ((l.length : Int) % 1000) := ⟨by decide, by decide, by omega, by omega⟩
 obtain ⟨r, a', s', e, u, hl, _⟩ := bytes_some w h0 (by decide) n hn (n + 1) (by omega)
 refine ⟨r, fun k hk => ?_, u, hl⟩
 have : spec_BytesOf.f (n + 1) l (n : Int) = some r := by
   unfold spec_BytesOf.f spec_l00Source.f
   rw [Option.bind_some, e]
   rfl
 exact at_rounds (spec_BytesOf.mono _ _) hk this
end Go.Proofs.Ytlfpogbonmddmaa.Pg
namespace Go.Proofs.Ytlfpogbonmddmaa.Pg
open Go.RowKit Go.Proofs.Ytlfpogbonmddmaa.P Go.Proofs.YtlfpogbonmddmaaW.PrintWords Go.Proofs.YtlfpogbonmddmaaW.PrintLast Go.Proofs.YtlfpogbonmddmaaW.PrintMore
theorem isU8_zeros (n : Nat) : isU8 (List.replicate n 0) := fun x hx => by
 have := List.eq_of_mem_replicate hx
 omega
theorem plain_some {l : List Int} (w : isU8 l) : ∃ r, (∀ k, 40 < k → spec_PlainOf.f k l = some r) ∧ isU8 r ∧ r.length ≤ 100 := by
 have h0 : At 0 0 ((l.length : Int) % 1000) := ⟨by decide, by decide, by omega, by omega⟩
 obtain ⟨K, hK⟩ : ∃ K : Nat, K = 41 := ⟨41, rfl⟩
 obtain ⟨r, a', s', e', u, hl, hA⟩ := bytes_some w h0 (by omega) 30 (by omega) K (by omega)
 have h30 : ((30 : Nat) : Int) = 30 := rfl
 rw [h30] at e'
 obtain ⟨c, a2, s2, e2, c0, c1, _⟩ := next_some w (n := 5) hA (by omega) (by omega)
 have hz : ∃ z : Nat, rd ([0, 0, 16, 32, 50] : List Int) c = (z : Int) ∧ z ≤ 50 := by
   obtain ⟨n, rfl⟩ := Int.eq_ofNat_of_zero_le c0
   have hn : n < 5 := by omega
   match n, hn with
   | 0, _ => exact ⟨0, rfl, by decide⟩
   | 1, _ => exact ⟨0, rfl, by decide⟩
   | 2, _ => exact ⟨16, rfl, by decide⟩
   | 3, _ => exact ⟨32, rfl, by decide⟩
   | 4, _ => exact ⟨50, rfl, by decide⟩
 obtain ⟨z, ez, hz⟩ := hz
 refine ⟨r ++ List.replicate z 0, fun k hk => ?_, isU8_append u (isU8_zeros z), by simp; omega⟩
 have : spec_PlainOf.f K l = some (r ++ List.replicate z 0) := by
   unfold spec_PlainOf.f spec_l00Source.f spec_l00Src_plain.f
   have hl5 : (([0, 0, 16, 32, 50] : List Int).length : Int) = 5 := rfl
   have hlen : r.length + z < 140737488355328 := by omega
   have hz0 : (0 : Int) ≤ (z : Int) := Int.natCast_nonneg z
   rw [Option.bind_some, e', Option.bind_some, Option.bind_some, e2, Option.bind_some, if_pos c0, hl5, if_pos c1, ez, if_pos hz0, Int.toNat_natCast, if_pos hlen, Option.bind_some]
 exact at_rounds (spec_PlainOf.mono _) (by omega) this
end Go.Proofs.Ytlfpogbonmddmaa.Pg
namespace Go.Proofs.Ytlfpogbonmddmaa.Pg
open Go.RowKit Go.Proofs.Ytlfpogbonmddmaa.P Go.Proofs.YtlfpogbonmddmaaW.PrintWords Go.Proofs.YtlfpogbonmddmaaW.PrintLast Go.Proofs.YtlfpogbonmddmaaW.PrintMore
theorem size_strOfNums (l : List Int) : (strOfNums l).size = l.length := by simp [strOfNums, ByteArray.size]
theorem hash_strOfNums (l : List Int) (hu : u8ok l) (hl : l.length ≤ 1099511627776) : impl_hash.f (strOfNums l) = some (strOfNums (Sha.shaL l)) := by
 unfold impl_hash.f
 rw [if_pos (by rw [size_strOfNums]; exact hl), bytesL_str l hu]
theorem masked_strOfNums (l : List Int) (m : Int) (hu : u8ok l) (hl : l.length ≤ 64) : impl_masked.f (strOfNums l) m = some (strOfNums (Sha.maskL l m)) := by
 unfold impl_masked.f
 rw [if_pos (by rw [size_strOfNums]; exact hl), bytesL_str l hu]
theorem hmac_j0 (k : Nat) (key b : List Int) (hu : u8ok key) (hl : key.length ≤ 64) (hb : u8ok b) (hbl : b.length ≤ 1073741824) : impl_hmac.j0 (k + 1) (strOfNums key) (strOfNums b) = some (strOfNums (Sha.shaL (Sha.maskL key 92 ++ Sha.shaL (Sha.maskL key 54 ++ b)))) := by
 have u1 := u8ok_append (u8ok_mask key 54 (by simp) hu) hb
 have u2 := u8ok_append (u8ok_mask key 92 (by simp) hu) (u8ok_shaL (Sha.maskL key 54 ++ b))
 simp only [impl_hmac.j0]
 rw [masked_strOfNums key 92 hu hl, Option.bind_some, masked_strOfNums key 54 hu hl, Option.bind_some, if_pos (by rw [size_strOfNums, size_strOfNums, maskL_length]; omega), strOfNums_append, hash_strOfNums _ u1 (by rw [List.length_append, maskL_length]; omega), Option.bind_some, if_pos (by rw [size_strOfNums, size_strOfNums, maskL_length, shaL_length]; decide), strOfNums_append, hash_strOfNums _ u2 (by rw [List.length_append, maskL_length, shaL_length]; decide), Option.bind_some]
theorem hmac_eq (k : Nat) (key b : List Int) (hu : u8ok key) (hl : key.length ≤ 1073741824) (hb : u8ok b) (hbl : b.length ≤ 1073741824) : impl_hmac.f (k + 1) (strOfNums key) (strOfNums b) = some (strOfNums (Sha.hmacL key b)) := by
 unfold impl_hmac.f Sha.hmacL
 by_cases h : 64 < key.length
 · rw [if_pos (by rw [size_strOfNums]; omega), hash_strOfNums key hu (by omega), Option.bind_some, hmac_j0 k _ b (u8ok_shaL key) (by rw [shaL_length]; omega) hb hbl, Sha.hkey, if_pos h]
 · rw [if_neg (by rw [size_strOfNums]; omega), hmac_j0 k key b hu (by omega) hb hbl, Sha.hkey, if_neg h]
end Go.Proofs.Ytlfpogbonmddmaa.Pg
namespace Go.Proofs.Ytlfpogbonmddmaa.Pg
open Go.RowKit Go.Proofs.Ytlfpogbonmddmaa.P Go.Proofs.YtlfpogbonmddmaaW.PrintWords Go.Proofs.YtlfpogbonmddmaaW.PrintLast Go.Proofs.YtlfpogbonmddmaaW.PrintMore
theorem bo1 (n : Int) (k : Nat) : impl_bytesOf.f (k + 3) n 1 = some (strOfNums [n % 256]) := by
 have w0 : wrap64 (1 - 1) = 0 := by unfold wrap64; omega
 have wm : wrap64 (0 - 1) = -1 := by unfold wrap64; omega
 unfold impl_bytesOf.f
 rw [if_pos (by decide), if_pos (by decide), w0]
 simp only [impl_bytesOf.l0]
 rw [if_pos (by decide), if_pos (by decide), if_pos (by decide), wm, if_neg (by decide)]
 rfl
theorem str_app (a b : List Int) : strOfNums a ++ strOfNums b = strOfNums (a ++ b) := strOfNums_append a b
theorem expand_step (k : Nat) (K info : List Int) (N j : Nat) (hK : u8ok K) (hKl : K.length ≤ 1048576) (hi : u8ok info) (hil : info.length ≤ 1048576) (h : 32 * j < N) (hj : j ≤ 300) :
   impl_expand.l0 (k + 4) (strOfNums K) (strOfNums info) (N : Int) (strOfNums (Sha.exp K info j).1) (strOfNums (Sha.exp K info j).2) ((j + 1 : Nat) : Int)
     = impl_expand.l0 (k + 3) (strOfNums K) (strOfNums info) (N : Int) (strOfNums (Sha.exp K info (j + 1)).1) (strOfNums (Sha.exp K info (j + 1)).2) ((j + 1 + 1 : Nat) : Int) := by
 have e1 := exp_len K info j
 have e2 := exp_last K info j
 have hw : wrap64 (((j + 1 : Nat) : Int) + 1) = ((j + 1 + 1 : Nat) : Int) := by unfold wrap64; omega
 have hone : u8ok [((j + 1 : Nat) : Int) % 256] := fun x hx => by obtain rfl := List.mem_singleton.1 hx; omega
 conv => lhs; simp only [impl_expand.l0]
 rw [if_pos (by rw [size_strOfNums]; omega), if_pos (by rw [size_strOfNums, size_strOfNums]; omega), bo1, Option.bind_some, str_app, if_pos (by rw [size_strOfNums, size_strOfNums, List.length_append]; simp; omega), str_app,
   hmac_eq (k + 2) K _ hK (by omega) (u8ok_append (u8ok_append (exp_u8 K info j).2 hi) hone) (by rw [List.length_append, List.length_append]; simp; omega), Option.bind_some, if_pos (by rw [size_strOfNums, size_strOfNums, hmacL_length]; omega), str_app, hw]
 rfl
theorem expand_end (k : Nat) (K info : List Int) (N j : Nat) (h : N ≤ 32 * j) (hj : j ≤ N + 31) (i : Int) :
   impl_expand.l0 (k + 1) (strOfNums K) (strOfNums info) (N : Int) (strOfNums (Sha.exp K info j).1) (strOfNums (Sha.exp K info j).2) i = some (strOfNums (Sha.expandL K info N)) := by
 have e1 := exp_len K info j
 simp only [impl_expand.l0]
 rw [if_neg (by rw [size_strOfNums]; omega), if_pos (by omega), if_pos (by rw [size_strOfNums]; omega), exp_take K info N j h hj, Int.toNat_natCast, str_extract]
theorem expand_run (d : Nat) : ∀ (k : Nat) (K info : List Int) (N j : Nat), u8ok K → K.length ≤ 1048576 → u8ok info → info.length ≤ 1048576 → N ≤ 32 * (j + d) → j ≤ N + 31 → j + d ≤ 290 →
   impl_expand.l0 (k + d + 4) (strOfNums K) (strOfNums info) (N : Int) (strOfNums (Sha.exp K info j).1) (strOfNums (Sha.exp K info j).2) ((j + 1 : Nat) : Int) = some (strOfNums (Sha.expandL K info N)) := by
 induction d with
 | zero => intro k K info N j hK hKl hi hil h hj _; exact expand_end (k + 3) K info N j h hj _
 | succ d ih =>
   intro k K info N j hK hKl hi hil h hj hd
   by_cases hlt : 32 * j < N
   · rw [show k + (d + 1) + 4 = (k + d + 1) + 4 from by omega, expand_step (k + d + 1) K info N j hK hKl hi hil hlt (by omega), show k + d + 1 + 3 = k + d + 4 from by omega]
     exact ih k K info N (j + 1) hK hKl hi hil (by omega) (by omega) (by omega)
   · exact expand_end (k + (d + 1) + 3) K info N j (by omega) hj _
theorem expand_eq (k : Nat) (K info : List Int) (N : Nat) (hK : u8ok K) (hKl : K.length ≤ 1048576) (hi : u8ok info) (hil : info.length ≤ 1048576) (hN : N ≤ 8160) :
   impl_expand.f (k + 264) (strOfNums K) (strOfNums info) (N : Int) = some (strOfNums (Sha.expandL K info N)) := by
 have h := expand_run 260 k K info N 0 hK hKl hi hil (by omega) (by omega) (by omega)
 exact h
end Go.Proofs.Ytlfpogbonmddmaa.Pg
namespace Go.Proofs.Ytlfpogbonmddmaa.Pg
open Go.RowKit Go.Proofs.Ytlfpogbonmddmaa.P Go.Proofs.YtlfpogbonmddmaaW.PrintWords Go.Proofs.YtlfpogbonmddmaaW.PrintLast Go.Proofs.YtlfpogbonmddmaaW.PrintMore
theorem sealKeys_eq (k : Nat) (s : ByteArray) (h : s.size ≤ 1048576) : impl_sealKeys.f (k + 264) s = some (strOfNums ((keysK s).take 32), strOfNums ((keysK s).drop 32)) := by
 have c1 : (⟨#[115, 101, 97, 108]⟩ : ByteArray) = strOfNums [115, 101, 97, 108] := rfl
 have c2 : (⟨#[107, 101, 121, 115]⟩ : ByteArray) = strOfNums [107, 101, 121, 115] := rfl
 have hb : (bytesL s).length ≤ 1048576 := by rw [bytesL_length]; exact h
 have e1 := hmac_eq (k + 263) [115, 101, 97, 108] (bytesL s) (fun x hx => by simp only [List.mem_cons, List.not_mem_nil, or_false] at hx; omega) (by decide) (u8ok_bytesL s) (by omega)
 have e2 := expand_eq k (Sha.hmacL [115, 101, 97, 108] (bytesL s)) [107, 101, 121, 115] 64 (u8ok_hmacL _ _) (by rw [hmacL_length]; decide) (fun x hx => by simp only [List.mem_cons, List.not_mem_nil, or_false] at hx; omega) (by decide) (by decide)
 rw [str_bytesL] at e1
 have hz : (strOfNums (keysK s)).size = 64 := by rw [size_strOfNums, keysK_length]
 unfold impl_sealKeys.f
 rw [c1, c2, e1, Option.bind_some]
 show (impl_expand.f (k + 264) (strOfNums (Sha.hmacL [115, 101, 97, 108] (bytesL s))) (strOfNums [107, 101, 121, 115]) ((64 : Nat) : Int)).bind _ = _
 rw [e2, Option.bind_some]
 show (if (0 : Int) ≤ 32 then (if 32 ≤ ((strOfNums (keysK s)).size : Int) then some ((strOfNums (keysK s)).extract 0 32, (strOfNums (keysK s)).extract 32 (strOfNums (keysK s)).size) else none) else none) = _
 rw [if_pos (by decide), if_pos (by rw [hz]; decide), hz, str_extract, str_extract2, List.take_of_length_le (l := keysK s) (i := 64) (by rw [keysK_length]; decide)]
theorem spec_sealKeys_eq (s : ByteArray) (h : s.size ≤ 1048576) : spec_l04Keys.f s = some (strOfNums ((keysK s).take 32), strOfNums ((keysK s).drop 32)) := by
 unfold spec_l04Keys.f
 rw [if_pos h]
end Go.Proofs.Ytlfpogbonmddmaa.Pg
namespace Go.Proofs.Ytlfpogbonmddmaa.Pg
open Go.RowKit Go.Proofs.Ytlfpogbonmddmaa.P
theorem spec_keys (key : ByteArray) (hkey : key.size = 16 ∨ key.size = 32) : spec_l01Keys.f key Aes.subs = some ((Aes.keysL (bytesL key)).map strOfNums) := by
 unfold spec_l01Keys.f
 rw [if_pos ⟨rfl, hkey⟩]
end Go.Proofs.Ytlfpogbonmddmaa.Pg
namespace Go.Proofs.Ytlfpogbonmddmaa.Pg
open Go.RowKit Go.Proofs.Ytlfpogbonmddmaa.P Go.Proofs.YtlfpogbonmddmaaW.PrintWords Go.Proofs.YtlfpogbonmddmaaW.PrintLast Go.Proofs.YtlfpogbonmddmaaW.PrintMore
set_option linter.unusedVariables false
theorem four_eq (n : Int) : spec_l02Four.f n = some (Sha.four n) := rfl
theorem len_T (R l : List Int) (hR : R.length = l.length) (j : Nat) : (R.take j ++ l.drop j).length = l.length := by
 rw [List.length_append, List.length_take, List.length_drop, hR]; omega
theorem end_T (R l : List Int) (hR : R.length = l.length) (j : Nat) (h : l.length ≤ j) : R.take j ++ l.drop j = R := by
 rw [List.take_of_length_le (by omega), List.drop_eq_nil_of_le (by omega), List.append_nil]
theorem bt_str (E : List Int) (oE : Aes.ok E) (i : Nat) (hi : i < E.length) : bt (strOfNums E) (i : Int) = E.getD i 0 := by
 rw [← bytesL_getD _ i (by rw [str_size]; exact hi), bytesL_str E oE]
theorem ctr_step (a1 : ByteArray) (K : List ByteArray) (l R E : List Int) (hR : R.length = l.length) (hE : E.length = 16) (oE : Aes.ok E) (hl : l.length ≤ 1000000) (p ed k j : Nat) (hed : ed ≤ l.length ∧ ed ≤ p + 16) (hpj : p ≤ j) (hj : j < ed)
   (hA : R.getD j 0 = Aes.xr (l.getD j 0) (E.getD (j - p) 0)) :
   spec_l02Ctr.l1 (k + 1) a1 Aes.subs K (R.take j ++ l.drop j) (p : Int) (strOfNums E) (j : Int) = spec_l02Ctr.l1 k a1 Aes.subs K (R.take (j + 1) ++ l.drop (j + 1)) (p : Int) (strOfNums E) ((j + 1 : Nat) : Int) := by
 have hw : wrap64 ((p : Int) + 16) = ((p + 16 : Nat) : Int) := by unfold wrap64; omega
 have hw2 : wrap64 ((j : Int) - (p : Int)) = ((j - p : Nat) : Int) := by unfold wrap64; omega
 have hL := len_T R l hR j
 have e1 : (R.take j ++ l.drop j).getD j 0 = l.getD j 0 := by
   rw [List.getD_eq_getElem?_getD, td_at R l hR j (by omega)]; rfl
 have e2 := td_set R l hR j (by omega)
 rw [hA] at e2
 simp only [spec_l02Ctr.l1]
 rw [hw, hw2, if_pos (by omega), if_pos (by omega), if_pos (by omega), if_pos (by omega), if_pos (by rw [str_size]; omega), suc64 j (by omega), rdn, e1, bt_str E oE _ (by omega), Int.toNat_natCast]
 unfold Aes.xr at e2
 rw [e2]
theorem ctr_inner (a1 : ByteArray) (K : List ByteArray) (l R E : List Int) (hR : R.length = l.length) (hE : E.length = 16) (oE : Aes.ok E) (hl : l.length ≤ 1000000) (p ed : Nat) (hed : ed ≤ l.length ∧ ed ≤ p + 16 ∧ (ed = l.length ∨ ed = p + 16))
   (hA : ∀ j, p ≤ j → j < ed → R.getD j 0 = Aes.xr (l.getD j 0) (E.getD (j - p) 0)) (d : Nat) : ∀ m j, p ≤ j → j + d = ed →
   spec_l02Ctr.l1 (m + d + 1) a1 Aes.subs K (R.take j ++ l.drop j) (p : Int) (strOfNums E) (j : Int) = spec_l02Ctr.l0 m a1 Aes.subs K (R.take ed ++ l.drop ed) ((p + 16 : Nat) : Int) := by
 induction d with
 | zero =>
   intro m j hpj hj
   have hw : wrap64 ((p : Int) + 16) = ((p + 16 : Nat) : Int) := by unfold wrap64; omega
   have hL := len_T R l hR j
   obtain rfl : j = ed := by omega
   show spec_l02Ctr.l1 (m + 1) _ _ _ _ _ _ _ = _
   simp only [spec_l02Ctr.l1]
   rw [hw]
   by_cases h : j < l.length
   · rw [if_pos (by omega), if_neg (by omega)]
   · rw [if_neg (by omega)]
 | succ d ih =>
   intro m j hpj hj
   show spec_l02Ctr.l1 (m + d + 1 + 1) _ _ _ _ _ _ _ = _
   rw [ctr_step a1 K l R E hR hE oE hl p ed (m + d + 1) j ⟨hed.1, hed.2.1⟩ hpj (by omega) (hA j hpj (by omega))]
   exact ih m (j + 1) (by omega) (by omega)
theorem ctr_outer {keys : List (List Int)} (hk : Aes.keysOk keys) (h0 : 0 < keys.length) (hn : keys.length ≤ 1000) (a1 : ByteArray) (ha : a1.size = 12) (l : List Int) (ol : Aes.ok l) (hl : l.length ≤ 900000) (d : Nat) : ∀ k q, l.length ≤ 16 * q + 16 * d → 18 * d + 1300 ≤ k →
   spec_l02Ctr.l0 k a1 Aes.subs (keys.map strOfNums) ((Md.ctrL keys (bytesL a1) l).take (16 * q) ++ l.drop (16 * q)) ((16 * q : Nat) : Int) = some (Md.ctrL keys (bytesL a1) l) := by
 have hR := Md.ctrL_length keys (bytesL a1) l
 have stop : ∀ k q, l.length ≤ 16 * q → spec_l02Ctr.l0 (k + 1) a1 Aes.subs (keys.map strOfNums) ((Md.ctrL keys (bytesL a1) l).take (16 * q) ++ l.drop (16 * q)) ((16 * q : Nat) : Int) = some (Md.ctrL keys (bytesL a1) l) := fun k q h => by
   have hL := len_T _ l hR (16 * q)
   simp only [spec_l02Ctr.l0]
   rw [if_neg (by omega), end_T _ l hR _ h]
 induction d with
 | zero =>
   intro k q hq hk2
   obtain ⟨k, rfl⟩ : ∃ m, k = m + 1 := ⟨k - 1, by omega⟩
   exact stop k q (by omega)
 | succ d ih =>
   intro k q hq hk2
   obtain ⟨k, rfl⟩ : ∃ m, k = m + 1 := ⟨k - 1, by omega⟩
   by_cases hlt : 16 * q < l.length
   · have hL := len_T _ l hR (16 * q)
     have w1 : wrap64 (Int.tdiv ((16 * q : Nat) : Int) 16) = (q : Int) := by
       rw [Int.tdiv_eq_ediv_of_nonneg (Int.natCast_nonneg _), show ((16 * q : Nat) : Int) / 16 = (q : Int) from by omega]
       unfold wrap64; omega
     have w2 : wrap64 (1 + (q : Int)) = ((q + 1 : Nat) : Int) := by unfold wrap64; omega
     have hs : (a1 ++ strOfNums (Sha.four ((q + 1 : Nat) : Int))).size = 16 := by rw [ByteArray.size_append, ha, str_size]; rfl
     have hb : bytesL (a1 ++ strOfNums (Sha.four ((q + 1 : Nat) : Int))) = bytesL a1 ++ Sha.four ((q + 1 : Nat) : Int) := by
       have e : a1 ++ strOfNums (Sha.four ((q + 1 : Nat) : Int)) = strOfNums (bytesL a1 ++ Sha.four ((q + 1 : Nat) : Int)) := by
         rw [← strOfNums_append, str_bytesL]
       rw [e]
       exact bytesL_str _ (Aes.ok_append (ok_bytesL a1) (Md.four_by _))
     have e := enc_eq hk h0 hn k (by omega) _ hs
     rw [hb] at e
     have e' : spec_l01Encrypt.f k (keys.map strOfNums) Aes.subs (a1 ++ strOfNums (Sha.four ((q + 1 : Nat) : Int))) = some (strOfNums (Md.ctrB keys (bytesL a1) q)) := e
     simp only [spec_l02Ctr.l0]
     rw [if_pos (by omega), w1, w2, four_eq, Option.bind_some, if_pos (by rw [ha, str_size]; show 12 + 4 ≤ _; omega), e', Option.bind_some]
     obtain ⟨ed, hed⟩ : ∃ x, x = if l.length < 16 * q + 16 then l.length else 16 * q + 16 := ⟨_, rfl⟩
     have hed2 : ed ≤ l.length ∧ ed ≤ 16 * q + 16 ∧ (ed = l.length ∨ ed = 16 * q + 16) ∧ 16 * q < ed := by rw [hed]; split <;> omega
     have oE := Md.ctrB_ok hk (ok_bytesL a1) q
     have inn := ctr_inner a1 (keys.map strOfNums) l _ (Md.ctrB keys (bytesL a1) q) hR (Md.ctrB_length _ _ _) oE (by omega) (16 * q) ed ⟨hed2.1, hed2.2.1, hed2.2.2.1⟩ (fun j h1 h2 => by
       rw [Md.ctrL_at _ _ _ j (by omega), show j / 16 = q from by omega, show j % 16 = j - 16 * q from by omega]) (ed - 16 * q) (k - (ed - 16 * q) - 1) (16 * q) (Nat.le_refl _) (by omega)
     rw [show k - (ed - 16 * q) - 1 + (ed - 16 * q) + 1 = k from by omega] at inn
     rw [inn]
     have eT : (Md.ctrL keys (bytesL a1) l).take ed ++ l.drop ed = (Md.ctrL keys (bytesL a1) l).take (16 * (q + 1)) ++ l.drop (16 * (q + 1)) := by
       rcases hed2.2.2.1 with h | h
       · rw [end_T _ l hR _ (by omega), end_T _ l hR _ (by omega)]
       · rw [h, show 16 * (q + 1) = 16 * q + 16 from by omega]
     rw [eT]
     exact ih (k - (ed - 16 * q) - 1) (q + 1) (by omega) (by omega)
   · exact stop k q (by omega)
theorem sctr_eq (k : Nat) (a0 a1 : ByteArray) (l : List Int) (ol : Aes.ok l) (h0 : a0.size = 16 ∨ a0.size = 32) (h1 : a1.size = 12) (hl : l.length ≤ 900000) (hk : 2 * l.length + 2000 ≤ k) :
   spec_l02Ctr.f k a0 a1 l = some (Md.ctrL (Aes.keysL (bytesL a0)) (bytesL a1) l) := by
 unfold spec_l02Ctr.f
 rw [table_at k (by omega), Option.bind_some, spec_keys a0 h0, Option.bind_some, Option.bind_some, if_pos (by simp; omega)]
 exact ctr_outer (keysL_good a0) (by rw [Aes.keysL_length]; omega) (by rw [Aes.keysL_length, bytesL_length]; omega) a1 h1 l ol hl (l.length / 16 + 1) k 0 (by omega) (by omega)
theorem ictr_eq (a0 a1 : ByteArray) (l : List Int) (ol : Aes.ok l) (h0 : a0.size = 16 ∨ a0.size = 32) (h1 : a1.size = 12) (hl : l.length ≤ 900000) : impl_ctr.f a0 a1 l = some (Md.ctrL (Aes.keysL (bytesL a0)) (bytesL a1) l) := by
 unfold impl_ctr.f
 rw [if_pos ⟨u8b_of ol, h0, h1, by omega⟩]
end Go.Proofs.Ytlfpogbonmddmaa.Pg
namespace Go.Proofs.Ytlfpogbonmddmaa.Pg
open Go.RowKit Go.Proofs.Ytlfpogbonmddmaa.P Go.Proofs.YtlfpogbonmddmaaW.PrintWords Go.Proofs.YtlfpogbonmddmaaW.PrintLast Go.Proofs.YtlfpogbonmddmaaW.PrintMore
set_option linter.unusedVariables false
set_option linter.unusedSimpArgs false
theorem sx_bytesOf4 (k : Nat) (n : Int) (hk : 5 < k) : impl_bytesOf.f k n 4 = some (strOfNums (Sha.four n)) := by
 obtain ⟨k, rfl⟩ : ∃ m, k = m + 6 := ⟨k - 6, by omega⟩
 have w3 : wrap64 3 = 3 := by unfold wrap64; omega
 have w2 : wrap64 2 = 2 := by unfold wrap64; omega
 have w1 : wrap64 1 = 1 := by unfold wrap64; omega
 have w0 : wrap64 0 = 0 := by unfold wrap64; omega
 have wm : wrap64 (-1) = -1 := by unfold wrap64; omega
 have e : n / 65536 / 256 = n / 16777216 := by omega
 have e2 : n / 256 / 256 = n / 65536 := by omega
 simp [impl_bytesOf.f, impl_bytesOf.l0, w3, w2, w1, w0, wm, Sha.four, List.replicate, e, e2]
def kE (key : ByteArray) : List Int := (keysK key).take 32
def kM (key : ByteArray) : List Int := (keysK key).drop 32
theorem u8ok_keysK (s : ByteArray) : u8ok (keysK s) := fun x hx => by
 rw [keysK, exp_take _ _ 64 2 (by decide) (by decide)] at hx
 exact (exp_u8 _ _ _).1 x (List.mem_of_mem_take hx)
theorem kE_ok (key : ByteArray) : u8ok (kE key) ∧ (kE key).length = 32 := ⟨fun x hx => u8ok_keysK key x (List.mem_of_mem_take hx), by rw [kE, List.length_take, keysK_length]; rfl⟩
theorem kM_ok (key : ByteArray) : u8ok (kM key) ∧ (kM key).length = 32 := ⟨fun x hx => u8ok_keysK key x (List.mem_of_mem_drop hx), by rw [kM, List.length_drop, keysK_length]⟩
def sealE (key nonce : ByteArray) (b : List Int) : List Int := Md.ctrL (Aes.keysL (kE key)) (bytesL nonce) b
def sealT (key nonce : ByteArray) (x e : List Int) : List Int := (Sha.hmacL (kM key) (tagAll nonce x e)).take 16
def sealL (key nonce : ByteArray) (x b : List Int) : List Int := sealE key nonce b ++ sealT key nonce x (sealE key nonce b)
def openL (key nonce : ByteArray) (x b : List Int) : Option (List Int) :=
 if b.length < 16 then none else if sealT key nonce x (b.take (b.length - 16)) = b.drop (b.length - 16) then some (sealE key nonce (b.take (b.length - 16))) else none
theorem sealE_length (key nonce : ByteArray) (b : List Int) : (sealE key nonce b).length = b.length := Md.ctrL_length _ _ _
theorem sealE_ok (key nonce : ByteArray) {b : List Int} (h : u8ok b) : u8ok (sealE key nonce b) := Md.ctrL_ok (Aes.keysL_ok (kE_ok key).1) (u8ok_bytesL nonce) h
theorem sealT_length (key nonce : ByteArray) (x e : List Int) : (sealT key nonce x e).length = 16 := by rw [sealT, List.length_take, hmacL_length]; rfl
theorem sealT_ok (key nonce : ByteArray) (x e : List Int) : u8ok (sealT key nonce x e) := fun y hy => u8ok_hmacL _ _ y (List.mem_of_mem_take hy)
theorem sealL_length (key nonce : ByteArray) (x b : List Int) : (sealL key nonce x b).length = b.length + 16 := by rw [sealL, List.length_append, sealE_length, sealT_length]
theorem sealL_ok (key nonce : ByteArray) (x : List Int) {b : List Int} (h : u8ok b) : u8ok (sealL key nonce x b) := u8ok_append (sealE_ok key nonce h) (sealT_ok _ _ _ _)
theorem sealE_twice (key nonce : ByteArray) {b : List Int} (h : u8ok b) : sealE key nonce (sealE key nonce b) = b := Md.ctrL_twice (Aes.keysL_ok (kE_ok key).1) (u8ok_bytesL nonce) h
theorem open_seal (key nonce : ByteArray) (x : List Int) {b : List Int} (h : u8ok b) : openL key nonce x (sealL key nonce x b) = some b := by
 have hl := sealL_length key nonce x b
 have e1 : (sealL key nonce x b).take ((sealL key nonce x b).length - 16) = sealE key nonce b := by
   rw [hl, Nat.add_sub_cancel]
   unfold sealL
   rw [List.take_append_of_le_length (by rw [sealE_length]; exact Nat.le_refl _), List.take_of_length_le (by rw [sealE_length]; exact Nat.le_refl _)]
 have e2 : (sealL key nonce x b).drop ((sealL key nonce x b).length - 16) = sealT key nonce x (sealE key nonce b) := by
   rw [hl, Nat.add_sub_cancel]
   unfold sealL
   exact List.drop_left' (sealE_length _ _ _)
 unfold openL
 rw [if_neg (by omega), e1, e2, if_pos rfl, sealE_twice key nonce h]
theorem tag_eq (k : Nat) (n : ByteArray) (m x e : List Int) (um : u8ok m) (ux : u8ok x) (ue : u8ok e) (hm : m.length = 32) (hn : n.size ≤ 1048576) (hx : x.length ≤ 1048576) (he : e.length ≤ 1048576) (hk : 10 ≤ k) :
   impl_tag.f k (strOfNums m) n (strOfNums x) (strOfNums e) = some (strOfNums ((Sha.hmacL m (tagAll n x e)).take 16)) := by
 obtain ⟨k, rfl⟩ : ∃ j, k = j + 1 := ⟨k - 1, by omega⟩
 have hF : (Sha.four (x.length : Int)).length = 4 := rfl
 have en : n = strOfNums (bytesL n) := (str_bytesL n).symm
 have hall : tagAll n x e = ((bytesL n ++ Sha.four (x.length : Int)) ++ x) ++ e := rfl
 have hlen : (tagAll n x e).length ≤ 4000000 := by rw [hall]; simp only [List.length_append, bytesL_length, hF]; omega
 have hu : u8ok (tagAll n x e) := u8ok_append (u8ok_append (u8ok_append (u8ok_bytesL n) (u8ok_four _)) ux) ue
 unfold impl_tag.f
 rw [size_strOfNums, sx_bytesOf4 _ _ (by omega), Option.bind_some]
 have e1 : n ++ strOfNums (Sha.four (x.length : Int)) = strOfNums (bytesL n ++ Sha.four (x.length : Int)) := by
   rw [← str_app, str_bytesL]
 rw [e1, str_app, str_app, ← hall, size_strOfNums, size_strOfNums, size_strOfNums, size_strOfNums]
 simp only [List.length_append, bytesL_length, hF]
 rw [if_pos (by omega), if_pos (by omega), if_pos (by omega), hmac_eq k m (tagAll n x e) um (by omega) hu (by omega), Option.bind_some, if_pos (by decide), if_pos (by rw [size_strOfNums, hmacL_length]; decide), str_extract]
theorem ctr32 (key nonce : ByteArray) (b : List Int) (ub : u8ok b) (hn : nonce.size = 12) (hb : b.length ≤ 65536) : impl_ctr.f (strOfNums (kE key)) nonce b = some (sealE key nonce b) := by
 rw [ictr_eq _ _ _ ub (.inr (by rw [size_strOfNums]; exact (kE_ok key).2)) hn (by omega), bytesL_str _ (kE_ok key).1]
 rfl
theorem sctr32 (k : Nat) (key nonce : ByteArray) (b : List Int) (ub : u8ok b) (hn : nonce.size = 12) (hb : b.length ≤ 65536) (hk : 200000 ≤ k) : spec_l02Ctr.f k (strOfNums (kE key)) nonce b = some (sealE key nonce b) := by
 rw [sctr_eq k _ _ _ ub (.inr (by rw [size_strOfNums]; exact (kE_ok key).2)) hn (by omega) (by omega), bytesL_str _ (kE_ok key).1]
 rfl
theorem iseal_eq (key nonce : ByteArray) (x b : List Int) (ux : u8ok x) (ub : u8ok b) (hk : key.size = 32) (hn : nonce.size = 12) (hx : x.length ≤ 65536) (hb : b.length ≤ 65536) :
   impl_seal.f key nonce (strOfNums x) (strOfNums b) = some (strOfNums (sealL key nonce x b)) := by
 unfold impl_seal.f
 have e1 := sealKeys_eq (300000 - 264) key (by omega)
 rw [show 300000 - 264 + 264 = 300000 from rfl] at e1
 rw [e1, Option.bind_some]
 show (impl_ctr.f (strOfNums (kE key)) nonce (bytesL (strOfNums b))).bind _ = _
 rw [bytesL_str b ub, ctr32 key nonce b ub hn hb, Option.bind_some]
 show (impl_tag.f 300000 (strOfNums (kM key)) nonce (strOfNums x) (strOfNums (sealE key nonce b))).bind _ = _
 rw [tag_eq _ _ _ _ _ (kM_ok key).1 ux (sealE_ok key nonce ub) (kM_ok key).2 (by omega) (by omega) (by rw [sealE_length]; omega) (by decide), Option.bind_some]
 show (if (sealE key nonce b).length + (strOfNums (sealT key nonce x (sealE key nonce b))).size ≤ 4000000 then some (strOfNums (sealE key nonce b) ++ strOfNums (sealT key nonce x (sealE key nonce b))) else none) = _
 rw [if_pos (by rw [size_strOfNums, sealT_length, sealE_length]; omega), str_app]
 rfl
theorem sseal_eq (k : Nat) (key nonce : ByteArray) (x b : List Int) (ux : u8ok x) (ub : u8ok b) (hk : key.size = 32) (hn : nonce.size = 12) (hx : x.length ≤ 65536) (hb : b.length ≤ 65536) (hkk : 200000 ≤ k) :
   spec_l04Seal.f k key nonce x b = some (sealL key nonce x b) := by
 unfold spec_l04Seal.f
 rw [spec_sealKeys_eq key (by omega), Option.bind_some]
 show (spec_l02Ctr.f k (strOfNums (kE key)) nonce b).bind _ = _
 rw [sctr32 k key nonce b ub hn hb hkk, Option.bind_some]
 show (spec_l04Tag.f (strOfNums (kM key)) nonce x (sealE key nonce b)).bind _ = _
 unfold spec_l04Tag.f
 rw [if_pos ⟨u8b_of ux, u8b_of (sealE_ok key nonce ub), by rw [size_strOfNums, (kM_ok key).2]; decide, by omega, by omega, by rw [sealE_length]; omega⟩, bytesL_str _ (kM_ok key).1, Option.bind_some]
 show (if (sealE key nonce b).length + (strOfNums (sealT key nonce x (sealE key nonce b))).size < 140737488355328 then some (sealE key nonce b ++ bytesOf (strOfNums (sealT key nonce x (sealE key nonce b)))) else none) = _
 rw [if_pos (by rw [size_strOfNums, sealT_length, sealE_length]; omega)]
 rw [show bytesOf (strOfNums (sealT key nonce x (sealE key nonce b))) = sealT key nonce x (sealE key nonce b) from bytesL_str _ (sealT_ok _ _ _ _)]
 rfl
theorem openL_ok {key nonce : ByteArray} {x b r : List Int} (ub : u8ok b) (h : openL key nonce x b = some r) : u8ok r ∧ r.length ≤ b.length := by
 unfold openL at h
 split at h
 · cases h
 · split at h
   · injection h with h
     subst h
     exact ⟨sealE_ok key nonce (fun y hy => ub y (List.mem_of_mem_take hy)), by rw [sealE_length, List.length_take]; omega⟩
   · cases h
theorem toList_str (l m : List Int) (ul : u8ok l) (um : u8ok m) : (strOfNums l).toList = (strOfNums m).toList ↔ l = m := by
 rw [← beq_iff_eq, strEq l m ul um, beq_iff_eq]
theorem str_cut (l : List Int) (n : Nat) : (strOfNums l).extract n l.length = strOfNums (l.drop n) := by
 rw [str_extract2, List.take_length]
set_option maxHeartbeats 2000000 in
theorem iopen_eq (key nonce : ByteArray) (x b : List Int) (ux : u8ok x) (ub : u8ok b) (hk : key.size = 32) (hn : nonce.size = 12) (hx : x.length ≤ 65536) (hb : b.length ≤ 65536) :
   impl_unseal.f key nonce (strOfNums x) (strOfNums b) = some (match openL key nonce x b with | some r => (strOfNums r, true) | none => (⟨#[]⟩, false)) := by
 unfold impl_unseal.f openL
 rw [size_strOfNums]
 by_cases h1 : b.length < 16
 · rw [if_pos h1, if_pos h1]
 rw [if_neg h1, if_neg h1, if_neg (by omega)]
 have e1 := sealKeys_eq (300000 - 264) key (by omega)
 rw [show 300000 - 264 + 264 = 300000 from rfl] at e1
 rw [e1, Option.bind_some]
 have ut : u8ok (b.take (b.length - 16)) := fun y hy => ub y (List.mem_of_mem_take hy)
 have hl : (b.take (b.length - 16)).length ≤ 65536 := by rw [List.length_take]; omega
 show (impl_tag.f 300000 (strOfNums (kM key)) nonce (strOfNums x) ((strOfNums b).extract 0 (b.length - 16))).bind _ = _
 rw [str_extract, tag_eq _ _ _ _ _ (kM_ok key).1 ux ut (kM_ok key).2 (by omega) (by omega) (by omega) (by decide), Option.bind_some]
 show (if (strOfNums (sealT key nonce x (b.take (b.length - 16)))).toList = ((strOfNums b).extract (b.length - 16) b.length).toList then (impl_ctr.f (strOfNums (kE key)) nonce (bytesL (strOfNums (b.take (b.length - 16))))).bind _ else _) = _
 rw [str_cut, bytesL_str _ ut, ctr32 key nonce _ ut hn hl, Option.bind_some]
 have hiff := toList_str (sealT key nonce x (b.take (b.length - 16))) (b.drop (b.length - 16)) (sealT_ok _ _ _ _) (fun y hy => ub y (List.mem_of_mem_drop hy))
 by_cases h2 : sealT key nonce x (b.take (b.length - 16)) = b.drop (b.length - 16)
 · rw [if_pos (hiff.2 h2), if_pos h2]
 · rw [if_neg (fun h => h2 (hiff.1 h)), if_neg h2]
set_option maxHeartbeats 2000000 in
theorem sopen_eq (key nonce : ByteArray) (x b : List Int) (ux : u8ok x) (ub : u8ok b) (hk : key.size = 32) (hn : nonce.size = 12) (hx : x.length ≤ 65536) (hb : b.length ≤ 65536) :
   spec_l04Open.f key nonce x b = some (match openL key nonce x b with | some r => (r, true) | none => ([], false)) := by
 unfold spec_l04Open.f openL
 by_cases h1 : b.length < 16
 · rw [if_pos h1, if_pos h1]
 rw [if_neg h1, if_neg h1, if_neg (by omega), spec_sealKeys_eq key (by omega), Option.bind_some]
 have ut : u8ok (b.take (b.length - 16)) := fun y hy => ub y (List.mem_of_mem_take hy)
 have hl : (b.take (b.length - 16)).length ≤ 65536 := by rw [List.length_take]; omega
 show (spec_l04Tag.f (strOfNums (kM key)) nonce x (b.take (b.length - 16))).bind _ = _
 unfold spec_l04Tag.f
 rw [if_pos ⟨u8b_of ux, u8b_of ut, by rw [size_strOfNums, (kM_ok key).2]; decide, by omega, by omega, by omega⟩, bytesL_str _ (kM_ok key).1, Option.bind_some]
 show (if (strOfNums (sealT key nonce x (b.take (b.length - 16)))).toList = (strOfNums (b.drop (b.length - 16))).toList then (spec_l02Ctr.f 300000 (strOfNums (kE key)) nonce (b.take (b.length - 16))).bind _ else _) = _
 rw [sctr32 300000 key nonce _ ut hn hl (by decide), Option.bind_some]
 have hiff := toList_str (sealT key nonce x (b.take (b.length - 16))) (b.drop (b.length - 16)) (sealT_ok _ _ _ _) (fun y hy => ub y (List.mem_of_mem_drop hy))
 by_cases h2 : sealT key nonce x (b.take (b.length - 16)) = b.drop (b.length - 16)
 · rw [if_pos (hiff.2 h2), if_pos h2]
 · rw [if_neg (fun h => h2 (hiff.1 h)), if_neg h2]
end Go.Proofs.Ytlfpogbonmddmaa.Pg
namespace Go.Proofs.Ytlfpogbonmddmaa.P
open Go.RowKit Go.Proofs.YtlfpogbonmddmaaW.PrintWords Go.Proofs.YtlfpogbonmddmaaW.PrintLast Go.Proofs.YtlfpogbonmddmaaW.PrintMore
set_option linter.unusedVariables false
set_option linter.unusedSimpArgs false
def RB (W : World) (B : Nat) (v : Value) (l : List Int) : Prop := (v = .slice none 0 0 ∧ l = []) ∨ rowB W B v l
theorem RB_nil (W : World) (B : Nat) : RB W B (.slice none 0 0) [] := .inl ⟨rfl, rfl⟩
theorem RB_reads {W : World} {B : Nat} {v : Value} {l : List Int} (h : RB W B v l) (hm : l.length ≤ 140737488355328) : ∃ A c, v = .slice A l.length c ∧ l.length ≤ c ∧ Kd.C (Kd.int .u8) W A l.length l := by
 rcases h with ⟨rfl, rfl⟩ | h
 · exact Kd.R_reads (Kd.R_nil (Kd.int .u8) 0 W 0 (fun _ => True))
 · obtain ⟨g, cap, rfl, hl⟩ := rowB_form h
   exact ⟨_, cap, rfl, hl, rowB_C h hm⟩
theorem rowB_setL {W : World} {B g cap : Nat} {l : List Int} (h : rowB W B (.slice (some ⟨g, 0, none⟩) l.length cap) l) (i : Nat) (hi : i < l.length) (x : Int) :
   rowB (W.setCell ⟨g, i, none⟩ (.int .u8 x)) B (.slice (some ⟨g, 0, none⟩) l.length cap) (l.set i x) := by
 obtain ⟨g2, cap2, e, hg, hl, hc, hv⟩ := h
 injection e with e1 e2 e3
 injection e1 with e1
 injection e1 with e1
 subst e1 e3
 have hw : W.setCell ⟨g, i, none⟩ (.int .u8 x) = W.setCells g i [.int .u8 x] := rfl
 have hin : (W.setCells g i [.int .u8 x]).cell? ⟨g, i, none⟩ = some (.int .u8 x) := by
   have := World.cell?_setCells_in g [.int .u8 x] i W (fun j hj => (hc _ (by simp at hj; omega)).1) 0 (by simp)
   simpa using this
 have hout : ∀ j, j ≠ i → (W.setCells g i [.int .u8 x]).cell? ⟨g, j, none⟩ = W.cell? ⟨g, j, none⟩ := fun j hj => World.cell?_setCells_out g _ _ W _ (fun _ _ => by simp only [List.length_cons, List.length_nil]; omega)
 rw [hw]
 refine ⟨g, cap, by rw [List.length_set], hg, by rw [List.length_set]; exact hl, fun j hj => ⟨?_, ?_⟩, fun j hj => ?_⟩
 · by_cases hji : j = i
   · subst hji; rw [hin]; rfl
   · rw [hout j hji]; exact (hc j hj).1
 · rw [World.frozen?_setCells]; exact (hc j hj).2
 · rw [List.length_set] at hj
   by_cases hji : j = i
   · subst hji
     rw [hin, List.getD_eq_getElem?_getD, List.getElem?_set_self hi]; rfl
   · rw [hout j hji, hv j hj, List.getD_eq_getElem?_getD, List.getD_eq_getElem?_getD, List.getElem?_set_ne (fun e => hji e.symm)]
end Go.Proofs.Ytlfpogbonmddmaa.P

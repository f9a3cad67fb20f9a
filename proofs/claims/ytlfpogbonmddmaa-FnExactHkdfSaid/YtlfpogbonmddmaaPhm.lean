/- The program's HMAC is the reference's: in plain lists. -/
import Derived.Test.YtlfpogbonmddmaaPx4
import Derived.Test.YtlfpogbonmddmaaPx2
namespace Go.Proofs.Ytlfpogbonmddmaa.Pg
open Go.RowKit Go.Proofs.Ytlfpogbonmddmaa.P Go.Proofs.YtlfpogbonmddmaaW.PrintWords Go.Proofs.YtlfpogbonmddmaaW.PrintLast Go.Proofs.YtlfpogbonmddmaaW.PrintMore
theorem u8ok_wf {l : List Int} (h : ∀ x ∈ l, (Lit.int .u8 x).wf = true) : u8ok l := fun x hx => by
  have := h x hx
  simp [Lit.wf, IntKind.min, IntKind.max, IntKind.signed, IntKind.bits] at this
  omega
theorem size_strOfNums (l : List Int) : (strOfNums l).size = l.length := by simp [strOfNums, ByteArray.size]
theorem hash_strOfNums (l : List Int) (hu : u8ok l) (hl : l.length ≤ 1099511627776) : impl_hash.f (strOfNums l) = some (strOfNums (Sha.shaL l)) := by
  unfold impl_hash.f
  rw [if_pos (by rw [size_strOfNums]; exact hl), bytesL_str l hu]
theorem masked_strOfNums (l : List Int) (m : Int) (hu : u8ok l) (hl : l.length ≤ 64) : impl_masked.f (strOfNums l) m = some (strOfNums (Sha.maskL l m)) := by
  unfold impl_masked.f
  rw [if_pos (by rw [size_strOfNums]; exact hl), bytesL_str l hu]
theorem hkey_len (l : List Int) : (Sha.hkey l).length ≤ 64 := by
  unfold Sha.hkey
  split
  · rw [shaL_length]; omega
  · omega
theorem hmac_j0 (k : Nat) (key b : List Int) (hu : u8ok key) (hl : key.length ≤ 64) (hb : u8ok b) (hbl : b.length ≤ 1073741824) : impl_hmac.j0 (k + 1) (strOfNums key) (strOfNums b) = some (strOfNums (Sha.shaL (Sha.maskL key 92 ++ Sha.shaL (Sha.maskL key 54 ++ b)))) := by
  have u1 := u8ok_append (u8ok_mask key 54 (by simp) hu) hb
  have u2 := u8ok_append (u8ok_mask key 92 (by simp) hu) (u8ok_shaL (Sha.maskL key 54 ++ b))
  simp only [impl_hmac.j0]
  rw [masked_strOfNums key 92 hu hl, Option.bind_some, masked_strOfNums key 54 hu hl, Option.bind_some, if_pos (by rw [size_strOfNums, size_strOfNums, maskL_length]; omega), strOfNums_append, hash_strOfNums _ u1 (by rw [List.length_append, maskL_length]; omega), Option.bind_some, if_pos (by rw [size_strOfNums, size_strOfNums, maskL_length, shaL_length]; decide), strOfNums_append, hash_strOfNums _ u2 (by rw [List.length_append, maskL_length, shaL_length]; decide), Option.bind_some]
theorem hmac_eq (k : Nat) (key b : List Int) (hu : u8ok key) (hl : key.length ≤ 1073741824) (hb : u8ok b) (hbl : b.length ≤ 1073741824) : impl_hmac.f (k + 1) (strOfNums key) (strOfNums b) = some (strOfNums (Sha.hmacL key b)) := by
  unfold impl_hmac.f Sha.hmacL
  by_cases h : 64 < key.length
  · rw [if_pos (by rw [size_strOfNums]; omega), hash_strOfNums key hu (by omega), Option.bind_some, hmac_j0 k _ b (u8ok_shaL key) (by rw [shaL_length]; omega) hb hbl, Sha.hkey, if_pos h]
  · rw [if_neg (by rw [size_strOfNums]; omega), hmac_j0 k key b hu (by omega) hb hbl, Sha.hkey, if_neg h]
end Go.Proofs.Ytlfpogbonmddmaa.Pg

/- Numbers as bytes: what the printed functions on numbers of four bytes and on nonces come to (no program in sight). -/
import Derived.Test.YtiapfnpnfekknaaPx4
import Derived.Test.YtiapfnpnfekknaaPx3
import Derived.Test.YtiapfnpnfekknaaPx1
namespace Go.Proofs.Ytiapfnpnfekknaa.Pg
open Go.RowKit Go.Proofs.Ytiapfnpnfekknaa.P Go.Proofs.YtiapfnpnfekknaaW.PrintWords Go.Proofs.YtiapfnpnfekknaaW.PrintLast Go.Proofs.YtiapfnpnfekknaaW.PrintMore
/-- a number in four bytes, the higher ones first -/
def four (n : Int) : List Int := [n / 16777216 % 256, n / 65536 % 256, n / 256 % 256, n % 256]
theorem four_eq (n : Int) : spec_l02Four.f n = some (four n) := rfl
theorem bytesOf4 (k : Nat) (n : Int) (hk : 5 < k) : impl_bytesOf.f k n 4 = some (strOfNums (four n)) := by
  obtain ⟨k, rfl⟩ : ∃ m, k = m + 6 := ⟨k - 6, by omega⟩
  have w3 : wrap64 3 = 3 := by unfold wrap64; omega
  have w2 : wrap64 2 = 2 := by unfold wrap64; omega
  have w1 : wrap64 1 = 1 := by unfold wrap64; omega
  have w0 : wrap64 0 = 0 := by unfold wrap64; omega
  have wm : wrap64 (-1) = -1 := by unfold wrap64; omega
  have e : n / 65536 / 256 = n / 16777216 := by omega
  have e2 : n / 256 / 256 = n / 65536 := by omega
  simp [impl_bytesOf.f, impl_bytesOf.l0, w3, w2, w1, w0, wm, four, List.replicate, e, e2]
theorem bytesOf8 (k : Nat) (n : Int) (hk : 9 < k) : impl_bytesOf.f k n 8 = some (strOfNums [n / 72057594037927936 % 256, n / 281474976710656 % 256, n / 1099511627776 % 256, n / 4294967296 % 256, n / 16777216 % 256, n / 65536 % 256, n / 256 % 256, n % 256]) := by
  obtain ⟨k, rfl⟩ : ∃ m, k = m + 10 := ⟨k - 10, by omega⟩
  have w7 : wrap64 7 = 7 := by unfold wrap64; omega
  have w6 : wrap64 6 = 6 := by unfold wrap64; omega
  have w5 : wrap64 5 = 5 := by unfold wrap64; omega
  have w4 : wrap64 4 = 4 := by unfold wrap64; omega
  have w3 : wrap64 3 = 3 := by unfold wrap64; omega
  have w2 : wrap64 2 = 2 := by unfold wrap64; omega
  have w1 : wrap64 1 = 1 := by unfold wrap64; omega
  have w0 : wrap64 0 = 0 := by unfold wrap64; omega
  have wm : wrap64 (-1) = -1 := by unfold wrap64; omega
  have e2 : n / 256 / 256 = n / 65536 := by omega
  have e3 : n / 65536 / 256 = n / 16777216 := by omega
  have e4 : n / 16777216 / 256 = n / 4294967296 := by omega
  have e5 : n / 4294967296 / 256 = n / 1099511627776 := by omega
  have e6 : n / 1099511627776 / 256 = n / 281474976710656 := by omega
  have e7 : n / 281474976710656 / 256 = n / 72057594037927936 := by omega
  simp [impl_bytesOf.f, impl_bytesOf.l0, w7, w6, w5, w4, w3, w2, w1, w0, wm, List.replicate, e2, e3, e4, e5, e6, e7]
theorem bytesOf1 (k : Nat) (n : Int) (hk : 2 < k) : impl_bytesOf.f k n 1 = some (strOfNums [n % 256]) := by
  obtain ⟨k, rfl⟩ : ∃ m, k = m + 3 := ⟨k - 3, by omega⟩
  have w0 : wrap64 0 = 0 := by unfold wrap64; omega
  have wm : wrap64 (-1) = -1 := by unfold wrap64; omega
  simp [impl_bytesOf.f, impl_bytesOf.l0, w0, wm]
def nonceOf (a b : Int) : ByteArray := (strOfNums (four 0) ++ strOfNums (four a)) ++ strOfNums (four b)
theorem four_size (n : Int) : (strOfNums (four n)).size = 4 := by rw [strOfNums_size]; rfl
theorem snonce_eq (a b : Int) : spec_l04Nonce.f a b = some (nonceOf a b) := by
  unfold spec_l04Nonce.f
  simp only [four_eq, Option.bind_some, ByteArray.size_append, four_size]
  simp [nonceOf]
theorem inonce_eq (k : Nat) (a b : Int) (hk : 5 < k) : impl_sealNonce.f k a b = some (nonceOf a b) := by
  unfold impl_sealNonce.f
  simp only [bytesOf4 k _ hk, Option.bind_some, ByteArray.size_append, four_size]
  simp [nonceOf]
theorem word_or (a : Int) : (0 ≤ a ∧ spec_l01In.f a 0 4294967295 = some true ∧ impl_isWord.f a = some true) ∨ (spec_l01In.f a 0 4294967295 = some false ∧ impl_isWord.f a = some false) := by
  unfold impl_isWord.f impl_within.f spec_l01In.f
  by_cases h0 : 0 ≤ a
  · by_cases h1 : a ≤ 4294967295
    · exact .inl ⟨h0, by simp [h0, h1], by simp [h0, h1]⟩
    · exact .inr ⟨by simp [h0, h1], by simp [h0, h1]⟩
  · exact .inr ⟨by simp [h0], by simp [h0]⟩
end Go.Proofs.Ytiapfnpnfekknaa.Pg

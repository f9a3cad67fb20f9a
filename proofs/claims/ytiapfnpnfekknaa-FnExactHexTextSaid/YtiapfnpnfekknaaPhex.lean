/- Two digits of each byte: what the reference's and the program's come to (no program in sight). -/
import Derived.Test.YtiapfnpnfekknaaPx4
import Derived.Test.YtiapfnpnfekknaaPx5
import Derived.Test.YtiapfnpnfekknaaPeq
namespace Go.Proofs.Ytiapfnpnfekknaa.Pg
open Go.RowKit Go.Proofs.Ytiapfnpnfekknaa.P Go.Proofs.YtiapfnpnfekknaaW.PrintWords Go.Proofs.YtiapfnpnfekknaaW.PrintLast Go.Proofs.YtiapfnpnfekknaaW.PrintMore
theorem hex_wrap (c : Int) (h0 : 0 ≤ c) (h1 : c ≤ 255) : IntKind.u8.wrap (Int.tdiv c 16) = c / 16 := by
  rw [IntKind.wrap_u8, Int.tdiv_eq_ediv_of_nonneg h0]
  omega
theorem hex_run (s : ByteArray) (hs : s.size ≤ 65536) (d : Nat) : ∀ (k i : Nat), i + d = s.size → d < k → spec_l03Hex.l0 k s (hexTo s i) (i : Int) = some (strOfNums (hexTo s s.size)) := by
  induction d with
  | zero =>
    intro k i hi hk
    obtain ⟨k, rfl⟩ : ∃ m, k = m + 1 := ⟨k - 1, by omega⟩
    obtain rfl : i = s.size := by omega
    simp only [spec_l03Hex.l0]
    rw [if_neg (by omega)]
  | succ d ih =>
    intro k i hi hk
    obtain ⟨k, rfl⟩ : ∃ m, k = m + 1 := ⟨k - 1, by omega⟩
    obtain ⟨b0, b1⟩ := bt_range s (i : Int)
    have hl := hexTo_length s i
    have hn := ih k (i + 1) (by omega) (by omega)
    simp only [hexTo] at hn
    simp only [spec_l03Hex.l0]
    rw [hex_wrap _ b0 b1, Int.tmod_eq_emod_of_nonneg b0, suc_int i (by omega)]
    generalize bt s (i : Int) = c at b0 b1 hn ⊢
    rw [if_pos (by omega), if_pos (by omega), if_pos (by omega), if_pos (by omega), if_pos (by omega), if_pos (by omega), Option.bind_some, if_pos (by simp; omega)]
    exact hn
def hexAns (s : ByteArray) : ByteArray × Int := if 65536 < s.size then ((⟨#[]⟩ : ByteArray), 2) else (strOfNums (hexTo s s.size), 0)
theorem spec_hex (k : Nat) (s : ByteArray) (hk : 65536 < k) : spec_HexText.f k s = some (hexAns s) := by
  unfold spec_HexText.f hexAns
  by_cases h : 65536 < s.size
  · rw [if_pos (by omega), if_pos h]
  · rw [if_neg (by omega), if_neg h]
    unfold spec_l03Hex.f
    have := hex_run s (by omega) s.size k 0 (by omega) (by omega)
    simp only [hexTo] at this
    rw [show ((0 : Nat) : Int) = 0 from rfl] at this
    rw [this]
    rfl
theorem impl_hex (s : ByteArray) : impl_HexText.f s = some (hexAns s) := by
  unfold impl_HexText.f hexAns
  split <;> rfl
end Go.Proofs.Ytiapfnpnfekknaa.Pg

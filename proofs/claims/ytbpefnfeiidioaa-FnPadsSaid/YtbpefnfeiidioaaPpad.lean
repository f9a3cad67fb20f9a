/- Texts filled up: the reference's and the program's are padL (no program in sight). -/
import Derived.Test.YtbpefnfeiidioaaPx1
import Derived.Test.YtbpefnfeiidioaaPeq
namespace Go.Proofs.Ytbpefnfeiidioaa.Pg
open Go.RowKit Go.Proofs.Ytbpefnfeiidioaa.P Go.Proofs.YtbpefnfeiidioaaW.PrintWords Go.Proofs.YtbpefnfeiidioaaW.PrintLast Go.Proofs.YtbpefnfeiidioaaW.PrintMore
theorem pad_run (n : Nat) (hn : n ≤ 16) (d : Nat) : ∀ (k i : Nat) (x : List Int), i + d = n → x.length + d < 1000000000 → d < k → spec_l02Pad.l0 k x (n : Int) (i : Int) = some (x ++ List.replicate d (n : Int)) := by
  induction d with
  | zero =>
    intro k i x hi hx hk
    obtain ⟨k, rfl⟩ : ∃ m, k = m + 1 := ⟨k - 1, by omega⟩
    simp only [spec_l02Pad.l0]
    rw [if_neg (by omega)]
    simp
  | succ d ih =>
    intro k i x hi hx hk
    obtain ⟨k, rfl⟩ : ∃ m, k = m + 1 := ⟨k - 1, by omega⟩
    simp only [spec_l02Pad.l0]
    have e : (n : Int) % 256 = (n : Int) := by omega
    rw [if_pos (by omega), if_pos (by omega), e, suc_int i (by omega), ih k (i + 1) _ (by omega) (by rw [List.length_append]; simp; omega) (by omega), List.append_assoc]
    rfl
theorem spec_pad (k : Nat) (l : List Int) (hl : l.length < 100000000) (hk : 20 < k) : spec_l02Pad.f k l = some (padL l) := by
  unfold spec_l02Pad.f
  rw [Option.bind_some, if_pos (by simp; omega), List.nil_append]
  have e : 16 - (l.length : Int) % 16 = ((16 - l.length % 16 : Nat) : Int) := by omega
  have := pad_run (16 - l.length % 16) (by omega) (16 - l.length % 16) k 0 l (by omega) (by omega) (by omega)
  rw [e]
  unfold padL
  rw [e]
  exact this
theorem impl_pad (l : List Int) (hl : l.length < 100000000) : impl_padded.f l = some (padL l) := by
  unfold impl_padded.f
  rw [if_pos (by omega)]
theorem spec_PadBlocks_eq (k : Nat) (l : List Int) (_ : ∀ x ∈ l, (Lit.int .u8 x).wf = true) (hk : 1000 < k) : spec_PadBlocks.f k l = impl_PadBlocks.f l := by
  unfold spec_PadBlocks.f impl_PadBlocks.f
  by_cases h : (l.length : Int) > 65520
  · rw [if_pos h, if_pos h]
  · rw [if_neg h, if_neg h, spec_pad k l (by omega) (by omega), impl_pad l (by omega)]
end Go.Proofs.Ytbpefnfeiidioaa.Pg

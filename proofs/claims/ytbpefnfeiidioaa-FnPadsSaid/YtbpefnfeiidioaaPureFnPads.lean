/- For all inputs: what is filled up is whole blocks and is taken off again; blocks that are taken off are those of what is left. No condition. -/
import Derived.Test.YtbpefnfeiidioaaPx5
import Derived.Test.YtbpefnfeiidioaaPunpad
import Derived.Test.YtbpefnfeiidioaaPplain
namespace Go.Proofs.Ytbpefnfeiidioaa.Pure
open Go.RowKit Go.Proofs.Ytbpefnfeiidioaa.P Go.Proofs.Ytbpefnfeiidioaa.Pg Go.Proofs.YtbpefnfeiidioaaW.PrintWords Go.Proofs.YtbpefnfeiidioaaW.PrintLast Go.Proofs.YtbpefnfeiidioaaW.PrintMore
theorem wf_u8 {l : List Int} (h : isU8 l) : ∀ x ∈ l, (Lit.int .u8 x).wf = true := fun x hx => by
  have := h x hx
  simp [Lit.wf, IntKind.min, IntKind.max, IntKind.signed, IntKind.bits]
  omega
theorem unpad_pad (b : List Int) : unpadL (padL b) = some b := by
  have hl := padL_len b
  have hr : rd (padL b) (((padL b).length : Int) - 1) = ((16 - b.length % 16 : Nat) : Int) := by
    have e : ((padL b).length : Int) - 1 = (((padL b).length - 1 : Nat) : Int) := by omega
    rw [e, rd_nat _ _ (by omega)]
    unfold padL
    rw [List.getElem_append_right (by simp; omega), List.getElem_replicate]
    omega
  have ht : (padL b).take ((padL b).length - (16 - b.length % 16)) = b := by
    rw [hl]
    have : b.length + (16 - b.length % 16) - (16 - b.length % 16) = b.length := by omega
    rw [this]
    unfold padL
    rw [List.take_append_of_le_length (Nat.le_refl _), List.take_length]
  unfold unpadL
  rw [if_neg (by omega), hr, Int.toNat_natCast, if_neg (by omega), ht]
  rw [if_pos (by simp)]
theorem unpad_back {l r : List Int} (hl : isU8 l) (h : unpadL l = some r) : padL r = l := by
  unfold unpadL at h
  split at h
  · cases h
  · split at h
    · cases h
    · split at h
      · rename_i h3
        injection h with h
        rw [h] at h3
        have hr : isU8 r := h ▸ take_u8 hl _
        rw [strEq _ _ (padL_u8 hr) hl] at h3
        simpa using h3
      · cases h
theorem iPad (b : List Int) (hl : b.length ≤ 65520) : impl_PadBlocks.f b = some (padL b, 0) := by
  unfold impl_PadBlocks.f
  rw [if_neg (by omega), impl_pad b (by omega), Option.bind_some]
theorem tail_ok (K : Nat) (l0 : List Int) (hu : isU8 l0) (hK : 150000 < K) : laws_FnPads.j0 (K + 1) l0 false = some true := by
  simp only [laws_FnPads.j0, Bool.false_eq_true, if_false]
  by_cases hl : (l0.length : Int) > 65520
  · rw [if_pos hl]
  rw [if_neg hl, spec_UnpadBlocks_eq K l0 (wf_u8 hu) (by omega)]
  have e1 : impl_UnpadBlocks.f l0 = match unpadL l0 with | none => some ([], 3) | some r => some (r, 0) := by
    unfold impl_UnpadBlocks.f
    rw [if_pos (u8s_of hu), if_neg (by omega)]
    cases unpadL l0 <;> rfl
  cases h : unpadL l0 with
  | none =>
    rw [h] at e1
    rw [e1, Option.bind_some, Option.bind_some, if_pos rfl, if_neg (by decide)]
    rfl
  | some r =>
    rw [h] at e1
    have hr := unpadL_len h
    rw [e1, Option.bind_some, Option.bind_some, if_pos rfl, if_pos rfl, iPad r (by omega), Option.bind_some, if_pos rfl]
    rw [unpad_back hu h]
    simp
theorem FnPads : laws_FnPads.Pure := by
  intro l0 h0 _ w0
  have hu := isU8_of w0
  obtain ⟨b, eb, ub, lb⟩ := plain_some hu
  obtain ⟨n, _⟩ : ∃ n : Nat, n = 0 := ⟨0, rfl⟩
  refine ⟨n + 200000 + 1, ?_⟩
  unfold laws_FnPads.f
  by_cases b0 : (l0.length : Int) > 1048576
  · rw [if_pos b0]
  have hpl := padL_len b
  have up := padL_u8 ub
  have e3 : impl_UnpadBlocks.f (padL b) = some (b, 0) := by
    unfold impl_UnpadBlocks.f
    rw [if_pos (u8s_of up), if_neg (by omega), unpad_pad b]
  rw [if_neg b0, eb _ (by omega), Option.bind_some, iPad b (by omega), Option.bind_some, spec_PadBlocks_eq _ b (wf_u8 ub) (by omega), iPad b (by omega), Option.bind_some, e3, Option.bind_some]
  simp only [if_true]
  rw [if_pos (by omega), if_neg (by omega)]
  have hne : ((strOfNums b).toList != (strOfNums b).toList) = false := by simp
  rw [hne]
  obtain ⟨K, hK⟩ : ∃ K, K = n + 200000 := ⟨_, rfl⟩
  rw [← hK]
  exact tail_ok K l0 hu (by omega)
end Go.Proofs.Ytbpefnfeiidioaa.Pure

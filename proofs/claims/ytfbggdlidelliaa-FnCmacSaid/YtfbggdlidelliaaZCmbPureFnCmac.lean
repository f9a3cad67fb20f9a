/- For all inputs: under the drawn key the program's mark of each part of the drawn text is the reference's, and 16 bytes long. No condition. -/
import Derived.Test.YtfbggdlidelliaaZCmbPm14
import Derived.Test.YtfbggdlidelliaaZCmbPblob
import Derived.Test.YtfbggdlidelliaaZCmbPplain
import Derived.Test.YtfbggdlidelliaaZCmbPstr
import Derived.Test.YtfbggdlidelliaaZCmbPcmx
namespace Go.Proofs.Ytfbggdlidelliaa.Pure
open Go.RowKit Go.Proofs.Ytfbggdlidelliaa.P Go.Proofs.Ytfbggdlidelliaa.Pg Go.Proofs.YtfbggdlidelliaaW.PrintWords Go.Proofs.YtfbggdlidelliaaW.PrintLast Go.Proofs.YtfbggdlidelliaaW.PrintMore
theorem cm_step (k : Nat) (s : ByteArray) (b : List Int) (j : Nat) (hj : j < 3) (hs : s.size = 16) (ob : Aes.ok b) (hb : b.length ≤ 100) : laws_FnCmac.l0 (k + 1) s b (j : Int) = laws_FnCmac.l0 k s b ((j + 1 : Nat) : Int) := by
  obtain ⟨m, hm⟩ : ∃ m, m = b.length * j := ⟨_, rfl⟩
  obtain ⟨n, hn⟩ : ∃ n, n = m / 2 := ⟨_, rfl⟩
  have h1 : (b.length : Int) * (j : Int) = (m : Int) := by rw [hm]; push_cast; rfl
  have hm2 : m ≤ b.length * 2 := by rw [hm]; exact Nat.mul_le_mul_left _ (by omega)
  have hnl : n ≤ b.length := by omega
  have h2 : Int.tdiv (m : Int) 2 = (n : Int) := (Int.tdiv_eq_ediv_of_nonneg (by omega)).trans (by omega)
  have hj1 : (j : Int) < 3 := by omega
  have q0 : (0 : Int) ≤ (n : Int) := by omega
  have q1 : (n : Int) ≤ (b.length : Int) := by omega
  have ht : (b.take n).length ≤ 65536 := by rw [List.length_take]; omega
  have ot : Aes.ok (b.take n) := fun x hx => ob x (List.mem_of_mem_take hx)
  have e1 : wrap64 (m : Int) = (m : Int) := w64s _ (by omega) (by omega)
  have e2 : wrap64 (n : Int) = (n : Int) := w64s _ (by omega) (by omega)
  have e3 : wrap64 ((j : Int) + 1) = ((j + 1 : Nat) : Int) := w64s _ (by omega) (by omega)
  rw [laws_FnCmac.l0]
  rw [if_pos hj1, h1, e1, h2, e2, if_pos q0, if_pos q1, Option.bind_some, Int.toNat_natCast, impl_cmx s _ ot, Option.bind_some, spec_cmx s _ ot, Option.bind_some, cmx_good s _ hs ht, e3]
  rw [if_pos rfl, if_pos (by simp only [str_size, Md.cmacL_length]; rfl), if_pos rfl]
theorem FnCmac : laws_FnCmac.Pure := by
  intro l0 l1 h0 _ w0 h1 _ w1
  refine ⟨1005, ?_⟩
  obtain ⟨A, eA, hA, nA⟩ := blobOf_some (isU8_of w0) 16 (by decide)
  obtain ⟨B, eB, hB, nB⟩ := plain_some (isU8_of w1)
  have T : laws_FnCmac.j0 1005 l0 l1 false = some true := by
    show laws_FnCmac.j0 (1004 + 1) _ _ _ = _
    simp only [laws_FnCmac.j0, Bool.false_eq_true, if_false]
    have eA1 : spec_BlobOf.f 1004 l0 16 = some (strOfNums A) := eA 1004 (by omega)
    rw [eA1, Option.bind_some, eB 1004 (by omega), Option.bind_some]
    have s0 := cm_step 1003 (strOfNums A) B 0 (by decide) (by rw [str_size, nA]) hB nB
    have s1 := cm_step 1002 (strOfNums A) B 1 (by decide) (by rw [str_size, nA]) hB nB
    have s2 := cm_step 1001 (strOfNums A) B 2 (by decide) (by rw [str_size, nA]) hB nB
    have s3 : laws_FnCmac.l0 (1000 + 1) (strOfNums A) B ((3 : Nat) : Int) = some true := by
      rw [laws_FnCmac.l0, if_neg (by omega)]
    exact s0.trans (s1.trans (s2.trans s3))
  unfold laws_FnCmac.f
  split
  · show laws_FnCmac.j0 (1004 + 1) _ _ _ = _
    simp only [laws_FnCmac.j0, if_true]
  · by_cases h : (l1.length : Int) > 1048576
    · rw [decide_eq_true h]
      show laws_FnCmac.j0 (1004 + 1) _ _ _ = _
      simp only [laws_FnCmac.j0, if_true]
    · rw [decide_eq_false h]
      exact T
end Go.Proofs.Ytfbggdlidelliaa.Pure

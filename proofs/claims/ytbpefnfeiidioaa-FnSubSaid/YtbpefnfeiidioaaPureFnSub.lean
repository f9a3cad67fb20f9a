/- For all inputs: each byte has one substitute, no two the same, none itself or all its bits turned; it is the reference's and is undone. No condition. -/
import Derived.Test.YtbpefnfeiidioaaPx2
import Derived.Test.YtbpefnfeiidioaaPun
import Derived.Test.YtbpefnfeiidioaaPat
namespace Go.Proofs.Ytbpefnfeiidioaa.Pure
open Go.RowKit Go.Proofs.Ytbpefnfeiidioaa.P Go.Proofs.Ytbpefnfeiidioaa.Gf Go.Proofs.Ytbpefnfeiidioaa.Pg Go.Proofs.YtbpefnfeiidioaaW.PrintWords Go.Proofs.YtbpefnfeiidioaaW.PrintLast Go.Proofs.YtbpefnfeiidioaaW.PrintMore
theorem isub (k i : Nat) (hi : i < 256) (hk : 16 < k) : impl_SubByte.f k (i : Int) = some (((sub i : Nat) : Int), 0) := by
  unfold impl_SubByte.f
  rw [isByte_yes i hi, Option.bind_some, if_pos rfl, mod_byte i hi, impl_sub_eq k i hi hk, Option.bind_some, wrap_byte _ (sub_lt i hi)]
theorem ssub (k i : Nat) (hi : i < 256) (hk : 16 < k) : spec_SubByte.f k (i : Int) = some (((sub i : Nat) : Int), 0) := by
  unfold spec_SubByte.f
  rw [byte_yes i hi, Option.bind_some, if_pos rfl, spec_sub_eq k i hi hk, Option.bind_some]
theorem sub_ne : ∀ i, i < 256 → sub i ≠ i ∧ sub i ≠ i ^^^ 255 := by decide +kernel
theorem xor255 (i : Nat) (hi : i < 256) : Go.bits .xor .i64 (i : Int) 255 = ((i ^^^ 255 : Nat) : Int) := xor_b i 255 hi (by decide)
theorem sub_run (l0 : List Int) (hl : l0.length ≤ 1048576) (w0 : ∀ x ∈ l0, (Lit.int .u8 x).wf = true) (d : Nat) : ∀ (k i : Nat) (seen : List Bool), i + d = 256 → seen.length = 256 → d + 400 < k →
    (∀ j, j < 256 → seen[j]? = some (decide (unsub j < i))) → laws_FnSub.l0 k l0 seen i = some true := by
  induction d with
  | zero =>
    intro k i seen hi hs hk hj
    obtain ⟨k, rfl⟩ : ∃ m, k = m + 1 := ⟨k - 1, by omega⟩
    simp only [laws_FnSub.l0]
    rw [if_neg (by omega)]
    obtain ⟨a, ha, ea⟩ := at_some l0 hl w0 0 256 (by decide) (by decide)
    have ea' : laws_at.f l0 0 256 = some (a : Int) := ea
    rw [ea', Option.bind_some, isub k a ha (by omega), Option.bind_some, ssub k a ha (by omega), Option.bind_some, impl_unsub_eq k _ (sub_lt a ha) (by omega), Option.bind_some, unsub_sub a ha]
    simp
  | succ d ih =>
    intro k i seen hi hs hk hj
    obtain ⟨k, rfl⟩ : ∃ m, k = m + 1 := ⟨k - 1, by omega⟩
    have hi2 : i < 256 := by omega
    have hsl := sub_lt i hi2
    obtain ⟨n1, n2⟩ := sub_ne i hi2
    have hx := xor255 i hi2
    simp only [laws_FnSub.l0]
    rw [if_pos (by omega), isub k i hi2 (by omega), Option.bind_some, hx]
    clear hx
    have hrd : rdOf false seen ((sub i : Nat) : Int) = false := by
      have h1 := hj (sub i) hsl
      rw [unsub_sub i hi2] at h1
      simp [rdOf, List.getD_eq_getElem?_getD, h1]
    simp only [if_true]
    rw [if_neg (by omega), if_neg (by omega), if_pos (by omega), if_pos (by omega), hrd, if_neg (by simp), if_neg (by omega), if_neg (by omega), suc_w i (by omega), Int.toNat_natCast]
    refine ih k (i + 1) _ (by omega) (by rw [List.length_set]; exact hs) (by omega) (fun j hj2 => ?_)
    by_cases e : j = sub i
    · subst e
      rw [List.getElem?_set_self (by omega), unsub_sub i hi2]
      simp
    · rw [List.getElem?_set_ne (fun h => e h.symm), hj j hj2]
      congr 1
      apply decide_eq_decide.2
      have : unsub j ≠ i := fun h => e (by rw [← h, sub_unsub j hj2])
      omega

theorem FnSub : laws_FnSub.Pure := by
  intro l0 _ _ w0
  refine ⟨700, ?_⟩
  unfold laws_FnSub.f
  by_cases b0 : (l0.length : Int) > 1048576
  · rw [if_pos b0]
  rw [if_neg b0, if_pos (by decide)]
  refine sub_run l0 (by omega) w0 256 700 0 (List.replicate 256 false) (by decide) (by rw [List.length_replicate]) (by decide) (fun j hj => ?_)
  rw [List.getElem?_replicate, if_pos hj, decide_eq_false (by omega)]

end Go.Proofs.Ytbpefnfeiidioaa.Pure

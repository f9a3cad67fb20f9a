/- What a disk reads: the reference's loop and the program's agree (no program in sight). -/
import Derived.Test.YtbpefnfeiidioaaZDrM8
import Derived.Test.YtbpefnfeiidioaaZDrPe7
import Derived.Test.YtbpefnfeiidioaaZDrPe6
namespace Go.Proofs.Ytbpefnfeiidioaa.Pg
open Go.RowKit Go.Proofs.Ytbpefnfeiidioaa.P Go.Proofs.YtbpefnfeiidioaaW.PrintWords Go.Proofs.YtbpefnfeiidioaaW.PrintLast Go.Proofs.YtbpefnfeiidioaaW.PrintMore
set_option linter.unusedVariables false
set_option linter.unusedSimpArgs false
theorem l05_run (l0 : List ByteArray) (l1 : List PI) (l2 : List ByteArray) (x : Int) (hl : l1.length ≤ 1048576) (h0 : 0 ≤ x) (h1 : x < (l0.length : Int)) : ∀ (j k : Nat), j ≤ l1.length → j < k → spec_l05Read.l0 k x ((j : Int) - 1) l0 l1 l2 = some (seekV l0 l1 x j)
  | 0, k, hj, hk => by
    obtain ⟨k, rfl⟩ : ∃ m, k = m + 1 := ⟨k - 1, by omega⟩
    simp only [spec_l05Read.l0]
    rw [if_neg (by omega), if_pos h0, if_pos h1]
    rfl
  | j + 1, k, hj, hk => by
    obtain ⟨k, rfl⟩ : ∃ m, k = m + 1 := ⟨k - 1, by omega⟩
    have ih := l05_run l0 l1 l2 x hl h0 h1 j k (by omega) (by omega)
    have hw : wrap64 ((j : Int) - 1) = (j : Int) - 1 := by unfold wrap64; omega
    simp only [spec_l05Read.l0]
    rw [show ((j + 1 : Nat) : Int) - 1 = (j : Int) by omega, if_pos (by omega), if_pos (by omega), if_pos (by omega), hw, ih]
    show _ = some (if _ then _ else _)
    by_cases h : (rd_T82 l1 (j : Int)).f0 = x
    · rw [if_pos h, if_pos h]
    · rw [if_neg h, if_neg h]
theorem l05_eq (k : Nat) (l0 : List ByteArray) (l1 : List PI) (l2 : List ByteArray) (x : Int) (hl : l1.length ≤ 1048576) (h0 : 0 ≤ x) (h1 : x < (l0.length : Int)) (hk : 1048576 < k) : spec_l05Read.f k l0 l1 l2 x = some (seekV l0 l1 x l1.length) := by
  have hw : wrap64 ((l1.length : Int) - 1) = (l1.length : Int) - 1 := by unfold wrap64; omega
  unfold spec_l05Read.f
  rw [hw]
  exact l05_run l0 l1 l2 x hl h0 h1 l1.length k (Nat.le_refl _) (by omega)
theorem read_eq (l0 : List ByteArray) (l1 : List PI) (l2 : List ByteArray) (x : Int) (h0 : 0 ≤ x) (h1 : x < (l0.length : Int)) : impl_Disk_read.f l0 l1 l2 x = some (seekV l0 l1 x l1.length) := by
  unfold impl_Disk_read.f
  rw [if_pos h0, if_pos h1]
theorem isAt_spec (x : Int) (n : Nat) (hn : n ≤ 1048576) : spec_l01In.f x 0 (wrap64 ((n : Int) - 1)) = some (decide (0 ≤ x) && decide (x < (n : Int))) := by
  have hw : wrap64 ((n : Int) - 1) = (n : Int) - 1 := by unfold wrap64; omega
  rw [hw]
  unfold spec_l01In.f
  have e : decide (x ≤ (n : Int) - 1) = decide (x < (n : Int)) := decide_eq_decide.2 (by omega)
  by_cases h : x ≥ 0
  · rw [if_pos h, e, decide_eq_true (show 0 ≤ x from h)]; rfl
  · rw [if_neg h, decide_eq_false (show ¬ 0 ≤ x from h)]; rfl
theorem isAt_impl (l0 : List ByteArray) (l1 : List PI) (l2 : List ByteArray) (x : Int) (hn : l0.length ≤ 1048576) : impl_Disk_isAt.f l0 l1 l2 x = some (decide (0 ≤ x) && decide (x < (l0.length : Int))) := by
  have hw : wrap64 ((l0.length : Int) - 1) = (l0.length : Int) - 1 := by unfold wrap64; omega
  unfold impl_Disk_isAt.f
  rw [hw]
  unfold impl_within.f
  have e : decide (x ≤ (l0.length : Int) - 1) = decide (x < (l0.length : Int)) := decide_eq_decide.2 (by omega)
  by_cases h : 0 ≤ x
  · simp [h, e]
  · simp [h]
theorem diskRead_both (k : Nat) (l0 : List ByteArray) (l1 : List PI) (l2 : List ByteArray) (x : Int) (h0 : l0.length ≤ 1048576) (h1 : l1.length ≤ 1048576) (h2 : l2.length ≤ 1048576) (hk : 5000000 < k) :
    ∃ s c, spec_DiskRead.f k l0 l1 l2 x = some (s, c) ∧ impl_DiskRead.f l0 l1 l2 x = some (s, c) := by
  unfold spec_DiskRead.f impl_DiskRead.f
  rw [spec_disk l0 l1 l2 h0 h1 h2 k hk, isAt_spec x _ h0, isAt_impl l0 l1 l2 x h0]
  unfold impl_DiskOK.f
  rw [Option.bind_some, Option.bind_some, Option.bind_some, Option.bind_some]
  cases diskOkB l0 l1 l2
  · exact ⟨_, _, rfl, rfl⟩
  · rw [if_pos rfl, if_pos rfl]
    by_cases a : 0 ≤ x
    · by_cases b : x < (l0.length : Int)
      · rw [decide_eq_true a, decide_eq_true b, Bool.true_and, if_pos rfl, if_pos rfl, l05_eq k l0 l1 l2 x h1 a b (by omega), read_eq l0 l1 l2 x a b]
        exact ⟨_, _, rfl, rfl⟩
      · rw [decide_eq_false b, Bool.and_false]
        exact ⟨_, _, rfl, rfl⟩
    · rw [decide_eq_false a, Bool.false_and]
      exact ⟨_, _, rfl, rfl⟩
theorem diskRead_law (l0 : List ByteArray) (l1 : List PL) (l2 : List ByteArray) (x : Int) (h0 : l0.length ≤ 9223372036854775807) (h1 : l1.length ≤ 9223372036854775807) (h2 : l2.length ≤ 9223372036854775807) (s0 : ∀ x ∈ l0, x.size ≤ 9223372036854775807) (s1 : ∀ x ∈ l1, x.f1.size ≤ 9223372036854775807) (s2 : ∀ x ∈ l2, x.size ≤ 9223372036854775807) : laws_FnExactDiskRead.f 6000000 l0 l1 l2 x = some true := by
  obtain ⟨K, hK⟩ : ∃ K, K = 6000000 := ⟨_, rfl⟩
  rw [← hK]
  obtain ⟨r, e, _, hq⟩ := szDisk_some K l0 l1 l2 h0 h1 h2 s0 s1 s2 1048576 (by decide) (by omega)
  unfold laws_FnExactDiskRead.f
  rw [e, Option.bind_some]
  by_cases c : r < 0
  · rw [if_pos c]
  obtain ⟨q0, q1, q2⟩ := hq (by omega)
  have ql : (l1.map pe).length ≤ 1048576 := by rw [List.length_map]; exact q1
  obtain ⟨s, c0, e1, e2⟩ := diskRead_both K l0 (l1.map pe) l2 x q0 ql q2 (by omega)
  rw [if_neg c, toDisk_eq _ l0 l1 l2 q0 q1 q2 (by omega), Option.bind_some]
  simp only []
  rw [e1, Option.bind_some, Option.bind_some]
  simp only []
  rw [e2, Option.bind_some]
  simp only []
  rw [if_pos trivial, bne_self_eq_false]
  obtain ⟨k, rfl⟩ : ∃ k, K = k + 1 := ⟨K - 1, by omega⟩
  simp only [laws_FnExactDiskRead.j0]
  rw [if_neg (by decide), toDisk_eq _ l0 l1 l2 q0 q1 q2 (by omega), Option.bind_some]
  simp only []
  rw [eqDisk_refl _ l0 _ l2 q0 ql q2 (by omega), Option.bind_some, if_pos rfl]
end Go.Proofs.Ytbpefnfeiidioaa.Pg

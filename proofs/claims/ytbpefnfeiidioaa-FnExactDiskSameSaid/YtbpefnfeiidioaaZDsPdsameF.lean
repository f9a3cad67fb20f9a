/- Two disks read the same: the reference's loop and the program's agree (no program in sight). -/
import Derived.Test.YtbpefnfeiidioaaZDsM8
import Derived.Test.YtbpefnfeiidioaaZDsPf10
import Derived.Test.YtbpefnfeiidioaaZDsPf9
import Derived.Test.YtbpefnfeiidioaaZDsPf8
namespace Go.Proofs.Ytbpefnfeiidioaa.Pg
open Go.RowKit Go.Proofs.Ytbpefnfeiidioaa.P Go.Proofs.YtbpefnfeiidioaaW.PrintWords Go.Proofs.YtbpefnfeiidioaaW.PrintLast Go.Proofs.YtbpefnfeiidioaaW.PrintMore
set_option linter.unusedVariables false
set_option linter.unusedSimpArgs false
theorem same_run (a0 : List ByteArray) (a1 : List PI) (a2 b0 : List ByteArray) (b1 : List PI) (b2 : List ByteArray) (h0 : a0.length ≤ 1048576) (h1 : a1.length ≤ 1048576) (g1 : b1.length ≤ 1048576) (hl : a0.length = b0.length) :
    ∀ (d k i : Nat), i + d = a0.length → 1048577 + d < k → ∃ b c, spec_DiskSame.l0 k (i : Int) a0 a1 a2 b0 b1 b2 = some (b, c) ∧ impl_DiskSame.l0 k (a0.length : Int) (i : Int) a0 a1 a2 b0 b1 b2 = some (b, c)
  | 0, k, i, hi, hk => by
    obtain ⟨k, rfl⟩ : ∃ m, k = m + 1 := ⟨k - 1, by omega⟩
    simp only [spec_DiskSame.l0, impl_DiskSame.l0]
    rw [if_neg (by omega), if_neg (by omega)]
    exact ⟨_, _, rfl, rfl⟩
  | d + 1, k, i, hi, hk => by
    obtain ⟨k, rfl⟩ : ∃ m, k = m + 1 := ⟨k - 1, by omega⟩
    obtain ⟨b, c, e1, e2⟩ := same_run a0 a1 a2 b0 b1 b2 h0 h1 g1 hl d k (i + 1) (by omega) (by omega)
    simp only [spec_DiskSame.l0, impl_DiskSame.l0]
    rw [if_pos (by omega), l05_eq k a0 a1 a2 (i : Int) h1 (by omega) (by omega) (by omega), l05_eq k b0 b1 b2 (i : Int) g1 (by omega) (by omega) (by omega), if_pos (by omega), read_eq a0 a1 a2 (i : Int) (by omega) (by omega), read_eq b0 b1 b2 (i : Int) (by omega) (by omega)]
    rw [Option.bind_some, Option.bind_some, Option.bind_some, Option.bind_some, dk_suc i (by omega)]
    by_cases h : (seekV a0 a1 (i : Int) a1.length).toList = (seekV b0 b1 (i : Int) b1.length).toList
    · rw [if_pos h, if_pos h]
      exact ⟨b, c, e1, e2⟩
    · rw [if_neg h, if_neg h]
      exact ⟨_, _, rfl, rfl⟩
theorem diskSame_both (k : Nat) (a0 : List ByteArray) (a1 : List PI) (a2 b0 : List ByteArray) (b1 : List PI) (b2 : List ByteArray) (h0 : a0.length ≤ 1048576) (h1 : a1.length ≤ 1048576) (h2 : a2.length ≤ 1048576) (g0 : b0.length ≤ 1048576) (g1 : b1.length ≤ 1048576) (g2 : b2.length ≤ 1048576) (hk : 5000000 < k) :
    ∃ b c, spec_DiskSame.f k a0 a1 a2 b0 b1 b2 = some (b, c) ∧ impl_DiskSame.f k a0 a1 a2 b0 b1 b2 = some (b, c) := by
  have hj : ∀ x : Bool, ∃ b c, spec_DiskSame.j0 k x a0 a1 a2 b0 b1 b2 = some (b, c) ∧ impl_DiskSame.j0 k x a0 a1 a2 b0 b1 b2 = some (b, c) := fun x => by
    obtain ⟨m, rfl⟩ : ∃ m, k = m + 1 := ⟨k - 1, by omega⟩
    simp only [spec_DiskSame.j0, impl_DiskSame.j0]
    cases x
    · rw [if_neg Bool.false_ne_true, if_neg Bool.false_ne_true]
      by_cases h : (a0.length : Int) = (b0.length : Int)
      · rw [if_pos h, if_pos h]
        exact same_run a0 a1 a2 b0 b1 b2 h0 h1 g1 (by omega) a0.length m 0 (by omega) (by omega)
      · rw [if_neg h, if_neg h]
        exact ⟨_, _, rfl, rfl⟩
    · exact ⟨_, _, rfl, rfl⟩
  unfold spec_DiskSame.f impl_DiskSame.f
  rw [spec_disk a0 a1 a2 h0 h1 h2 k hk, spec_disk b0 b1 b2 g0 g1 g2 k hk]
  unfold impl_DiskOK.f
  rw [Option.bind_some, Option.bind_some, Option.bind_some, Option.bind_some]
  cases diskOkB a0 a1 a2
  · exact hj true
  · rw [if_pos rfl, if_pos rfl]
    exact hj _
theorem diskSame_law (l0 : List ByteArray) (l1 : List PL) (l2 m0 : List ByteArray) (m1 : List PL) (m2 : List ByteArray) (h0 : l0.length ≤ 9223372036854775807) (h1 : l1.length ≤ 9223372036854775807) (h2 : l2.length ≤ 9223372036854775807) (s0 : ∀ x ∈ l0, x.size ≤ 9223372036854775807) (s1 : ∀ x ∈ l1, x.f1.size ≤ 9223372036854775807) (s2 : ∀ x ∈ l2, x.size ≤ 9223372036854775807)
    (g0 : m0.length ≤ 9223372036854775807) (g1 : m1.length ≤ 9223372036854775807) (g2 : m2.length ≤ 9223372036854775807) (t0 : ∀ x ∈ m0, x.size ≤ 9223372036854775807) (t1 : ∀ x ∈ m1, x.f1.size ≤ 9223372036854775807) (t2 : ∀ x ∈ m2, x.size ≤ 9223372036854775807) : laws_FnExactDiskSame.f 6000000 l0 l1 l2 m0 m1 m2 = some true := by
  obtain ⟨K, hK⟩ : ∃ K, K = 6000000 := ⟨_, rfl⟩
  rw [← hK]
  obtain ⟨r, e, hr, hq⟩ := szDisk_some K l0 l1 l2 h0 h1 h2 s0 s1 s2 1048576 (by decide) (by omega)
  unfold laws_FnExactDiskSame.f
  rw [e, Option.bind_some]
  by_cases c : r < 0
  · rw [if_pos c]
  obtain ⟨q0, q1, q2⟩ := hq (by omega)
  obtain ⟨r', e', _, hq'⟩ := szDisk_some K m0 m1 m2 g0 g1 g2 t0 t1 t2 r (by omega) (by omega)
  rw [if_neg c, e', Option.bind_some]
  by_cases c' : r' < 0
  · rw [if_pos c']
  obtain ⟨w0, w1, w2⟩ := hq' (by omega)
  have ql : (l1.map pe).length ≤ 1048576 := by rw [List.length_map]; exact q1
  have wl : (m1.map pe).length ≤ 1048576 := by rw [List.length_map]; exact w1
  obtain ⟨b, c0, e1, e2⟩ := diskSame_both K l0 (l1.map pe) l2 m0 (m1.map pe) m2 q0 ql q2 w0 wl w2 (by omega)
  rw [if_neg c', toDisk_eq _ l0 l1 l2 q0 q1 q2 (by omega), Option.bind_some, toDisk_eq _ m0 m1 m2 w0 w1 w2 (by omega), Option.bind_some]
  simp only []
  rw [e1, Option.bind_some, Option.bind_some, Option.bind_some]
  simp only []
  rw [e2, Option.bind_some]
  simp only []
  rw [bne_self_eq_false, if_neg (by decide), bne_self_eq_false]
  obtain ⟨k, rfl⟩ : ∃ k, K = k + 1 := ⟨K - 1, by omega⟩
  simp only [laws_FnExactDiskSame.j0]
  rw [if_neg (by decide), toDisk_eq _ l0 l1 l2 q0 q1 q2 (by omega), Option.bind_some]
  simp only []
  rw [eqDisk_refl _ l0 _ l2 q0 ql q2 (by omega), Option.bind_some, if_pos rfl, toDisk_eq _ m0 m1 m2 w0 w1 w2 (by omega), Option.bind_some]
  simp only []
  rw [eqDisk_refl _ m0 _ m2 w0 wl w2 (by omega), Option.bind_some, if_pos rfl]
end Go.Proofs.Ytbpefnfeiidioaa.Pg

/- Laid by a program of this session: of Pdisk, Pdiskrow what this law uses. -/
import Derived.Test.YtbpefnfeiidioaaZDkPd5
import Derived.Test.YtbpefnfeiidioaaZDkPd3
import Derived.Test.YtbpefnfeiidioaaZDkPd4
import Derived.Laws.BytesArg
import Derived.Laws.Strings
import Derived.RowKit
import Derived.WalkKit
import Derived.ProofKit
import Derived.OpenShut
import Derived.SliceStrings
import Derived.Deep.SlicePairs
import Derived.Deep.Strs
import Derived.Lib.SmallJoins
namespace Go.Proofs.Ytbpefnfeiidioaa.Pg
open Go.RowKit Go.Proofs.Ytbpefnfeiidioaa.P Go.Proofs.YtbpefnfeiidioaaW.PrintWords Go.Proofs.YtbpefnfeiidioaaW.PrintLast Go.Proofs.YtbpefnfeiidioaaW.PrintMore
set_option linter.unusedVariables false
set_option linter.unusedSimpArgs false
abbrev PL := S103
abbrev PI := S82
theorem dk_suc (i : Nat) (hi : i < 9223372036854775807) : wrap64 ((i : Int) + 1) = ((i + 1 : Nat) : Int) := by unfold wrap64; omega
theorem dk_sub (a b : Int) (ha : 0 ≤ a ∧ a ≤ 1048576) (hb : 0 ≤ b ∧ b ≤ 9223372036854775807) : wrap64 (a - b) = a - b := by unfold wrap64; omega
theorem rdS (l : List ByteArray) (i : Nat) (h : i < l.length) : rdOf ByteArray.empty l (i : Int) = l[i] := by simp [rdOf, h]
theorem rdI (l : List PI) (i : Nat) (h : i < l.length) : rd_T82 l (i : Int) = l[i] := by simp [rd_T82, h]
theorem rdL (l : List PL) (i : Nat) (h : i < l.length) : rd_T103 l (i : Int) = l[i] := by simp [rd_T103, h]
def pe (x : PL) : PI := ⟨x.f0, x.f1⟩
theorem toStringS_run (l : List ByteArray) (hl : l.length ≤ 1048576) (d : Nat) : ∀ (k i : Nat) (acc : List ByteArray), acc.length = l.length → i + d = l.length → (∀ j, j < i → acc[j]? = l[j]?) → d < k → laws_toStringS.l0 k l acc i = some l := by
  induction d with
  | zero =>
    intro k i acc ha hi hj hk
    obtain ⟨k, rfl⟩ : ∃ m, k = m + 1 := ⟨k - 1, by omega⟩
    simp only [laws_toStringS.l0]
    rw [if_neg (by omega)]
    congr 1
    apply List.ext_getElem?
    intro j
    rcases Nat.lt_or_ge j i with h | h
    · exact hj j h
    · rw [List.getElem?_eq_none (by omega), List.getElem?_eq_none (by omega)]
  | succ d ih =>
    intro k i acc ha hi hj hk
    obtain ⟨k, rfl⟩ : ∃ m, k = m + 1 := ⟨k - 1, by omega⟩
    simp only [laws_toStringS.l0]
    rw [if_pos (by omega), if_pos (by omega), if_pos (by omega), dk_suc i (by omega), rdS l i (by omega), Int.toNat_natCast]
    refine ih k (i + 1) _ (by rw [List.length_set]; exact ha) (by omega) (fun j hj2 => ?_) (by omega)
    rcases Nat.lt_or_ge j i with h | h
    · rw [List.getElem?_set_ne (by omega)]; exact hj j h
    · obtain rfl : j = i := by omega
      rw [List.getElem?_set_self (by omega), List.getElem?_eq_getElem (by omega)]
theorem toStringS_eq (k : Nat) (l : List ByteArray) (hl : l.length ≤ 1048576) (hk : l.length < k) : laws_toStringS.f k l = some l := by
  unfold laws_toStringS.f
  rw [if_pos (by omega), if_pos (by omega)]
  exact toStringS_run l hl l.length k 0 _ (by simp) (by omega) (fun j h => absurd h (by omega)) hk
theorem toPendingS_run (l : List PL) (hl : l.length ≤ 1048576) (d : Nat) : ∀ (k i : Nat) (acc : List PI), acc.length = l.length → i + d = l.length → (∀ j, j < i → acc[j]? = (l.map pe)[j]?) → d < k → laws_toPendingS.l0 k l acc i = some (l.map pe) := by
  induction d with
  | zero =>
    intro k i acc ha hi hj hk
    obtain ⟨k, rfl⟩ : ∃ m, k = m + 1 := ⟨k - 1, by omega⟩
    simp only [laws_toPendingS.l0]
    rw [if_neg (by omega)]
    congr 1
    apply List.ext_getElem?
    intro j
    rcases Nat.lt_or_ge j i with h | h
    · exact hj j h
    · rw [List.getElem?_eq_none (by omega), List.getElem?_eq_none (by rw [List.length_map]; omega)]
  | succ d ih =>
    intro k i acc ha hi hj hk
    obtain ⟨k, rfl⟩ : ∃ m, k = m + 1 := ⟨k - 1, by omega⟩
    simp only [laws_toPendingS.l0, laws_toPending.f]
    rw [if_pos (by omega), if_pos (by omega), Option.bind_some, if_pos (by omega), dk_suc i (by omega), rdL l i (by omega), Int.toNat_natCast]
    refine ih k (i + 1) _ (by rw [List.length_set]; exact ha) (by omega) (fun j hj2 => ?_) (by omega)
    rcases Nat.lt_or_ge j i with h | h
    · rw [List.getElem?_set_ne (by omega)]; exact hj j h
    · obtain rfl : j = i := by omega
      rw [List.getElem?_set_self (by omega), List.getElem?_map, List.getElem?_eq_getElem (by omega)]
      rfl
theorem toPendingS_eq (k : Nat) (l : List PL) (hl : l.length ≤ 1048576) (hk : l.length < k) : laws_toPendingS.f k l = some (l.map pe) := by
  unfold laws_toPendingS.f
  rw [if_pos (by omega), if_pos (by omega)]
  exact toPendingS_run l hl l.length k 0 _ (by simp) (by omega) (fun j h => absurd h (by omega)) hk
theorem toDisk_eq (k : Nat) (l0 : List ByteArray) (l1 : List PL) (l2 : List ByteArray) (h0 : l0.length ≤ 1048576) (h1 : l1.length ≤ 1048576) (h2 : l2.length ≤ 1048576) (hk : 1048576 < k) : laws_toDisk.f k l0 l1 l2 = some (l0, l1.map pe, l2) := by
  unfold laws_toDisk.f
  rw [toStringS_eq k l0 h0 (by omega), Option.bind_some, toPendingS_eq k l1 h1 (by omega), Option.bind_some, toStringS_eq k l2 h2 (by omega), Option.bind_some]
theorem eqStringS_run (l : List ByteArray) (hl : l.length ≤ 1048576) (d : Nat) : ∀ (k i : Nat), i + d = l.length → d < k → laws_eqStringS.l0 k l l i = some true := by
  induction d with
  | zero =>
    intro k i hi hk
    obtain ⟨k, rfl⟩ : ∃ m, k = m + 1 := ⟨k - 1, by omega⟩
    simp only [laws_eqStringS.l0]
    rw [if_neg (by omega)]
  | succ d ih =>
    intro k i hi hk
    obtain ⟨k, rfl⟩ : ∃ m, k = m + 1 := ⟨k - 1, by omega⟩
    simp only [laws_eqStringS.l0]
    rw [if_pos (by omega), if_pos (by omega), if_pos (by omega), if_pos trivial, dk_suc i (by omega)]
    exact ih k (i + 1) (by omega) (by omega)
theorem eqStringS_refl (k : Nat) (l : List ByteArray) (hl : l.length ≤ 1048576) (hk : l.length < k) : laws_eqStringS.f k l l = some true := by
  unfold laws_eqStringS.f
  rw [if_pos rfl]
  exact eqStringS_run l hl l.length k 0 (by omega) hk
theorem eqPendingS_run (l : List PI) (hl : l.length ≤ 1048576) (d : Nat) : ∀ (k i : Nat), i + d = l.length → d < k → laws_eqPendingS.l0 k l l i = some true := by
  induction d with
  | zero =>
    intro k i hi hk
    obtain ⟨k, rfl⟩ : ∃ m, k = m + 1 := ⟨k - 1, by omega⟩
    simp only [laws_eqPendingS.l0]
    rw [if_neg (by omega)]
  | succ d ih =>
    intro k i hi hk
    obtain ⟨k, rfl⟩ : ∃ m, k = m + 1 := ⟨k - 1, by omega⟩
    simp only [laws_eqPendingS.l0, laws_eqPending.f]
    rw [if_pos (by omega), if_pos (by omega), if_pos (by omega), if_pos trivial, if_pos trivial, Option.bind_some, if_pos rfl, dk_suc i (by omega)]
    exact ih k (i + 1) (by omega) (by omega)
theorem eqPendingS_refl (k : Nat) (l : List PI) (hl : l.length ≤ 1048576) (hk : l.length < k) : laws_eqPendingS.f k l l = some true := by
  unfold laws_eqPendingS.f
  rw [if_pos rfl]
  exact eqPendingS_run l hl l.length k 0 (by omega) hk
theorem eqDisk_refl (k : Nat) (l0 : List ByteArray) (l1 : List PI) (l2 : List ByteArray) (h0 : l0.length ≤ 1048576) (h1 : l1.length ≤ 1048576) (h2 : l2.length ≤ 1048576) (hk : 1048576 < k) : laws_eqDisk.f k l0 l1 l2 l0 l1 l2 = some true := by
  unfold laws_eqDisk.f
  rw [eqStringS_refl k l0 h0 (by omega), Option.bind_some, if_pos rfl, eqPendingS_refl k l1 h1 (by omega), Option.bind_some, if_pos rfl, eqStringS_refl k l2 h2 (by omega), Option.bind_some, if_pos rfl]
theorem szStringS_run (l : List ByteArray) (hl : l.length ≤ 1048576) (hs : ∀ x ∈ l, x.size ≤ 9223372036854775807) (d : Nat) : ∀ (k i : Nat) (a : Int), i + d = l.length → d < k → 0 ≤ a ∧ a ≤ 1048576 → ∃ r : Int, laws_szStringS.l0 k l a i = some r ∧ r ≤ 1048576 := by
  induction d with
  | zero =>
    intro k i a hi hk ha
    obtain ⟨k, rfl⟩ : ∃ m, k = m + 1 := ⟨k - 1, by omega⟩
    simp only [laws_szStringS.l0]
    rw [if_neg (by omega)]
    exact ⟨a, rfl, ha.2⟩
  | succ d ih =>
    intro k i a hi hk ha
    obtain ⟨k, rfl⟩ : ∃ m, k = m + 1 := ⟨k - 1, by omega⟩
    simp only [laws_szStringS.l0]
    have hx := hs l[i] (List.getElem_mem (by omega))
    rw [if_pos (by omega), if_pos (by omega), rdS l i (by omega), dk_sub a _ ha ⟨by omega, by omega⟩, dk_suc i (by omega)]
    by_cases h : a - (l[i].size : Int) < 0
    · rw [if_pos h]; exact ⟨-1, rfl, by decide⟩
    · rw [if_neg h]; exact ih k (i + 1) _ (by omega) (by omega) (by omega)
theorem szStringS_some (k : Nat) (l : List ByteArray) (hl : l.length ≤ 9223372036854775807) (hs : ∀ x ∈ l, x.size ≤ 9223372036854775807) (a : Int) (ha : 0 ≤ a ∧ a ≤ 1048576) (hk : 1048576 < k) : ∃ r : Int, laws_szStringS.f k l a = some r ∧ r ≤ 1048576 ∧ (0 ≤ r → l.length ≤ 1048576) := by
  unfold laws_szStringS.f
  rw [dk_sub a _ ha ⟨by omega, by omega⟩]
  by_cases h : a - (l.length : Int) < 0
  · rw [if_pos h]; exact ⟨-1, rfl, by decide, fun h => absurd h (by decide)⟩
  · rw [if_neg h]
    obtain ⟨r, h1, h2⟩ := szStringS_run l (by omega) hs l.length k 0 (a - (l.length : Int)) (by omega) (by omega) (by omega)
    exact ⟨r, h1, h2, fun _ => by omega⟩
theorem szPendingS_run (l : List PL) (hl : l.length ≤ 1048576) (hs : ∀ x ∈ l, x.f1.size ≤ 9223372036854775807) (d : Nat) : ∀ (k i : Nat) (a : Int), i + d = l.length → d < k → 0 ≤ a ∧ a ≤ 1048576 → ∃ r : Int, laws_szPendingS.l0 k l a i = some r ∧ r ≤ 1048576 := by
  induction d with
  | zero =>
    intro k i a hi hk ha
    obtain ⟨k, rfl⟩ : ∃ m, k = m + 1 := ⟨k - 1, by omega⟩
    simp only [laws_szPendingS.l0]
    rw [if_neg (by omega)]
    exact ⟨a, rfl, ha.2⟩
  | succ d ih =>
    intro k i a hi hk ha
    obtain ⟨k, rfl⟩ : ∃ m, k = m + 1 := ⟨k - 1, by omega⟩
    simp only [laws_szPendingS.l0, laws_szPending.f]
    have hx := hs l[i] (List.getElem_mem (by omega))
    rw [if_pos (by omega), if_pos (by omega), rdL l i (by omega), dk_sub a _ ha ⟨by omega, by omega⟩, dk_suc i (by omega)]
    by_cases h : a - (l[i].f1.size : Int) < 0
    · rw [if_pos h, Option.bind_some, if_pos (by decide)]; exact ⟨-1, rfl, by decide⟩
    · rw [if_neg h, Option.bind_some, if_neg h]; exact ih k (i + 1) _ (by omega) (by omega) (by omega)
theorem szPendingS_some (k : Nat) (l : List PL) (hl : l.length ≤ 9223372036854775807) (hs : ∀ x ∈ l, x.f1.size ≤ 9223372036854775807) (a : Int) (ha : 0 ≤ a ∧ a ≤ 1048576) (hk : 1048576 < k) : ∃ r : Int, laws_szPendingS.f k l a = some r ∧ r ≤ 1048576 ∧ (0 ≤ r → l.length ≤ 1048576) := by
  unfold laws_szPendingS.f
  rw [dk_sub a _ ha ⟨by omega, by omega⟩]
  by_cases h : a - (l.length : Int) < 0
  · rw [if_pos h]; exact ⟨-1, rfl, by decide, fun h => absurd h (by decide)⟩
  · rw [if_neg h]
    obtain ⟨r, h1, h2⟩ := szPendingS_run l (by omega) hs l.length k 0 (a - (l.length : Int)) (by omega) (by omega) (by omega)
    exact ⟨r, h1, h2, fun _ => by omega⟩
theorem szDisk_some (k : Nat) (l0 : List ByteArray) (l1 : List PL) (l2 : List ByteArray) (h0 : l0.length ≤ 9223372036854775807) (h1 : l1.length ≤ 9223372036854775807) (h2 : l2.length ≤ 9223372036854775807) (s0 : ∀ x ∈ l0, x.size ≤ 9223372036854775807) (s1 : ∀ x ∈ l1, x.f1.size ≤ 9223372036854775807) (s2 : ∀ x ∈ l2, x.size ≤ 9223372036854775807) (a : Int) (ha : 0 ≤ a ∧ a ≤ 1048576) (hk : 1048576 < k) :
    ∃ r : Int, laws_szDisk.f k l0 l1 l2 a = some r ∧ r ≤ 1048576 ∧ (0 ≤ r → l0.length ≤ 1048576 ∧ l1.length ≤ 1048576 ∧ l2.length ≤ 1048576) := by
  obtain ⟨r0, e0, b0, q0⟩ := szStringS_some k l0 h0 s0 a ha hk
  unfold laws_szDisk.f
  rw [e0, Option.bind_some]
  by_cases c0 : r0 < 0
  · rw [if_pos c0]; exact ⟨-1, rfl, by decide, fun h => absurd h (by decide)⟩
  rw [if_neg c0]
  obtain ⟨r1, e1, b1, q1⟩ := szPendingS_some k l1 h1 s1 r0 (by omega) hk
  rw [e1, Option.bind_some]
  by_cases c1 : r1 < 0
  · rw [if_pos c1]; exact ⟨-1, rfl, by decide, fun h => absurd h (by decide)⟩
  rw [if_neg c1]
  obtain ⟨r2, e2, b2, q2⟩ := szStringS_some k l2 h2 s2 r1 (by omega) hk
  rw [e2, Option.bind_some]
  by_cases c2 : r2 < 0
  · rw [if_pos c2]; exact ⟨-1, rfl, by decide, fun h => absurd h (by decide)⟩
  rw [if_neg c2]
  exact ⟨r2, rfl, b2, fun _ => ⟨q0 (by omega), q1 (by omega), q2 (by omega)⟩⟩
theorem ok_l0 (l0 : List ByteArray) (l1 : List PI) (l2 : List ByteArray) (hl : l0.length ≤ 1048576) (d : Nat) : ∀ (k i : Nat), i + d = l0.length → spec_DiskOK.l0 (k + d + 1) i l0 l1 l2 = if (l0.drop i).all (fun x => areAll_string_p x) = true then spec_DiskOK.l1 k 0 l0 l1 l2 else some false := by
  induction d with
  | zero =>
    intro k i hi
    simp only [spec_DiskOK.l0]
    rw [if_neg (by omega), List.drop_eq_nil_of_le (by omega)]
    rfl
  | succ d ih =>
    intro k i hi
    obtain ⟨q, hq⟩ : ∃ q, q = k + d + 1 := ⟨_, rfl⟩
    have h2 := ih k (i + 1) (by omega)
    rw [← hq] at h2
    rw [show k + (d + 1) + 1 = q + 1 by omega]
    simp only [spec_DiskOK.l0]
    rw [if_pos (by omega), if_pos (by omega), rdS l0 i (by omega), dk_suc i (by omega), h2, List.drop_eq_getElem_cons (show i < l0.length by omega), List.all_cons]
    by_cases h : (l0[i].size : Int) > 200
    · have hp : areAll_string_p l0[i] = false := decide_eq_false (by omega)
      rw [if_pos h, hp, Bool.false_and, if_neg (by decide)]
    · have hp : areAll_string_p l0[i] = true := decide_eq_true (by omega)
      rw [if_neg h, hp, Bool.true_and]
theorem ok_l1 (l0 : List ByteArray) (l1 : List PI) (l2 : List ByteArray) (hl : l2.length ≤ 1048576) (d : Nat) : ∀ (k i : Nat), i + d = l2.length → spec_DiskOK.l1 (k + d + 1) i l0 l1 l2 = if (l2.drop i).all (fun x => areAll_string_p x) = true then spec_DiskOK.l2 k 0 l0 l1 l2 else some false := by
  induction d with
  | zero =>
    intro k i hi
    simp only [spec_DiskOK.l1]
    rw [if_neg (by omega), List.drop_eq_nil_of_le (by omega)]
    rfl
  | succ d ih =>
    intro k i hi
    obtain ⟨q, hq⟩ : ∃ q, q = k + d + 1 := ⟨_, rfl⟩
    have h2 := ih k (i + 1) (by omega)
    rw [← hq] at h2
    rw [show k + (d + 1) + 1 = q + 1 by omega]
    simp only [spec_DiskOK.l1]
    rw [if_pos (by omega), if_pos (by omega), rdS l2 i (by omega), dk_suc i (by omega), h2, List.drop_eq_getElem_cons (show i < l2.length by omega), List.all_cons]
    by_cases h : (l2[i].size : Int) > 200
    · have hp : areAll_string_p l2[i] = false := decide_eq_false (by omega)
      rw [if_pos h, hp, Bool.false_and, if_neg (by decide)]
    · have hp : areAll_string_p l2[i] = true := decide_eq_true (by omega)
      rw [if_neg h, hp, Bool.true_and]
theorem ok_l2 (l0 : List ByteArray) (l1 : List PI) (l2 : List ByteArray) (h0 : l0.length ≤ 1048576) (hl : l1.length ≤ 1048576) (d : Nat) : ∀ (k i : Nat), i + d = l1.length → spec_DiskOK.l2 (k + d + 1) i l0 l1 l2 = some ((l1.drop i).all fun x => areAll_pending_p l0.length x) := by
  have hw : wrap64 ((l0.length : Int) - 1) = (l0.length : Int) - 1 := by unfold wrap64; omega
  induction d with
  | zero =>
    intro k i hi
    simp only [spec_DiskOK.l2]
    rw [if_neg (by omega), List.drop_eq_nil_of_le (by omega)]
    rfl
  | succ d ih =>
    intro k i hi
    obtain ⟨q, hq⟩ : ∃ q, q = k + d + 1 := ⟨_, rfl⟩
    have h2 := ih k (i + 1) (by omega)
    rw [← hq] at h2
    rw [show k + (d + 1) + 1 = q + 1 by omega]
    simp only [spec_DiskOK.l2]
    rw [hw, if_pos (by omega), if_pos (by omega), rdI l1 i (by omega), dk_suc i (by omega), h2, List.drop_eq_getElem_cons (show i < l1.length by omega), List.all_cons]
    unfold spec_l01In.f areAll_pending_p
    by_cases ha : l1[i].f0 ≥ 0
    · rw [if_pos ha, Option.bind_some, decide_eq_true (show 0 ≤ l1[i].f0 from ha)]
      by_cases hb : l1[i].f0 ≤ (l0.length : Int) - 1
      · rw [decide_eq_true hb, if_pos rfl]
        by_cases hc : (l1[i].f1.size : Int) > 200
        · rw [if_pos hc, decide_eq_false (show ¬ (l1[i].f1.size : Int) ≤ 200 by omega)]; rfl
        · rw [if_neg hc, decide_eq_true (show (l1[i].f1.size : Int) ≤ 200 by omega)]; rfl
      · rw [decide_eq_false hb, if_neg (by decide)]; rfl
    · rw [if_neg ha, Option.bind_some, if_neg (by decide), decide_eq_false (show ¬ 0 ≤ l1[i].f0 from ha)]; rfl
theorem spec_disk (l0 : List ByteArray) (l1 : List PI) (l2 : List ByteArray) (h0 : l0.length ≤ 1048576) (h1 : l1.length ≤ 1048576) (h2 : l2.length ≤ 1048576) (k : Nat) (hk : 5000000 < k) : spec_DiskOK.f k l0 l1 l2 = some (diskOkB l0 l1 l2) := by
  have hj : ∀ b : Bool, spec_DiskOK.j0 k b l0 l1 l2 = if b = true then some false else some ((l0.all fun x => areAll_string_p x) && (l2.all fun x => areAll_string_p x) && (l1.all fun x => areAll_pending_p l0.length x)) := fun b => by
    obtain ⟨m, rfl⟩ : ∃ m, k = ((m + l1.length + 1) + l2.length + 1) + l0.length + 1 + 1 := ⟨k - l0.length - l1.length - l2.length - 4, by omega⟩
    simp only [spec_DiskOK.j0]
    have e0 := ok_l0 l0 l1 l2 h0 l0.length ((m + l1.length + 1) + l2.length + 1) 0 (by omega)
    have e1 := ok_l1 l0 l1 l2 h2 l2.length (m + l1.length + 1) 0 (by omega)
    have e2 := ok_l2 l0 l1 l2 h0 h1 l1.length m 0 (by omega)
    rw [List.drop_zero] at e0 e1 e2
    cases b
    · rw [if_neg (by decide), if_neg (by decide)]
      refine e0.trans ?_
      cases ha : (l0.all fun x => areAll_string_p x)
      · rfl
      · rw [if_pos rfl]
        refine e1.trans ?_
        cases hb : (l2.all fun x => areAll_string_p x)
        · rfl
        · rw [if_pos rfl]
          refine e2.trans ?_
          simp
    · rfl
  unfold spec_DiskOK.f spec_l01In.f diskOkB
  by_cases c1 : 1 ≤ l0.length
  · rw [if_pos (by omega), Option.bind_some, decide_eq_true c1]
    by_cases c2 : l0.length ≤ 64
    · rw [decide_eq_true (show (l0.length : Int) ≤ 64 by omega), if_pos rfl, decide_eq_true c2]
      by_cases c3 : (l1.length : Int) > 4096
      · rw [if_pos c3, hj true, if_pos rfl, decide_eq_false (show ¬ l1.length ≤ 4096 by omega)]
        simp
      · rw [if_neg c3, decide_eq_true (show l1.length ≤ 4096 by omega)]
        by_cases c4 : (l2.length : Int) = 0
        · rw [if_pos c4, hj false, if_neg (by decide), decide_eq_true (show l2.length = 0 by omega)]
          congr 1
          cases (l0.all fun x => areAll_string_p x) <;> cases (l1.all fun x => areAll_pending_p l0.length x) <;> cases (l2.all fun x => areAll_string_p x) <;> rfl
        · rw [if_neg c4, decide_eq_false (show ¬ l2.length = 0 by omega)]
          by_cases c5 : l2.length = l0.length
          · rw [show ((l2.length : Int) != (l0.length : Int)) = false by rw [c5]; exact bne_self_eq_false _, hj false, if_neg (by decide), decide_eq_true c5]
            congr 1
            cases (l0.all fun x => areAll_string_p x) <;> cases (l1.all fun x => areAll_pending_p l0.length x) <;> cases (l2.all fun x => areAll_string_p x) <;> rfl
          · rw [show ((l2.length : Int) != (l0.length : Int)) = true by rw [bne_iff_ne]; omega, hj true, if_pos rfl, decide_eq_false c5]
            simp
    · rw [decide_eq_false (show ¬ (l0.length : Int) ≤ 64 by omega), if_neg (by decide), hj true, if_pos rfl, decide_eq_false c2]
      simp
  · rw [if_neg (by omega), Option.bind_some, if_neg (by decide), hj true, if_pos rfl, decide_eq_false c1]
    simp
theorem diskOK_law (l0 : List ByteArray) (l1 : List PL) (l2 : List ByteArray) (h0 : l0.length ≤ 9223372036854775807) (h1 : l1.length ≤ 9223372036854775807) (h2 : l2.length ≤ 9223372036854775807) (s0 : ∀ x ∈ l0, x.size ≤ 9223372036854775807) (s1 : ∀ x ∈ l1, x.f1.size ≤ 9223372036854775807) (s2 : ∀ x ∈ l2, x.size ≤ 9223372036854775807) : laws_FnExactDiskOK.f 6000000 l0 l1 l2 = some true := by
  obtain ⟨r, e, _, hq⟩ := szDisk_some 6000000 l0 l1 l2 h0 h1 h2 s0 s1 s2 1048576 (by decide) (by decide)
  unfold laws_FnExactDiskOK.f
  rw [e, Option.bind_some]
  by_cases c : r < 0
  · rw [if_pos c]
  obtain ⟨q0, q1, q2⟩ := hq (by omega)
  have ql : (l1.map pe).length ≤ 1048576 := by rw [List.length_map]; exact q1
  rw [if_neg c, toDisk_eq _ l0 l1 l2 q0 q1 q2 (by decide), Option.bind_some]
  simp only []
  rw [spec_disk l0 (l1.map pe) l2 q0 ql q2 _ (by decide), Option.bind_some, Option.bind_some]
  simp only [impl_DiskOK.f]
  rw [Option.bind_some, bne_self_eq_false, if_neg (by decide), Option.bind_some]
  simp only []
  rw [eqDisk_refl _ l0 _ l2 q0 ql q2 (by decide), Option.bind_some, if_pos rfl]
end Go.Proofs.Ytbpefnfeiidioaa.Pg
namespace Go.Proofs.Ytbpefnfeiidioaa.Pg
open Go.RowKit Go.Proofs.Ytbpefnfeiidioaa.P Go.Proofs.YtbpefnfeiidioaaW.PrintWords Go.Proofs.YtbpefnfeiidioaaW.PrintLast Go.Proofs.YtbpefnfeiidioaaW.PrintMore
open Go.ChangeShapes Go.WideShapes Go.ChangeAt Go.Deep Go.Joins
set_option linter.unusedVariables false
set_option linter.unusedSimpArgs false
section
variable {H : Type} {enc : TypeId × Value → H} {W : World}
theorem open_strs {n : Nat} {v : Value} {y : DataW H × List MemPlace} (h : DataW.trod enc Try.prog W 0 (fun _ => true) true n 40 [v] = some y) :
    ∃ A c l, v = .slice A (List.length l) c ∧ List.length l ≤ c ∧ Kd.C Kd.string W A (List.length l) l ∧ l.length ≤ 9223372036854775807 ∧ ∀ x ∈ l, ByteArray.size x ≤ 9223372036854775807 := by
  rcases open_strings Try.underlying40 Try.underlying9 (by kernel_rfl) h with ⟨hcs, _⟩ | ⟨a, len, cap, ss, hcs, _, hl, hm, hlen, _, hcell, hsz⟩
  · obtain rfl : v = .slice none 0 0 := by simpa using hcs
    exact ⟨none, 0, [], rfl, Nat.le_refl _, Kd.C_nil _ _, Nat.zero_le _, fun x hx => by cases hx⟩
  · obtain rfl : v = .slice (some a) len cap := by simpa using hcs
    have hm : cap ≤ 9223372036854775807 := by simpa [maxLen] using hm
    have hlen : ss.length = cap := by simpa using hlen
    have e : (ss.take len).length = len := by rw [List.length_take]; omega
    refine ⟨some a, cap, ss.take len, by rw [e], by rw [e]; exact hl, ?_, by rw [e]; omega, fun x hx => by have := hsz x (List.mem_of_mem_take hx); simpa [maxLen] using this⟩
    rw [e]
    refine Kd.C_of_reads (enc := Value.string) (d := ByteArray.empty) (h1 := fun _ => rfl) ⟨e, by omega, fun _ => ⟨a, rfl, fun i hi => ?_⟩⟩
    rw [hcell i (by omega), List.getD_eq_getElem?_getD, List.getD_eq_getElem?_getD, List.getElem?_take_of_lt hi]
def intV : Value → Int
  | .int _ n => n
  | _ => 0
def strV : Value → ByteArray
  | .string s => s
  | _ => ByteArray.empty
theorem open_pends {n : Nat} {v : Value} {y : DataW H × List MemPlace} (h : DataW.trod enc Try.prog W 0 (fun _ => true) true n 49 [v] = some y) :
    ∃ A c, ∃ l : List PL, v = .slice A (List.length l) c ∧ List.length l ≤ c ∧ Kd.C k103 W A (List.length l) l ∧ l.length ≤ 9223372036854775807 ∧ ∀ x ∈ l, x.f1.size ≤ 9223372036854775807 := by
  rcases open_slice_pairs Try.underlying49 Try.underlying103 (by kernel_rfl) rfl rfl (by kernel_rfl) (by kernel_rfl) h with ⟨hcs, _⟩ | ⟨a, len, cap, m, n', V0, V1, D0, D1, P0, P1, hcs, _, hl, hm, hmm, _, hx⟩
  · obtain rfl : v = .slice none 0 0 := by simpa using hcs
    exact ⟨none, 0, [], rfl, Nat.le_refl _, Kd.C_nil _ _, Nat.zero_le _, fun x hx => by cases hx⟩
  · obtain rfl : v = .slice (some a) len cap := by simpa using hcs
    have hm : cap ≤ 9223372036854775807 := by simpa [maxLen] using hm
    have hmm : m = cap := by simpa using hmm
    have hi : ∀ i, i < m → V0 i = .int .i64 (intV (V0 i)) ∧ V1 i = .string (strV (V1 i)) ∧ (strV (V1 i)).size ≤ 9223372036854775807 := fun i hi => by
      obtain ⟨_, _, h0, h1⟩ := hx i hi
      obtain ⟨p, e0, _, _⟩ := DataW.trod_int Try.underlying3 h0
      obtain ⟨s, e1, _, hs⟩ := DataW.trod_string Try.underlying9 h1
      simp at e0 e1
      rw [e0, e1]
      exact ⟨rfl, rfl, (by simpa [maxLen] using hs : s.size ≤ 9223372036854775807)⟩
    have e : ((List.range len).map fun i => (⟨intV (V0 i), strV (V1 i)⟩ : PL)).length = len := by simp
    refine ⟨some a, cap, (List.range len).map fun i => ⟨intV (V0 i), strV (V1 i)⟩, by rw [e], by rw [e]; exact hl, ?_, by rw [e]; omega, fun x hx => ?_⟩
    · rw [e]
      refine ⟨e, by omega, fun _ => ⟨a, rfl, fun j p hj => ?_⟩⟩
      rw [List.getElem?_map] at hj
      obtain ⟨j', hj', rfl⟩ := Option.map_eq_some_iff.1 hj
      obtain ⟨hlt, hjj⟩ := List.getElem?_eq_some_iff.1 hj'
      have hjl : j < len := by simpa using hlt
      have : j' = j := by rw [← hjj]; simp
      subst this
      obtain ⟨c0, c1, _, _⟩ := hx j' (by omega)
      obtain ⟨q0, q1, _⟩ := hi j' (by omega)
      rw [q0] at c0
      rw [q1] at c1
      refine ⟨[.int .i64 (intV (V0 j')), .string (strV (V1 j'))], rfl, ⟨_, _, rfl, rfl, rfl⟩, fun i u hu => ?_⟩
      match i, hu with
      | 0, hu =>
        obtain rfl : Value.int .i64 (intV (V0 j')) = u := by simpa using hu
        exact c0
      | 1, hu =>
        obtain rfl : Value.string (strV (V1 j')) = u := by simpa using hu
        exact c1
    · obtain ⟨i, hr, rfl⟩ := List.mem_map.1 hx
      exact (hi i (by have := List.mem_range.1 hr; omega)).2.2
theorem cellsD : Try.prog.cellsOf 51 = 3 := by kernel_rfl
set_option maxRecDepth 100000 in
theorem open_disk {r : Reach} {b0 : Nat} {v : Value} {d : DataW H} {p : List MemPlace} (hv : Value.okWide Try.prog W r b0 51 v) (h : DataW.Trod enc Try.prog W 0 (fun _ => true) true 51 v d p) :
    ∃ A0 c0 l0 A1 c1, ∃ l1 : List PL, ∃ A2 c2 l2, v = .agg #[.slice A0 (List.length l0) c0, .slice A1 l1.length c1, .slice A2 (List.length l2) c2] ∧ List.length l0 ≤ c0 ∧ Kd.C Kd.string W A0 (List.length l0) l0 ∧ l0.length ≤ 9223372036854775807 ∧ (∀ x ∈ l0, ByteArray.size x ≤ 9223372036854775807) ∧
      l1.length ≤ c1 ∧ Kd.C k103 W A1 l1.length l1 ∧ l1.length ≤ 9223372036854775807 ∧ (∀ x ∈ l1, x.f1.size ≤ 9223372036854775807) ∧ List.length l2 ≤ c2 ∧ Kd.C Kd.string W A2 (List.length l2) l2 ∧ l2.length ≤ 9223372036854775807 ∧ ∀ x ∈ l2, ByteArray.size x ≤ 9223372036854775807 := by
  obtain ⟨v0, v1, v2, y0, y1, y2, n, rfl, _, _, h0, h1, h2⟩ := open_agg3 Try.underlying51 (by kernel_rfl) cellsD hv h
  obtain ⟨A0, c0, l0, rfl, q0, C0, b0, s0⟩ := open_strs h0
  obtain ⟨A1, c1, l1, rfl, q1, C1, b1, s1⟩ := open_pends h1
  obtain ⟨A2, c2, l2, rfl, q2, C2, b2, s2⟩ := open_strs h2
  exact ⟨A0, c0, l0, A1, c1, l1, A2, c2, l2, rfl, q0, C0, b0, s0, q1, C1, b1, s1, q2, C2, b2, s2⟩
end
end Go.Proofs.Ytbpefnfeiidioaa.Pg

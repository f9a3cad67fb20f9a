/- Laid by a program of this session: of Pf5, PdiskF, PdiskrowF, Pf6, PdreadF what this law uses. -/
import Derived.Test.YtbpefnfeiidioaaZDsM3
import Derived.Test.YtbpefnfeiidioaaZDsPf1
import Derived.Test.YtbpefnfeiidioaaZDsPf2
import Derived.Test.YtbpefnfeiidioaaZDsPf3
import Derived.Test.YtbpefnfeiidioaaZDsPf4
import Derived.Laws.BytesArg
import Derived.Laws.Strings
import Derived.RowKit
import Derived.WalkKit
import Derived.ProofKit
import Derived.OpenShut
import Derived.SliceStrings
import Derived.Deep.SlicePairs
import Derived.Deep.Strs
import Derived.Lib.SmallJoins
namespace Go.Proofs.Ytbpefnfeiidioaa.P
open Go.RowKit Go.Proofs.YtbpefnfeiidioaaW.PrintWords Go.Proofs.YtbpefnfeiidioaaW.PrintLast Go.Proofs.YtbpefnfeiidioaaW.PrintMore
set_option linter.unusedVariables false
set_option linter.unusedSimpArgs false
def spec_l05Read.l0 : Nat → Int → Int → List ByteArray → List (S82) → List ByteArray → Option (ByteArray)
  | 0, _, _, _, _, _ => none
  | k + 1, x1, x5, x189000, x189001, x189002 => if x5 ≥ 0 then (if 0 ≤ x5 then (if x5 < (x189001.length : Int) then (if ((rd_T82 x189001 x5).f0) = x1 then (some ((rd_T82 x189001 x5).f1)) else (spec_l05Read.l0 k x1 (wrap64 (x5 - 1)) x189000 x189001 x189002)) else (none)) else (none)) else (if 0 ≤ x1 then (if x1 < (x189000.length : Int) then (some (rdOf ByteArray.empty x189000 x1)) else (none)) else (none))
def spec_l05Read.f (k : Nat) (l0_0 : List ByteArray) (l0_1 : List (S82)) (l0_2 : List ByteArray) (a1 : Int) : Option (ByteArray) := spec_l05Read.l0 k a1 (wrap64 ((l0_1.length : Int) - 1)) l0_0 l0_1 l0_2
set_option maxHeartbeats 8000000 in
set_option maxRecDepth 100000 in
theorem spec_l05Read.calls (k : Nat) (A0_0 : Option Addr) (c0_0 : Nat) (l0_0 : List ByteArray) (A0_1 : Option Addr) (c0_1 : Nat) (l0_1 : List (S82)) (A0_2 : Option Addr) (c0_2 : Nat) (l0_2 : List ByteArray) (a1 : Int) (r : ByteArray) (w : World) (hr0_0 : Kd.C Kd.string w A0_0 l0_0.length l0_0) (hc0_0 : l0_0.length ≤ c0_0) (hr0_1 : Kd.C k82 w A0_1 l0_1.length l0_1) (hc0_1 : l0_1.length ≤ c0_1) (hr0_2 : Kd.C Kd.string w A0_2 l0_2.length l0_2) (hc0_2 : l0_2.length ≤ c0_2) (h : spec_l05Read.f k l0_0 l0_1 l0_2 a1 = some r) :
    Calls Try.prog 81 #[.agg #[.slice A0_0 l0_0.length c0_0, .slice A0_1 l0_1.length c0_1, .slice A0_2 l0_2.length c0_2], .int .i64 a1] w fun e w' => e = .returned (.string r) ∧ Below w.heap.size w w' := by
  have hu43 := Try.underlying43
  have HR0_0 := Aside0.mk hr0_0
  have HC0_0 := Aside0.mk hc0_0
  clear hr0_0 hc0_0
  have HR0_1 := Aside0.mk hr0_1
  have HC0_1 := Aside0.mk hc0_1
  clear hr0_1 hc0_1
  have HR0_2 := Aside0.mk hr0_2
  have HC0_2 := Aside0.mk hc0_2
  clear hr0_2 hc0_2
  have HB := Aside0.mk (Below.refl w.heap.size w)
  have H : (spec_l05Read.l0 k a1 (wrap64 ((l0_1.length : Int) - 1)) l0_0 l0_1 l0_2) = some r := h
  clear h
  have H' := Aside0.mk H
  clear H
  go_enter Try.func81, Try.ntmps81
  go_wp2_with (first | ((with_reducible refine gate_dst (N := 2) rfl ?_); refine box_event ?hg (N := 2) ?hd (cs := #[.slice A0_0 l0_0.length c0_0, .slice A0_1 l0_1.length c0_1, .slice A0_2 l0_2.length c0_2]) (t := 43) ?hr ?_; (case hd => rfl); (case hg => rfl); (case hr => first | (go_simp; done) | (go_simp; rfl)); intro gb188 hg w3 hbox hb; have n0_ := Aside0.mk (below_step (by repeat (first | (with_reducible first | exact HB.out | apply below_alloc | apply pw_below_drewN | apply below_drew1) | exact HB.out)) hb); have n1_ := Aside0.mk (hbox); have n2_ := Aside0.mk ((by rw [hg]; exact (below_size (by repeat (first | (with_reducible first | exact HB.out | apply below_alloc | apply pw_below_drewN | apply below_drew1) | exact HB.out))) : w.heap.size ≤ gb188)); have n3_ := Aside0.mk ((by rw [hg]; exact (below_size (by repeat (first | (with_reducible first | exact HB.out | apply below_alloc | apply pw_below_drewN | apply below_drew1) | exact HB.out))) : w.heap.size ≤ gb188)); clear HB; have HB := n0_; have BK188 := n1_; have GW188 := n2_; have GE188 := n3_; clear n0_ n1_ n2_ n3_; clear hb hbox hg; have hcz4_0 : w3.cell? ⟨gb188, 0, none⟩ = some (.slice A0_0 l0_0.length c0_0) := (blk_cell BK188.out 0).trans rfl; have hcz4_1 : w3.cell? ⟨gb188, 1, none⟩ = some (.slice A0_1 l0_1.length c0_1) := (blk_cell BK188.out 1).trans rfl; have hcz4_2 : w3.cell? ⟨gb188, 2, none⟩ = some (.slice A0_2 l0_2.length c0_2) := (blk_cell BK188.out 2).trans rfl; have hfz4_0 := blk_frozen BK188.out 0; have hfz4_1 := blk_frozen BK188.out 1; have hfz4_2 := blk_frozen BK188.out 2))
  go_loopg [5] k (fun kq v5 w' => ∃ (x5_1 : Int), v5 = .int .i64 x5_1 ∧ Aside0 (spec_l05Read.l0 kq a1 x5_1 l0_0 l0_1 l0_2 = some r) ∧ Aside0 (kq ≤ k) ∧ Aside0 (w'.heap[gb188]? = some (.cells #[(.slice A0_0 l0_0.length c0_0), (.slice A0_1 l0_1.length c0_1), (.slice A0_2 l0_2.length c0_2)] 43 (0, 0))) ∧ Aside0 (Below w.heap.size w w'))
  case atStart => exact ⟨(wrap64 ((l0_1.length : Int) - 1)), (by first | rfl | (simp; done) | (simp [*]; done)), H', ⟨Nat.le_refl _⟩, ⟨by (with_reducible repeat (first | refine blk_drewN ?_ _ | refine blk_drew ?_ | refine blk_alloc ?_ _)); exact BK188.out⟩, ⟨by repeat (first | (with_reducible first | exact HB.out | apply below_alloc | apply pw_below_drewN | apply below_drew1 | refine below_set ?_ GE188.out) | exact HB.out)⟩⟩
  case round =>
    clear H'
    try clear p2
    try clear hcz4_0
    try clear hcz4_1
    try clear hcz4_2
    try clear hfz4_0
    try clear hfz4_1
    try clear hfz4_2
    obtain ⟨x5_1, rfl, HA, HK1, BK188, HB⟩ := hrel
    cases gk with
    | zero => exact absurd HA.out (by simp [spec_l05Read.l0])
    | succ k1 =>
      have H := HA.out
      clear HA
      simp only [spec_l05Read.l0] at H
      by_cases c5 : x5_1 ≥ 0
      · rw [if_pos c5] at H
        have c5b0 : decide (0 ≤ x5_1) = true := decide_eq_true c5
        clear c5
        by_cases c6 : 0 ≤ x5_1
        · rw [if_pos c6] at H
          have c6b0 : decide (0 ≤ x5_1) = true := decide_eq_true c6
          clear c6
          by_cases c7 : x5_1 < (l0_1.length : Int)
          · rw [if_pos c7] at H
            have c7b0 : decide (x5_1 < (l0_1.length : Int)) = true := decide_eq_true c7
            clear c7
            by_cases c8 : ((rd_T82 l0_1 x5_1).f0) = a1
            · rw [if_pos c8] at H
              have c8b0 : (((rd_T82 l0_1 x5_1).f0) == a1) = true := beq_iff_eq.mpr c8
              have c8b1 : (((rd_T82 l0_1 x5_1).f0) != a1) = false := bne_eq_false_iff_eq.mpr c8
              clear c8
              obtain rfl := Option.some.inj H
              have hcz9_0 : wr.cell? ⟨gb188, 0, none⟩ = some (.slice A0_0 l0_0.length c0_0) := (blk_cell BK188.out 0).trans rfl
              have hcz9_1 : wr.cell? ⟨gb188, 1, none⟩ = some (.slice A0_1 l0_1.length c0_1) := (blk_cell BK188.out 1).trans rfl
              have hcz9_2 : wr.cell? ⟨gb188, 2, none⟩ = some (.slice A0_2 l0_2.length c0_2) := (blk_cell BK188.out 2).trans rfl
              have hfz9_0 := blk_frozen BK188.out 0
              have hfz9_1 := blk_frozen BK188.out 1
              have hfz9_2 := blk_frozen BK188.out 2
              have p189 : 0 ≤ (x5_1 : Int) := of_decide_eq_true (by first | (with_reducible assumption) | assumption)
              have q189 : x5_1 < (l0_1.length : Int) := of_decide_eq_true (by first | (with_reducible assumption) | assumption)
              obtain ⟨ad189, e189, hx189_0, hx189_1⟩ := at_T82 HR0_1.out x5_1 p189 q189
              cases e189
              replace hx189_0 := (HB.out.cell (World.block_lt_of_cell? w _ hx189_0)).trans hx189_0
              replace hx189_1 := (HB.out.cell (World.block_lt_of_cell? w _ hx189_1)).trans hx189_1
              replace p189 := eq_true p189
              replace q189 := eq_true q189
              have p190 : 0 ≤ (x5_1 : Int) := of_decide_eq_true (by first | (with_reducible assumption) | assumption)
              have q190 : x5_1 < (l0_1.length : Int) := of_decide_eq_true (by first | (with_reducible assumption) | assumption)
              obtain ⟨ad190, e190, hx190_0, hx190_1⟩ := at_T82 HR0_1.out x5_1 p190 q190
              obtain rfl : ad189 = ad190 := (by injection e190)
              replace hx190_0 := (HB.out.cell (World.block_lt_of_cell? w _ hx190_0)).trans hx190_0
              replace hx190_1 := (HB.out.cell (World.block_lt_of_cell? w _ hx190_1)).trans hx190_1
              replace p190 := eq_true p190
              replace q190 := eq_true q190
              go_wp2
              go_ret
              exact ⟨by first | rfl | (simp [errW_none, errW_some] <;> rfl) | (simp [*, errW_none, errW_some] <;> rfl), by repeat (first | (with_reducible first | exact HB.out | apply below_alloc | apply pw_below_drewN | apply below_drew1 | refine below_set ?_ GE188.out) | exact HB.out)⟩
            · rw [if_neg c8] at H
              have c8b0 : (((rd_T82 l0_1 x5_1).f0) == a1) = false := beq_eq_false_iff_ne.mpr c8
              have c8b1 : (((rd_T82 l0_1 x5_1).f0) != a1) = true := bne_iff_ne.mpr c8
              have H' := Aside0.mk H
              clear H
              have hcz10_0 : wr.cell? ⟨gb188, 0, none⟩ = some (.slice A0_0 l0_0.length c0_0) := (blk_cell BK188.out 0).trans rfl
              have hcz10_1 : wr.cell? ⟨gb188, 1, none⟩ = some (.slice A0_1 l0_1.length c0_1) := (blk_cell BK188.out 1).trans rfl
              have hcz10_2 : wr.cell? ⟨gb188, 2, none⟩ = some (.slice A0_2 l0_2.length c0_2) := (blk_cell BK188.out 2).trans rfl
              have hfz10_0 := blk_frozen BK188.out 0
              have hfz10_1 := blk_frozen BK188.out 1
              have hfz10_2 := blk_frozen BK188.out 2
              have p189 : 0 ≤ (x5_1 : Int) := of_decide_eq_true (by first | (with_reducible assumption) | assumption)
              have q189 : x5_1 < (l0_1.length : Int) := of_decide_eq_true (by first | (with_reducible assumption) | assumption)
              obtain ⟨ad189, e189, hx189_0, hx189_1⟩ := at_T82 HR0_1.out x5_1 p189 q189
              cases e189
              replace hx189_0 := (HB.out.cell (World.block_lt_of_cell? w _ hx189_0)).trans hx189_0
              replace hx189_1 := (HB.out.cell (World.block_lt_of_cell? w _ hx189_1)).trans hx189_1
              replace p189 := eq_true p189
              replace q189 := eq_true q189
              go_wp2
              go_roundg k1
              case measure => have := HK1.out; omega
              case rel => exact ⟨(wrap64 (x5_1 - 1)), (by first | rfl | (simp; done) | (simp [*]; done)), H', ⟨by have := HK1.out; omega⟩, ⟨by (with_reducible repeat (first | refine blk_drewN ?_ _ | refine blk_drew ?_ | refine blk_alloc ?_ _)); exact BK188.out⟩, ⟨by repeat (first | (with_reducible first | exact HB.out | apply below_alloc | apply pw_below_drewN | apply below_drew1 | refine below_set ?_ GE188.out) | exact HB.out)⟩⟩
          · rw [if_neg c7] at H
            exact absurd H (by simp)
        · rw [if_neg c6] at H
          exact absurd H (by simp)
      · rw [if_neg c5] at H
        have c5b0 : decide (0 ≤ x5_1) = false := decide_eq_false c5
        clear c5
        by_cases c11 : 0 ≤ a1
        · rw [if_pos c11] at H
          have c11b0 : decide (0 ≤ a1) = true := decide_eq_true c11
          clear c11
          by_cases c12 : a1 < (l0_0.length : Int)
          · rw [if_pos c12] at H
            have c12b0 : decide (a1 < (l0_0.length : Int)) = true := decide_eq_true c12
            clear c12
            obtain rfl := Option.some.inj H
            have hcz13_0 : wr.cell? ⟨gb188, 0, none⟩ = some (.slice A0_0 l0_0.length c0_0) := (blk_cell BK188.out 0).trans rfl
            have hcz13_1 : wr.cell? ⟨gb188, 1, none⟩ = some (.slice A0_1 l0_1.length c0_1) := (blk_cell BK188.out 1).trans rfl
            have hcz13_2 : wr.cell? ⟨gb188, 2, none⟩ = some (.slice A0_2 l0_2.length c0_2) := (blk_cell BK188.out 2).trans rfl
            have hfz13_0 := blk_frozen BK188.out 0
            have hfz13_1 := blk_frozen BK188.out 1
            have hfz13_2 := blk_frozen BK188.out 2
            have p191 : 0 ≤ (a1 : Int) := of_decide_eq_true (by first | (with_reducible assumption) | assumption)
            have q191 : a1 < (l0_0.length : Int) := of_decide_eq_true (by first | (with_reducible assumption) | assumption)
            obtain ⟨ad191, e191, hx191_0⟩ := Kd.at_string HR0_0.out a1 p191 q191
            cases e191
            replace hx191_0 := (HB.out.cell (World.block_lt_of_cell? w _ hx191_0)).trans hx191_0
            replace p191 := eq_true p191
            replace q191 := eq_true q191
            go_wp2
            go_ret
            exact ⟨by first | rfl | (simp [errW_none, errW_some] <;> rfl) | (simp [*, errW_none, errW_some] <;> rfl), by repeat (first | (with_reducible first | exact HB.out | apply below_alloc | apply pw_below_drewN | apply below_drew1 | refine below_set ?_ GE188.out) | exact HB.out)⟩
          · rw [if_neg c12] at H
            exact absurd H (by simp)
        · rw [if_neg c11] at H
          exact absurd H (by simp)
end Go.Proofs.Ytbpefnfeiidioaa.P
namespace Go.Proofs.Ytbpefnfeiidioaa.Pg
open Go.RowKit Go.Proofs.Ytbpefnfeiidioaa.P Go.Proofs.YtbpefnfeiidioaaW.PrintWords Go.Proofs.YtbpefnfeiidioaaW.PrintLast Go.Proofs.YtbpefnfeiidioaaW.PrintMore
set_option linter.unusedVariables false
set_option linter.unusedSimpArgs false
abbrev PL := S103
abbrev PI := S82
theorem dk_suc (i : Nat) (hi : i < 9223372036854775807) : wrap64 ((i : Int) + 1) = ((i + 1 : Nat) : Int) := by unfold wrap64; omega
theorem dk_sub (a b : Int) (ha : 0 ≤ a ∧ a ≤ 1048576) (hb : 0 ≤ b ∧ b ≤ 9223372036854775807) : wrap64 (a - b) = a - b := by unfold wrap64; omega
theorem rdS (l : List ByteArray) (i : Nat) (h : i < l.length) : rdOf ByteArray.empty l (i : Int) = l[i] := by simp [rdOf, h]
theorem rdI (l : List PI) (i : Nat) (h : i < l.length) : rd_T82 l (i : Int) = l[i] := by simp [rd_T82, h]
theorem rdL (l : List PL) (i : Nat) (h : i < l.length) : rd_T103 l (i : Int) = l[i] := by simp [rd_T103, h]
def pe (x : PL) : PI := ⟨x.f0, x.f1⟩
theorem toStringS_run (l : List ByteArray) (hl : l.length ≤ 1048576) (d : Nat) : ∀ (k i : Nat) (acc : List ByteArray), acc.length = l.length → i + d = l.length → (∀ j, j < i → acc[j]? = l[j]?) → d < k → laws_toStringS.l0 k l acc i = some l := by
  induction d with
  | zero =>
    intro k i acc ha hi hj hk
    obtain ⟨k, rfl⟩ : ∃ m, k = m + 1 := ⟨k - 1, by omega⟩
    simp only [laws_toStringS.l0]
    rw [if_neg (by omega)]
    congr 1
    apply List.ext_getElem?
    intro j
    rcases Nat.lt_or_ge j i with h | h
    · exact hj j h
    · rw [List.getElem?_eq_none (by omega), List.getElem?_eq_none (by omega)]
  | succ d ih =>
    intro k i acc ha hi hj hk
    obtain ⟨k, rfl⟩ : ∃ m, k = m + 1 := ⟨k - 1, by omega⟩
    simp only [laws_toStringS.l0]
    rw [if_pos (by omega), if_pos (by omega), if_pos (by omega), dk_suc i (by omega), rdS l i (by omega), Int.toNat_natCast]
    refine ih k (i + 1) _ (by rw [List.length_set]; exact ha) (by omega) (fun j hj2 => ?_) (by omega)
    rcases Nat.lt_or_ge j i with h | h
    · rw [List.getElem?_set_ne (by omega)]; exact hj j h
    · obtain rfl : j = i := by omega
      rw [List.getElem?_set_self (by omega), List.getElem?_eq_getElem (by omega)]
theorem toStringS_eq (k : Nat) (l : List ByteArray) (hl : l.length ≤ 1048576) (hk : l.length < k) : laws_toStringS.f k l = some l := by
  unfold laws_toStringS.f
  rw [if_pos (by omega), if_pos (by omega)]
  exact toStringS_run l hl l.length k 0 _ (by simp) (by omega) (fun j h => absurd h (by omega)) hk
theorem toPendingS_run (l : List PL) (hl : l.length ≤ 1048576) (d : Nat) : ∀ (k i : Nat) (acc : List PI), acc.length = l.length → i + d = l.length → (∀ j, j < i → acc[j]? = (l.map pe)[j]?) → d < k → laws_toPendingS.l0 k l acc i = some (l.map pe) := by
  induction d with
  | zero =>
    intro k i acc ha hi hj hk
    obtain ⟨k, rfl⟩ : ∃ m, k = m + 1 := ⟨k - 1, by omega⟩
    simp only [laws_toPendingS.l0]
    rw [if_neg (by omega)]
    congr 1
    apply List.ext_getElem?
    intro j
    rcases Nat.lt_or_ge j i with h | h
    · exact hj j h
    · rw [List.getElem?_eq_none (by omega), List.getElem?_eq_none (by rw [List.length_map]; omega)]
  | succ d ih =>
    intro k i acc ha hi hj hk
    obtain ⟨k, rfl⟩ : ∃ m, k = m + 1 := ⟨k - 1, by omega⟩
    simp only [laws_toPendingS.l0, laws_toPending.f]
    rw [if_pos (by omega), if_pos (by omega), Option.bind_some, if_pos (by omega), dk_suc i (by omega), rdL l i (by omega), Int.toNat_natCast]
    refine ih k (i + 1) _ (by rw [List.length_set]; exact ha) (by omega) (fun j hj2 => ?_) (by omega)
    rcases Nat.lt_or_ge j i with h | h
    · rw [List.getElem?_set_ne (by omega)]; exact hj j h
    · obtain rfl : j = i := by omega
      rw [List.getElem?_set_self (by omega), List.getElem?_map, List.getElem?_eq_getElem (by omega)]
      rfl
theorem toPendingS_eq (k : Nat) (l : List PL) (hl : l.length ≤ 1048576) (hk : l.length < k) : laws_toPendingS.f k l = some (l.map pe) := by
  unfold laws_toPendingS.f
  rw [if_pos (by omega), if_pos (by omega)]
  exact toPendingS_run l hl l.length k 0 _ (by simp) (by omega) (fun j h => absurd h (by omega)) hk
theorem toDisk_eq (k : Nat) (l0 : List ByteArray) (l1 : List PL) (l2 : List ByteArray) (h0 : l0.length ≤ 1048576) (h1 : l1.length ≤ 1048576) (h2 : l2.length ≤ 1048576) (hk : 1048576 < k) : laws_toDisk.f k l0 l1 l2 = some (l0, l1.map pe, l2) := by
  unfold laws_toDisk.f
  rw [toStringS_eq k l0 h0 (by omega), Option.bind_some, toPendingS_eq k l1 h1 (by omega), Option.bind_some, toStringS_eq k l2 h2 (by omega), Option.bind_some]
theorem eqStringS_run (l : List ByteArray) (hl : l.length ≤ 1048576) (d : Nat) : ∀ (k i : Nat), i + d = l.length → d < k → laws_eqStringS.l0 k l l i = some true := by
  induction d with
  | zero =>
    intro k i hi hk
    obtain ⟨k, rfl⟩ : ∃ m, k = m + 1 := ⟨k - 1, by omega⟩
    simp only [laws_eqStringS.l0]
    rw [if_neg (by omega)]
  | succ d ih =>
    intro k i hi hk
    obtain ⟨k, rfl⟩ : ∃ m, k = m + 1 := ⟨k - 1, by omega⟩
    simp only [laws_eqStringS.l0]
    rw [if_pos (by omega), if_pos (by omega), if_pos (by omega), if_pos trivial, dk_suc i (by omega)]
    exact ih k (i + 1) (by omega) (by omega)
theorem eqStringS_refl (k : Nat) (l : List ByteArray) (hl : l.length ≤ 1048576) (hk : l.length < k) : laws_eqStringS.f k l l = some true := by
  unfold laws_eqStringS.f
  rw [if_pos rfl]
  exact eqStringS_run l hl l.length k 0 (by omega) hk
theorem eqPendingS_run (l : List PI) (hl : l.length ≤ 1048576) (d : Nat) : ∀ (k i : Nat), i + d = l.length → d < k → laws_eqPendingS.l0 k l l i = some true := by
  induction d with
  | zero =>
    intro k i hi hk
    obtain ⟨k, rfl⟩ : ∃ m, k = m + 1 := ⟨k - 1, by omega⟩
    simp only [laws_eqPendingS.l0]
    rw [if_neg (by omega)]
  | succ d ih =>
    intro k i hi hk
    obtain ⟨k, rfl⟩ : ∃ m, k = m + 1 := ⟨k - 1, by omega⟩
    simp only [laws_eqPendingS.l0, laws_eqPending.f]
    rw [if_pos (by omega), if_pos (by omega), if_pos (by omega), if_pos trivial, if_pos trivial, Option.bind_some, if_pos rfl, dk_suc i (by omega)]
    exact ih k (i + 1) (by omega) (by omega)
theorem eqPendingS_refl (k : Nat) (l : List PI) (hl : l.length ≤ 1048576) (hk : l.length < k) : laws_eqPendingS.f k l l = some true := by
  unfold laws_eqPendingS.f
  rw [if_pos rfl]
  exact eqPendingS_run l hl l.length k 0 (by omega) hk
theorem eqDisk_refl (k : Nat) (l0 : List ByteArray) (l1 : List PI) (l2 : List ByteArray) (h0 : l0.length ≤ 1048576) (h1 : l1.length ≤ 1048576) (h2 : l2.length ≤ 1048576) (hk : 1048576 < k) : laws_eqDisk.f k l0 l1 l2 l0 l1 l2 = some true := by
  unfold laws_eqDisk.f
  rw [eqStringS_refl k l0 h0 (by omega), Option.bind_some, if_pos rfl, eqPendingS_refl k l1 h1 (by omega), Option.bind_some, if_pos rfl, eqStringS_refl k l2 h2 (by omega), Option.bind_some, if_pos rfl]
theorem szStringS_run (l : List ByteArray) (hl : l.length ≤ 1048576) (hs : ∀ x ∈ l, x.size ≤ 9223372036854775807) (d : Nat) : ∀ (k i : Nat) (a : Int), i + d = l.length → d < k → 0 ≤ a ∧ a ≤ 1048576 → ∃ r : Int, laws_szStringS.l0 k l a i = some r ∧ r ≤ 1048576 := by
  induction d with
  | zero =>
    intro k i a hi hk ha
    obtain ⟨k, rfl⟩ : ∃ m, k = m + 1 := ⟨k - 1, by omega⟩
    simp only [laws_szStringS.l0]
    rw [if_neg (by omega)]
    exact ⟨a, rfl, ha.2⟩
  | succ d ih =>
    intro k i a hi hk ha
    obtain ⟨k, rfl⟩ : ∃ m, k = m + 1 := ⟨k - 1, by omega⟩
    simp only [laws_szStringS.l0]
    have hx := hs l[i] (List.getElem_mem (by omega))
    rw [if_pos (by omega), if_pos (by omega), rdS l i (by omega), dk_sub a _ ha ⟨by omega, by omega⟩, dk_suc i (by omega)]
    by_cases h : a - (l[i].size : Int) < 0
    · rw [if_pos h]; exact ⟨-1, rfl, by decide⟩
    · rw [if_neg h]; exact ih k (i + 1) _ (by omega) (by omega) (by omega)
theorem szStringS_some (k : Nat) (l : List ByteArray) (hl : l.length ≤ 9223372036854775807) (hs : ∀ x ∈ l, x.size ≤ 9223372036854775807) (a : Int) (ha : 0 ≤ a ∧ a ≤ 1048576) (hk : 1048576 < k) : ∃ r : Int, laws_szStringS.f k l a = some r ∧ r ≤ 1048576 ∧ (0 ≤ r → l.length ≤ 1048576) := by
  unfold laws_szStringS.f
  rw [dk_sub a _ ha ⟨by omega, by omega⟩]
  by_cases h : a - (l.length : Int) < 0
  · rw [if_pos h]; exact ⟨-1, rfl, by decide, fun h => absurd h (by decide)⟩
  · rw [if_neg h]
    obtain ⟨r, h1, h2⟩ := szStringS_run l (by omega) hs l.length k 0 (a - (l.length : Int)) (by omega) (by omega) (by omega)
    exact ⟨r, h1, h2, fun _ => by omega⟩
theorem szPendingS_run (l : List PL) (hl : l.length ≤ 1048576) (hs : ∀ x ∈ l, x.f1.size ≤ 9223372036854775807) (d : Nat) : ∀ (k i : Nat) (a : Int), i + d = l.length → d < k → 0 ≤ a ∧ a ≤ 1048576 → ∃ r : Int, laws_szPendingS.l0 k l a i = some r ∧ r ≤ 1048576 := by
  induction d with
  | zero =>
    intro k i a hi hk ha
    obtain ⟨k, rfl⟩ : ∃ m, k = m + 1 := ⟨k - 1, by omega⟩
    simp only [laws_szPendingS.l0]
    rw [if_neg (by omega)]
    exact ⟨a, rfl, ha.2⟩
  | succ d ih =>
    intro k i a hi hk ha
    obtain ⟨k, rfl⟩ : ∃ m, k = m + 1 := ⟨k - 1, by omega⟩
    simp only [laws_szPendingS.l0, laws_szPending.f]
    have hx := hs l[i] (List.getElem_mem (by omega))
    rw [if_pos (by omega), if_pos (by omega), rdL l i (by omega), dk_sub a _ ha ⟨by omega, by omega⟩, dk_suc i (by omega)]
    by_cases h : a - (l[i].f1.size : Int) < 0
    · rw [if_pos h, Option.bind_some, if_pos (by decide)]; exact ⟨-1, rfl, by decide⟩
    · rw [if_neg h, Option.bind_some, if_neg h]; exact ih k (i + 1) _ (by omega) (by omega) (by omega)
theorem szPendingS_some (k : Nat) (l : List PL) (hl : l.length ≤ 9223372036854775807) (hs : ∀ x ∈ l, x.f1.size ≤ 9223372036854775807) (a : Int) (ha : 0 ≤ a ∧ a ≤ 1048576) (hk : 1048576 < k) : ∃ r : Int, laws_szPendingS.f k l a = some r ∧ r ≤ 1048576 ∧ (0 ≤ r → l.length ≤ 1048576) := by
  unfold laws_szPendingS.f
  rw [dk_sub a _ ha ⟨by omega, by omega⟩]
  by_cases h : a - (l.length : Int) < 0
  · rw [if_pos h]; exact ⟨-1, rfl, by decide, fun h => absurd h (by decide)⟩
  · rw [if_neg h]
    obtain ⟨r, h1, h2⟩ := szPendingS_run l (by omega) hs l.length k 0 (a - (l.length : Int)) (by omega) (by omega) (by omega)
    exact ⟨r, h1, h2, fun _ => by omega⟩
theorem szDisk_some (k : Nat) (l0 : List ByteArray) (l1 : List PL) (l2 : List ByteArray) (h0 : l0.length ≤ 9223372036854775807) (h1 : l1.length ≤ 9223372036854775807) (h2 : l2.length ≤ 9223372036854775807) (s0 : ∀ x ∈ l0, x.size ≤ 9223372036854775807) (s1 : ∀ x ∈ l1, x.f1.size ≤ 9223372036854775807) (s2 : ∀ x ∈ l2, x.size ≤ 9223372036854775807) (a : Int) (ha : 0 ≤ a ∧ a ≤ 1048576) (hk : 1048576 < k) :
    ∃ r : Int, laws_szDisk.f k l0 l1 l2 a = some r ∧ r ≤ 1048576 ∧ (0 ≤ r → l0.length ≤ 1048576 ∧ l1.length ≤ 1048576 ∧ l2.length ≤ 1048576) := by
  obtain ⟨r0, e0, b0, q0⟩ := szStringS_some k l0 h0 s0 a ha hk
  unfold laws_szDisk.f
  rw [e0, Option.bind_some]
  by_cases c0 : r0 < 0
  · rw [if_pos c0]; exact ⟨-1, rfl, by decide, fun h => absurd h (by decide)⟩
  rw [if_neg c0]
  obtain ⟨r1, e1, b1, q1⟩ := szPendingS_some k l1 h1 s1 r0 (by omega) hk
  rw [e1, Option.bind_some]
  by_cases c1 : r1 < 0
  · rw [if_pos c1]; exact ⟨-1, rfl, by decide, fun h => absurd h (by decide)⟩
  rw [if_neg c1]
  obtain ⟨r2, e2, b2, q2⟩ := szStringS_some k l2 h2 s2 r1 (by omega) hk
  rw [e2, Option.bind_some]
  by_cases c2 : r2 < 0
  · rw [if_pos c2]; exact ⟨-1, rfl, by decide, fun h => absurd h (by decide)⟩
  rw [if_neg c2]
  exact ⟨r2, rfl, b2, fun _ => ⟨q0 (by omega), q1 (by omega), q2 (by omega)⟩⟩
theorem ok_l0 (l0 : List ByteArray) (l1 : List PI) (l2 : List ByteArray) (hl : l0.length ≤ 1048576) (d : Nat) : ∀ (k i : Nat), i + d = l0.length → spec_DiskOK.l0 (k + d + 1) i l0 l1 l2 = if (l0.drop i).all (fun x => areAll_string_p x) = true then spec_DiskOK.l1 k 0 l0 l1 l2 else some false := by
  induction d with
  | zero =>
    intro k i hi
    simp only [spec_DiskOK.l0]
    rw [if_neg (by omega), List.drop_eq_nil_of_le (by omega)]
    rfl
  | succ d ih =>
    intro k i hi
    obtain ⟨q, hq⟩ : ∃ q, q = k + d + 1 := ⟨_, rfl⟩
    have h2 := ih k (i + 1) (by omega)
    rw [← hq] at h2
    rw [show k + (d + 1) + 1 = q + 1 by omega]
    simp only [spec_DiskOK.l0]
    rw [if_pos (by omega), if_pos (by omega), rdS l0 i (by omega), dk_suc i (by omega), h2, List.drop_eq_getElem_cons (show i < l0.length by omega), List.all_cons]
    by_cases h : (l0[i].size : Int) > 200
    · have hp : areAll_string_p l0[i] = false := decide_eq_false (by omega)
      rw [if_pos h, hp, Bool.false_and, if_neg (by decide)]
    · have hp : areAll_string_p l0[i] = true := decide_eq_true (by omega)
      rw [if_neg h, hp, Bool.true_and]
theorem ok_l1 (l0 : List ByteArray) (l1 : List PI) (l2 : List ByteArray) (hl : l2.length ≤ 1048576) (d : Nat) : ∀ (k i : Nat), i + d = l2.length → spec_DiskOK.l1 (k + d + 1) i l0 l1 l2 = if (l2.drop i).all (fun x => areAll_string_p x) = true then spec_DiskOK.l2 k 0 l0 l1 l2 else some false := by
  induction d with
  | zero =>
    intro k i hi
    simp only [spec_DiskOK.l1]
    rw [if_neg (by omega), List.drop_eq_nil_of_le (by omega)]
    rfl
  | succ d ih =>
    intro k i hi
    obtain ⟨q, hq⟩ : ∃ q, q = k + d + 1 := ⟨_, rfl⟩
    have h2 := ih k (i + 1) (by omega)
    rw [← hq] at h2
    rw [show k + (d + 1) + 1 = q + 1 by omega]
    simp only [spec_DiskOK.l1]
    rw [if_pos (by omega), if_pos (by omega), rdS l2 i (by omega), dk_suc i (by omega), h2, List.drop_eq_getElem_cons (show i < l2.length by omega), List.all_cons]
    by_cases h : (l2[i].size : Int) > 200
    · have hp : areAll_string_p l2[i] = false := decide_eq_false (by omega)
      rw [if_pos h, hp, Bool.false_and, if_neg (by decide)]
    · have hp : areAll_string_p l2[i] = true := decide_eq_true (by omega)
      rw [if_neg h, hp, Bool.true_and]
theorem ok_l2 (l0 : List ByteArray) (l1 : List PI) (l2 : List ByteArray) (h0 : l0.length ≤ 1048576) (hl : l1.length ≤ 1048576) (d : Nat) : ∀ (k i : Nat), i + d = l1.length → spec_DiskOK.l2 (k + d + 1) i l0 l1 l2 = some ((l1.drop i).all fun x => areAll_pending_p l0.length x) := by
  have hw : wrap64 ((l0.length : Int) - 1) = (l0.length : Int) - 1 := by unfold wrap64; omega
  induction d with
  | zero =>
    intro k i hi
    simp only [spec_DiskOK.l2]
    rw [if_neg (by omega), List.drop_eq_nil_of_le (by omega)]
    rfl
  | succ d ih =>
    intro k i hi
    obtain ⟨q, hq⟩ : ∃ q, q = k + d + 1 := ⟨_, rfl⟩
    have h2 := ih k (i + 1) (by omega)
    rw [← hq] at h2
    rw [show k + (d + 1) + 1 = q + 1 by omega]
    simp only [spec_DiskOK.l2]
    rw [hw, if_pos (by omega), if_pos (by omega), rdI l1 i (by omega), dk_suc i (by omega), h2, List.drop_eq_getElem_cons (show i < l1.length by omega), List.all_cons]
    unfold spec_l01In.f areAll_pending_p
    by_cases ha : l1[i].f0 ≥ 0
    · rw [if_pos ha, Option.bind_some, decide_eq_true (show 0 ≤ l1[i].f0 from ha)]
      by_cases hb : l1[i].f0 ≤ (l0.length : Int) - 1
      · rw [decide_eq_true hb, if_pos rfl]
        by_cases hc : (l1[i].f1.size : Int) > 200
        · rw [if_pos hc, decide_eq_false (show ¬ (l1[i].f1.size : Int) ≤ 200 by omega)]; rfl
        · rw [if_neg hc, decide_eq_true (show (l1[i].f1.size : Int) ≤ 200 by omega)]; rfl
      · rw [decide_eq_false hb, if_neg (by decide)]; rfl
    · rw [if_neg ha, Option.bind_some, if_neg (by decide), decide_eq_false (show ¬ 0 ≤ l1[i].f0 from ha)]; rfl
theorem spec_disk (l0 : List ByteArray) (l1 : List PI) (l2 : List ByteArray) (h0 : l0.length ≤ 1048576) (h1 : l1.length ≤ 1048576) (h2 : l2.length ≤ 1048576) (k : Nat) (hk : 5000000 < k) : spec_DiskOK.f k l0 l1 l2 = some (diskOkB l0 l1 l2) := by
  have hj : ∀ b : Bool, spec_DiskOK.j0 k b l0 l1 l2 = if b = true then some false else some ((l0.all fun x => areAll_string_p x) && (l2.all fun x => areAll_string_p x) && (l1.all fun x => areAll_pending_p l0.length x)) := fun b => by
    obtain ⟨m, rfl⟩ : ∃ m, k = ((m + l1.length + 1) + l2.length + 1) + l0.length + 1 + 1 := ⟨k - l0.length - l1.length - l2.length - 4, by omega⟩
    simp only [spec_DiskOK.j0]
    have e0 := ok_l0 l0 l1 l2 h0 l0.length ((m + l1.length + 1) + l2.length + 1) 0 (by omega)
    have e1 := ok_l1 l0 l1 l2 h2 l2.length (m + l1.length + 1) 0 (by omega)
    have e2 := ok_l2 l0 l1 l2 h0 h1 l1.length m 0 (by omega)
    rw [List.drop_zero] at e0 e1 e2
    cases b
    · rw [if_neg (by decide), if_neg (by decide)]
      refine e0.trans ?_
      cases ha : (l0.all fun x => areAll_string_p x)
      · rfl
      · rw [if_pos rfl]
        refine e1.trans ?_
        cases hb : (l2.all fun x => areAll_string_p x)
        · rfl
        · rw [if_pos rfl]
          refine e2.trans ?_
          simp
    · rfl
  unfold spec_DiskOK.f spec_l01In.f diskOkB
  by_cases c1 : 1 ≤ l0.length
  · rw [if_pos (by omega), Option.bind_some, decide_eq_true c1]
    by_cases c2 : l0.length ≤ 64
    · rw [decide_eq_true (show (l0.length : Int) ≤ 64 by omega), if_pos rfl, decide_eq_true c2]
      by_cases c3 : (l1.length : Int) > 4096
      · rw [if_pos c3, hj true, if_pos rfl, decide_eq_false (show ¬ l1.length ≤ 4096 by omega)]
        simp
      · rw [if_neg c3, decide_eq_true (show l1.length ≤ 4096 by omega)]
        by_cases c4 : (l2.length : Int) = 0
        · rw [if_pos c4, hj false, if_neg (by decide), decide_eq_true (show l2.length = 0 by omega)]
          congr 1
          cases (l0.all fun x => areAll_string_p x) <;> cases (l1.all fun x => areAll_pending_p l0.length x) <;> cases (l2.all fun x => areAll_string_p x) <;> rfl
        · rw [if_neg c4, decide_eq_false (show ¬ l2.length = 0 by omega)]
          by_cases c5 : l2.length = l0.length
          · rw [show ((l2.length : Int) != (l0.length : Int)) = false by rw [c5]; exact bne_self_eq_false _, hj false, if_neg (by decide), decide_eq_true c5]
            congr 1
            cases (l0.all fun x => areAll_string_p x) <;> cases (l1.all fun x => areAll_pending_p l0.length x) <;> cases (l2.all fun x => areAll_string_p x) <;> rfl
          · rw [show ((l2.length : Int) != (l0.length : Int)) = true by rw [bne_iff_ne]; omega, hj true, if_pos rfl, decide_eq_false c5]
            simp
    · rw [decide_eq_false (show ¬ (l0.length : Int) ≤ 64 by omega), if_neg (by decide), hj true, if_pos rfl, decide_eq_false c2]
      simp
  · rw [if_neg (by omega), Option.bind_some, if_neg (by decide), hj true, if_pos rfl, decide_eq_false c1]
    simp
end Go.Proofs.Ytbpefnfeiidioaa.Pg
namespace Go.Proofs.Ytbpefnfeiidioaa.Pg
open Go.RowKit Go.Proofs.Ytbpefnfeiidioaa.P Go.Proofs.YtbpefnfeiidioaaW.PrintWords Go.Proofs.YtbpefnfeiidioaaW.PrintLast Go.Proofs.YtbpefnfeiidioaaW.PrintMore
open Go.ChangeShapes Go.WideShapes Go.ChangeAt Go.Deep Go.Joins
set_option linter.unusedVariables false
set_option linter.unusedSimpArgs false
section
variable {H : Type} {enc : TypeId × Value → H} {W : World}
theorem open_strs {n : Nat} {v : Value} {y : DataW H × List MemPlace} (h : DataW.trod enc Try.prog W 0 (fun _ => true) true n 40 [v] = some y) :
    ∃ A c l, v = .slice A (List.length l) c ∧ List.length l ≤ c ∧ Kd.C Kd.string W A (List.length l) l ∧ l.length ≤ 9223372036854775807 ∧ ∀ x ∈ l, ByteArray.size x ≤ 9223372036854775807 := by
  rcases open_strings Try.underlying40 Try.underlying9 (by kernel_rfl) h with ⟨hcs, _⟩ | ⟨a, len, cap, ss, hcs, _, hl, hm, hlen, _, hcell, hsz⟩
  · obtain rfl : v = .slice none 0 0 := by simpa using hcs
    exact ⟨none, 0, [], rfl, Nat.le_refl _, Kd.C_nil _ _, Nat.zero_le _, fun x hx => by cases hx⟩
  · obtain rfl : v = .slice (some a) len cap := by simpa using hcs
    have hm : cap ≤ 9223372036854775807 := by simpa [maxLen] using hm
    have hlen : ss.length = cap := by simpa using hlen
    have e : (ss.take len).length = len := by rw [List.length_take]; omega
    refine ⟨some a, cap, ss.take len, by rw [e], by rw [e]; exact hl, ?_, by rw [e]; omega, fun x hx => by have := hsz x (List.mem_of_mem_take hx); simpa [maxLen] using this⟩
    rw [e]
    refine Kd.C_of_reads (enc := Value.string) (d := ByteArray.empty) (h1 := fun _ => rfl) ⟨e, by omega, fun _ => ⟨a, rfl, fun i hi => ?_⟩⟩
    rw [hcell i (by omega), List.getD_eq_getElem?_getD, List.getD_eq_getElem?_getD, List.getElem?_take_of_lt hi]
def intV : Value → Int
  | .int _ n => n
  | _ => 0
def strV : Value → ByteArray
  | .string s => s
  | _ => ByteArray.empty
theorem open_pends {n : Nat} {v : Value} {y : DataW H × List MemPlace} (h : DataW.trod enc Try.prog W 0 (fun _ => true) true n 49 [v] = some y) :
    ∃ A c, ∃ l : List PL, v = .slice A (List.length l) c ∧ List.length l ≤ c ∧ Kd.C k103 W A (List.length l) l ∧ l.length ≤ 9223372036854775807 ∧ ∀ x ∈ l, x.f1.size ≤ 9223372036854775807 := by
  rcases open_slice_pairs Try.underlying49 Try.underlying103 (by kernel_rfl) rfl rfl (by kernel_rfl) (by kernel_rfl) h with ⟨hcs, _⟩ | ⟨a, len, cap, m, n', V0, V1, D0, D1, P0, P1, hcs, _, hl, hm, hmm, _, hx⟩
  · obtain rfl : v = .slice none 0 0 := by simpa using hcs
    exact ⟨none, 0, [], rfl, Nat.le_refl _, Kd.C_nil _ _, Nat.zero_le _, fun x hx => by cases hx⟩
  · obtain rfl : v = .slice (some a) len cap := by simpa using hcs
    have hm : cap ≤ 9223372036854775807 := by simpa [maxLen] using hm
    have hmm : m = cap := by simpa using hmm
    have hi : ∀ i, i < m → V0 i = .int .i64 (intV (V0 i)) ∧ V1 i = .string (strV (V1 i)) ∧ (strV (V1 i)).size ≤ 9223372036854775807 := fun i hi => by
      obtain ⟨_, _, h0, h1⟩ := hx i hi
      obtain ⟨p, e0, _, _⟩ := DataW.trod_int Try.underlying3 h0
      obtain ⟨s, e1, _, hs⟩ := DataW.trod_string Try.underlying9 h1
      simp at e0 e1
      rw [e0, e1]
      exact ⟨rfl, rfl, (by simpa [maxLen] using hs : s.size ≤ 9223372036854775807)⟩
    have e : ((List.range len).map fun i => (⟨intV (V0 i), strV (V1 i)⟩ : PL)).length = len := by simp
    refine ⟨some a, cap, (List.range len).map fun i => ⟨intV (V0 i), strV (V1 i)⟩, by rw [e], by rw [e]; exact hl, ?_, by rw [e]; omega, fun x hx => ?_⟩
    · rw [e]
      refine ⟨e, by omega, fun _ => ⟨a, rfl, fun j p hj => ?_⟩⟩
      rw [List.getElem?_map] at hj
      obtain ⟨j', hj', rfl⟩ := Option.map_eq_some_iff.1 hj
      obtain ⟨hlt, hjj⟩ := List.getElem?_eq_some_iff.1 hj'
      have hjl : j < len := by simpa using hlt
      have : j' = j := by rw [← hjj]; simp
      subst this
      obtain ⟨c0, c1, _, _⟩ := hx j' (by omega)
      obtain ⟨q0, q1, _⟩ := hi j' (by omega)
      rw [q0] at c0
      rw [q1] at c1
      refine ⟨[.int .i64 (intV (V0 j')), .string (strV (V1 j'))], rfl, ⟨_, _, rfl, rfl, rfl⟩, fun i u hu => ?_⟩
      match i, hu with
      | 0, hu =>
        obtain rfl : Value.int .i64 (intV (V0 j')) = u := by simpa using hu
        exact c0
      | 1, hu =>
        obtain rfl : Value.string (strV (V1 j')) = u := by simpa using hu
        exact c1
    · obtain ⟨i, hr, rfl⟩ := List.mem_map.1 hx
      exact (hi i (by have := List.mem_range.1 hr; omega)).2.2
theorem cellsD : Try.prog.cellsOf 51 = 3 := by kernel_rfl
set_option maxRecDepth 100000 in
theorem open_disk {r : Reach} {b0 : Nat} {v : Value} {d : DataW H} {p : List MemPlace} (hv : Value.okWide Try.prog W r b0 51 v) (h : DataW.Trod enc Try.prog W 0 (fun _ => true) true 51 v d p) :
    ∃ A0 c0 l0 A1 c1, ∃ l1 : List PL, ∃ A2 c2 l2, v = .agg #[.slice A0 (List.length l0) c0, .slice A1 l1.length c1, .slice A2 (List.length l2) c2] ∧ List.length l0 ≤ c0 ∧ Kd.C Kd.string W A0 (List.length l0) l0 ∧ l0.length ≤ 9223372036854775807 ∧ (∀ x ∈ l0, ByteArray.size x ≤ 9223372036854775807) ∧
      l1.length ≤ c1 ∧ Kd.C k103 W A1 l1.length l1 ∧ l1.length ≤ 9223372036854775807 ∧ (∀ x ∈ l1, x.f1.size ≤ 9223372036854775807) ∧ List.length l2 ≤ c2 ∧ Kd.C Kd.string W A2 (List.length l2) l2 ∧ l2.length ≤ 9223372036854775807 ∧ ∀ x ∈ l2, ByteArray.size x ≤ 9223372036854775807 := by
  obtain ⟨v0, v1, v2, y0, y1, y2, n, rfl, _, _, h0, h1, h2⟩ := open_agg3 Try.underlying51 (by kernel_rfl) cellsD hv h
  obtain ⟨A0, c0, l0, rfl, q0, C0, b0, s0⟩ := open_strs h0
  obtain ⟨A1, c1, l1, rfl, q1, C1, b1, s1⟩ := open_pends h1
  obtain ⟨A2, c2, l2, rfl, q2, C2, b2, s2⟩ := open_strs h2
  exact ⟨A0, c0, l0, A1, c1, l1, A2, c2, l2, rfl, q0, C0, b0, s0, q1, C1, b1, s1, q2, C2, b2, s2⟩
end
end Go.Proofs.Ytbpefnfeiidioaa.Pg
namespace Go.Proofs.Ytbpefnfeiidioaa.P
open Go.RowKit Go.Proofs.YtbpefnfeiidioaaW.PrintWords Go.Proofs.YtbpefnfeiidioaaW.PrintLast Go.Proofs.YtbpefnfeiidioaaW.PrintMore
set_option linter.unusedVariables false
set_option linter.unusedSimpArgs false
def KpD (N : Nat) (W W' : World) : Prop := ∀ a : Addr, a.block < N → W'.cell? a = W.cell? a
theorem KpD.refl (N : Nat) (W : World) : KpD N W W := fun _ _ => rfl
theorem KpD.trans {N : Nat} {A B C : World} (h : KpD N A B) (k : KpD N B C) : KpD N A C := fun a ha => (k a ha).trans (h a ha)
theorem KpD.put {N b : Nat} (hN : N ≤ b) (W : World) (l : Nat) (o o' : Obj) (hl : b ≤ l) (_ : W.heap[l]? = some o) (_ : o.isCells = false) (_ : o.isWalk = false) : KpD N W (W.putObj l o') := fun a ha => by
  have hne : a.block ≠ l := by omega
  exact World.cell?_of_block (World.putObj_heap_other hne)
def bk (xs : List S82) (i : Nat) : S82 := rd_T82 xs ((xs.length - 1 - i : Nat) : Int)
def bkV (xs : List S82) (i : Nat) : Array Value := #[.int .i64 ((xs.length - 1 - i : Nat) : Int), .agg #[.int .i64 (bk xs i).f0, .string (bk xs i).f1]]
section
attribute [local go_sem] Oper.semAt_some
set_option maxRecDepth 100000 in
set_option maxHeartbeats 2000000 in
theorem back1_in (F : Fence) (n : Nat) (hF : F.fn 115) (hro : F.round = none) (hn : 1 ≤ n) (l Bs : Nat) (A : Option Addr) (c N : Nat) (xs : List S82) (hm : xs.length ≤ 9223372036854775807) (hN : Bs < N) (J Jx : List (Fin xs.length) → World → Prop)
    (hY : ∀ pre x W, J pre W → pre.length < xs.length → YieldAt F (n - 1) Try.prog l (bkV xs x.1) W fun e W' =>
      (e = .returned (.bool true) ∧ J (pre ++ [x]) W' ∧ KpD N W W') ∨ (e = .returned (.bool false) ∧ Jx (pre ++ [x]) W'))
    (W : World) (hBs : W.cell? ⟨Bs, 0, none⟩ = some (.slice A xs.length c))
    (hC : ∀ k : Nat, k < xs.length → ∃ ad, A = some ad ∧ ad.block < N ∧ W.cell? (ad.add (k * 2)) = some (.int .i64 (rd_T82 xs (k : Int)).f0) ∧ W.cell? ⟨(ad.add (k * 2)).block, (ad.add (k * 2)).off + 1, none⟩ = some (.string (rd_T82 xs (k : Int)).f1)) (h0 : J [] W) :
    CallsIn F n Try.prog 115 #[.func (.yield l) #[] #[], .pointer (some ⟨Bs, 0, none⟩)] W fun e W' => (∃ v, e = .returned v) ∧
      ((∃ ys : List (Fin xs.length), ys.map (·.1) = List.range xs.length ∧ J ys W') ∨ (∃ pre : List (Fin xs.length), (∃ k, k ≤ xs.length ∧ pre.map (·.1) = List.range k) ∧ Jx pre W')) := by
  refine callsIn_of_wp Try.func115 rfl hF ?_ hro
  simp only [Try.ntmps115, List.size_toArray, List.length_cons, List.length_nil, Nat.reduceAdd, Nat.reduceSub, Array.replicate_succ, Array.replicate_zero, List.push_toArray, List.append_toArray, List.nil_append, List.cons_append]
  have hw : wrap64 ((xs.length : Int) - 1) = (xs.length : Int) - 1 := by unfold wrap64; omega
  have HBs := Aside0.mk hBs
  have HC := Aside0.mk hC
  clear hC
  gi_wp2
  clear hBs
  gi_loopw [3] (fun i wr => ∃ (k : Nat) (pre : List (Fin xs.length)), k ≤ xs.length ∧ i = .int .i64 ((xs.length : Int) - 1 - (k : Int)) ∧ Aside0 (pre.map (·.1) = List.range k) ∧ J pre wr ∧ Aside0 (KpD N W wr)) (fun i _ => (intOf i + 1).toNat)
  case atStart => exact ⟨0, [], Nat.zero_le _, by simp, ⟨rfl⟩, h0, ⟨KpD.refl _ _⟩⟩
  case round =>
    obtain ⟨k, pre, hk, rfl, hpre, hJs, hnx⟩ := hrel
    have cS : wr.cell? ⟨Bs, 0, none⟩ = some (.slice A xs.length c) := (hnx.out _ hN).trans HBs.out
    by_cases hlt : k < xs.length
    · obtain ⟨p, hp⟩ : ∃ p : Nat, p = xs.length - 1 - k := ⟨_, rfl⟩
      have hpi : (xs.length : Int) - 1 - (k : Int) = (p : Int) := by omega
      have hp1 : (p : Int) - 1 = (xs.length : Int) - 1 - ((k + 1 : Nat) : Int) := by omega
      have hpl : p < xs.length := by omega
      have hpb : (p : Int) ≤ 9223372036854775807 := by omega
      rw [hpi]
      clear hpi
      obtain ⟨ad, hA, hab, hc0, hc1⟩ := HC.out p hpl
      have hab2 : (ad.add (p * 2)).block < N := by rw [show (ad.add (p * 2)).block = ad.block by unfold Addr.add; split <;> rfl]; exact hab
      have q0 := (hnx.out (ad.add (p * 2)) hab2).trans hc0
      have q1 := (hnx.out ⟨(ad.add (p * 2)).block, (ad.add (p * 2)).off + 1, none⟩ hab2).trans hc1
      clear hc0 hc1 hab hab2
      obtain ⟨fn, tmps, assign, body, hy, hR⟩ := hY pre ⟨k, hlt⟩ wr hJs (by rw [← List.length_map (f := fun x : Fin xs.length => x.1), hpre.out, List.length_range]; exact hlt)
      obtain ⟨e0, he0⟩ : ∃ e, e = rd_T82 xs (p : Int) := ⟨_, rfl⟩
      have hy2 : (Instr.yield l #[.int .i64 (p : Int), .agg #[.int .i64 e0.f0, .string e0.f1]]).run Try.prog wr = .ok (.round l fn tmps assign body) wr := by rw [he0, hp]; exact hy
      rw [← he0] at q0 q1
      clear hy he0 hp
      subst hA
      have k0 : (0 : Int) ≤ (p : Int) := Int.natCast_nonneg p
      have k1 : (p : Int) < (xs.length : Int) := by omega
      gi_wp2
      all_goals
        refine hR.mono ?_
        rintro e W3 (⟨rfl, hJ3, hk3⟩ | ⟨rfl, hJx3⟩)
        · gi_wp2
          go_roundw
          case rel =>
            refine ⟨k + 1, pre ++ [⟨k, hlt⟩], by omega, by go_num, ⟨by rw [List.range_succ, List.map_append, hpre.out]; rfl⟩, hJ3, ⟨hnx.out.trans hk3⟩⟩
          case measure => simp [intOf]; omega
        · gi_wp2
          refine bodyPost_ret (results_none rfl _ _ _) rfl ?_
          exact ⟨⟨_, rfl⟩, .inr ⟨_, ⟨k + 1, by omega, by rw [List.range_succ, List.map_append, hpre.out]; rfl⟩, hJx3⟩⟩
    · obtain rfl : k = xs.length := by omega
      have e1 : (xs.length : Int) - 1 - (xs.length : Int) = -1 := by omega
      rw [e1]
      clear e1
      gi_wp2
      go_end0
      exact ⟨⟨_, rfl⟩, .inl ⟨_, hpre.out, hJs⟩⟩
end
theorem cell_blk_lt {w : World} {a : Addr} {v : Value} (h : w.cell? a = some v) : a.block < w.heap.size := by
  rcases Nat.lt_or_ge a.block w.heap.size with h1 | h1
  · exact h1
  · have : w.heap[a.block]? = none := Array.getElem?_eq_none h1
    simp [World.cell?, this] at h
theorem back_stops (F : Fence) (n : Nat) (hF : F.fn 115) (hro : F.round = none) (hn : 1 ≤ n) (Bs : Nat) (A : Option Addr) (c : Nat) (xs : List S82) (w : World) (hs : Bs < w.heap.size)
    (hBs : w.cell? ⟨Bs, 0, none⟩ = some (.slice A xs.length c)) (hC : Kd.C k82 w A xs.length xs) :
    SeqStopsK F n Try.prog 115 #[.pointer (some ⟨Bs, 0, none⟩)] (fun x : Fin xs.length => bkV xs x.1) (KpD w.heap.size) (fun ys => ys.map (·.1) = List.range xs.length) (fun pre => ∃ k, k ≤ xs.length ∧ pre.map (·.1) = List.range k) xs.length w := fun l J Jx W hW hJ _ hY h0 =>
  back1_in F n hF hro hn l Bs A c w.heap.size xs hC.2.1 hs J Jx hY W ((hW.cell (p := ⟨Bs, 0, none⟩) hs).trans hBs) (fun k hk => by
    obtain ⟨ad, e, q0, q1⟩ := at_T82 hC (k : Int) (by omega) (by omega)
    rw [Int.toNat_natCast] at q0 q1
    have b1 : (ad.add (k * 2)).block = ad.block := by unfold Addr.add; split <;> rfl
    have b0 := cell_blk_lt q0
    exact ⟨ad, e, by rw [← b1]; exact b0, (hW.cell b0).trans q0, (hW.cell (p := ⟨(ad.add (k * 2)).block, (ad.add (k * 2)).off + 1, none⟩) b0).trans q1⟩) h0
theorem back_calls (a : Option Addr) (len cap : Nat) (w : World) :
    Calls Try.prog 106 #[.slice a len cap] w fun e w' => e = .returned (.func (.func 115) #[] #[.pointer (some ⟨w.heap.size, 0, none⟩)]) ∧ w' = w.alloc (.cells #[.slice a len cap] 41) := by
  go_enter Try.func106, Try.ntmps106
  go_wp2
  go_ret
  exact ⟨rfl, rfl⟩
def seekV (l0 : List ByteArray) (xs : List S82) (x : Int) : Nat → ByteArray
  | 0 => rdOf ByteArray.empty l0 x
  | j + 1 => if (rd_T82 xs (j : Int)).f0 = x then (rd_T82 xs (j : Int)).f1 else seekV l0 xs x j
theorem seek_skip (l0 : List ByteArray) (xs : List S82) (x : Int) : ∀ k, k ≤ xs.length → (∀ i, i < k → (bk xs i).f0 ≠ x) → seekV l0 xs x xs.length = seekV l0 xs x (xs.length - k)
  | 0, _, _ => rfl
  | k + 1, hk, h => by
    rw [seek_skip l0 xs x k (by omega) (fun i hi => h i (by omega))]
    obtain ⟨q, hq⟩ : ∃ q, xs.length - k = q + 1 := ⟨xs.length - k - 1, by omega⟩
    have h1 := h k (by omega)
    unfold bk at h1
    rw [show xs.length - 1 - k = q by omega] at h1
    rw [hq, show xs.length - (k + 1) = q by omega]
    show (if _ then _ else _) = _
    rw [if_neg h1]
theorem seek_hit (l0 : List ByteArray) (xs : List S82) (x : Int) (k : Nat) (hk : k < xs.length) (h : ∀ i, i < k → (bk xs i).f0 ≠ x) (h1 : (bk xs k).f0 = x) : seekV l0 xs x xs.length = (bk xs k).f1 := by
  rw [seek_skip l0 xs x k (by omega) h]
  obtain ⟨q, hq⟩ : ∃ q, xs.length - k = q + 1 := ⟨xs.length - k - 1, by omega⟩
  unfold bk at h1 ⊢
  rw [show xs.length - 1 - k = q by omega] at h1 ⊢
  rw [hq]
  show (if _ then _ else _) = _
  rw [if_pos h1]
theorem rd_string_at {w : World} {A0 : Option Addr} {l0 : List ByteArray} (hr0 : Kd.C Kd.string w A0 l0.length l0) (k : Nat) (hk : k < l0.length) :
    ∃ ad, A0 = some ad ∧ w.cell? (ad.add k) = some (.string l0[k]) := by
  obtain ⟨ad, c, rfl, _, hc, hw⟩ := Kd.C_get hr0 ByteArray.empty (k : Int) (by omega) (by omega)
  refine ⟨ad, rfl, ?_⟩
  have hc : c = [.string (l0.getD (k : Int).toNat ByteArray.empty)] := hc
  subst hc
  have := hw 0 _ rfl
  simpa [Kd.string, Kd.scalar, List.getD_eq_getElem?_getD, hk] using this
def rdI (l1 : List S82) (x : Int) (g : Nat) (w : World) (D : Array Value) (pre : List (Fin l1.length)) (W : World) : Prop :=
  Aside0 (∀ y ∈ pre, (bk l1 y.1).f0 ≠ x) ∧ Aside0 (W.heap[g]? = some (.cells D 43 (0, 0))) ∧ Aside0 (W.heap[g + 1]? = some (.cells #[.int .i64 x] 3 (0, 0))) ∧ Aside0 (W.heap[g + 1 + 1]? = some (.cells #[.string ⟨#[]⟩] 9 (0, 0))) ∧ Aside0 (Below g w W) ∧ Aside0 (g + 3 < W.heap.size)
def rdX (l1 : List S82) (x : Int) (g : Nat) (w : World) (c : Code) (pre : List (Fin l1.length)) (W : World) : Prop :=
  Aside0 (c = .ret ∧ ∃ q y, pre = q ++ [y] ∧ (∀ z ∈ q, (bk l1 z.1).f0 ≠ x) ∧ (bk l1 y.1).f0 = x ∧ W.heap[g + 1 + 1]? = some (.cells #[.string (bk l1 y.1).f1] 9 (0, 0))) ∧ Aside0 (Below g w W)
def rdA (l1 : List S82) (g : Nat) (y : Fin l1.length) (a : Act) (W : World) : Prop :=
  ∃ (b : Nat) (u0 u1 u2 u5 u7 u8 u9 u10 u11 u12 u13 u14 u15 u16 u17 u18 u19 u20 u21 u22 : Value), a = { tmps := #[u0, u1, u2, .pointer (some ⟨g + 1, 0, none⟩), .pointer (some ⟨g + 1 + 1, 0, none⟩), u5, .pointer (some ⟨b, 0, none⟩), u7, u8, u9, u10, u11, u12, u13, u14, u15, u16, u17, u18, u19, u20, u21, u22], defers := [] } ∧ Aside0 (W.heap[b]? = some (.cells #[.int .i64 (bk l1 y.1).f0, .string (bk l1 y.1).f1] 82 (0, 0)))
theorem rdI_own (l1 : List S82) (x : Int) (g : Nat) (w : World) (D : Array Value) (B : Nat) (h0 : g ≤ w.heap.size) (h1 : g ≤ B) : OwnFrom B (rdI l1 x g w D) := fun s W W' row ⟨h1, h2, h3, h4, h5, h6⟩ hg hr =>
  ⟨h1, ⟨(grownBy_keeps_cells hg (fun r e => (hr r e).2) h2.out rfl).trans h2.out⟩, ⟨(grownBy_keeps_cells hg (fun r e => (hr r e).2) h3.out rfl).trans h3.out⟩, ⟨(grownBy_keeps_cells hg (fun r e => (hr r e).2) h4.out rfl).trans h4.out⟩,
    ⟨ownFrom_below (β := Unit) h0 (by assumption) () W W' row h5.out hg hr⟩, ⟨Nat.lt_of_lt_of_le h6.out hg.size⟩⟩
theorem rdX_own (l1 : List S82) (x : Int) (g : Nat) (w : World) (c : Code) (B : Nat) (h0 : g ≤ w.heap.size) (h1 : g ≤ B) : OwnFrom B (rdX l1 x g w c) := fun s W W' row ⟨⟨hc, q, y, e, hq, hy, hh⟩, h5⟩ hg hr =>
  ⟨⟨hc, q, y, e, hq, hy, (grownBy_keeps_cells hg (fun r e => (hr r e).2) hh rfl).trans hh⟩, ⟨ownFrom_below (β := Unit) h0 (by assumption) () W W' row h5.out hg hr⟩⟩
theorem rdA_own (l1 : List S82) (g : Nat) (y : Fin l1.length) (a : Act) (B : Nat) : OwnFrom B (fun (_ : Unit) W => rdA l1 g y a W) := fun s W W' row ⟨b, u0, u1, u2, u5, u7, u8, u9, u10, u11, u12, u13, u14, u15, u16, u17, u18, u19, u20, u21, u22, e, hh⟩ hg hr =>
  ⟨b, u0, u1, u2, u5, u7, u8, u9, u10, u11, u12, u13, u14, u15, u16, u17, u18, u19, u20, u21, u22, e, ⟨(grownBy_keeps_cells hg (fun r e => (hr r e).2) hh.out rfl).trans hh.out⟩⟩
theorem two_set (t : Array Value) (v u : Value) : (#[10, 11].zip #[v, u]).foldl (fun t (x : Tmp × Value) => t.setIfInBounds x.1 x.2) t = (t.setIfInBounds 10 v).setIfInBounds 11 u := by simp
theorem rd_start (l1 : List S82) (x : Int) (w : World) (D : Array Value) (S : Value) : (((((w.alloc (.cells D 43)).alloc (.cells #[.int .i64 x] 3)).alloc (.cells #[.string ⟨#[]⟩] 9)).alloc (.cells #[S] 41)).heap.size = w.heap.size + 4) ∧ rdI l1 x w.heap.size w D [] ((((w.alloc (.cells D 43)).alloc (.cells #[.int .i64 x] 3)).alloc (.cells #[.string ⟨#[]⟩] 9)).alloc (.cells #[S] 41)) ∧ ((((w.alloc (.cells D 43)).alloc (.cells #[.int .i64 x] 3)).alloc (.cells #[.string ⟨#[]⟩] 9)).alloc (.cells #[S] 41)).cell? ⟨w.heap.size + 1 + 1 + 1, 0, none⟩ = some S ∧ Below w.heap.size w ((((w.alloc (.cells D 43)).alloc (.cells #[.int .i64 x] 3)).alloc (.cells #[.string ⟨#[]⟩] 9)).alloc (.cells #[S] 41)) := by
  have B : Below w.heap.size w ((((w.alloc (.cells D 43)).alloc (.cells #[.int .i64 x] 3)).alloc (.cells #[.string ⟨#[]⟩] 9)).alloc (.cells #[S] 41)) := below_alloc (below_alloc (below_alloc (below_alloc (Below.refl _ _) _) _) _) _
  refine ⟨by simp, ⟨⟨fun _ h => by cases h⟩, ⟨?_⟩, ⟨?_⟩, ⟨?_⟩, ⟨B⟩, ⟨by simp⟩⟩, ?_, B⟩
  · exact blk_alloc (blk_alloc (blk_alloc (blk_new w _) _) _) _
  · exact blk_alloc (blk_alloc (blk_new2 w _ _) _) _
  · exact blk_alloc (blk_new3 w _ _ _) _
  · exact blk_cell (blk_new4 w _ _ _ _) 0
set_option maxRecDepth 100000 in
set_option maxHeartbeats 2000000 in
theorem diskRead_in (A0 : Option Addr) (c0 : Nat) (l0 : List ByteArray) (A1 : Option Addr) (c1 : Nat) (l1 : List S82) (A2 : Option Addr) (c2 : Nat) (l2 : List ByteArray) (x : Int) (w : World) (hr0 : Kd.C Kd.string w A0 l0.length l0) (hc0 : l0.length ≤ c0) (hr1 : Kd.C k82 w A1 l1.length l1) (hc1 : l1.length ≤ c1) (hx0 : 0 ≤ x) (hx1 : x < l0.length) :
    Calls Try.prog 82 #[.agg #[.slice A0 l0.length c0, .slice A1 l1.length c1, .slice A2 l2.length c2], .int .i64 x] w fun e w' => e = .returned (.string (seekV l0 l1 x l1.length)) ∧ Below w.heap.size w w' := by
  have HR0 := Aside0.mk hr0
  have HR1 := Aside0.mk hr1
  have HC0 := Aside0.mk hc0
  have HC1 := Aside0.mk hc1
  have HX0 := Aside0.mk hx0
  have HX1 := Aside0.mk hx1
  clear hr0 hr1 hc0 hc1 hx0 hx1
  refine (callsIn_wide (n := 3)).1 ?_
  refine callsIn_of_wp_marks Try.func82 rfl trivial ?_ rfl
  refine wpIn_wide.2 ?_
  simp only [Try.ntmps82, List.size_toArray, List.length_cons, List.length_nil, Nat.reduceAdd, Nat.reduceSub, Array.replicate_succ, Array.replicate_zero, List.push_toArray, List.append_toArray, List.nil_append, List.cons_append]
  go_wp2_with fail
  refine (back_calls _ _ _ _).mono ?_
  rintro e w1 ⟨rfl, rfl⟩
  go_wp2_with fail
  obtain ⟨hz3, I0, hbs, hb3⟩ := rd_start l1 x w #[.slice A0 l0.length c0, .slice A1 l1.length c1, .slice A2 l2.length c2] (.slice A1 l1.length c1)
  generalize hw : (((w.alloc (.cells #[.slice A0 l0.length c0, .slice A1 l1.length c1, .slice A2 l2.length c2] 43)).alloc (.cells #[.int .i64 x] 3)).alloc (.cells #[.string ⟨#[]⟩] 9)).alloc (.cells #[.slice A1 l1.length c1] 41) = w3 at hz3 I0 hbs hb3 ⊢
  clear hw
  have HBB := Aside0.mk hb3
  have HZ3 := Aside0.mk hz3
  have h3 : w.heap.size + 3 < w3.heap.size := by omega
  clear hz3
  have hr1 := Kd.C_below HR1.out hb3
  clear hb3
  refine (wpIn_wide (n := 3)).1 ?_
  refine wpIn_rangeFunc_ownH (F := Fence.wide) (n := 3) (w := w3) (w0 := w3) (gf := 115) (lb := #[.pointer (some ⟨w.heap.size + 1 + 1 + 1, 0, none⟩)]) rfl (by decide) rfl trivial (enters_of Try.func115 (by kernel_rfl) rfl)
    (back_stops Fence.wide 2 trivial rfl (by decide) (w.heap.size + 1 + 1 + 1) A1 c1 l1 w3 (by omega) hbs hr1)
    (fun h k => KpD.trans h k) (KpD.put (Nat.le_refl _)) (Below.refl _ _) (fun _ => rfl)
    (rdI l1 x w.heap.size w #[.slice A0 l0.length c0, .slice A1 l1.length c1, .slice A2 l2.length c2]) (rdX l1 x w.heap.size w) (rdI_own _ _ _ _ _ _ (Nat.le_refl _) (by omega)) (fun c => rdX_own _ _ _ _ _ _ (Nat.le_refl _) (by omega)) I0
    (rdA l1 w.heap.size) (fun y a' => rdA_own _ _ _ _ _) ?assign ?body ?done ?stop
  case assign =>
    intro l pre y W K hI hK
    refine region_round (l := [_, _]) (by kernel_rfl) (by rintro ⟨_, _, h⟩; exact h) ?_
    unfold bkV
    rw [two_set]
    simp only [List.setIfInBounds_toArray, List.set_cons_succ, List.set_cons_zero]
    have HW := Aside0.mk hI.2.2.2.2.2.out
    clear h3
    go_wp2_with fail
    refine hK _ _ (keepsFrom_below (below_alloc (Below.refl _ _) _)) (fun ad ha => (below_alloc (Below.refl W.heap.size W) _).cell (by have := HZ3.out; have := HW.out; omega)) ?_ ?_
    · exact OwnFrom.alloc (B := w3.heap.size) (rdI_own _ _ _ _ _ _ (Nat.le_refl _) (by have := HZ3.out; omega)) _ hI
    · exact ⟨W.heap.size, _, _, _, _, _, _, _, _, _, _, _, _, _, _, _, _, _, _, _, _, rfl, ⟨blk_new W _⟩⟩
  case body =>
    rintro l pre y a' W hl hlo hI ⟨b, u0, u1, u2, u5, u7, u8, u9, u10, u11, u12, u13, u14, u15, u16, u17, u18, u19, u20, u21, u22, rfl, hb⟩ hlen
    obtain ⟨I1, I2, I3, I4, I5, I6⟩ := hI
    clear hl hlo hlen I0 hbs h3 hr1
    have c3 : W.cell? ⟨w.heap.size + 1, 0, none⟩ = some (.int .i64 x) := blk_cell I3.out 0
    have c4 : W.cell? ⟨w.heap.size + 1 + 1, 0, none⟩ = some (.string ⟨#[]⟩) := blk_cell I4.out 0
    have f4 := blk_frozen I4.out 0
    have p0 : W.cell? ⟨b, 0, none⟩ = some (.int .i64 (bk l1 y.1).f0) := blk_cell hb.out 0
    have p1 : W.cell? ⟨b, 1, none⟩ = some (.string (bk l1 y.1).f1) := blk_cell hb.out 1
    obtain ⟨e1, he1⟩ : ∃ e, e = bk l1 y.1 := ⟨_, rfl⟩
    rw [← he1] at p0 p1
    have HE := Aside0.mk he1
    clear he1
    refine wpIn_block ?_
    refine wpIn_seq ?_
    refine region_round (l := [_, _, _, _]) (by kernel_rfl) (by rintro ⟨_, _, h⟩; exact h) ?_
    by_cases hx : e1.f0 = x
    · have hd : (e1.f0 == x) = true := beq_iff_eq.2 hx
      have HX := Aside0.mk hx
      clear hx
      go_wp2_with fail
      refine wpIn_cond_true rfl ?_
      refine wpIn_seq ?_
      refine region_round (l := [_, _, _]) (by kernel_rfl) (by rintro ⟨_, _, h⟩; exact h) ?_
      go_wp2_with fail
      refine wpIn_ret ?_
      refine ⟨⟨by simp, fun k o _ hk ho => ?_⟩, ⟨rfl, pre, y, rfl, I1.out, by rw [← HE.out]; exact HX.out, ?_⟩, ⟨below_set I5.out (by show w.heap.size ≤ w.heap.size + 1 + 1; omega)⟩⟩
      · have hne : k ≠ w.heap.size + 1 + 1 := by
          rintro rfl
          rw [I4.out] at hk
          cases hk
          cases ho
        exact (Below.heap_setCell _ _ _ k hne).trans hk
      · rw [← HE.out]
        exact blk_set I4.out 0 _
    · have hd : (e1.f0 == x) = false := by rw [beq_eq_false_iff_ne]; exact hx
      have HX := Aside0.mk hx
      clear hx
      go_wp2_with fail
      refine wpIn_cond_false rfl ?_
      refine wpIn_skip ?_
      refine ⟨KeepsFrom.refl _ _, KpD.refl _ _, ⟨fun z hz => ?_⟩, I2, I3, I4, I5, I6⟩
      rcases List.mem_append.1 hz with h | h
      · exact I1.out z h
      · obtain rfl : z = y := by simpa using h
        rw [← HE.out]
        exact HX.out
  case done =>
    rintro D xs W hD hxs ⟨I1, I2, I3, I4, I5, I6⟩ hK
    clear I0 hbs hr1
    have hv : seekV l0 l1 x l1.length = rdOf ByteArray.empty l0 x := by
      rw [seek_skip l0 l1 x l1.length (Nat.le_refl _) (fun i hi => ?_), Nat.sub_self]
      · rfl
      · obtain ⟨z, hz, rfl⟩ : ∃ z ∈ xs, z.1 = i := by
          have : i ∈ xs.map (·.1) := by rw [hxs]; exact List.mem_range.2 hi
          exact List.mem_map.1 this
        exact I1.out z hz
    have HV := Aside0.mk hv
    have HK := Aside0.mk hK
    have HD := Aside0.mk hD
    clear hv hxs hK hD I1
    obtain ⟨j, rfl⟩ : ∃ j : Nat, x = (j : Int) := ⟨x.toNat, by have := HX0.out; omega⟩
    have hj : j < l0.length := by have := HX1.out; omega
    obtain ⟨ad, hA, q0⟩ := rd_string_at (Kd.C_below HR0.out I5.out) j hj
    subst hA
    have hrd : rdOf ByteArray.empty l0 (j : Int) = l0[j] := by simp [rdOf, hj]
    have HRD := Aside0.mk hrd
    clear hrd
    obtain ⟨v, hv⟩ : ∃ v, v = l0[j] := ⟨_, rfl⟩
    rw [← hv] at q0 HRD
    clear hv
    have j0 : (0 : Int) ≤ (j : Int) := Int.natCast_nonneg j
    have j1 : (j : Int) < (l0.length : Int) := by omega
    have d0 : W.cell? ⟨w.heap.size, 0, none⟩ = some (.slice (some ad) l0.length c0) := blk_cell I2.out 0
    have c3 : W.cell? ⟨w.heap.size + 1, 0, none⟩ = some (.int .i64 (j : Int)) := blk_cell I3.out 0
    have c4 : W.cell? ⟨w.heap.size + 1 + 1, 0, none⟩ = some (.string ⟨#[]⟩) := blk_cell I4.out 0
    have f4 := blk_frozen I4.out 0
    go_wp2_with fail
    have hD1 : (W.setCell ⟨w.heap.size + 1 + 1, 0, none⟩ (.string v)).heap[D]? = some (.deferred (some [])) := (Below.heap_setCell _ _ _ D (by show D ≠ w.heap.size + 1 + 1; have := HD.out; have := HZ3.out; omega)).trans HK.out
    have q1 : ((W.setCell ⟨w.heap.size + 1 + 1, 0, none⟩ (.string v)).putObj D (.deferred none)).cell? ⟨w.heap.size + 1 + 1, 0, none⟩ = some (.string v) := (World.cell?_of_block (World.putObj_heap_other (by show w.heap.size + 1 + 1 ≠ D; have := HD.out; have := HZ3.out; omega))).trans (blk_cell (blk_set I4.out 0 _) 0)
    have hB1 : Below w.heap.size w ((W.setCell ⟨w.heap.size + 1 + 1, 0, none⟩ (.string v)).putObj D (.deferred none)) := (below_set I5.out (by show w.heap.size ≤ w.heap.size + 1 + 1; omega)).trans (belowK_b (w := w) (Nat.le_refl _) _ D _ _ (by have := HD.out; have := HZ3.out; omega) hD1 rfl rfl)
    refine ⟨by simp, .inl ⟨_, _, rfl, run_takeDeferred hD1, ?_⟩⟩
    refine ⟨.string v, ?_, by rw [HV.out, HRD.out], hB1⟩
    clear d0 c3 c4 f4 q0
    have hres : Try.f82.results = #[.cell 4 9] := by kernel_rfl
    simp only [results, hres]
    go_simp
  case stop =>
    rintro D c pre W hD ⟨k, hk, hpre⟩ ⟨⟨rfl, q, y, rfl, hq, hy, hh⟩, hB⟩ hK
    clear I0 hbs hr1
    refine wpIn_ret ?_
    simp only [Exit.inBlock, Exit.then]
    have hv : seekV l0 l1 x l1.length = (bk l1 y.1).f1 := by
      rw [List.map_append] at hpre
      have hl : k = q.length + 1 := by have := congrArg List.length hpre; simp at this; omega
      subst hl
      rw [List.range_succ] at hpre
      obtain ⟨h1, h2⟩ := List.append_inj' hpre rfl
      have h3 : y.1 = q.length := by simpa using h2
      refine (seek_hit l0 l1 x y.1 y.2 (fun i hi => ?_) hy)
      obtain ⟨z, hz, rfl⟩ : ∃ z ∈ q, z.1 = i := by
        have : i ∈ q.map (·.1) := by rw [h1]; exact List.mem_range.2 (by omega)
        exact List.mem_map.1 this
      exact hq z hz
    have q1 : (W.putObj D (.deferred none)).cell? ⟨w.heap.size + 1 + 1, 0, none⟩ = some (.string (bk l1 y.1).f1) := (World.cell?_of_block (World.putObj_heap_other (by show w.heap.size + 1 + 1 ≠ D; have := HZ3.out; omega))).trans (blk_cell hh 0)
    have hB1 : Below w.heap.size w (W.putObj D (.deferred none)) := hB.out.trans (belowK_b (w := w) (Nat.le_refl _) W D _ _ (by have := HZ3.out; omega) hK rfl rfl)
    refine ⟨by simp, .inl ⟨_, _, rfl, run_takeDeferred hK, ?_⟩⟩
    refine ⟨.string (bk l1 y.1).f1, ?_, by rw [hv], hB1⟩
    obtain ⟨v, hv2⟩ : ∃ v, v = (bk l1 y.1).f1 := ⟨_, rfl⟩
    rw [← hv2] at q1 ⊢
    clear hv hv2
    have hres : Try.f82.results = #[.cell 4 9] := by kernel_rfl
    simp only [results, hres]
    go_simp
def impl_Disk_read.f (l0_0 : List ByteArray) (l0_1 : List S82) (l0_2 : List ByteArray) (a1 : Int) : Option ByteArray :=
  if 0 ≤ a1 then (if a1 < (l0_0.length : Int) then some (seekV l0_0 l0_1 a1 l0_1.length) else none) else none
theorem impl_Disk_read.calls (A0_0 : Option Addr) (c0_0 : Nat) (l0_0 : List ByteArray) (A0_1 : Option Addr) (c0_1 : Nat) (l0_1 : List S82) (A0_2 : Option Addr) (c0_2 : Nat) (l0_2 : List ByteArray) (a1 : Int) (r : ByteArray) (w : World) (hr0_0 : Kd.C Kd.string w A0_0 l0_0.length l0_0) (hc0_0 : l0_0.length ≤ c0_0) (hr0_1 : Kd.C k82 w A0_1 l0_1.length l0_1) (hc0_1 : l0_1.length ≤ c0_1) (hr0_2 : Kd.C Kd.string w A0_2 l0_2.length l0_2) (hc0_2 : l0_2.length ≤ c0_2) (h : impl_Disk_read.f l0_0 l0_1 l0_2 a1 = some r) :
    Calls Try.prog 82 #[.agg #[.slice A0_0 l0_0.length c0_0, .slice A0_1 l0_1.length c0_1, .slice A0_2 l0_2.length c0_2], .int .i64 a1] w fun e w' => e = .returned (.string r) ∧ Below w.heap.size w w' := by
  unfold impl_Disk_read.f at h
  split at h
  · rename_i h0
    split at h
    · rename_i h1
      injection h with h
      subst h
      exact diskRead_in A0_0 c0_0 l0_0 A0_1 c0_1 l0_1 A0_2 c0_2 l0_2 a1 w hr0_0 hc0_0 hr0_1 hc0_1 h0 h1
    · cases h
  · cases h
end Go.Proofs.Ytbpefnfeiidioaa.P
namespace Go.Proofs.Ytbpefnfeiidioaa.Pg
open Go.RowKit Go.Proofs.Ytbpefnfeiidioaa.P Go.Proofs.YtbpefnfeiidioaaW.PrintWords Go.Proofs.YtbpefnfeiidioaaW.PrintLast Go.Proofs.YtbpefnfeiidioaaW.PrintMore
set_option linter.unusedVariables false
set_option linter.unusedSimpArgs false
theorem l05_run (l0 : List ByteArray) (l1 : List PI) (l2 : List ByteArray) (x : Int) (hl : l1.length ≤ 1048576) (h0 : 0 ≤ x) (h1 : x < (l0.length : Int)) : ∀ (j k : Nat), j ≤ l1.length → j < k → spec_l05Read.l0 k x ((j : Int) - 1) l0 l1 l2 = some (seekV l0 l1 x j)
  | 0, k, hj, hk => by
    obtain ⟨k, rfl⟩ : ∃ m, k = m + 1 := ⟨k - 1, by omega⟩
    simp only [spec_l05Read.l0]
    rw [if_neg (by omega), if_pos h0, if_pos h1]
    rfl
  | j + 1, k, hj, hk => by
    obtain ⟨k, rfl⟩ : ∃ m, k = m + 1 := ⟨k - 1, by omega⟩
    have ih := l05_run l0 l1 l2 x hl h0 h1 j k (by omega) (by omega)
    have hw : wrap64 ((j : Int) - 1) = (j : Int) - 1 := by unfold wrap64; omega
    simp only [spec_l05Read.l0]
    rw [show ((j + 1 : Nat) : Int) - 1 = (j : Int) by omega, if_pos (by omega), if_pos (by omega), if_pos (by omega), hw, ih]
    show _ = some (if _ then _ else _)
    by_cases h : (rd_T82 l1 (j : Int)).f0 = x
    · rw [if_pos h, if_pos h]
    · rw [if_neg h, if_neg h]
theorem l05_eq (k : Nat) (l0 : List ByteArray) (l1 : List PI) (l2 : List ByteArray) (x : Int) (hl : l1.length ≤ 1048576) (h0 : 0 ≤ x) (h1 : x < (l0.length : Int)) (hk : 1048576 < k) : spec_l05Read.f k l0 l1 l2 x = some (seekV l0 l1 x l1.length) := by
  have hw : wrap64 ((l1.length : Int) - 1) = (l1.length : Int) - 1 := by unfold wrap64; omega
  unfold spec_l05Read.f
  rw [hw]
  exact l05_run l0 l1 l2 x hl h0 h1 l1.length k (Nat.le_refl _) (by omega)
theorem read_eq (l0 : List ByteArray) (l1 : List PI) (l2 : List ByteArray) (x : Int) (h0 : 0 ≤ x) (h1 : x < (l0.length : Int)) : impl_Disk_read.f l0 l1 l2 x = some (seekV l0 l1 x l1.length) := by
  unfold impl_Disk_read.f
  rw [if_pos h0, if_pos h1]
end Go.Proofs.Ytbpefnfeiidioaa.Pg

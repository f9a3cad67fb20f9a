/- Laid by a program of this session: of Pt6 what this law uses. -/
import Derived.Test.YtlfpogbonmddmaaZFsM11
import Derived.Test.YtlfpogbonmddmaaZFsPt3
namespace Go.Proofs.Ytlfpogbonmddmaa.P
open Go.RowKit Go.Proofs.YtlfpogbonmddmaaW.PrintWords Go.Proofs.YtlfpogbonmddmaaW.PrintLast Go.Proofs.YtlfpogbonmddmaaW.PrintMore
attribute [local go_sem] min2_int min_two
set_option linter.unusedVariables false
set_option linter.unusedSimpArgs false
mutual
def spec_l01Fast.l0 : Nat → List Int → List Int → Int → Option (List Int)
 | 0, _, _, _ => none
 | k + 1, x0, x3, x4 => if x4 < 16 then (if 0 ≤ x4 then (if x4 < (x0.length : Int) then (if 0 ≤ (wrap64 (x4 + 1)) then (if (wrap64 (x4 + 1)) < (x0.length : Int) then (if 0 ≤ (wrap64 (x4 + 2)) then (if (wrap64 (x4 + 2)) < (x0.length : Int) then (if 0 ≤ (wrap64 (x4 + 3)) then (if (wrap64 (x4 + 3)) < (x0.length : Int) then (spec_l01Fast.l1 k x0 x3 x4 (Go.bits .xor .i64 (Go.bits .xor .i64 (Go.bits .xor .i64 (rd x0 x4) (rd x0 (wrap64 (x4 + 1)))) (rd x0 (wrap64 (x4 + 2)))) (rd x0 (wrap64 (x4 + 3)))) 0) else (none)) else (none)) else (none)) else (none)) else (none)) else (none)) else (none)) else (none)) else (some x3)
def spec_l01Fast.l1 : Nat → List Int → List Int → Int → Int → Int → Option (List Int)
 | 0, _, _, _, _, _ => none
 | k + 1, x0, x3, x4, x5, x6 => if x6 < 4 then (if 0 ≤ (wrap64 (x4 + x6)) then (if (wrap64 (x4 + x6)) < (x0.length : Int) then (if 0 ≤ (wrap64 (x4 + (Int.tmod (wrap64 (x6 + 1)) 4))) then (if (wrap64 (x4 + (Int.tmod (wrap64 (x6 + 1)) 4))) < (x0.length : Int) then ((spec_l01Double.f (Go.bits .xor .i64 (rd x0 (wrap64 (x4 + x6))) (rd x0 (wrap64 (x4 + (Int.tmod (wrap64 (x6 + 1)) 4)))))).bind fun t146 => (if (wrap64 (x4 + x6)) < (x3.length : Int) then (spec_l01Fast.l1 k x0 (x3.set ((wrap64 (x4 + x6)) : Int).toNat (Go.bits .xor .i64 (Go.bits .xor .i64 (rd x0 (wrap64 (x4 + x6))) x5) t146)) x4 x5 (wrap64 (x6 + 1))) else (none))) else (none)) else (none)) else (none)) else (none)) else (spec_l01Fast.l0 k x0 x3 (wrap64 (x4 + 4)))
end
def spec_l01Fast.f (k : Nat) (l0 : List Int) : Option (List Int) := if 16 ≤ 35184372088832 then (spec_l01Fast.l0 k l0 (List.replicate 16 0) 0) else (none)
def spec_l01Fast.T5 : Bool × List (List Nat × List Nat) := (true, [([], []), ([], []), ([0, 1], [0, 1]), ([2], [2]), ([], []), ([], []), ([5], [5]), ([4, 6], [4, 6]), ([7], [7]), ([3, 8], [3, 8]), ([], []), ([], []), ([11], [11]), ([10, 12], [10, 12]), ([13], [13]), ([9, 14], [9, 14]), ([], []), ([], []), ([17], [17]), ([16, 18], [16, 18]), ([19], [19]), ([15, 20], [15, 20]), ([21, 0, 1, 2, 3, 4, 5, 6, 7, 8, 9, 10, 11, 12, 13, 14, 15, 16, 17, 18, 19, 20, 21], [21])])
def spec_l01Fast.B5 : List Nat := [0, 0, 3, 7, 0, 0, 32, 112, 240, 511, 0, 0, 2048, 7168, 15360, 32767, 0, 0, 131072, 458752, 983040, 2097151, 4194303]
theorem spec_l01Fast.tab5 : rtab .any (opsOf Try.f113 5) = spec_l01Fast.T5 := by kernel_rfl
theorem spec_l01Fast.bits5 : waitsOk spec_l01Fast.T5.2 spec_l01Fast.B5 = true := by kernel_rfl
def spec_l01Fast.T9 : Bool × List (List Nat × List Nat) := (true, [([], []), ([], []), ([], []), ([1, 2], [1, 2]), ([], []), ([], []), ([], []), ([5, 6], [5, 6]), ([4, 7], [4, 7]), ([8], [8]), ([], []), ([9, 10], [9, 10]), ([], []), ([], []), ([], []), ([13, 14], [13, 14]), ([12, 15], [12, 15]), ([16], [16]), ([], []), ([], []), ([], []), ([20], [20]), ([21], [21]), ([19, 22], [19, 22]), ([18, 23], [18, 23]), ([24], [24]), ([17, 25], [17, 25]), ([26], [26]), ([11, 27], [11, 27]), ([0, 3, 0, 1, 2, 3, 4, 5, 6, 7, 8, 9, 10, 11, 12, 13, 14, 15, 16, 17, 18, 19, 20, 21, 22, 23, 24, 25, 26, 27, 28], [0, 3]), ([29, 28, 27, 0, 1, 2, 3, 4, 5, 6, 7, 8, 9, 10, 11, 12, 13, 14, 15, 16, 17, 18, 19, 20, 21, 22, 23, 24, 25, 26, 27, 28], [28, 29])])
def spec_l01Fast.B9 : List Nat := [0, 0, 0, 6, 0, 0, 0, 96, 240, 496, 0, 2032, 0, 0, 0, 24576, 61440, 126976, 0, 0, 0, 1048576, 3145728, 7864320, 16515072, 33292288, 67104768, 134213632, 268435440, 536870911, 1073741823]
theorem spec_l01Fast.tab9 : rtab .any (opsOf Try.f113 9) = spec_l01Fast.T9 := by kernel_rfl
theorem spec_l01Fast.bits9 : waitsOk spec_l01Fast.T9.2 spec_l01Fast.B9 = true := by kernel_rfl
set_option maxHeartbeats 8000000 in
set_option maxRecDepth 100000 in
theorem spec_l01Fast.calls (k : Nat) (A0 : Option Addr) (c0 : Nat) (l0 : List Int) (r : List Int) (w : World) (hr0 : Kd.C (Kd.int .i64) w A0 l0.length l0) (hc0 : l0.length ≤ c0) (h : spec_l01Fast.f k l0 = some r) :
   Calls Try.prog 113 #[.slice A0 l0.length c0] w fun e w' => ∃ v0_ : Value, e = .returned (v0_) ∧ Kd.R (Kd.int .i64) 3 w' w.heap.size (fun _ => True) v0_ r ∧ Below w.heap.size w w' := by
 have HR0 := Aside0.mk hr0
 have HC0 := Aside0.mk hc0
 clear hr0 hc0
 have HB := Aside0.mk (Below.refl w.heap.size w)
 have H : (if 16 ≤ 35184372088832 then (spec_l01Fast.l0 k l0 (List.replicate 16 0) 0) else (none)) = some r := h
 clear h
 by_cases c2 : 16 ≤ 35184372088832
 · rw [if_pos c2] at H
   have c2b0 := eq_true c2
   have c2b1 : decide (16 ≤ 35184372088832) = true := decide_eq_true c2
   clear c2
   obtain ⟨y136, hy136⟩ : ∃ y_ : List Int, y_ = (List.replicate 16 0) := ⟨_, rfl⟩
   replace H : (spec_l01Fast.l0 k l0 y136 0) = some r := by first | (rw [hy136]; with_reducible exact H) | (have H2_ := (Option.bind_some _ _).symm.trans H; rw [hy136]; with_reducible exact H2_) | (have H2_ := (Option.bind_some _ _).symm.trans H; with_reducible exact H2_) | with_reducible exact H | (rw [hy136]; exact H) | exact H
   have Ny136 := Aside0.mk hy136
   clear hy136
   have H' := Aside0.mk H
   clear H
   go_enter Try.func113, Try.ntmps113
   go_wp2_with (first | ((with_reducible refine gate_dst (N := 7) rfl ?_); refine Kd.R_make (Kd.int .i64) _ 3 rfl (N := 7) rfl 89 _ _ rfl 16 rfl rfl Try.underlying89 (.int .i64 0) 8 info3 rfl (by decide) (by omega) 0 (ok := fun _ => True) (okp := fun _ => True) rfl (fun _ hk => hk) trivial (by omega) (by omega) (Below.refl _ _) (Nat.le_refl _) ?_; intro v137 w3 ho4 hb hg_ hnew_; clear hg_ hnew_; (first | rw [← Ny136.out] at ho4 | (simp only [Int.reduceToNat] at ho4; rw [← Ny136.out] at ho4)); have n0_ := Aside0.mk (Kd.R_lower ho4 (below_size (by repeat (first | (with_reducible first | exact HB.out | apply below_alloc | apply pw_below_drewN | apply below_drew1) | exact HB.out)))); have n1_ := Aside0.mk (below_step (by repeat (first | (with_reducible first | exact HB.out | apply below_alloc | apply pw_below_drewN | apply below_drew1) | exact HB.out)) hb); clear HB; have HO138 := n0_; have HB := n1_; clear n0_ n1_; clear hb ho4))
   go_loopg [4] k (fun kq v4 w' => ∃ (x3_1 : List Int) (x4_1 : Int), v4 = .int .i64 x4_1 ∧ Aside0 (spec_l01Fast.l0 kq l0 x3_1 x4_1 = some r) ∧ Aside0 (kq ≤ k) ∧ Aside0 (Kd.R (Kd.int .i64) 3 w' w.heap.size (fun _ => True) v137 x3_1) ∧ Aside0 (Below w.heap.size w w'))
   case atStart => exact ⟨(y136), (0), (by first | rfl | (simp; done) | (simp [*]; done)), H', ⟨Nat.le_refl _⟩, ⟨by (with_reducible repeat (first | apply Kd.R_alloc | apply Kd.R_drewN | apply Kd.R_drew)); exact HO138.out⟩, ⟨by repeat (first | (with_reducible first | exact HB.out | apply below_alloc | apply pw_below_drewN | apply below_drew1) | exact HB.out)⟩⟩
   case round =>
     clear H'
     try clear c1
     try clear c2
     try clear c2b0
     try clear c2b1
     try clear p2
     obtain ⟨x3_1, x4_1, rfl, HA, HK1, HO_3, HB⟩ := hrel
     cases gk with
     | zero => exact absurd HA.out (by simp [spec_l01Fast.l0])
     | succ k1 =>
       have H := HA.out
       clear HA
       simp only [spec_l01Fast.l0] at H
       by_cases c5 : x4_1 < 16
       · rw [if_pos c5] at H
         have c5b0 : decide (x4_1 < 16) = true := decide_eq_true c5
         clear c5
         by_cases c6 : 0 ≤ x4_1
         · rw [if_pos c6] at H
           have c6b0 : decide (0 ≤ x4_1) = true := decide_eq_true c6
           clear c6
           by_cases c7 : x4_1 < (l0.length : Int)
           · rw [if_pos c7] at H
             have c7b0 : decide (x4_1 < (l0.length : Int)) = true := decide_eq_true c7
             clear c7
             obtain ⟨ji8, hji8⟩ : ∃ j_ : Int, (wrap64 (x4_1 + 1)) = j_ := ⟨_, rfl⟩
             replace H : (if 0 ≤ (ji8) then (if (ji8) < (l0.length : Int) then (if 0 ≤ (wrap64 (x4_1 + 2)) then (if (wrap64 (x4_1 + 2)) < (l0.length : Int) then (if 0 ≤ (wrap64 (x4_1 + 3)) then (if (wrap64 (x4_1 + 3)) < (l0.length : Int) then (spec_l01Fast.l1 k1 l0 x3_1 x4_1 (Go.bits .xor .i64 (Go.bits .xor .i64 (Go.bits .xor .i64 (rd l0 x4_1) (rd l0 (ji8))) (rd l0 (wrap64 (x4_1 + 2)))) (rd l0 (wrap64 (x4_1 + 3)))) 0) else (none)) else (none)) else (none)) else (none)) else (none)) else (none)) = some r := by first | (rw [hji8] at H; exact H) | (simp only [hji8] at H ⊢; exact H)
             have hji8w : (IntKind.i64.wrap (x4_1 + 1)) = ji8 := (i64_w _).trans hji8
             by_cases c9 : 0 ≤ (ji8)
             · rw [if_pos c9] at H
               have c9b0 : decide (0 ≤ (ji8)) = true := decide_eq_true c9
               clear c9
               by_cases c10 : (ji8) < (l0.length : Int)
               · rw [if_pos c10] at H
                 have c10b0 : decide ((ji8) < (l0.length : Int)) = true := decide_eq_true c10
                 clear c10
                 obtain ⟨ji11, hji11⟩ : ∃ j_ : Int, (wrap64 (x4_1 + 2)) = j_ := ⟨_, rfl⟩
                 replace H : (if 0 ≤ (ji11) then (if (ji11) < (l0.length : Int) then (if 0 ≤ (wrap64 (x4_1 + 3)) then (if (wrap64 (x4_1 + 3)) < (l0.length : Int) then (spec_l01Fast.l1 k1 l0 x3_1 x4_1 (Go.bits .xor .i64 (Go.bits .xor .i64 (Go.bits .xor .i64 (rd l0 x4_1) (rd l0 (ji8))) (rd l0 (ji11))) (rd l0 (wrap64 (x4_1 + 3)))) 0) else (none)) else (none)) else (none)) else (none)) = some r := by first | (rw [hji11] at H; exact H) | (simp only [hji11] at H ⊢; exact H)
                 have hji11w : (IntKind.i64.wrap (x4_1 + 2)) = ji11 := (i64_w _).trans hji11
                 by_cases c12 : 0 ≤ (ji11)
                 · rw [if_pos c12] at H
                   have c12b0 : decide (0 ≤ (ji11)) = true := decide_eq_true c12
                   clear c12
                   by_cases c13 : (ji11) < (l0.length : Int)
                   · rw [if_pos c13] at H
                     have c13b0 : decide ((ji11) < (l0.length : Int)) = true := decide_eq_true c13
                     clear c13
                     obtain ⟨ji14, hji14⟩ : ∃ j_ : Int, (wrap64 (x4_1 + 3)) = j_ := ⟨_, rfl⟩
                     replace H : (if 0 ≤ (ji14) then (if (ji14) < (l0.length : Int) then (spec_l01Fast.l1 k1 l0 x3_1 x4_1 (Go.bits .xor .i64 (Go.bits .xor .i64 (Go.bits .xor .i64 (rd l0 x4_1) (rd l0 (ji8))) (rd l0 (ji11))) (rd l0 (ji14))) 0) else (none)) else (none)) = some r := by first | (rw [hji14] at H; exact H) | (simp only [hji14] at H ⊢; exact H)
                     have hji14w : (IntKind.i64.wrap (x4_1 + 3)) = ji14 := (i64_w _).trans hji14
                     by_cases c15 : 0 ≤ (ji14)
                     · rw [if_pos c15] at H
                       have c15b0 : decide (0 ≤ (ji14)) = true := decide_eq_true c15
                       clear c15
                       by_cases c16 : (ji14) < (l0.length : Int)
                       · rw [if_pos c16] at H
                         have c16b0 : decide ((ji14) < (l0.length : Int)) = true := decide_eq_true c16
                         clear c16
                         have H' := Aside0.mk H
                         clear H
                         try go_wp2
                         have n0_ := Aside0.mk (Kd.R_drew HO_3.out)
                         have n1_ := Aside0.mk (below_drew1 HB.out)
                         clear HO_3
                         clear HB
                         have HO_3 := n0_
                         have HB := n1_
                         clear n0_ n1_
                         have p139 : 0 ≤ (x4_1 : Int) := of_decide_eq_true (by first | (with_reducible assumption) | assumption)
                         have q139 : x4_1 < (l0.length : Int) := of_decide_eq_true (by first | (with_reducible assumption) | assumption)
                         obtain ⟨ad139, e139, hx139_0⟩ := Kd.at_int HR0.out x4_1 p139 q139
                         have hw139_0 := hx139_0
                         cases e139
                         replace hx139_0 := (HB.out.cell (World.block_lt_of_cell? w _ hx139_0)).trans hx139_0
                         replace p139 := eq_true p139
                         replace q139 := eq_true q139
                         have p140 : 0 ≤ ((ji8) : Int) := of_decide_eq_true (by first | (with_reducible assumption) | assumption)
                         have q140 : (ji8) < (l0.length : Int) := of_decide_eq_true (by first | (with_reducible assumption) | assumption)
                         obtain ⟨ad140, e140, hx140_0⟩ := Kd.at_int HR0.out (ji8) p140 q140
                         have hw140_0 := hx140_0
                         obtain rfl : ad139 = ad140 := (by injection e140)
                         replace hx140_0 := (HB.out.cell (World.block_lt_of_cell? w _ hx140_0)).trans hx140_0
                         replace p140 := eq_true p140
                         replace q140 := eq_true q140
                         have p141 : 0 ≤ ((ji11) : Int) := of_decide_eq_true (by first | (with_reducible assumption) | assumption)
                         have q141 : (ji11) < (l0.length : Int) := of_decide_eq_true (by first | (with_reducible assumption) | assumption)
                         obtain ⟨ad141, e141, hx141_0⟩ := Kd.at_int HR0.out (ji11) p141 q141
                         have hw141_0 := hx141_0
                         obtain rfl : ad139 = ad141 := (by injection e141)
                         replace hx141_0 := (HB.out.cell (World.block_lt_of_cell? w _ hx141_0)).trans hx141_0
                         replace p141 := eq_true p141
                         replace q141 := eq_true q141
                         have p142 : 0 ≤ ((ji14) : Int) := of_decide_eq_true (by first | (with_reducible assumption) | assumption)
                         have q142 : (ji14) < (l0.length : Int) := of_decide_eq_true (by first | (with_reducible assumption) | assumption)
                         obtain ⟨ad142, e142, hx142_0⟩ := Kd.at_int HR0.out (ji14) p142 q142
                         have hw142_0 := hx142_0
                         obtain rfl : ad139 = ad142 := (by injection e142)
                         replace hx142_0 := (HB.out.cell (World.block_lt_of_cell? w _ hx142_0)).trans hx142_0
                         replace p142 := eq_true p142
                         replace q142 := eq_true q142
                         refine start_ (n := 23) (S := fun w' => w'.cell? (ad139.add (x4_1).toNat) = some (.int .i64 (rd l0 x4_1)) ∧ w'.cell? (ad139.add ((ji8)).toNat) = some (.int .i64 (rd l0 (ji8))) ∧ w'.cell? (ad139.add ((ji11)).toNat) = some (.int .i64 (rd l0 (ji11))) ∧ w'.cell? (ad139.add ((ji14)).toNat) = some (.int .i64 (rd l0 (ji14)))) (ds := []) #[false, false, false, false, false, false, false, false, false, false, false, false, false, false, false, false, false, false, false, false, false, false, false] (by kernel_rfl) rfl rfl ⟨((HB.out.cell (World.block_lt_of_cell? w _ hw139_0)).trans hw139_0), ((HB.out.cell (World.block_lt_of_cell? w _ hw140_0)).trans hw140_0), ((HB.out.cell (World.block_lt_of_cell? w _ hw141_0)).trans hw141_0), ((HB.out.cell (World.block_lt_of_cell? w _ hw142_0)).trans hw142_0)⟩ (fun hHeld => ?_); refine with_tabW spec_l01Fast.tab5 spec_l01Fast.bits5 (fun HT_ HW_ => ?_)
                         generalize wr.drew = w17 at HO_3 HB hx139_0 hx140_0 hx141_0 hx142_0 hHeld ⊢
                         refine pure_ (i := 0) (N := some 12) (v := ?_) (a' := ?_) #[true, false, false, false, false, false, false, false, false, false, false, false, false, false, false, false, false, false, false, false, false, false, false] rfl rfl (any_of HT_.out (by kernel_rfl)) (fun _ _ _ h => h) (Or.inl ⟨by rfl, ?_⟩) ?_ ?_
                         rotate_left
                         · intro w'
                           go_simp
                           with_reducible rfl
                         rotate_left
                         · simp only [Act.put, sA_, s0_, s1_, i64_w, i32_w]
                           rfl
                         refine pure_ (i := 1) (N := some 13) (v := ?_) (a' := ?_) #[true, true, false, false, false, false, false, false, false, false, false, false, false, false, false, false, false, false, false, false, false, false, false] rfl rfl (any_of HT_.out (by kernel_rfl)) (fun _ _ _ h => h) (Or.inl ⟨by rfl, ?_⟩) ?_ ?_
                         rotate_left
                         · intro w'
                           go_simp
                           with_reducible rfl
                         rotate_left
                         · simp only [Act.put, sA_, s0_, s1_, i64_w, i32_w]
                           rfl
                         refine pure_ (i := 2) (N := some 14) (v := ?_) (a' := ?_) #[true, true, true, false, false, false, false, false, false, false, false, false, false, false, false, false, false, false, false, false, false, false, false] rfl rfl (any_of HT_.out (by kernel_rfl)) (fun _ _ _ h => h) (Or.inl ⟨by rfl, ?_⟩) ?_ ?_
                         rotate_left
                         · intro w'
                           go_simp
                           with_reducible rfl
                         rotate_left
                         · simp only [Act.put, sA_, s0_, s1_, i64_w, i32_w]
                           rfl
                         refine pure_ (i := 4) (N := some 16) (v := ?_) (a' := ?_) #[true, true, true, false, true, false, false, false, false, false, false, false, false, false, false, false, false, false, false, false, false, false, false] rfl rfl (any_of HT_.out (by kernel_rfl)) (fun _ _ _ h => h) (Or.inl ⟨by rfl, ?_⟩) ?_ ?_
                         rotate_left
                         · intro w'
                           go_simp
                           with_reducible rfl
                         rotate_left
                         · simp only [Act.put, sA_, s0_, s1_, i64_w, i32_w]
                           rfl
                         refine pure_ (i := 5) (N := some 17) (v := ?_) (a' := ?_) #[true, true, true, false, true, true, false, false, false, false, false, false, false, false, false, false, false, false, false, false, false, false, false] rfl rfl (any_of HT_.out (by kernel_rfl)) (fun _ _ _ h => h) (Or.inl ⟨by rfl, ?_⟩) ?_ ?_
                         rotate_left
                         · intro w'
                           go_simp
                           with_reducible rfl
                         rotate_left
                         · simp only [Act.put, sA_, s0_, s1_, i64_w, i32_w]
                           rfl
                         refine pure_ (i := 6) (N := some 18) (v := ?_) (a' := ?_) #[true, true, true, false, true, true, true, false, false, false, false, false, false, false, false, false, false, false, false, false, false, false, false] rfl rfl (any_of HT_.out (by kernel_rfl)) (fun _ _ _ h => h) (Or.inl ⟨by rfl, ?_⟩) ?_ ?_
                         rotate_left
                         · intro w'
                           go_simp
                           with_reducible rfl
                         rotate_left
                         · simp only [Act.put, sA_, s0_, s1_, i64_w, i32_w]
                           rfl
                         refine pure_ (i := 7) (N := some 19) (v := ?_) (a' := ?_) #[true, true, true, false, true, true, true, true, false, false, false, false, false, false, false, false, false, false, false, false, false, false, false] rfl rfl (any_of HT_.out (by kernel_rfl)) (fun _ _ _ h => h) (Or.inl ⟨by rfl, ?_⟩) ?_ ?_
                         rotate_left
                         · intro w'
                           go_simp
                           with_reducible rfl
                         rotate_left
                         · simp only [Act.put, sA_, s0_, s1_, i64_w, i32_w]
                           rfl
                         refine pure_ (i := 10) (N := some 22) (v := ?_) (a' := ?_) #[true, true, true, false, true, true, true, true, false, false, true, false, false, false, false, false, false, false, false, false, false, false, false] rfl rfl (any_of HT_.out (by kernel_rfl)) (fun _ _ _ h => h) (Or.inl ⟨by rfl, ?_⟩) ?_ ?_
                         rotate_left
                         · intro w'
                           go_simp
                           with_reducible rfl
                         rotate_left
                         · simp only [Act.put, sA_, s0_, s1_, i64_w, i32_w]
                           rfl
                         refine pure_ (i := 11) (N := some 23) (v := ?_) (a' := ?_) #[true, true, true, false, true, true, true, true, false, false, true, true, false, false, false, false, false, false, false, false, false, false, false] rfl rfl (any_of HT_.out (by kernel_rfl)) (fun _ _ _ h => h) (Or.inl ⟨by rfl, ?_⟩) ?_ ?_
                         rotate_left
                         · intro w'
                           go_simp
                           with_reducible rfl
                         rotate_left
                         · simp only [Act.put, sA_, s0_, s1_, i64_w, i32_w]
                           rfl
                         refine pure_ (i := 12) (N := some 24) (v := ?_) (a' := ?_) #[true, true, true, false, true, true, true, true, false, false, true, true, true, false, false, false, false, false, false, false, false, false, false] rfl rfl (any_of HT_.out (by kernel_rfl)) (fun _ _ _ h => h) (Or.inl ⟨by rfl, ?_⟩) ?_ ?_
                         rotate_left
                         · intro w'
                           go_simp
                           with_reducible rfl
                         rotate_left
                         · simp only [Act.put, sA_, s0_, s1_, i64_w, i32_w]
                           rfl
                         refine pure_ (i := 13) (N := some 25) (v := ?_) (a' := ?_) #[true, true, true, false, true, true, true, true, false, false, true, true, true, true, false, false, false, false, false, false, false, false, false] rfl rfl (any_of HT_.out (by kernel_rfl)) (fun _ _ _ h => h) (Or.inl ⟨by rfl, ?_⟩) ?_ ?_
                         rotate_left
                         · intro w'
                           go_simp
                           with_reducible rfl
                         rotate_left
                         · simp only [Act.put, sA_, s0_, s1_, i64_w, i32_w]
                           rfl
                         refine pure_ (i := 16) (N := some 28) (v := ?_) (a' := ?_) #[true, true, true, false, true, true, true, true, false, false, true, true, true, true, false, false, true, false, false, false, false, false, false] rfl rfl (any_of HT_.out (by kernel_rfl)) (fun _ _ _ h => h) (Or.inl ⟨by rfl, ?_⟩) ?_ ?_
                         rotate_left
                         · intro w'
                           go_simp
                           with_reducible rfl
                         rotate_left
                         · simp only [Act.put, sA_, s0_, s1_, i64_w, i32_w]
                           rfl
                         refine pure_ (i := 17) (N := some 29) (v := ?_) (a' := ?_) #[true, true, true, false, true, true, true, true, false, false, true, true, true, true, false, false, true, true, false, false, false, false, false] rfl rfl (any_of HT_.out (by kernel_rfl)) (fun _ _ _ h => h) (Or.inl ⟨by rfl, ?_⟩) ?_ ?_
                         rotate_left
                         · intro w'
                           go_simp
                           with_reducible rfl
                         rotate_left
                         · simp only [Act.put, sA_, s0_, s1_, i64_w, i32_w]
                           rfl
                         refine pure_ (i := 18) (N := some 30) (v := ?_) (a' := ?_) #[true, true, true, false, true, true, true, true, false, false, true, true, true, true, false, false, true, true, true, false, false, false, false] rfl rfl (any_of HT_.out (by kernel_rfl)) (fun _ _ _ h => h) (Or.inl ⟨by rfl, ?_⟩) ?_ ?_
                         rotate_left
                         · intro w'
                           go_simp
                           with_reducible rfl
                         rotate_left
                         · simp only [Act.put, sA_, s0_, s1_, i64_w, i32_w]
                           rfl
                         refine pure_ (i := 19) (N := some 31) (v := ?_) (a' := ?_) #[true, true, true, false, true, true, true, true, false, false, true, true, true, true, false, false, true, true, true, true, false, false, false] rfl rfl (any_of HT_.out (by kernel_rfl)) (fun _ _ _ h => h) (Or.inl ⟨by rfl, ?_⟩) ?_ ?_
                         rotate_left
                         · intro w'
                           go_simp
                           with_reducible rfl
                         rotate_left
                         · simp only [Act.put, sA_, s0_, s1_, i64_w, i32_w]
                           rfl
                         refine take_ (i := 3) (N := some 15) (v := ?_) (a' := ?_) #[true, true, true, true, true, true, true, true, false, false, true, true, true, true, false, false, true, true, true, true, false, false, false] rfl rfl (take_ofW HT_.out HW_.out (by kernel_rfl)) (fun _ _ _ h => h) (Or.inl ⟨by rfl, ?_⟩) hHeld ?_ ?_
                         rotate_left
                         · rintro w' ⟨s0, s1, s2, s3⟩
                           go_simp
                           with_reducible rfl
                         rotate_left
                         · simp only [Act.put, sA_, s0_, s1_, i64_w, i32_w]
                           rfl
                         refine take_ (i := 8) (N := some 20) (v := ?_) (a' := ?_) #[true, true, true, true, true, true, true, true, true, false, true, true, true, true, false, false, true, true, true, true, false, false, false] rfl rfl (take_ofW HT_.out HW_.out (by kernel_rfl)) (fun _ _ _ h => h) (Or.inl ⟨by rfl, ?_⟩) hHeld ?_ ?_
                         rotate_left
                         · rintro w' ⟨s0, s1, s2, s3⟩
                           go_simp
                           with_reducible rfl
                         rotate_left
                         · simp only [Act.put, sA_, s0_, s1_, i64_w, i32_w]
                           rfl
                         refine pure_ (i := 9) (N := some 21) (v := ?_) (a' := ?_) #[true, true, true, true, true, true, true, true, true, true, true, true, true, true, false, false, true, true, true, true, false, false, false] rfl rfl (any_of HT_.out (by kernel_rfl)) (fun _ _ _ h => h) (Or.inl ⟨by rfl, ?_⟩) ?_ ?_
                         rotate_left
                         · intro w'
                           go_simp
                           with_reducible rfl
                         rotate_left
                         · simp only [Act.put, sA_, s0_, s1_, i64_w, i32_w]
                           rfl
                         refine take_ (i := 14) (N := some 26) (v := ?_) (a' := ?_) #[true, true, true, true, true, true, true, true, true, true, true, true, true, true, true, false, true, true, true, true, false, false, false] rfl rfl (take_ofW HT_.out HW_.out (by kernel_rfl)) (fun _ _ _ h => h) (Or.inl ⟨by rfl, ?_⟩) hHeld ?_ ?_
                         rotate_left
                         · rintro w' ⟨s0, s1, s2, s3⟩
                           go_simp
                           with_reducible rfl
                         rotate_left
                         · simp only [Act.put, sA_, s0_, s1_, i64_w, i32_w]
                           rfl
                         refine pure_ (i := 15) (N := some 27) (v := ?_) (a' := ?_) #[true, true, true, true, true, true, true, true, true, true, true, true, true, true, true, true, true, true, true, true, false, false, false] rfl rfl (any_of HT_.out (by kernel_rfl)) (fun _ _ _ h => h) (Or.inl ⟨by rfl, ?_⟩) ?_ ?_
                         rotate_left
                         · intro w'
                           go_simp
                           with_reducible rfl
                         rotate_left
                         · simp only [Act.put, sA_, s0_, s1_, i64_w, i32_w]
                           rfl
                         refine take_ (i := 20) (N := some 32) (v := ?_) (a' := ?_) #[true, true, true, true, true, true, true, true, true, true, true, true, true, true, true, true, true, true, true, true, true, false, false] rfl rfl (take_ofW HT_.out HW_.out (by kernel_rfl)) (fun _ _ _ h => h) (Or.inl ⟨by rfl, ?_⟩) hHeld ?_ ?_
                         rotate_left
                         · rintro w' ⟨s0, s1, s2, s3⟩
                           go_simp
                           with_reducible rfl
                         rotate_left
                         · simp only [Act.put, sA_, s0_, s1_, i64_w, i32_w]
                           rfl
                         refine pure_ (i := 21) (N := some 33) (v := ?_) (a' := ?_) #[true, true, true, true, true, true, true, true, true, true, true, true, true, true, true, true, true, true, true, true, true, true, false] rfl rfl (any_of HT_.out (by kernel_rfl)) (fun _ _ _ h => h) (Or.inl ⟨by rfl, ?_⟩) ?_ ?_
                         rotate_left
                         · intro w'
                           go_simp
                           with_reducible rfl
                         rotate_left
                         · simp only [Act.put, sA_, s0_, s1_, i64_w, i32_w]
                           rfl
                         refine pure_ (i := 22) (N := some 5) (v := ?_) (a' := ?_) #[true, true, true, true, true, true, true, true, true, true, true, true, true, true, true, true, true, true, true, true, true, true, true] rfl rfl (any_of HT_.out (by kernel_rfl)) (fun _ _ _ h => h) (Or.inl ⟨by rfl, ?_⟩) ?_ ?_
                         rotate_left
                         · intro w'
                           go_simp
                           with_reducible rfl
                         rotate_left
                         · simp only [Act.put, sA_, s0_, s1_, i64_w, i32_w]
                           rfl
                         refine done_ (done_of HT_.out (by kernel_rfl)) ?_
                         try go_wp2
                         go_loopg [6] k1 (fun kq v6 w' => ∃ (x3_2 : List Int) (x6_2 : Int), v6 = .int .i64 x6_2 ∧ Aside0 (spec_l01Fast.l1 kq l0 x3_2 x4_1 (Go.bits .xor .i64 (Go.bits .xor .i64 (Go.bits .xor .i64 (rd l0 x4_1) (rd l0 (ji8))) (rd l0 (ji11))) (rd l0 (ji14))) x6_2 = some r) ∧ Aside0 (kq ≤ k1) ∧ Aside0 (Kd.R (Kd.int .i64) 3 w' w.heap.size (fun _ => True) v137 x3_2) ∧ Aside0 (Below w.heap.size w w'))
                         case atStart => exact ⟨(x3_1), (0), (by first | rfl | (simp; done) | (simp [*]; done)), H', ⟨Nat.le_refl _⟩, ⟨by (with_reducible repeat (first | apply Kd.R_alloc | apply Kd.R_drewN | apply Kd.R_drew)); exact HO_3.out⟩, ⟨by repeat (first | (with_reducible first | exact HB.out | apply below_alloc | apply pw_below_drewN | apply below_drew1) | exact HB.out)⟩⟩
                         case round =>
                           clear H'
                           try clear c1
                           try clear p1
                           try clear q1
                           try clear hx1
                           try clear c2
                           try clear c2b0
                           try clear c2b1
                           try clear p2
                           try clear c5
                           try clear c5b0
                           try clear c6
                           try clear c6b0
                           try clear p6
                           try clear c7
                           try clear c7b0
                           try clear c9
                           try clear c9b0
                           try clear c10
                           try clear c10b0
                           try clear c11
                           try clear c12
                           try clear c12b0
                           try clear c13
                           try clear c13b0
                           try clear p13
                           try clear q13
                           try clear hx13
                           try clear p14
                           try clear q14
                           try clear hx14
                           try clear c15
                           try clear c15b0
                           try clear c16
                           try clear c16b0
                           try clear hx139_0
                           try clear hx140_0
                           try clear hx141_0
                           try clear hx142_0
                           try clear p139
                           try clear p140
                           try clear p141
                           try clear p142
                           try clear p2
                           try clear q139
                           try clear q140
                           try clear q141
                           try clear q142
                           obtain ⟨x3_2, x6_2, rfl, HA, HK2, HO_3, HB⟩ := hrel
                           cases gk with
                           | zero => exact absurd HA.out (by simp [spec_l01Fast.l1])
                           | succ k2 =>
                             have H := HA.out
                             clear HA
                             simp only [spec_l01Fast.l1] at H
                             by_cases c18 : x6_2 < 4
                             · rw [if_pos c18] at H
                               have c18b0 : decide (x6_2 < 4) = true := decide_eq_true c18
                               clear c18
                               obtain ⟨ji19, hji19⟩ : ∃ j_ : Int, (wrap64 (x4_1 + x6_2)) = j_ := ⟨_, rfl⟩
                               replace H : (if 0 ≤ (ji19) then (if (ji19) < (l0.length : Int) then (if 0 ≤ (wrap64 (x4_1 + (Int.tmod (wrap64 (x6_2 + 1)) 4))) then (if (wrap64 (x4_1 + (Int.tmod (wrap64 (x6_2 + 1)) 4))) < (l0.length : Int) then ((spec_l01Double.f (Go.bits .xor .i64 (rd l0 (ji19)) (rd l0 (wrap64 (x4_1 + (Int.tmod (wrap64 (x6_2 + 1)) 4)))))).bind fun t146 => (if (ji19) < (x3_2.length : Int) then (spec_l01Fast.l1 k2 l0 (x3_2.set ((ji19) : Int).toNat (Go.bits .xor .i64 (Go.bits .xor .i64 (rd l0 (ji19)) (Go.bits .xor .i64 (Go.bits .xor .i64 (Go.bits .xor .i64 (rd l0 x4_1) (rd l0 (ji8))) (rd l0 (ji11))) (rd l0 (ji14)))) t146)) x4_1 (Go.bits .xor .i64 (Go.bits .xor .i64 (Go.bits .xor .i64 (rd l0 x4_1) (rd l0 (ji8))) (rd l0 (ji11))) (rd l0 (ji14))) (wrap64 (x6_2 + 1))) else (none))) else (none)) else (none)) else (none)) else (none)) = some r := by first | (rw [hji19] at H; exact H) | (simp only [hji19] at H ⊢; exact H)
                               have hji19w : (IntKind.i64.wrap (x4_1 + x6_2)) = ji19 := (i64_w _).trans hji19
                               by_cases c20 : 0 ≤ (ji19)
                               · rw [if_pos c20] at H
                                 have c20b0 : decide (0 ≤ (ji19)) = true := decide_eq_true c20
                                 clear c20
                                 by_cases c21 : (ji19) < (l0.length : Int)
                                 · rw [if_pos c21] at H
                                   have c21b0 : decide ((ji19) < (l0.length : Int)) = true := decide_eq_true c21
                                   clear c21
                                   obtain ⟨ji22, hji22⟩ : ∃ j_ : Int, (wrap64 (x4_1 + (Int.tmod (wrap64 (x6_2 + 1)) 4))) = j_ := ⟨_, rfl⟩
                                   replace H : (if 0 ≤ (ji22) then (if (ji22) < (l0.length : Int) then ((spec_l01Double.f (Go.bits .xor .i64 (rd l0 (ji19)) (rd l0 (ji22)))).bind fun t146 => (if (ji19) < (x3_2.length : Int) then (spec_l01Fast.l1 k2 l0 (x3_2.set ((ji19) : Int).toNat (Go.bits .xor .i64 (Go.bits .xor .i64 (rd l0 (ji19)) (Go.bits .xor .i64 (Go.bits .xor .i64 (Go.bits .xor .i64 (rd l0 x4_1) (rd l0 (ji8))) (rd l0 (ji11))) (rd l0 (ji14)))) t146)) x4_1 (Go.bits .xor .i64 (Go.bits .xor .i64 (Go.bits .xor .i64 (rd l0 x4_1) (rd l0 (ji8))) (rd l0 (ji11))) (rd l0 (ji14))) (wrap64 (x6_2 + 1))) else (none))) else (none)) else (none)) = some r := by first | (rw [hji22] at H; exact H) | (simp only [hji22] at H ⊢; exact H)
                                   have hji22w : (IntKind.i64.wrap (x4_1 + (Int.tmod (wrap64 (x6_2 + 1)) 4))) = ji22 := (i64_w _).trans hji22
                                   by_cases c23 : 0 ≤ (ji22)
                                   · rw [if_pos c23] at H
                                     have c23b0 : decide (0 ≤ (ji22)) = true := decide_eq_true c23
                                     clear c23
                                     by_cases c24 : (ji22) < (l0.length : Int)
                                     · rw [if_pos c24] at H
                                       have c24b0 : decide ((ji22) < (l0.length : Int)) = true := decide_eq_true c24
                                       clear c24
                                       replace H := Option.bind_eq_some_iff.mp H
                                       obtain ⟨t146, A250, H⟩ := H
                                       replace H : (if (ji19) < (x3_2.length : Int) then (spec_l01Fast.l1 k2 l0 (x3_2.set ((ji19) : Int).toNat (Go.bits .xor .i64 (Go.bits .xor .i64 (rd l0 (ji19)) (Go.bits .xor .i64 (Go.bits .xor .i64 (Go.bits .xor .i64 (rd l0 x4_1) (rd l0 (ji8))) (rd l0 (ji11))) (rd l0 (ji14)))) t146)) x4_1 (Go.bits .xor .i64 (Go.bits .xor .i64 (Go.bits .xor .i64 (rd l0 x4_1) (rd l0 (ji8))) (rd l0 (ji11))) (rd l0 (ji14))) (wrap64 (x6_2 + 1))) else (none)) = some r := H
                                       have A25 := Aside0.mk A250
                                       clear A250
                                       by_cases c26 : (ji19) < (x3_2.length : Int)
                                       · rw [if_pos c26] at H
                                         have c26b0 : decide ((ji19) < (x3_2.length : Int)) = true := decide_eq_true c26
                                         clear c26
                                         obtain ⟨y147, hy147⟩ : ∃ y_ : List Int, y_ = (x3_2.set ((ji19) : Int).toNat (Go.bits .xor .i64 (Go.bits .xor .i64 (rd l0 (ji19)) (Go.bits .xor .i64 (Go.bits .xor .i64 (Go.bits .xor .i64 (rd l0 x4_1) (rd l0 (ji8))) (rd l0 (ji11))) (rd l0 (ji14)))) t146)) := ⟨_, rfl⟩
                                         replace H : (spec_l01Fast.l1 k2 l0 y147 x4_1 (Go.bits .xor .i64 (Go.bits .xor .i64 (Go.bits .xor .i64 (rd l0 x4_1) (rd l0 (ji8))) (rd l0 (ji11))) (rd l0 (ji14))) (wrap64 (x6_2 + 1))) = some r := by first | (rw [hy147]; with_reducible exact H) | (have H2_ := (Option.bind_some _ _).symm.trans H; rw [hy147]; with_reducible exact H2_) | (have H2_ := (Option.bind_some _ _).symm.trans H; with_reducible exact H2_) | with_reducible exact H | (rw [hy147]; exact H) | exact H
                                         have Ny147 := Aside0.mk hy147
                                         clear hy147
                                         have H' := Aside0.mk H
                                         clear H
                                         try go_wp2
                                         have n0_ := Aside0.mk (Kd.R_drew HO_3.out)
                                         have n1_ := Aside0.mk (below_drew1 HB.out)
                                         clear HO_3
                                         clear HB
                                         have HO_3 := n0_
                                         have HB := n1_
                                         clear n0_ n1_
                                         have p143 : 0 ≤ ((ji19) : Int) := of_decide_eq_true (by first | (with_reducible assumption) | assumption)
                                         have q143 : (ji19) < (l0.length : Int) := of_decide_eq_true (by first | (with_reducible assumption) | assumption)
                                         obtain ⟨ad143, e143, hx143_0⟩ := Kd.at_int HR0.out (ji19) p143 q143
                                         have hw143_0 := hx143_0
                                         obtain rfl : ad139 = ad143 := (by injection e143)
                                         replace hx143_0 := (HB.out.cell (World.block_lt_of_cell? w _ hx143_0)).trans hx143_0
                                         replace p143 := eq_true p143
                                         replace q143 := eq_true q143
                                         have p144 : 0 ≤ ((ji19) : Int) := of_decide_eq_true (by first | (with_reducible assumption) | assumption)
                                         have q144 : (ji19) < (l0.length : Int) := of_decide_eq_true (by first | (with_reducible assumption) | assumption)
                                         obtain ⟨ad144, e144, hx144_0⟩ := Kd.at_int HR0.out (ji19) p144 q144
                                         have hw144_0 := hx144_0
                                         obtain rfl : ad139 = ad144 := (by injection e144)
                                         replace hx144_0 := (HB.out.cell (World.block_lt_of_cell? w _ hx144_0)).trans hx144_0
                                         replace p144 := eq_true p144
                                         replace q144 := eq_true q144
                                         have p145 : 0 ≤ ((ji22) : Int) := of_decide_eq_true (by first | (with_reducible assumption) | assumption)
                                         have q145 : (ji22) < (l0.length : Int) := of_decide_eq_true (by first | (with_reducible assumption) | assumption)
                                         obtain ⟨ad145, e145, hx145_0⟩ := Kd.at_int HR0.out (ji22) p145 q145
                                         have hw145_0 := hx145_0
                                         obtain rfl : ad139 = ad145 := (by injection e145)
                                         replace hx145_0 := (HB.out.cell (World.block_lt_of_cell? w _ hx145_0)).trans hx145_0
                                         replace p145 := eq_true p145
                                         replace q145 := eq_true q145
                                         refine start_ (n := 31) (S := fun w' => w'.cell? (ad139.add ((ji19)).toNat) = some (.int .i64 (rd l0 (ji19))) ∧ w'.cell? (ad139.add ((ji19)).toNat) = some (.int .i64 (rd l0 (ji19))) ∧ w'.cell? (ad139.add ((ji22)).toNat) = some (.int .i64 (rd l0 (ji22)))) (ds := [30]) #[false, false, false, false, false, false, false, false, false, false, false, false, false, false, false, false, false, false, false, false, false, false, false, false, false, false, false, false, false, false, false] (by kernel_rfl) rfl rfl ⟨((HB.out.cell (World.block_lt_of_cell? w _ hw143_0)).trans hw143_0), ((HB.out.cell (World.block_lt_of_cell? w _ hw144_0)).trans hw144_0), ((HB.out.cell (World.block_lt_of_cell? w _ hw145_0)).trans hw145_0)⟩ (fun hHeld => ?_); refine with_tabW spec_l01Fast.tab9 spec_l01Fast.bits9 (fun HT_ HW_ => ?_)
                                         generalize wr.drew = w28 at HO_3 HB hx143_0 hx144_0 hx145_0 hHeld ⊢
                                         refine pure_ (i := 0) (N := some 38) (v := ?_) (a' := ?_) #[true, false, false, false, false, false, false, false, false, false, false, false, false, false, false, false, false, false, false, false, false, false, false, false, false, false, false, false, false, false, false] rfl rfl (any_of HT_.out (by kernel_rfl)) (fun _ _ _ h => h) (Or.inl ⟨by rfl, ?_⟩) ?_ ?_
                                         rotate_left
                                         · intro w'
                                           go_simp
                                           with_reducible rfl
                                         rotate_left
                                         · simp only [Act.put, sA_, s0_, s1_, i64_w, i32_w]
                                           rfl
                                         refine pure_ (i := 1) (N := some 39) (v := ?_) (a' := ?_) #[true, true, false, false, false, false, false, false, false, false, false, false, false, false, false, false, false, false, false, false, false, false, false, false, false, false, false, false, false, false, false] rfl rfl (any_of HT_.out (by kernel_rfl)) (fun _ _ _ h => h) (Or.inl ⟨by rfl, ?_⟩) ?_ ?_
                                         rotate_left
                                         · intro w'
                                           go_simp
                                           with_reducible rfl
                                         rotate_left
                                         · simp only [Act.put, sA_, s0_, s1_, i64_w, i32_w]
                                           rfl
                                         refine pure_ (i := 2) (N := some 40) (v := ?_) (a' := ?_) #[true, true, true, false, false, false, false, false, false, false, false, false, false, false, false, false, false, false, false, false, false, false, false, false, false, false, false, false, false, false, false] rfl rfl (any_of HT_.out (by kernel_rfl)) (fun _ _ _ h => h) (Or.inl ⟨by rfl, ?_⟩) ?_ ?_
                                         rotate_left
                                         · intro w'
                                           go_simp
                                           with_reducible rfl
                                         rotate_left
                                         · simp only [Act.put, sA_, s0_, s1_, i64_w, i32_w]
                                           rfl
                                         refine pure_ (i := 3) (N := some 41) (v := ?_) (a' := ?_) #[true, true, true, true, false, false, false, false, false, false, false, false, false, false, false, false, false, false, false, false, false, false, false, false, false, false, false, false, false, false, false] rfl rfl (any_of HT_.out (by kernel_rfl)) (fun _ _ _ h => h) (Or.inl ⟨by rfl, ?_⟩) ?_ ?_
                                         rotate_left
                                         · intro w'
                                           go_simp
                                           with_reducible rfl
                                         rotate_left
                                         · simp only [Act.put, sA_, s0_, s1_, i64_w, i32_w]
                                           rfl
                                         refine pure_ (i := 4) (N := some 42) (v := ?_) (a' := ?_) #[true, true, true, true, true, false, false, false, false, false, false, false, false, false, false, false, false, false, false, false, false, false, false, false, false, false, false, false, false, false, false] rfl rfl (any_of HT_.out (by kernel_rfl)) (fun _ _ _ h => h) (Or.inl ⟨by rfl, ?_⟩) ?_ ?_
                                         rotate_left
                                         · intro w'
                                           go_simp
                                           with_reducible rfl
                                         rotate_left
                                         · simp only [Act.put, sA_, s0_, s1_, i64_w, i32_w]
                                           rfl
                                         refine pure_ (i := 5) (N := some 43) (v := ?_) (a' := ?_) #[true, true, true, true, true, true, false, false, false, false, false, false, false, false, false, false, false, false, false, false, false, false, false, false, false, false, false, false, false, false, false] rfl rfl (any_of HT_.out (by kernel_rfl)) (fun _ _ _ h => h) (Or.inl ⟨by rfl, ?_⟩) ?_ ?_
                                         rotate_left
                                         · intro w'
                                           go_simp
                                           with_reducible rfl
                                         rotate_left
                                         · simp only [Act.put, sA_, s0_, s1_, i64_w, i32_w]
                                           rfl
                                         refine pure_ (i := 6) (N := some 44) (v := ?_) (a' := ?_) #[true, true, true, true, true, true, true, false, false, false, false, false, false, false, false, false, false, false, false, false, false, false, false, false, false, false, false, false, false, false, false] rfl rfl (any_of HT_.out (by kernel_rfl)) (fun _ _ _ h => h) (Or.inl ⟨by rfl, ?_⟩) ?_ ?_
                                         rotate_left
                                         · intro w'
                                           go_simp
                                           with_reducible rfl
                                         rotate_left
                                         · simp only [Act.put, sA_, s0_, s1_, i64_w, i32_w]
                                           rfl
                                         refine pure_ (i := 7) (N := some 45) (v := ?_) (a' := ?_) #[true, true, true, true, true, true, true, true, false, false, false, false, false, false, false, false, false, false, false, false, false, false, false, false, false, false, false, false, false, false, false] rfl rfl (any_of HT_.out (by kernel_rfl)) (fun _ _ _ h => h) (Or.inl ⟨by rfl, ?_⟩) ?_ ?_
                                         rotate_left
                                         · intro w'
                                           go_simp
                                           with_reducible rfl
                                         rotate_left
                                         · simp only [Act.put, sA_, s0_, s1_, i64_w, i32_w]
                                           rfl
                                         refine pure_ (i := 8) (N := some 46) (v := ?_) (a' := ?_) #[true, true, true, true, true, true, true, true, true, false, false, false, false, false, false, false, false, false, false, false, false, false, false, false, false, false, false, false, false, false, false] rfl rfl (any_of HT_.out (by kernel_rfl)) (fun _ _ _ h => h) (Or.inl ⟨by rfl, ?_⟩) ?_ ?_
                                         rotate_left
                                         · intro w'
                                           go_simp
                                           with_reducible rfl
                                         rotate_left
                                         · simp only [Act.put, sA_, s0_, s1_, i64_w, i32_w]
                                           rfl
                                         refine pure_ (i := 10) (N := some 48) (v := ?_) (a' := ?_) #[true, true, true, true, true, true, true, true, true, false, true, false, false, false, false, false, false, false, false, false, false, false, false, false, false, false, false, false, false, false, false] rfl rfl (any_of HT_.out (by kernel_rfl)) (fun _ _ _ h => h) (Or.inl ⟨by rfl, ?_⟩) ?_ ?_
                                         rotate_left
                                         · intro w'
                                           go_simp
                                           with_reducible rfl
                                         rotate_left
                                         · simp only [Act.put, sA_, s0_, s1_, i64_w, i32_w]
                                           rfl
                                         refine pure_ (i := 12) (N := some 50) (v := ?_) (a' := ?_) #[true, true, true, true, true, true, true, true, true, false, true, false, true, false, false, false, false, false, false, false, false, false, false, false, false, false, false, false, false, false, false] rfl rfl (any_of HT_.out (by kernel_rfl)) (fun _ _ _ h => h) (Or.inl ⟨by rfl, ?_⟩) ?_ ?_
                                         rotate_left
                                         · intro w'
                                           go_simp
                                           with_reducible rfl
                                         rotate_left
                                         · simp only [Act.put, sA_, s0_, s1_, i64_w, i32_w]
                                           rfl
                                         refine pure_ (i := 13) (N := some 51) (v := ?_) (a' := ?_) #[true, true, true, true, true, true, true, true, true, false, true, false, true, true, false, false, false, false, false, false, false, false, false, false, false, false, false, false, false, false, false] rfl rfl (any_of HT_.out (by kernel_rfl)) (fun _ _ _ h => h) (Or.inl ⟨by rfl, ?_⟩) ?_ ?_
                                         rotate_left
                                         · intro w'
                                           go_simp
                                           with_reducible rfl
                                         rotate_left
                                         · simp only [Act.put, sA_, s0_, s1_, i64_w, i32_w]
                                           rfl
                                         refine pure_ (i := 14) (N := some 52) (v := ?_) (a' := ?_) #[true, true, true, true, true, true, true, true, true, false, true, false, true, true, true, false, false, false, false, false, false, false, false, false, false, false, false, false, false, false, false] rfl rfl (any_of HT_.out (by kernel_rfl)) (fun _ _ _ h => h) (Or.inl ⟨by rfl, ?_⟩) ?_ ?_
                                         rotate_left
                                         · intro w'
                                           go_simp
                                           with_reducible rfl
                                         rotate_left
                                         · simp only [Act.put, sA_, s0_, s1_, i64_w, i32_w]
                                           rfl
                                         refine pure_ (i := 15) (N := some 53) (v := ?_) (a' := ?_) #[true, true, true, true, true, true, true, true, true, false, true, false, true, true, true, true, false, false, false, false, false, false, false, false, false, false, false, false, false, false, false] rfl rfl (any_of HT_.out (by kernel_rfl)) (fun _ _ _ h => h) (Or.inl ⟨by rfl, ?_⟩) ?_ ?_
                                         rotate_left
                                         · intro w'
                                           go_simp
                                           with_reducible rfl
                                         rotate_left
                                         · simp only [Act.put, sA_, s0_, s1_, i64_w, i32_w]
                                           rfl
                                         refine pure_ (i := 16) (N := some 54) (v := ?_) (a' := ?_) #[true, true, true, true, true, true, true, true, true, false, true, false, true, true, true, true, true, false, false, false, false, false, false, false, false, false, false, false, false, false, false] rfl rfl (any_of HT_.out (by kernel_rfl)) (fun _ _ _ h => h) (Or.inl ⟨by rfl, ?_⟩) ?_ ?_
                                         rotate_left
                                         · intro w'
                                           go_simp
                                           with_reducible rfl
                                         rotate_left
                                         · simp only [Act.put, sA_, s0_, s1_, i64_w, i32_w]
                                           rfl
                                         refine pure_ (i := 18) (N := some 56) (v := ?_) (a' := ?_) #[true, true, true, true, true, true, true, true, true, false, true, false, true, true, true, true, true, false, true, false, false, false, false, false, false, false, false, false, false, false, false] rfl rfl (any_of HT_.out (by kernel_rfl)) (fun _ _ _ h => h) (Or.inl ⟨by rfl, ?_⟩) ?_ ?_
                                         rotate_left
                                         · intro w'
                                           go_simp
                                           with_reducible rfl
                                         rotate_left
                                         · simp only [Act.put, sA_, s0_, s1_, i64_w, i32_w]
                                           rfl
                                         refine pure_ (i := 19) (N := some 57) (v := ?_) (a' := ?_) #[true, true, true, true, true, true, true, true, true, false, true, false, true, true, true, true, true, false, true, true, false, false, false, false, false, false, false, false, false, false, false] rfl rfl (any_of HT_.out (by kernel_rfl)) (fun _ _ _ h => h) (Or.inl ⟨by rfl, ?_⟩) ?_ ?_
                                         rotate_left
                                         · intro w'
                                           go_simp
                                           with_reducible rfl
                                         rotate_left
                                         · simp only [Act.put, sA_, s0_, s1_, i64_w, i32_w]
                                           rfl
                                         refine pure_ (i := 20) (N := some 58) (v := ?_) (a' := ?_) #[true, true, true, true, true, true, true, true, true, false, true, false, true, true, true, true, true, false, true, true, true, false, false, false, false, false, false, false, false, false, false] rfl rfl (any_of HT_.out (by kernel_rfl)) (fun _ _ _ h => h) (Or.inl ⟨by rfl, ?_⟩) ?_ ?_
                                         rotate_left
                                         · intro w'
                                           go_simp
                                           with_reducible rfl
                                         rotate_left
                                         · simp only [Act.put, sA_, s0_, s1_, i64_w, i32_w]
                                           rfl
                                         refine pure_ (i := 21) (N := some 59) (v := ?_) (a' := ?_) #[true, true, true, true, true, true, true, true, true, false, true, false, true, true, true, true, true, false, true, true, true, true, false, false, false, false, false, false, false, false, false] rfl rfl (any_of HT_.out (by kernel_rfl)) (fun _ _ _ h => h) (Or.inl ⟨by rfl, ?_⟩) ?_ ?_
                                         rotate_left
                                         · intro w'
                                           go_simp
                                           with_reducible rfl
                                         rotate_left
                                         · simp only [Act.put, sA_, s0_, s1_, i64_w, i32_w]
                                           rfl
                                         refine pure_ (i := 22) (N := some 60) (v := ?_) (a' := ?_) #[true, true, true, true, true, true, true, true, true, false, true, false, true, true, true, true, true, false, true, true, true, true, true, false, false, false, false, false, false, false, false] rfl rfl (any_of HT_.out (by kernel_rfl)) (fun _ _ _ h => h) (Or.inl ⟨by rfl, ?_⟩) ?_ ?_
                                         rotate_left
                                         · intro w'
                                           go_simp
                                           with_reducible rfl
                                         rotate_left
                                         · simp only [Act.put, sA_, s0_, s1_, i64_w, i32_w]
                                           rfl
                                         refine pure_ (i := 23) (N := some 61) (v := ?_) (a' := ?_) #[true, true, true, true, true, true, true, true, true, false, true, false, true, true, true, true, true, false, true, true, true, true, true, true, false, false, false, false, false, false, false] rfl rfl (any_of HT_.out (by kernel_rfl)) (fun _ _ _ h => h) (Or.inl ⟨by rfl, ?_⟩) ?_ ?_
                                         rotate_left
                                         · intro w'
                                           go_simp
                                           with_reducible rfl
                                         rotate_left
                                         · simp only [Act.put, sA_, s0_, s1_, i64_w, i32_w]
                                           rfl
                                         refine pure_ (i := 24) (N := some 62) (v := ?_) (a' := ?_) #[true, true, true, true, true, true, true, true, true, false, true, false, true, true, true, true, true, false, true, true, true, true, true, true, true, false, false, false, false, false, false] rfl rfl (any_of HT_.out (by kernel_rfl)) (fun _ _ _ h => h) (Or.inl ⟨by rfl, ?_⟩) ?_ ?_
                                         rotate_left
                                         · intro w'
                                           go_simp
                                           with_reducible rfl
                                         rotate_left
                                         · simp only [Act.put, sA_, s0_, s1_, i64_w, i32_w]
                                           rfl
                                         refine take_ (i := 9) (N := some 47) (v := ?_) (a' := ?_) #[true, true, true, true, true, true, true, true, true, true, true, false, true, true, true, true, true, false, true, true, true, true, true, true, true, false, false, false, false, false, false] rfl rfl (take_ofW HT_.out HW_.out (by kernel_rfl)) (fun _ _ _ h => h) (Or.inl ⟨by rfl, ?_⟩) hHeld ?_ ?_
                                         rotate_left
                                         · rintro w' ⟨s0, s1, s2⟩
                                           go_simp
                                           with_reducible rfl
                                         rotate_left
                                         · simp only [Act.put, sA_, s0_, s1_, i64_w, i32_w]
                                           rfl
                                         refine pure_ (i := 11) (N := some 49) (v := ?_) (a' := ?_) #[true, true, true, true, true, true, true, true, true, true, true, true, true, true, true, true, true, false, true, true, true, true, true, true, true, false, false, false, false, false, false] rfl rfl (any_of HT_.out (by kernel_rfl)) (fun _ _ _ h => h) (Or.inl ⟨by rfl, ?_⟩) ?_ ?_
                                         rotate_left
                                         · intro w'
                                           go_simp
                                           with_reducible rfl
                                         rotate_left
                                         · simp only [Act.put, sA_, s0_, s1_, i64_w, i32_w]
                                           rfl
                                         refine take_ (i := 17) (N := some 55) (v := ?_) (a' := ?_) #[true, true, true, true, true, true, true, true, true, true, true, true, true, true, true, true, true, true, true, true, true, true, true, true, true, false, false, false, false, false, false] rfl rfl (take_ofW HT_.out HW_.out (by kernel_rfl)) (fun _ _ _ h => h) (Or.inl ⟨by rfl, ?_⟩) hHeld ?_ ?_
                                         rotate_left
                                         · rintro w' ⟨s0, s1, s2⟩
                                           go_simp
                                           with_reducible rfl
                                         rotate_left
                                         · simp only [Act.put, sA_, s0_, s1_, i64_w, i32_w]
                                           rfl
                                         refine take_ (i := 25) (N := some 63) (v := ?_) (a' := ?_) #[true, true, true, true, true, true, true, true, true, true, true, true, true, true, true, true, true, true, true, true, true, true, true, true, true, true, false, false, false, false, false] rfl rfl (take_ofW HT_.out HW_.out (by kernel_rfl)) (fun _ _ _ h => h) (Or.inl ⟨by rfl, ?_⟩) hHeld ?_ ?_
                                         rotate_left
                                         · rintro w' ⟨s0, s1, s2⟩
                                           go_simp
                                           with_reducible rfl
                                         rotate_left
                                         · simp only [Act.put, sA_, s0_, s1_, i64_w, i32_w]
                                           rfl
                                         refine pure_ (i := 26) (N := some 64) (v := ?_) (a' := ?_) #[true, true, true, true, true, true, true, true, true, true, true, true, true, true, true, true, true, true, true, true, true, true, true, true, true, true, true, false, false, false, false] rfl rfl (any_of HT_.out (by kernel_rfl)) (fun _ _ _ h => h) (Or.inl ⟨by rfl, ?_⟩) ?_ ?_
                                         rotate_left
                                         · intro w'
                                           go_simp
                                           with_reducible rfl
                                         rotate_left
                                         · simp only [Act.put, sA_, s0_, s1_, i64_w, i32_w]
                                           rfl
                                         refine one_ (i := 27) (N := some 65) #[true, true, true, true, true, true, true, true, true, true, true, true, true, true, true, true, true, true, true, true, true, true, true, true, true, true, true, true, false, false, false] rfl rfl (one_of HT_.out (by kernel_rfl)) (by decide) (fun K hK => ?_)
                                         refine goes_ Try.func106 (by kernel_rfl) rfl #[.int .i64 (Go.bits .xor .i64 (rd l0 (ji19)) (rd l0 (ji22)))] (by rfl) rfl rfl (by (try simp only [List.map_toArray, List.map_cons, List.map_nil]); first | done | (simp only [hji19, hji22]; rfl) | rfl | (simp only [List.length_drop, List.length_take]; rfl)) ?_
                                         with_reducible refine (spec_l01Double.calls (Go.bits .xor .i64 (rd l0 (ji19)) (rd l0 (ji22))) t146 _ A25.out).mono ?_
                                         rintro e w' ⟨rfl, ⟨nd, rfl⟩⟩
                                         refine ⟨_, rfl, ?_⟩
                                         have p27 : 0 ≤ ((ji19) : Int) := of_decide_eq_true (by first | (with_reducible assumption) | assumption)
                                         have q27 : ((ji19) : Int) < ((x3_2.length : Int) : Int) := of_decide_eq_true (by first | (with_reducible assumption) | assumption)
                                         obtain ⟨go27, co27, eo27, gb27, gl27, cl27, HG27⟩ := Kd.R_form HO_3.out (by omega)
                                         (first | cases eo27 | (injection eo27 with ea_ en_ ec_; (first | subst ea_ | (injection ea_ with ea_; subst ea_)); subst ec_; clear en_))
                                         have GB27 := Aside0.mk gb27
                                         have GG27 := Aside0.mk HG27
                                         clear gb27 gl27 HG27
                                         obtain ⟨hx27_0, hf27_0⟩ := Kd.R_celln 0 HO_3.out ((ji19) : Int) p27 q27
                                         replace p27 := eq_true p27
                                         replace q27 := eq_true q27
                                         have HP29 := Kd.R_putn HO_3.out ((ji19) : Int) (Go.bits .xor .i64 (Go.bits .xor .i64 (rd l0 (ji19)) (Go.bits .xor .i64 (Go.bits .xor .i64 (Go.bits .xor .i64 (rd l0 x4_1) (rd l0 (ji8))) (rd l0 (ji11))) (rd l0 (ji14)))) t146)
                                         rw [← Ny147.out] at HP29
                                         have HQ29 := Aside0.mk HP29
                                         clear HP29
                                         refine hK.out _ _ ⟨((HB.out.cell (World.block_lt_of_cell? w _ hw143_0)).trans hw143_0), ((HB.out.cell (World.block_lt_of_cell? w _ hw144_0)).trans hw144_0), ((HB.out.cell (World.block_lt_of_cell? w _ hw145_0)).trans hw145_0)⟩ (fun hHeld => ?_)
                                         clear hK K
                                         refine norm_ (a' := ?_) ?_ ?_
                                         rotate_left
                                         · show Act.put _ (some 65) _ = _
                                           simp only [Act.put, sA_, s0_, s1_, i64_w, i32_w]
                                           rfl
                                         refine pure_ (i := 28) (N := some 66) (v := ?_) (a' := ?_) #[true, true, true, true, true, true, true, true, true, true, true, true, true, true, true, true, true, true, true, true, true, true, true, true, true, true, true, true, true, false, false] rfl rfl (any_of HT_.out (by kernel_rfl)) (fun _ _ _ h => h) (Or.inl ⟨by rfl, ?_⟩) ?_ ?_
                                         rotate_left
                                         · intro w'
                                           go_simp
                                           with_reducible rfl
                                         rotate_left
                                         · simp only [Act.put, sA_, s0_, s1_, i64_w, i32_w]
                                           rfl
                                         refine pure_ (i := 29) (N := some 67) (v := ?_) (a' := ?_) #[true, true, true, true, true, true, true, true, true, true, true, true, true, true, true, true, true, true, true, true, true, true, true, true, true, true, true, true, true, true, false] rfl rfl (any_of HT_.out (by kernel_rfl)) (fun _ _ _ h => h) (Or.inl ⟨by rfl, ?_⟩) ?_ ?_
                                         rotate_left
                                         · intro w'
                                           go_simp
                                           with_reducible rfl
                                         rotate_left
                                         · simp only [Act.put, sA_, s0_, s1_, i64_w, i32_w]
                                           rfl
                                         refine last_ (i := 30) (N := none) #[true, true, true, true, true, true, true, true, true, true, true, true, true, true, true, true, true, true, true, true, true, true, true, true, true, true, true, true, true, true, true] rfl rfl (one_of HT_.out (by kernel_rfl)) (by decide) (fun K hK => ?_)
                                         refine skip_ (w1 := ?_) (by rfl) rfl ?_ ?_
                                         rotate_left
                                         · go_simp
                                           rfl
                                         refine hK.out _ _ ?_
                                         clear hK K
                                         refine done_ (done_of HT_.out (by kernel_rfl)) ?_
                                         try go_wp2
                                         go_roundg k2
                                         case measure => have := HK1.out; have := HK2.out; omega
                                         case rel => exact ⟨(y147), (wrap64 (x6_2 + 1)), (by first | rfl | (simp; done) | (simp [*]; done)), H', ⟨by have := HK1.out; have := HK2.out; omega⟩, ⟨by (with_reducible repeat (first | apply Kd.R_alloc | apply Kd.R_drewN | apply Kd.R_drew)); exact HQ29.out⟩, ⟨by repeat (first | (with_reducible first | exact HB.out | apply below_alloc | apply pw_below_drewN | apply below_drew1 | refine below_set ?_ GB27.out) | exact HB.out)⟩⟩
                                       · rw [if_neg c26] at H
                                         exact absurd H (by simp)
                                     · rw [if_neg c24] at H
                                       exact absurd H (by simp)
                                   · rw [if_neg c23] at H
                                     exact absurd H (by simp)
                                 · rw [if_neg c21] at H
                                   exact absurd H (by simp)
                               · rw [if_neg c20] at H
                                 exact absurd H (by simp)
                             · rw [if_neg c18] at H
                               have c18b0 : decide (x6_2 < 4) = false := decide_eq_false c18
                               clear c18
                               have H' := Aside0.mk H
                               clear H
                               go_wp2
                               go_roundg k2
                               case measure => have := HK1.out; have := HK2.out; omega
                               case rel => exact ⟨(x3_2), (wrap64 (x4_1 + 4)), (by first | rfl | (simp; done) | (simp [*]; done)), H', ⟨by have := HK1.out; have := HK2.out; omega⟩, ⟨by (with_reducible repeat (first | apply Kd.R_alloc | apply Kd.R_drewN | apply Kd.R_drew)); exact HO_3.out⟩, ⟨by repeat (first | (with_reducible first | exact HB.out | apply below_alloc | apply pw_below_drewN | apply below_drew1) | exact HB.out)⟩⟩
                       · rw [if_neg c16] at H
                         exact absurd H (by simp)
                     · rw [if_neg c15] at H
                       exact absurd H (by simp)
                   · rw [if_neg c13] at H
                     exact absurd H (by simp)
                 · rw [if_neg c12] at H
                   exact absurd H (by simp)
               · rw [if_neg c10] at H
                 exact absurd H (by simp)
             · rw [if_neg c9] at H
               exact absurd H (by simp)
           · rw [if_neg c7] at H
             exact absurd H (by simp)
         · rw [if_neg c6] at H
           exact absurd H (by simp)
       · rw [if_neg c5] at H
         have c5b0 : decide (x4_1 < 16) = false := decide_eq_false c5
         clear c5
         obtain rfl := Option.some.inj H
         go_wp2
         go_ret
         exact ⟨_, by first | rfl | (simp [errW_none, errW_some] <;> rfl) | (simp [*, errW_none, errW_some] <;> rfl), by (with_reducible repeat (first | apply Kd.R_alloc | apply Kd.R_drewN | apply Kd.R_drew)); exact HO_3.out, by repeat (first | (with_reducible first | exact HB.out | apply below_alloc | apply pw_below_drewN | apply below_drew1) | exact HB.out)⟩
 · rw [if_neg c2] at H
   exact absurd H (by simp)
end Go.Proofs.Ytlfpogbonmddmaa.P

/- Laid by a program of this session: of Pt8 what this law uses. -/
import Derived.Test.YtlfpogbonmddmaaZFsM11
import Derived.Test.YtlfpogbonmddmaaZFsPt1
import Derived.Test.YtlfpogbonmddmaaZFsPt2
import Derived.Test.YtlfpogbonmddmaaZFsPt3
import Derived.Test.YtlfpogbonmddmaaZFsPt4
import Derived.Test.YtlfpogbonmddmaaZFsPt7
namespace Go.Proofs.Ytlfpogbonmddmaa.P
open Go.RowKit Go.Proofs.YtlfpogbonmddmaaW.PrintWords Go.Proofs.YtlfpogbonmddmaaW.PrintLast Go.Proofs.YtlfpogbonmddmaaW.PrintMore
attribute [local go_sem] min2_int min_two
set_option linter.unusedVariables false
set_option linter.unusedSimpArgs false
mutual
def spec_l02Ctr.l0 : Nat → ByteArray → List Int → List ByteArray → List Int → Int → Option (List Int)
 | 0, _, _, _, _, _ => none
 | k + 1, x1, x7, x8, x9, x10 => if x10 < (x9.length : Int) then ((spec_l02Four.f (wrap64 (1 + (wrap64 (Int.tdiv x10 16))))).bind fun t184 => (if x1.size + (strOfNums t184).size ≤ 9223372036854775807 then ((spec_l01Encrypt.f k x8 x7 (x1 ++ (strOfNums t184))).bind fun t187 => (spec_l02Ctr.l1 k x1 x7 x8 x9 x10 t187 x10)) else (none))) else (some x9)
def spec_l02Ctr.l1 : Nat → ByteArray → List Int → List ByteArray → List Int → Int → ByteArray → Int → Option (List Int)
 | 0, _, _, _, _, _, _, _ => none
 | k + 1, x1, x7, x8, x9, x10, x11, x12 => if x12 < (x9.length : Int) then (if x12 < (wrap64 (x10 + 16)) then (if 0 ≤ x12 then (if 0 ≤ (wrap64 (x12 - x10)) then (if (wrap64 (x12 - x10)) < (x11.size : Int) then (spec_l02Ctr.l1 k x1 x7 x8 (x9.set (x12 : Int).toNat (Go.bits .xor .u8 (rd x9 x12) (bt x11 (wrap64 (x12 - x10))))) x10 x11 (wrap64 (x12 + 1))) else (none)) else (none)) else (none)) else (spec_l02Ctr.l0 k x1 x7 x8 x9 (wrap64 (x10 + 16)))) else (spec_l02Ctr.l0 k x1 x7 x8 x9 (wrap64 (x10 + 16)))
end
def spec_l02Ctr.f (k : Nat) (a0 : ByteArray) (a1 : ByteArray) (l2 : List Int) : Option (List Int) := (spec_l01Table.f k).bind fun t172 => ((spec_l01Keys.f a0 t172).bind fun t175 => ((some (([] : List Int) : List Int)).bind fun y178 => (if y178.length + l2.length < 140737488355328 then (spec_l02Ctr.l0 k a1 t172 t175 (y178 ++ l2) 0) else (none))))
def spec_l02Ctr.T11 : Bool × List (List Nat × List Nat) := (true, [([], []), ([], []), ([0, 1], [0, 1]), ([2], [2]), ([], []), ([], []), ([], []), ([5, 6], [5, 6]), ([4, 7], [4, 7]), ([3, 8], [3, 8]), ([0, 1, 0, 1, 2, 3, 4, 5, 6, 7, 8, 9], [0, 1]), ([10, 9, 0, 1, 2, 3, 4, 5, 6, 7, 8, 9], [9, 10])])
def spec_l02Ctr.B11 : List Nat := [0, 0, 3, 7, 0, 0, 0, 96, 240, 511, 1023, 2047]
theorem spec_l02Ctr.tab11 : rtab .any (opsOf Try.f76 11) = spec_l02Ctr.T11 := by kernel_rfl
theorem spec_l02Ctr.bits11 : waitsOk spec_l02Ctr.T11.2 spec_l02Ctr.B11 = true := by kernel_rfl
set_option maxHeartbeats 8000000 in
set_option maxRecDepth 100000 in
theorem spec_l02Ctr.calls (k : Nat) (a0 : ByteArray) (a1 : ByteArray) (A2 : Option Addr) (c2 : Nat) (l2 : List Int) (r : List Int) (w : World) (hr2 : Kd.C (Kd.int .u8) w A2 l2.length l2) (hc2 : l2.length ≤ c2) (h : spec_l02Ctr.f k a0 a1 l2 = some r) :
   Calls Try.prog 76 #[.string a0, .string a1, .slice A2 l2.length c2] w fun e w' => ∃ v0_ : Value, e = .returned (v0_) ∧ Kd.R (Kd.int .u8) 5 w' w.heap.size (fun _ => True) v0_ r ∧ Below w.heap.size w w' := by
 have HR2 := Aside0.mk hr2
 have HC2 := Aside0.mk hc2
 clear hr2 hc2
 have HB := Aside0.mk (Below.refl w.heap.size w)
 have H : ((spec_l01Table.f k).bind fun t172 => ((spec_l01Keys.f a0 t172).bind fun t175 => ((some (([] : List Int) : List Int)).bind fun y178 => (if y178.length + l2.length < 140737488355328 then (spec_l02Ctr.l0 k a1 t172 t175 (y178 ++ l2) 0) else (none))))) = some r := h
 clear h
 replace H := Option.bind_eq_some_iff.mp H
 obtain ⟨t172, A40, H⟩ := H
 replace H : ((spec_l01Keys.f a0 t172).bind fun t175 => ((some (([] : List Int) : List Int)).bind fun y178 => (if y178.length + l2.length < 140737488355328 then (spec_l02Ctr.l0 k a1 t172 t175 (y178 ++ l2) 0) else (none)))) = some r := H
 have A4 := Aside0.mk A40
 clear A40
 replace H := Option.bind_eq_some_iff.mp H
 obtain ⟨t175, A50, H⟩ := H
 replace H : ((some (([] : List Int) : List Int)).bind fun y178 => (if y178.length + l2.length < 140737488355328 then (spec_l02Ctr.l0 k a1 t172 t175 (y178 ++ l2) 0) else (none))) = some r := H
 have A5 := Aside0.mk A50
 clear A50
 obtain ⟨y178, hy178⟩ : ∃ y_ : List Int, y_ = (([] : List Int)) := ⟨_, rfl⟩
 replace H : (if y178.length + l2.length < 140737488355328 then (spec_l02Ctr.l0 k a1 t172 t175 (y178 ++ l2) 0) else (none)) = some r := by first | (rw [hy178]; with_reducible exact H) | (have H2_ := (Option.bind_some _ _).symm.trans H; rw [hy178]; with_reducible exact H2_) | (have H2_ := (Option.bind_some _ _).symm.trans H; with_reducible exact H2_) | with_reducible exact H | (rw [hy178]; exact H) | exact H
 have Ny178 := Aside0.mk hy178
 clear hy178
 by_cases c6 : y178.length + l2.length < 140737488355328
 · rw [if_pos c6] at H
   have LMc6 := Aside0.mk c6
   clear c6
   obtain ⟨y181, hy181⟩ : ∃ y_ : List Int, y_ = (y178 ++ l2) := ⟨_, rfl⟩
   replace H : (spec_l02Ctr.l0 k a1 t172 t175 y181 0) = some r := by first | (rw [hy181]; with_reducible exact H) | (have H2_ := (Option.bind_some _ _).symm.trans H; rw [hy181]; with_reducible exact H2_) | (have H2_ := (Option.bind_some _ _).symm.trans H; with_reducible exact H2_) | with_reducible exact H | (rw [hy181]; exact H) | exact H
   have Ny181 := Aside0.mk hy181
   clear hy181
   have H' := Aside0.mk H
   clear H
   go_enter Try.func76, Try.ntmps76
   go_wp2_with (first | ((with_reducible refine gate_callee (f := 94) rfl ?_); refine goesL_ (some 13) rfl rfl Try.func94 (by kernel_rfl) rfl #[] rfl (by (try simp only [List.map_toArray, List.map_cons, List.map_nil]); first | done | rfl | (simp only [List.length_drop, List.length_take]; rfl)) ?_; (with_reducible refine (spec_l01Table.calls k  t172 _ A4.out).mono ?_); rintro e w7 ⟨v173, rfl, ho0, hb⟩; refine ⟨_, rfl, ?_⟩; have n0_ := Aside0.mk (Kd.R_lower ho0 (below_size (by repeat (first | (with_reducible first | exact HB.out | apply below_alloc | apply pw_below_drewN | apply below_drew1) | exact HB.out)))); have n1_ := Aside0.mk (below_step (by repeat (first | (with_reducible first | exact HB.out | apply below_alloc | apply pw_below_drewN | apply below_drew1) | exact HB.out)) hb); clear HB; have HO174 := n0_; have HB := n1_; clear n0_ n1_; (try clear hb); (try clear hb2); (try clear hk); (try clear hi); (try clear ho0); obtain ⟨Ao8, co8, eo8⟩ := Kd.R_slice HO174.out; subst eo8) | ((with_reducible refine gate_callee (f := 95) rfl ?_); refine goesL_ (some 16) rfl rfl Try.func95 (by kernel_rfl) rfl #[.string a0, .slice Ao8 t172.length co8] rfl (by (try simp only [List.map_toArray, List.map_cons, List.map_nil]); first | done | rfl | (simp only [List.length_drop, List.length_take]; rfl)) ?_; (with_reducible refine (spec_l01Keys.calls a0 _ _ t172 t175 _ ?side1 ?side2 A5.out).mono ?_); (case side1 => repeat (first | exact (Kd.R_reads' HO174.out).2.2 | (with_reducible refine Kd.C_alloc ?_ _) | (with_reducible refine Kd.C_drewN ?_ _) | (with_reducible refine Kd.C_drew ?_))); (case side2 => exact (Kd.R_reads' HO174.out).2.1); rintro e w9 ⟨v176, rfl, ho0, hb⟩; refine ⟨_, rfl, ?_⟩; have n0_ := Aside0.mk (Kd.R_below (by (with_reducible repeat (first | apply Kd.R_alloc | apply Kd.R_drewN | apply Kd.R_drew)); exact HO174.out) hb); have n1_ := Aside0.mk (Kd.R_lower ho0 (below_size (by repeat (first | (with_reducible first | exact HB.out | apply below_alloc | apply pw_below_drewN | apply below_drew1) | exact HB.out)))); have n2_ := Aside0.mk (below_step (by repeat (first | (with_reducible first | exact HB.out | apply below_alloc | apply pw_below_drewN | apply below_drew1) | exact HB.out)) hb); clear HO174; clear HB; have HO174 := n0_; have HO177 := n1_; have HB := n2_; clear n0_ n1_ n2_; (try clear hb); (try clear hb2); (try clear hk); (try clear hi); (try clear ho0)) | ((with_reducible refine gate_dst (N := 17) rfl ?_); refine Kd.R_lit (Kd.int .u8) _ 5 ?hg (N := 17) ?hd (xs := ([] : List Int)) (inner := []) (ok := fun _ => True) (okp := fun _ => True) ?hr ?hp (fun _ hk => hk) trivial (Below.refl _ _) (Nat.le_refl _) (by simp) ?_; (case hd => rfl); (case hg => rfl); (case hr => first | (go_simp; done) | (go_simp; rfl)); (case hp => exact (Reps.none _ _)); intro v179 w10 ho11 hb hg_ hnew_; clear hg_ hnew_; (first | rw [← Ny178.out] at ho11 | (simp only [Int.reduceToNat] at ho11; rw [← Ny178.out] at ho11)); have n0_ := Aside0.mk (Kd.R_below (by (with_reducible repeat (first | apply Kd.R_alloc | apply Kd.R_drewN | apply Kd.R_drew)); exact HO174.out) hb); have n1_ := Aside0.mk (Kd.R_below (by (with_reducible repeat (first | apply Kd.R_alloc | apply Kd.R_drewN | apply Kd.R_drew)); exact HO177.out) hb); have n2_ := Aside0.mk (Kd.R_lower ho11 (below_size (by repeat (first | (with_reducible first | exact HB.out | apply below_alloc | apply pw_below_drewN | apply below_drew1) | exact HB.out)))); have n3_ := Aside0.mk (below_step (by repeat (first | (with_reducible first | exact HB.out | apply below_alloc | apply pw_below_drewN | apply below_drew1) | exact HB.out)) hb); clear HO174; clear HO177; clear HB; have HO174 := n0_; have HO177 := n1_; have HO180 := n2_; have HB := n3_; clear n0_ n1_ n2_ n3_; clear hb ho11) | ((with_reducible refine gate_builtin (b := .append) (xs := #[.tmp 17, .tmp 18]) rfl ?_); at_builtin; refine Kd.R_append_rows (Kd.int .u8) (w0 := w) w.heap.size rfl (.tmp 17) (.tmp 18) 22 5 (.int .u8 0) 1 rfl Try.underlying22 info5 rfl (by decide) (by omega) v179 y178 l2 _ _ _ (fun _ => True) (fun _ => False) rfl rfl ?aO ?aR (fun _ _ h => h) (fun _ h => h.elim) ?aF ?aB ?aS ?aL ?_; (case aR => repeat (first | exact (Kd.C_below HR2.out HB.out) | (with_reducible refine Kd.C_alloc ?_ _) | (with_reducible refine Kd.C_drewN ?_ _) | (with_reducible refine Kd.C_drew ?_))); (case aB => exact (by repeat (first | (with_reducible first | exact HB.out | apply below_alloc | apply pw_below_drewN | apply below_drew1) | exact HB.out))); (case aF => exact (fun _ _ => trivial)); (case aO => exact (by (with_reducible repeat (first | apply Kd.R_alloc | apply Kd.R_drewN | apply Kd.R_drew)); exact HO180.out)); (case aS => exact (below_size (by repeat (first | (with_reducible first | exact HB.out | apply below_alloc | apply pw_below_drewN | apply below_drew1) | exact HB.out)))); (case aL => have := LMc6.out; omega); intro v182 w12 ho hb hg hat; rw [← Ny181.out] at ho; have n0_ := Aside0.mk (Kd.R_over' (by (with_reducible repeat (first | apply Kd.R_alloc | apply Kd.R_drewN | apply Kd.R_drew)); exact HO174.out) (Kd.R_typed (by (with_reducible repeat (first | apply Kd.R_alloc | apply Kd.R_drewN | apply Kd.R_drew)); exact HO180.out)) (by decide) hg); have n1_ := Aside0.mk (Kd.R_over' (by (with_reducible repeat (first | apply Kd.R_alloc | apply Kd.R_drewN | apply Kd.R_drew)); exact HO177.out) (Kd.R_typed (by (with_reducible repeat (first | apply Kd.R_alloc | apply Kd.R_drewN | apply Kd.R_drew)); exact HO180.out)) (by decide) hg); have n2_ := Aside0.mk (hb); have n3_ := Aside0.mk (ho); clear HO174; clear HO177; clear HB; clear HO180; have HO174 := n0_; have HO177 := n1_; have HB := n2_; have HO183 := n3_; clear n0_ n1_ n2_ n3_; clear ho hb hg hat))
   go_loopg [10] k (fun kq v10 w' => ∃ (x9_1 : List Int) (x10_1 : Int), v10 = .int .i64 x10_1 ∧ Aside0 (spec_l02Ctr.l0 kq a1 t172 t175 x9_1 x10_1 = some r) ∧ Aside0 (kq ≤ k) ∧ Aside0 (Kd.R (Kd.int .i64) 3 w' w.heap.size (fun _ => True) (.slice Ao8 t172.length co8) t172) ∧ Aside0 (Kd.R Kd.string 9 w' w.heap.size (fun _ => True) v176 t175) ∧ Aside0 (Kd.R (Kd.int .u8) 5 w' w.heap.size (fun _ => True) v182 x9_1) ∧ Aside0 (Below w.heap.size w w'))
   case atStart => exact ⟨(y181), (0), (by first | rfl | (simp; done) | (simp [*]; done)), H', ⟨Nat.le_refl _⟩, ⟨by (with_reducible repeat (first | apply Kd.R_alloc | apply Kd.R_drewN | apply Kd.R_drew)); exact HO174.out⟩, ⟨by (with_reducible repeat (first | apply Kd.R_alloc | apply Kd.R_drewN | apply Kd.R_drew)); exact HO177.out⟩, ⟨by (with_reducible repeat (first | apply Kd.R_alloc | apply Kd.R_drewN | apply Kd.R_drew)); exact HO183.out⟩, ⟨by repeat (first | (with_reducible first | exact HB.out | apply below_alloc | apply pw_below_drewN | apply below_drew1) | exact HB.out)⟩⟩
   case round =>
     clear H'
     try clear c2
     try clear p2
     try clear c6
     try clear c7
     try clear c9
     obtain ⟨x9_1, x10_1, rfl, HA, HK1, HO_7, HO_8, HO_9, HB⟩ := hrel
     cases gk with
     | zero => exact absurd HA.out (by simp [spec_l02Ctr.l0])
     | succ k1 =>
       have H := HA.out
       clear HA
       simp only [spec_l02Ctr.l0] at H
       by_cases c13 : x10_1 < (x9_1.length : Int)
       · rw [if_pos c13] at H
         have c13b0 : decide (x10_1 < (x9_1.length : Int)) = true := decide_eq_true c13
         clear c13
         replace H := Option.bind_eq_some_iff.mp H
         obtain ⟨t184, A140, H⟩ := H
         replace H : (if a1.size + (strOfNums t184).size ≤ 9223372036854775807 then ((spec_l01Encrypt.f k1 t175 t172 (a1 ++ (strOfNums t184))).bind fun t187 => (spec_l02Ctr.l1 k1 a1 t172 t175 x9_1 x10_1 t187 x10_1)) else (none)) = some r := H
         have A14 := Aside0.mk A140
         clear A140
         by_cases c15 : a1.size + (strOfNums t184).size ≤ 9223372036854775807
         · rw [if_pos c15] at H
           have c15b0 := eq_true c15
           have c15b1 : decide (a1.size + (strOfNums t184).size ≤ 9223372036854775807) = true := decide_eq_true c15
           try have c15b2 : (9223372036854775807 < a1.size + (strOfNums t184).size) = False := eq_false (Nat.not_lt.2 c15)
           replace H := Option.bind_eq_some_iff.mp H
           obtain ⟨t187, A160, H⟩ := H
           replace H : (spec_l02Ctr.l1 k1 a1 t172 t175 x9_1 x10_1 t187 x10_1) = some r := H
           have A16 := Aside0.mk A160
           clear A160
           have H' := Aside0.mk H
           clear H
           obtain ⟨Ao17, co17, eo17⟩ := Kd.R_slice HO_9.out
           subst eo17
           go_wp2_with (first | ((with_reducible refine gate_callee (f := 86) rfl ?_); refine goesL_ (some 32) rfl rfl Try.func86 (by kernel_rfl) rfl #[.int .i64 (wrap64 (1 + (wrap64 (Int.tdiv x10_1 16))))] rfl (by (try simp only [List.map_toArray, List.map_cons, List.map_nil]); first | done | rfl | (simp only [List.length_drop, List.length_take]; rfl)) ?_; (with_reducible refine (spec_l02Four.calls (wrap64 (1 + (wrap64 (Int.tdiv x10_1 16)))) t184 _ A14.out).mono ?_); rintro e w18 ⟨v185, rfl, ho0, hb⟩; refine ⟨_, rfl, ?_⟩; have n0_ := Aside0.mk (Kd.R_below (by (with_reducible repeat (first | apply Kd.R_alloc | apply Kd.R_drewN | apply Kd.R_drew)); exact HO_7.out) hb); have n1_ := Aside0.mk (Kd.R_below (by (with_reducible repeat (first | apply Kd.R_alloc | apply Kd.R_drewN | apply Kd.R_drew)); exact HO_8.out) hb); have n2_ := Aside0.mk (Kd.R_elder' (by (with_reducible repeat (first | apply Kd.R_alloc | apply Kd.R_drewN | apply Kd.R_drew)); exact HO_9.out) (Kd.R_base ho0) hb); have n3_ := Aside0.mk (Kd.R_lower (Kd.R_new' ho0 (Kd.R_lt (by (with_reducible repeat (first | apply Kd.R_alloc | apply Kd.R_drewN | apply Kd.R_drew)); exact HO_9.out))) (below_size (by repeat (first | (with_reducible first | exact HB.out | apply below_alloc | apply pw_below_drewN | apply below_drew1) | exact HB.out)))); have n4_ := Aside0.mk (below_step (by repeat (first | (with_reducible first | exact HB.out | apply below_alloc | apply pw_below_drewN | apply below_drew1) | exact HB.out)) hb); clear HO_7; clear HO_8; clear HO_9; clear HB; have HO_7 := n0_; have HO_8 := n1_; have HO_9 := n2_; have HO186 := n3_; have HB := n4_; clear n0_ n1_ n2_ n3_ n4_; (try clear hb); (try clear hb2); (try clear hk); (try clear hi); (try clear ho0); have hcv19 := own_string (P := Try.prog) Try.underlying22 Try.underlying5 Try.underlying9 (Kd.own_of_R HO186.out); obtain ⟨Ao20, co20, eo20⟩ := Kd.R_slice HO_8.out; subst eo20) | ((with_reducible refine gate_callee (f := 96) rfl ?_); refine goesL_ (some 35) rfl rfl Try.func96 (by kernel_rfl) rfl #[.slice Ao20 t175.length co20, .slice Ao8 t172.length co8, .string (a1 ++ (strOfNums t184))] rfl (by (try simp only [List.map_toArray, List.map_cons, List.map_nil]); first | done | rfl | (simp only [List.length_drop, List.length_take]; rfl)) ?_; (with_reducible refine (spec_l01Encrypt.calls k1 _ _ t175 _ _ t172 (a1 ++ (strOfNums t184)) t187 _ ?side1 ?side2 ?side3 ?side4 A16.out).mono ?_); (case side1 => repeat (first | exact (Kd.R_reads' HO_8.out).2.2 | (with_reducible refine Kd.C_alloc ?_ _) | (with_reducible refine Kd.C_drewN ?_ _) | (with_reducible refine Kd.C_drew ?_))); (case side2 => exact (Kd.R_reads' HO_8.out).2.1); (case side3 => repeat (first | exact (Kd.R_reads' HO_7.out).2.2 | (with_reducible refine Kd.C_alloc ?_ _) | (with_reducible refine Kd.C_drewN ?_ _) | (with_reducible refine Kd.C_drew ?_))); (case side4 => exact (Kd.R_reads' HO_7.out).2.1); rintro e w21 ⟨rfl, hb⟩; refine ⟨_, rfl, ?_⟩; have n0_ := Aside0.mk (Kd.R_below (by (with_reducible repeat (first | apply Kd.R_alloc | apply Kd.R_drewN | apply Kd.R_drew)); exact HO_7.out) hb); have n1_ := Aside0.mk (Kd.R_below (by (with_reducible repeat (first | apply Kd.R_alloc | apply Kd.R_drewN | apply Kd.R_drew)); exact HO_8.out) hb); have n2_ := Aside0.mk (Kd.R_below (by (with_reducible repeat (first | apply Kd.R_alloc | apply Kd.R_drewN | apply Kd.R_drew)); exact HO_9.out) hb); have n3_ := Aside0.mk (Kd.R_below (by (with_reducible repeat (first | apply Kd.R_alloc | apply Kd.R_drewN | apply Kd.R_drew)); exact HO186.out) hb); have n4_ := Aside0.mk (below_step (by repeat (first | (with_reducible first | exact HB.out | apply below_alloc | apply pw_below_drewN | apply below_drew1) | exact HB.out)) hb); clear HO_7; clear HO_8; clear HO_9; clear HO186; clear HB; have HO_7 := n0_; have HO_8 := n1_; have HO_9 := n2_; have HO186 := n3_; have HB := n4_; clear n0_ n1_ n2_ n3_ n4_; (try clear hb); (try clear hb2); (try clear hk); (try clear hi)))
           go_loopg [12] k1 (fun kq v12 w' => ∃ (x9_2 : List Int) (x12_2 : Int), v12 = .int .i64 x12_2 ∧ Aside0 (spec_l02Ctr.l1 kq a1 t172 t175 x9_2 x10_1 t187 x12_2 = some r) ∧ Aside0 (kq ≤ k1) ∧ Aside0 (Kd.R (Kd.int .i64) 3 w' w.heap.size (fun _ => True) (.slice Ao8 t172.length co8) t172) ∧ Aside0 (Kd.R Kd.string 9 w' w.heap.size (fun _ => True) (.slice Ao20 t175.length co20) t175) ∧ Aside0 (Kd.R (Kd.int .u8) 5 w' w.heap.size (fun _ => True) (.slice Ao17 x9_1.length co17) x9_2) ∧ Aside0 (Below w.heap.size w w'))
           case atStart => exact ⟨(x9_1), (x10_1), (by first | rfl | (simp; done) | (simp [*]; done)), H', ⟨Nat.le_refl _⟩, ⟨by (with_reducible repeat (first | apply Kd.R_alloc | apply Kd.R_drewN | apply Kd.R_drew)); exact HO_7.out⟩, ⟨by (with_reducible repeat (first | apply Kd.R_alloc | apply Kd.R_drewN | apply Kd.R_drew)); exact HO_8.out⟩, ⟨by (with_reducible repeat (first | apply Kd.R_alloc | apply Kd.R_drewN | apply Kd.R_drew)); exact Kd.R_mono HO_9.out (fun _ hk => trivial)⟩, ⟨by repeat (first | (with_reducible first | exact HB.out | apply below_alloc | apply pw_below_drewN | apply below_drew1) | exact HB.out)⟩⟩
           case round =>
             clear H'
             try clear c1
             try clear hcv1
             try clear c2
             try clear p2
             try clear c6
             try clear p6
             try clear c7
             try clear c8
             try clear c9
             try clear c13
             try clear c13b0
             try clear c15
             try clear c15b0
             try clear c15b1
             try clear c15b2
             try clear hcv19
             try clear p2
             obtain ⟨x9_2, x12_2, rfl, HA, HK2, HO_7, HO_8, HO_9, HB⟩ := hrel
             have hl9_2 := (Kd.R_reads' HO_9.out).1
             rw [hl9_2] at HO_9
             (try simp only [hl9_2])
             (try simp only [hl9_2] at HO_7)
             (try simp only [hl9_2] at HO_8)
             cases gk with
             | zero => exact absurd HA.out (by simp [spec_l02Ctr.l1])
             | succ k2 =>
               have H := HA.out
               clear HA
               simp only [spec_l02Ctr.l1] at H
               by_cases c22 : x12_2 < (x9_2.length : Int)
               · rw [if_pos c22] at H
                 have c22b0 : decide (x12_2 < (x9_2.length : Int)) = true := decide_eq_true c22
                 clear c22
                 by_cases c23 : x12_2 < (wrap64 (x10_1 + 16))
                 · rw [if_pos c23] at H
                   have c23b0 : decide (x12_2 < (wrap64 (x10_1 + 16))) = true := decide_eq_true c23
                   clear c23
                   by_cases c24 : 0 ≤ x12_2
                   · rw [if_pos c24] at H
                     have c24b0 : decide (0 ≤ x12_2) = true := decide_eq_true c24
                     clear c24
                     obtain ⟨ji25, hji25⟩ : ∃ j_ : Int, (wrap64 (x12_2 - x10_1)) = j_ := ⟨_, rfl⟩
                     replace H : (if 0 ≤ (ji25) then (if (ji25) < (t187.size : Int) then (spec_l02Ctr.l1 k2 a1 t172 t175 (x9_2.set (x12_2 : Int).toNat (Go.bits .xor .u8 (rd x9_2 x12_2) (bt t187 (ji25)))) x10_1 t187 (wrap64 (x12_2 + 1))) else (none)) else (none)) = some r := by first | (rw [hji25] at H; exact H) | (simp only [hji25] at H ⊢; exact H)
                     have hji25w : (IntKind.i64.wrap (x12_2 - x10_1)) = ji25 := (i64_w _).trans hji25
                     by_cases c26 : 0 ≤ (ji25)
                     · rw [if_pos c26] at H
                       have c26b0 : decide (0 ≤ (ji25)) = true := decide_eq_true c26
                       clear c26
                       by_cases c27 : (ji25) < (t187.size : Int)
                       · rw [if_pos c27] at H
                         have c27b0 : decide ((ji25) < (t187.size : Int)) = true := decide_eq_true c27
                         clear c27
                         obtain ⟨y189, hy189⟩ : ∃ y_ : List Int, y_ = (x9_2.set (x12_2 : Int).toNat (Go.bits .xor .u8 (rd x9_2 x12_2) (bt t187 (ji25)))) := ⟨_, rfl⟩
                         replace H : (spec_l02Ctr.l1 k2 a1 t172 t175 y189 x10_1 t187 (wrap64 (x12_2 + 1))) = some r := by first | (rw [hy189]; with_reducible exact H) | (have H2_ := (Option.bind_some _ _).symm.trans H; rw [hy189]; with_reducible exact H2_) | (have H2_ := (Option.bind_some _ _).symm.trans H; with_reducible exact H2_) | with_reducible exact H | (rw [hy189]; exact H) | exact H
                         have Ny189 := Aside0.mk hy189
                         clear hy189
                         have H' := Aside0.mk H
                         clear H
                         try go_wp2
                         have n0_ := Aside0.mk (Kd.R_drew HO_7.out)
                         have n1_ := Aside0.mk (Kd.R_drew HO_8.out)
                         have n2_ := Aside0.mk (Kd.R_drew HO_9.out)
                         have n3_ := Aside0.mk (below_drew1 HB.out)
                         clear HO_7
                         clear HO_8
                         clear HO_9
                         clear HB
                         have HO_7 := n0_
                         have HO_8 := n1_
                         have HO_9 := n2_
                         have HB := n3_
                         clear n0_ n1_ n2_ n3_
                         have p188 : 0 ≤ (x12_2 : Int) := of_decide_eq_true (by first | (with_reducible assumption) | assumption)
                         have q188 : x12_2 < (x9_2.length : Int) := of_decide_eq_true (by first | (with_reducible assumption) | assumption)
                         obtain ⟨ad188, e188, hx188_0⟩ := Kd.at_int (Kd.R_reads' HO_9.out).2.2 x12_2 p188 q188
                         cases e188
                         replace p188 := eq_true p188
                         replace q188 := eq_true q188
                         have p28 : 0 ≤ ((ji25) : Int) := of_decide_eq_true (by first | (with_reducible assumption) | assumption)
                         have q28 : (ji25) < (t187.size : Int) := of_decide_eq_true (by first | (with_reducible assumption) | assumption)
                         have hx28 := bt_at t187 (ji25)
                         replace p28 := eq_true p28
                         replace q28 := eq_true q28
                         have p29 : 0 ≤ (x12_2 : Int) := of_decide_eq_true (by first | (with_reducible assumption) | assumption)
                         have q29 : (x12_2 : Int) < ((x9_2.length : Int) : Int) := of_decide_eq_true (by first | (with_reducible assumption) | assumption)
                         obtain ⟨go29, co29, eo29, gb29, gl29, cl29, HG29⟩ := Kd.R_form HO_9.out (by omega)
                         (first | cases eo29 | (injection eo29 with ea_ en_ ec_; (first | subst ea_ | (injection ea_ with ea_; subst ea_)); subst ec_; clear en_))
                         have GB29 := Aside0.mk gb29
                         have GG29 := Aside0.mk HG29
                         clear gb29 gl29 HG29
                         (first | simp only [add_plain] at hx188_0 | skip)
                         obtain ⟨hx29_0, hf29_0⟩ := Kd.R_celln 0 HO_9.out (x12_2 : Int) p29 q29
                         replace p29 := eq_true p29
                         replace q29 := eq_true q29
                         have HP31 := Kd.R_putn HO_9.out (x12_2 : Int) (Go.bits .xor .u8 (rd x9_2 x12_2) (bt t187 (ji25)))
                         rw [← Ny189.out] at HP31
                         have HQ31 := Aside0.mk HP31
                         clear HP31
                         refine start_ (n := 12) (S := fun w' => w'.cell? ⟨go29, (x12_2).toNat, none⟩ = some (.int .u8 (rd x9_2 x12_2))) (ds := [11]) #[false, false, false, false, false, false, false, false, false, false, false, false] (by kernel_rfl) rfl rfl (hx188_0) (fun hHeld => ?_); refine with_tabW spec_l02Ctr.tab11 spec_l02Ctr.bits11 (fun HT_ HW_ => ?_)
                         generalize wr.drew = w30 at HO_7 HO_8 HO_9 HB GG29 HQ31 hf29_0 hx188_0 hx29_0 hHeld ⊢
                         refine pure_ (i := 0) (N := some 49) (v := ?_) (a' := ?_) #[true, false, false, false, false, false, false, false, false, false, false, false] rfl rfl (any_of HT_.out (by kernel_rfl)) (fun _ _ _ h => h) (Or.inl ⟨by rfl, ?_⟩) ?_ ?_
                         rotate_left
                         · intro w'
                           go_simp
                           with_reducible rfl
                         rotate_left
                         · simp only [Act.put, sA_, s0_, s1_, i64_w, i32_w]
                           rfl
                         refine pure_ (i := 1) (N := some 50) (v := ?_) (a' := ?_) #[true, true, false, false, false, false, false, false, false, false, false, false] rfl rfl (any_of HT_.out (by kernel_rfl)) (fun _ _ _ h => h) (Or.inl ⟨by rfl, ?_⟩) ?_ ?_
                         rotate_left
                         · intro w'
                           go_simp
                           with_reducible rfl
                         rotate_left
                         · simp only [Act.put, sA_, s0_, s1_, i64_w, i32_w]
                           rfl
                         refine pure_ (i := 2) (N := some 51) (v := ?_) (a' := ?_) #[true, true, true, false, false, false, false, false, false, false, false, false] rfl rfl (any_of HT_.out (by kernel_rfl)) (fun _ _ _ h => h) (Or.inl ⟨by rfl, ?_⟩) ?_ ?_
                         rotate_left
                         · intro w'
                           go_simp
                           with_reducible rfl
                         rotate_left
                         · simp only [Act.put, sA_, s0_, s1_, i64_w, i32_w]
                           rfl
                         refine pure_ (i := 4) (N := some 53) (v := ?_) (a' := ?_) #[true, true, true, false, true, false, false, false, false, false, false, false] rfl rfl (any_of HT_.out (by kernel_rfl)) (fun _ _ _ h => h) (Or.inl ⟨by rfl, ?_⟩) ?_ ?_
                         rotate_left
                         · intro w'
                           go_simp
                           with_reducible rfl
                         rotate_left
                         · simp only [Act.put, sA_, s0_, s1_, i64_w, i32_w]
                           rfl
                         refine pure_ (i := 5) (N := some 54) (v := ?_) (a' := ?_) #[true, true, true, false, true, true, false, false, false, false, false, false] rfl rfl (any_of HT_.out (by kernel_rfl)) (fun _ _ _ h => h) (Or.inl ⟨by rfl, ?_⟩) ?_ ?_
                         rotate_left
                         · intro w'
                           go_simp
                           with_reducible rfl
                         rotate_left
                         · simp only [Act.put, sA_, s0_, s1_, i64_w, i32_w]
                           rfl
                         refine pure_ (i := 6) (N := some 55) (v := ?_) (a' := ?_) #[true, true, true, false, true, true, true, false, false, false, false, false] rfl rfl (any_of HT_.out (by kernel_rfl)) (fun _ _ _ h => h) (Or.inl ⟨by rfl, ?_⟩) ?_ ?_
                         rotate_left
                         · intro w'
                           go_simp
                           with_reducible rfl
                         rotate_left
                         · simp only [Act.put, sA_, s0_, s1_, i64_w, i32_w]
                           rfl
                         refine pure_ (i := 7) (N := some 56) (v := ?_) (a' := ?_) #[true, true, true, false, true, true, true, true, false, false, false, false] rfl rfl (any_of HT_.out (by kernel_rfl)) (fun _ _ _ h => h) (Or.inl ⟨by rfl, ?_⟩) ?_ ?_
                         rotate_left
                         · intro w'
                           go_simp
                           with_reducible rfl
                         rotate_left
                         · simp only [Act.put, sA_, s0_, s1_, i64_w, i32_w]
                           rfl
                         refine take_ (i := 3) (N := some 52) (v := ?_) (a' := ?_) #[true, true, true, true, true, true, true, true, false, false, false, false] rfl rfl (take_ofW HT_.out HW_.out (by kernel_rfl)) (fun _ _ _ h => h) (Or.inl ⟨by rfl, ?_⟩) hHeld ?_ ?_
                         rotate_left
                         · intro w' s0
                           go_simp
                           with_reducible rfl
                         rotate_left
                         · simp only [Act.put, sA_, s0_, s1_, i64_w, i32_w]
                           rfl
                         refine take_ (i := 8) (N := some 57) (v := ?_) (a' := ?_) #[true, true, true, true, true, true, true, true, true, false, false, false] rfl rfl (take_ofW HT_.out HW_.out (by kernel_rfl)) (fun _ _ _ h => h) (Or.inl ⟨by rfl, ?_⟩) hHeld ?_ ?_
                         rotate_left
                         · intro w' s0
                           go_simp
                           with_reducible rfl
                         rotate_left
                         · simp only [Act.put, sA_, s0_, s1_, i64_w, i32_w]
                           rfl
                         refine pure_ (i := 9) (N := some 58) (v := ?_) (a' := ?_) #[true, true, true, true, true, true, true, true, true, true, false, false] rfl rfl (any_of HT_.out (by kernel_rfl)) (fun _ _ _ h => h) (Or.inl ⟨by rfl, ?_⟩) ?_ ?_
                         rotate_left
                         · intro w'
                           go_simp
                           with_reducible rfl
                         rotate_left
                         · simp only [Act.put, sA_, s0_, s1_, i64_w, i32_w]
                           rfl
                         refine pure_ (i := 10) (N := some 59) (v := ?_) (a' := ?_) #[true, true, true, true, true, true, true, true, true, true, true, false] rfl rfl (any_of HT_.out (by kernel_rfl)) (fun _ _ _ h => h) (Or.inl ⟨by rfl, ?_⟩) ?_ ?_
                         rotate_left
                         · intro w'
                           go_simp
                           with_reducible rfl
                         rotate_left
                         · simp only [Act.put, sA_, s0_, s1_, i64_w, i32_w]
                           rfl
                         refine last_ (i := 11) (N := none) #[true, true, true, true, true, true, true, true, true, true, true, true] rfl rfl (one_of HT_.out (by kernel_rfl)) (by decide) (fun K hK => ?_)
                         refine skip_ (w1 := ?_) (by rfl) rfl ?_ ?_
                         rotate_left
                         · go_simp
                           rfl
                         refine hK.out _ _ ?_
                         clear hK K
                         refine done_ (done_of HT_.out (by kernel_rfl)) ?_
                         try go_wp2
                         (try simp only [← hl9_2])
                         go_roundg k2
                         case measure => have := HK1.out; have := HK2.out; omega
                         case rel => exact ⟨(y189), (wrap64 (x12_2 + 1)), (by first | rfl | (simp; done) | (simp [*]; done)), H', ⟨by have := HK1.out; have := HK2.out; omega⟩, ⟨by (try simp only [hl9_2]); (with_reducible repeat (first | apply Kd.R_alloc | apply Kd.R_drewN | apply Kd.R_drew)); exact Kd.R_mono (Kd.R_far (p := ⟨go29, (x12_2 : Int).toNat, none⟩) (Kd.R_types HO_7.out GG29.out (by decide)) (fun _ hk => hk.2) (.int .u8 (Go.bits .xor .u8 (rd x9_2 x12_2) (bt t187 (ji25))))) (fun _ hk => trivial)⟩, ⟨by (try simp only [hl9_2]); (with_reducible repeat (first | apply Kd.R_alloc | apply Kd.R_drewN | apply Kd.R_drew)); exact Kd.R_mono (Kd.R_far (p := ⟨go29, (x12_2 : Int).toNat, none⟩) (Kd.R_types HO_8.out GG29.out (by decide)) (fun _ hk => hk.2) (.int .u8 (Go.bits .xor .u8 (rd x9_2 x12_2) (bt t187 (ji25))))) (fun _ hk => trivial)⟩, ⟨by (try simp only [hl9_2]); (with_reducible repeat (first | apply Kd.R_alloc | apply Kd.R_drewN | apply Kd.R_drew)); exact HQ31.out⟩, ⟨by repeat (first | (with_reducible first | exact HB.out | apply below_alloc | apply pw_below_drewN | apply below_drew1 | refine below_set ?_ GB29.out) | exact HB.out)⟩⟩
                       · rw [if_neg c27] at H
                         exact absurd H (by simp)
                     · rw [if_neg c26] at H
                       exact absurd H (by simp)
                   · rw [if_neg c24] at H
                     exact absurd H (by simp)
                 · rw [if_neg c23] at H
                   have c23b0 : decide (x12_2 < (wrap64 (x10_1 + 16))) = false := decide_eq_false c23
                   clear c23
                   have H' := Aside0.mk H
                   clear H
                   go_wp2
                   (try simp only [← hl9_2])
                   go_roundg k2
                   case measure => have := HK1.out; have := HK2.out; omega
                   case rel => exact ⟨(x9_2), (wrap64 (x10_1 + 16)), (by first | rfl | (simp; done) | (simp [*]; done)), H', ⟨by have := HK1.out; have := HK2.out; omega⟩, ⟨by (try simp only [hl9_2]); (with_reducible repeat (first | apply Kd.R_alloc | apply Kd.R_drewN | apply Kd.R_drew)); exact HO_7.out⟩, ⟨by (try simp only [hl9_2]); (with_reducible repeat (first | apply Kd.R_alloc | apply Kd.R_drewN | apply Kd.R_drew)); exact HO_8.out⟩, ⟨by (try simp only [hl9_2]); (with_reducible repeat (first | apply Kd.R_alloc | apply Kd.R_drewN | apply Kd.R_drew)); exact HO_9.out⟩, ⟨by repeat (first | (with_reducible first | exact HB.out | apply below_alloc | apply pw_below_drewN | apply below_drew1) | exact HB.out)⟩⟩
               · rw [if_neg c22] at H
                 have c22b0 : decide (x12_2 < (x9_2.length : Int)) = false := decide_eq_false c22
                 clear c22
                 have H' := Aside0.mk H
                 clear H
                 go_wp2
                 (try simp only [← hl9_2])
                 go_roundg k2
                 case measure => have := HK1.out; have := HK2.out; omega
                 case rel => exact ⟨(x9_2), (wrap64 (x10_1 + 16)), (by first | rfl | (simp; done) | (simp [*]; done)), H', ⟨by have := HK1.out; have := HK2.out; omega⟩, ⟨by (try simp only [hl9_2]); (with_reducible repeat (first | apply Kd.R_alloc | apply Kd.R_drewN | apply Kd.R_drew)); exact HO_7.out⟩, ⟨by (try simp only [hl9_2]); (with_reducible repeat (first | apply Kd.R_alloc | apply Kd.R_drewN | apply Kd.R_drew)); exact HO_8.out⟩, ⟨by (try simp only [hl9_2]); (with_reducible repeat (first | apply Kd.R_alloc | apply Kd.R_drewN | apply Kd.R_drew)); exact HO_9.out⟩, ⟨by repeat (first | (with_reducible first | exact HB.out | apply below_alloc | apply pw_below_drewN | apply below_drew1) | exact HB.out)⟩⟩
         · rw [if_neg c15] at H
           exact absurd H (by simp)
       · rw [if_neg c13] at H
         have c13b0 : decide (x10_1 < (x9_1.length : Int)) = false := decide_eq_false c13
         clear c13
         obtain rfl := Option.some.inj H
         obtain ⟨Ao32, co32, eo32⟩ := Kd.R_slice HO_9.out
         subst eo32
         go_wp2
         go_ret
         exact ⟨_, by first | rfl | (simp [errW_none, errW_some] <;> rfl) | (simp [*, errW_none, errW_some] <;> rfl), by (with_reducible repeat (first | apply Kd.R_alloc | apply Kd.R_drewN | apply Kd.R_drew)); exact HO_9.out, by repeat (first | (with_reducible first | exact HB.out | apply below_alloc | apply pw_below_drewN | apply below_drew1) | exact HB.out)⟩
 · rw [if_neg c6] at H
   exact absurd H (by simp)
def tagAll (a1 : ByteArray) (l2 l3 : List Int) : List Int := bytesL a1 ++ Sha.four (l2.length : Int) ++ l2 ++ l3
def spec_l04Tag.f (a0 a1 : ByteArray) (l2 l3 : List Int) : Option ByteArray :=
 if u8b l2 = true ∧ u8b l3 = true ∧ a0.size ≤ 1048576 ∧ a1.size ≤ 1048576 ∧ l2.length ≤ 1048576 ∧ l3.length ≤ 1048576 then some (strOfNums ((Sha.hmacL (bytesL a0) (tagAll a1 l2 l3)).take 16)) else none
set_option maxHeartbeats 8000000 in
set_option maxRecDepth 100000 in
theorem spec_l04Tag_in (a0 a1 : ByteArray) (A2 : Option Addr) (c2 : Nat) (l2 : List Int) (A3 : Option Addr) (c3 : Nat) (l3 : List Int) (w0 : World) (hr2 : Kd.C (Kd.int .u8) w0 A2 l2.length l2) (hc2 : l2.length ≤ c2) (hr3 : Kd.C (Kd.int .u8) w0 A3 l3.length l3) (hc3 : l3.length ≤ c3) (hu2 : u8ok l2) (hu3 : u8ok l3) (h0 : a0.size ≤ 1048576) (h1 : a1.size ≤ 1048576) (h2 : l2.length ≤ 1048576) (h3 : l3.length ≤ 1048576) :
   Calls Try.prog 77 #[.string a0, .string a1, .slice A2 l2.length c2, .slice A3 l3.length c3] w0 fun e w' => e = .returned (.string (strOfNums ((Sha.hmacL (bytesL a0) (tagAll a1 l2 l3)).take 16))) ∧ Below w0.heap.size w0 w' := by
 have HR2 := Aside0.mk hr2
 have HR3 := Aside0.mk hr3
 have H0 := Aside0.mk h0
 have H1 := Aside0.mk h1
 have H2 := Aside0.mk h2
 have H3 := Aside0.mk h3
 have HL1 : Aside0 ((bytesL a1).length = a1.size) := ⟨bytesL_length a1⟩
 have HU0 : Aside0 (u8ok (bytesL a0)) := ⟨u8ok_bytesL a0⟩
 obtain ⟨q, hq⟩ : ∃ q, q = Sha.four (l2.length : Int) := ⟨_, rfl⟩
 have HQ : Aside0 (spec_l02Four.f (l2.length : Int) = some q) := ⟨by rw [hq]; rfl⟩
 have HQL : Aside0 (q.length = 4) := ⟨by rw [hq]; rfl⟩
 obtain ⟨m1, hm1⟩ : ∃ m, m = bytesL a1 ++ q := ⟨_, rfl⟩
 obtain ⟨m2, hm2⟩ : ∃ m, m = m1 ++ l2 := ⟨_, rfl⟩
 obtain ⟨m3, hm3⟩ : ∃ m, m = m2 ++ l3 := ⟨_, rfl⟩
 have HM1 := Aside0.mk hm1
 have HM2 := Aside0.mk hm2
 have HM3 := Aside0.mk hm3
 have HMA : Aside0 (tagAll a1 l2 l3 = m3) := ⟨by rw [hm3, hm2, hm1, hq]; rfl⟩
 have HU3 : Aside0 (u8ok m3) := ⟨by
   rw [hm3, hm2, hm1, hq]
   exact u8ok_append (u8ok_append (u8ok_append (u8ok_bytesL a1) (u8ok_four _)) hu2) hu3⟩
 have HL3 : Aside0 (m3.length ≤ 5000000 ∧ m2.length ≤ 4000000 ∧ m1.length ≤ 3000000) := ⟨by
   have z1 := HL1.out
   have z2 := HQL.out
   rw [hm3, hm2, hm1]
   simp only [List.length_append]
   omega⟩
 obtain ⟨r, hr⟩ : ∃ r, r = Sha.hmacL (bytesL a0) m3 := ⟨_, rfl⟩
 have HR : Aside0 (r = Sha.hmacL (bytesL a0) m3) := ⟨hr⟩
 have HRL : Aside0 (r.length = 32 ∧ u8ok r) := ⟨by rw [hr]; exact ⟨hmacL_length _ _, u8ok_hmacL _ _⟩⟩
 have HMAC : Aside0 (spec_l03Hmac.f (bytesL a0) m3 = some (strOfNums r)) := ⟨by
   unfold spec_l03Hmac.f
   rw [if_pos ⟨u8b_of HU0.out, u8b_of HU3.out⟩, if_pos ⟨by rw [bytesL_length]; omega, by have := HL3.out; omega⟩, hr]⟩
 have kc := Lib.run_convert_string_bytes (P := Try.prog) w0 9 22 5 a1 Try.underlying9 Try.underlying22 Try.underlying5
 have HRB := Aside0.mk (conv_rowB w0 w0.heap.size 5 a1 (Nat.le_refl _))
 have HBW : Aside0 (Below w0.heap.size w0 (Lib.bytesWorld w0 5 a1)) := ⟨bytes_below (Below.refl _ _) (Nat.le_refl _) _ _⟩
 obtain ⟨W1, hW1⟩ : ∃ W, W = Lib.bytesWorld w0 5 a1 := ⟨_, rfl⟩
 rw [← hW1] at kc HRB HBW
 have HW1 := Aside0.mk hW1
 obtain ⟨cK, hcK⟩ : ∃ c, c = grownCap w0 a1.size 0 5 := ⟨_, rfl⟩
 rw [← hcK] at kc HRB
 obtain ⟨gk, hgk⟩ : ∃ g, g = w0.heap.size := ⟨_, rfl⟩
 rw [← hgk] at kc HRB
 have HGK := Aside0.mk hgk
 rw [HMA.out, ← hr]
 clear hr2 hr3 h0 h1 h2 h3 hc2 hc3 hq hm1 hm2 hm3 hr hW1 hcK hgk hu2 hu3
 go_enter Try.func77, Try.ntmps77
 go_wp2_with fail
 refine (spec_l02Four.calls (l2.length : Int) q _ HQ.out).mono ?_
 rintro e w2 ⟨v, rfl, hR, hb2⟩
 obtain ⟨Aq, cq, rfl, hcq, hCq⟩ := Kd.R_reads hR
 have HB2 : Aside0 (Below w0.heap.size w0 w2) := ⟨HBW.out.trans (hb2.mono HBW.out.size)⟩
 have HRB2 : Aside0 (rowB w2 gk (.slice (some ⟨gk, 0, none⟩) (bytesL a1).length cK) (bytesL a1)) := ⟨by have h := rowB_below HRB.out hb2; rw [HL1.out]; exact h⟩
 have HCq := Aside0.mk hCq
 clear hR hb2 hcq hCq kc HRB
 go_upto_region 2 with (((with_reducible refine gate_dst (N := 15) rfl ?_); refine wpList_append_rowB2 (by rfl) (.tmp 11) (.tmp 14) 22 5 (by rfl) Try.underlying22 info5 (B := gk) (g := gk) (n := a1.size) (l := bytesL a1) q (by rfl) HL1.out.symm HRB2.out (by rw [HGK.out]; exact HB2.out.size) Aq q.length cq (by rfl) HCq.out (by have z1 := HL1.out; have z2 := HQL.out; have z3 := H1.out; omega) m1 HM1.out ?_))
 intro v2 w3 K1 K2 K3
 obtain ⟨g2, c2x, rfl, hc2x⟩ := rowB_form K1.out
 have HB3 : Aside0 (Below w0.heap.size w0 w3) := ⟨HB2.out.trans (by have h := K2.out; rw [HGK.out] at h; exact h)⟩
 clear K3 HCq
 go_upto_region 3 with (first
   | (((with_reducible refine gate_dst (N := 18) rfl ?_); refine wpList_append_rowB2 (by rfl) (.tmp 16) (.tmp 17) 22 5 (by rfl) Try.underlying22 info5 (B := gk) (g := g2) (n := m1.length) (l := m1) l2 (by rfl) rfl K1.out (by rw [HGK.out]; exact HB3.out.size) A2 l2.length c2 (by rfl) (Kd.C_below HR2.out HB3.out) (by have z1 := HL3.out; have z2 := H2.out; omega) m2 HM2.out ?_); intro v3 w4 L1 L2 L3; obtain ⟨g3, c3x, rfl, hc3x⟩ := rowB_form L1.out; have HB4 : Aside0 (Below w0.heap.size w0 w4) := ⟨HB3.out.trans (by have h := L2.out; rw [HGK.out] at h; exact h)⟩)
   | (((with_reducible refine gate_dst (N := 20) rfl ?_); refine wpList_append_rowB2 (by rfl) (.tmp 18) (.tmp 19) 22 5 (by rfl) Try.underlying22 info5 (B := gk) (g := g3) (n := m2.length) (l := m2) l3 (by rfl) rfl L1.out (by rw [HGK.out]; exact HB4.out.size) A3 l3.length c3 (by rfl) (Kd.C_below HR3.out HB4.out) (by have z1 := HL3.out; have z2 := H3.out; omega) m3 HM3.out ?_); intro v4 w5 M1 M2 M3; obtain ⟨g4, c4x, rfl, hc4x⟩ := rowB_form M1.out; have HB5 : Aside0 (Below w0.heap.size w0 w5) := ⟨HB4.out.trans (by have h := M2.out; rw [HGK.out] at h; exact h)⟩))
 have kc0 := Lib.run_convert_string_bytes (P := Try.prog) w5 9 22 5 a0 Try.underlying9 Try.underlying22 Try.underlying5
 have HRB6 := Aside0.mk (conv_rowB w5 w5.heap.size 5 a0 (Nat.le_refl _))
 have HBW6 := Aside0.mk (bytes_below (Below.refl w5.heap.size w5) (Nat.le_refl _) 5 a0)
 generalize Lib.bytesWorld w5 5 a0 = w6 at kc0 HRB6 HBW6
 generalize grownCap w5 a0.size 0 5 = c6 at kc0 HRB6
 have HCM : Aside0 (Kd.C (Kd.int .u8) w6 (some ⟨g4, 0, none⟩) m3.length m3) := ⟨Kd.C_below (rowB_C M1.out (by have z := HL3.out; omega)) HBW6.out⟩
 have HB6 : Aside0 (Below w0.heap.size w0 w6) := ⟨HB5.out.trans (HBW6.out.mono HB5.out.size)⟩
 generalize w5.heap.size = g6 at kc0 HRB6 HBW6
 have HA0 : Aside0 ((bytesL a0).length = a0.size) := ⟨bytesL_length a0⟩
 have hrx := HR.out
 have e32 : (strOfNums r).size = 32 := by rw [str_size]; exact HRL.out.1
 have e16 : (strOfNums r).extract 0 16 = strOfNums (r.take 16) := str_extract r 16
 clear hrx
 go_wp2_with fail
 have hcall := spec_l03Hmac.calls (some ⟨g6, 0, none⟩) c6 (bytesL a0) (some ⟨g4, 0, none⟩) c4x m3 (strOfNums r) w6 (rowB_C (by have h := HRB6.out; rw [HA0.out]; exact h) (by rw [HA0.out]; have := H0.out; omega)) (by rw [HA0.out]; exact rowB_form' HRB6.out) HCM.out hc4x HMAC.out
 rw [HA0.out] at hcall
 refine hcall.mono ?_
 clear hcall kc0
 rintro e w7 ⟨rfl, hb7⟩
 have HB7 : Aside0 (Below w0.heap.size w0 w7) := ⟨HB6.out.trans (hb7.mono HB6.out.size)⟩
 clear hb7
 go_wp2
 go_ret
 exact ⟨rfl, HB7.out⟩
theorem spec_l04Tag.calls (a0 a1 : ByteArray) (A2 : Option Addr) (c2 : Nat) (l2 : List Int) (A3 : Option Addr) (c3 : Nat) (l3 : List Int) (r : ByteArray) (w0 : World) (hr2 : Kd.C (Kd.int .u8) w0 A2 l2.length l2) (hc2 : l2.length ≤ c2) (hr3 : Kd.C (Kd.int .u8) w0 A3 l3.length l3) (hc3 : l3.length ≤ c3) (h : spec_l04Tag.f a0 a1 l2 l3 = some r) :
   Calls Try.prog 77 #[.string a0, .string a1, .slice A2 l2.length c2, .slice A3 l3.length c3] w0 fun e w' => e = .returned (.string r) ∧ Below w0.heap.size w0 w' := by
 unfold spec_l04Tag.f at h
 split at h
 · rename_i hc
   obtain rfl := Option.some.inj h
   exact spec_l04Tag_in a0 a1 A2 c2 l2 A3 c3 l3 w0 hr2 hc2 hr3 hc3 (u8b_ok hc.1) (u8b_ok hc.2.1) hc.2.2.1 hc.2.2.2.1 hc.2.2.2.2.1 hc.2.2.2.2.2
 · cases h
def spec_l04Seal.f (k : Nat) (a0 : ByteArray) (a1 : ByteArray) (l2 : List Int) (l3 : List Int) : Option (List Int) := (spec_l04Keys.f a0).bind fun bt190 => ((spec_l02Ctr.f k bt190.1 a1 l3).bind fun t192 => ((spec_l04Tag.f bt190.2 a1 l2 t192).bind fun t195 => (if t192.length + t195.size < 140737488355328 then (some (t192 ++ bytesOf t195)) else (none))))
set_option maxHeartbeats 8000000 in
set_option maxRecDepth 100000 in
theorem spec_l04Seal.calls (k : Nat) (a0 : ByteArray) (a1 : ByteArray) (A2 : Option Addr) (c2 : Nat) (l2 : List Int) (A3 : Option Addr) (c3 : Nat) (l3 : List Int) (r : List Int) (w : World) (hr2 : Kd.C (Kd.int .u8) w A2 l2.length l2) (hc2 : l2.length ≤ c2) (hr3 : Kd.C (Kd.int .u8) w A3 l3.length l3) (hc3 : l3.length ≤ c3) (h : spec_l04Seal.f k a0 a1 l2 l3 = some r) :
   Calls Try.prog 47 #[.string a0, .string a1, .slice A2 l2.length c2, .slice A3 l3.length c3] w fun e w' => ∃ v0_ : Value, e = .returned (v0_) ∧ Kd.R (Kd.int .u8) 5 w' w.heap.size (fun _ => True) v0_ r ∧ Below w.heap.size w w' := by
 have HR2 := Aside0.mk hr2
 have HC2 := Aside0.mk hc2
 clear hr2 hc2
 have HR3 := Aside0.mk hr3
 have HC3 := Aside0.mk hc3
 clear hr3 hc3
 have HB := Aside0.mk (Below.refl w.heap.size w)
 have H : ((spec_l04Keys.f a0).bind fun bt190 => ((spec_l02Ctr.f k bt190.1 a1 l3).bind fun t192 => ((spec_l04Tag.f bt190.2 a1 l2 t192).bind fun t195 => (if t192.length + t195.size < 140737488355328 then (some (t192 ++ bytesOf t195)) else (none))))) = some r := h
 clear h
 replace H := Option.bind_eq_some_iff.mp H
 obtain ⟨⟨t190, t191⟩, A50, H⟩ := H
 replace H : ((spec_l02Ctr.f k t190 a1 l3).bind fun t192 => ((spec_l04Tag.f t191 a1 l2 t192).bind fun t195 => (if t192.length + t195.size < 140737488355328 then (some (t192 ++ bytesOf t195)) else (none)))) = some r := H
 have A5 := Aside0.mk A50
 clear A50
 replace H := Option.bind_eq_some_iff.mp H
 obtain ⟨t192, A60, H⟩ := H
 replace H : ((spec_l04Tag.f t191 a1 l2 t192).bind fun t195 => (if t192.length + t195.size < 140737488355328 then (some (t192 ++ bytesOf t195)) else (none))) = some r := H
 have A6 := Aside0.mk A60
 clear A60
 replace H := Option.bind_eq_some_iff.mp H
 obtain ⟨t195, A70, H⟩ := H
 replace H : (if t192.length + t195.size < 140737488355328 then (some (t192 ++ bytesOf t195)) else (none)) = some r := H
 have A7 := Aside0.mk A70
 clear A70
 by_cases c8 : t192.length + t195.size < 140737488355328
 · rw [if_pos c8] at H
   have LMc8 := Aside0.mk c8
   clear c8
   obtain ⟨y196, hy196⟩ : ∃ y_ : List Int, y_ = (t192 ++ bytesOf t195) := ⟨_, rfl⟩
   replace H : (some y196) = some r := by first | (rw [hy196]; with_reducible exact H) | (have H2_ := (Option.bind_some _ _).symm.trans H; rw [hy196]; with_reducible exact H2_) | (have H2_ := (Option.bind_some _ _).symm.trans H; with_reducible exact H2_) | with_reducible exact H | (rw [hy196]; exact H) | exact H
   have Ny196 := Aside0.mk hy196
   clear hy196
   obtain rfl := Option.some.inj H
   go_enter Try.func47, Try.ntmps47
   go_wp2_with (first | ((with_reducible refine gate_callee (f := 62) rfl ?_); refine goesL_ (some 14) rfl rfl Try.func62 (by kernel_rfl) rfl #[.string a0] rfl (by (try simp only [List.map_toArray, List.map_cons, List.map_nil]); first | done | rfl | (simp only [List.length_drop, List.length_take]; rfl)) ?_; (with_reducible refine (spec_l04Keys.calls a0 t190 t191 _ A5.out).mono ?_); rintro e w9 ⟨rfl, hb⟩; refine ⟨_, rfl, ?_⟩; have n0_ := Aside0.mk (below_step (by repeat (first | (with_reducible first | exact HB.out | apply below_alloc | apply pw_below_drewN | apply below_drew1) | exact HB.out)) hb); clear HB; have HB := n0_; clear n0_; (try clear hb); (try clear hb2); (try clear hk); (try clear hi)) | ((with_reducible refine gate_callee (f := 76) rfl ?_); refine goesL_ (some 20) rfl rfl Try.func76 (by kernel_rfl) rfl #[.string t190, .string a1, .slice A3 l3.length c3] rfl (by (try simp only [List.map_toArray, List.map_cons, List.map_nil]); first | done | rfl | (simp only [List.length_drop, List.length_take]; rfl)) ?_; (with_reducible refine (spec_l02Ctr.calls k t190 a1 _ _ l3 t192 _ ?side1 ?side2 A6.out).mono ?_); (case side1 => repeat (first | exact (Kd.C_below HR3.out HB.out) | (with_reducible refine Kd.C_alloc ?_ _) | (with_reducible refine Kd.C_drewN ?_ _) | (with_reducible refine Kd.C_drew ?_))); (case side2 => exact HC3.out); rintro e w10 ⟨v193, rfl, ho0, hb⟩; refine ⟨_, rfl, ?_⟩; have n0_ := Aside0.mk (Kd.R_lower ho0 (below_size (by repeat (first | (with_reducible first | exact HB.out | apply below_alloc | apply pw_below_drewN | apply below_drew1) | exact HB.out)))); have n1_ := Aside0.mk (below_step (by repeat (first | (with_reducible first | exact HB.out | apply below_alloc | apply pw_below_drewN | apply below_drew1) | exact HB.out)) hb); clear HB; have HO194 := n0_; have HB := n1_; clear n0_ n1_; (try clear hb); (try clear hb2); (try clear hk); (try clear hi); (try clear ho0); obtain ⟨Ao11, co11, eo11⟩ := Kd.R_slice HO194.out; subst eo11) | ((with_reducible refine gate_callee (f := 77) rfl ?_); refine goesL_ (some 26) rfl rfl Try.func77 (by kernel_rfl) rfl #[.string t191, .string a1, .slice A2 l2.length c2, .slice Ao11 t192.length co11] rfl (by (try simp only [List.map_toArray, List.map_cons, List.map_nil]); first | done | rfl | (simp only [List.length_drop, List.length_take]; rfl)) ?_; (with_reducible refine (spec_l04Tag.calls t191 a1 _ _ l2 _ _ t192 t195 _ ?side1 ?side2 ?side3 ?side4 A7.out).mono ?_); (case side1 => repeat (first | exact (Kd.C_below HR2.out HB.out) | (with_reducible refine Kd.C_alloc ?_ _) | (with_reducible refine Kd.C_drewN ?_ _) | (with_reducible refine Kd.C_drew ?_))); (case side2 => exact HC2.out); (case side3 => repeat (first | exact (Kd.R_reads' HO194.out).2.2 | (with_reducible refine Kd.C_alloc ?_ _) | (with_reducible refine Kd.C_drewN ?_ _) | (with_reducible refine Kd.C_drew ?_))); (case side4 => exact (Kd.R_reads' HO194.out).2.1); rintro e w12 ⟨rfl, hb⟩; refine ⟨_, rfl, ?_⟩; have n0_ := Aside0.mk (Kd.R_below (by (with_reducible repeat (first | apply Kd.R_alloc | apply Kd.R_drewN | apply Kd.R_drew)); exact HO194.out) hb); have n1_ := Aside0.mk (below_step (by repeat (first | (with_reducible first | exact HB.out | apply below_alloc | apply pw_below_drewN | apply below_drew1) | exact HB.out)) hb); clear HO194; clear HB; have HO194 := n0_; have HB := n1_; clear n0_ n1_; (try clear hb); (try clear hb2); (try clear hk); (try clear hi)) | (at_builtin; refine print_append_str (w0 := w) w.heap.size rfl (.tmp 21) _ 22 9 5 rfl Try.underlying22 Try.underlying9 info5 (.slice Ao11 t192.length co11) t192 t195 rfl rfl ?aO ?aB ?aS ?aL ?_; (case aB => exact (by repeat (first | (with_reducible first | exact HB.out | apply below_alloc | apply pw_below_drewN | apply below_drew1) | exact HB.out))); (case aO => exact (Kd.own_of_R (by (with_reducible repeat (first | apply Kd.R_alloc | apply Kd.R_drewN | apply Kd.R_drew)); exact HO194.out))); (case aS => exact (below_size (by repeat (first | (with_reducible first | exact HB.out | apply below_alloc | apply pw_below_drewN | apply below_drew1) | exact HB.out)))); (case aL => have := LMc8.out; omega); intro v197 w13 ho0 hb hg; have ho := Kd.R_of_own (h1 := fun _ => rfl) (ok := fun _ => True) ho0 (fun _ _ => trivial); clear ho0; have hat := True.intro; rw [← Ny196.out] at ho; change Kd.R (Kd.int .u8) 5 w13 w.heap.size (fun _ => True) v197 y196 at ho; have n0_ := Aside0.mk (hb); have n1_ := Aside0.mk (ho); clear HB; clear HO194; have HB := n0_; have HO198 := n1_; clear n0_ n1_; clear ho hb hg hat))
   go_ret
   exact ⟨_, by first | rfl | (simp [errW_none, errW_some] <;> rfl) | (simp [*, errW_none, errW_some] <;> rfl), by (with_reducible repeat (first | apply Kd.R_alloc | apply Kd.R_drewN | apply Kd.R_drew)); exact HO198.out, by repeat (first | (with_reducible first | exact HB.out | apply below_alloc | apply pw_below_drewN | apply below_drew1) | exact HB.out)⟩
 · rw [if_neg c8] at H
   exact absurd H (by simp)
def spec_SealBytes.j0 : Nat → ByteArray → ByteArray → List Int → List Int → Bool → Option (List Int × Int)
 | 0, _, _, _, _, _ => none
 | k + 1, x0, x1, x2, x3, x28 => if x28 = true then (some ((([] : List Int)), 2)) else ((spec_l04Code.f k x0 x1 x2 x3 16).bind fun t202 => (if t202 = 0 then ((spec_l04Seal.f k x0 x1 x2 x3).bind fun t203 => (some (t203, 0))) else (some ((([] : List Int)), t202))))
def spec_SealBytes.f (k : Nat) (a0 : ByteArray) (a1 : ByteArray) (l2 : List Int) (l3 : List Int) : Option (List Int × Int) := if (a0.size : Int) > 65536 then (spec_SealBytes.j0 k a0 a1 l2 l3 true) else (if (a1.size : Int) > 65536 then (spec_SealBytes.j0 k a0 a1 l2 l3 true) else (if (l2.length : Int) > 65536 then (spec_SealBytes.j0 k a0 a1 l2 l3 true) else (spec_SealBytes.j0 k a0 a1 l2 l3 (decide ((l3.length : Int) > 65536)))))
set_option maxHeartbeats 8000000 in
set_option maxRecDepth 100000 in
theorem spec_SealBytes.calls (k : Nat) (a0 : ByteArray) (a1 : ByteArray) (A2 : Option Addr) (c2 : Nat) (l2 : List Int) (A3 : Option Addr) (c3 : Nat) (l3 : List Int) (r1 : List Int) (r2 : Int) (w : World) (hr2 : Kd.C (Kd.int .u8) w A2 l2.length l2) (hc2 : l2.length ≤ c2) (hr3 : Kd.C (Kd.int .u8) w A3 l3.length l3) (hc3 : l3.length ≤ c3) (h : spec_SealBytes.f k a0 a1 l2 l3 = some (r1, r2)) :
   Calls Try.prog 14 #[.string a0, .string a1, .slice A2 l2.length c2, .slice A3 l3.length c3] w fun e w' => ∃ v0_ : Value, e = .returned (.tuple #[v0_, .int .i64 r2]) ∧ Kd.R (Kd.int .u8) 5 w' w.heap.size (fun _ => True) v0_ r1 ∧ Below w.heap.size w w' := by
 have HR2 := Aside0.mk hr2
 have HC2 := Aside0.mk hc2
 clear hr2 hc2
 have HR3 := Aside0.mk hr3
 have HC3 := Aside0.mk hc3
 clear hr3 hc3
 have HB := Aside0.mk (Below.refl w.heap.size w)
 have H : (if (a0.size : Int) > 65536 then (spec_SealBytes.j0 k a0 a1 l2 l3 true) else (if (a1.size : Int) > 65536 then (spec_SealBytes.j0 k a0 a1 l2 l3 true) else (if (l2.length : Int) > 65536 then (spec_SealBytes.j0 k a0 a1 l2 l3 true) else (spec_SealBytes.j0 k a0 a1 l2 l3 (decide ((l3.length : Int) > 65536)))))) = some (r1, r2) := h
 clear h
 have HC5 := Aside0.mk H
 clear H
 go_enter Try.func14, Try.ntmps14
 go_upto_region 1 with (fail)
 go_cut [28] (fun v28 wc => ∃ (kq : Nat) (x28_4 : Bool), v28 = .bool x28_4 ∧ Aside0 (spec_SealBytes.j0 kq a0 a1 l2 l3 x28_4 = some (r1, r2)) ∧ Aside0 (kq ≤ k) ∧ Aside0 (Below w.heap.size w wc))
 case first =>
   have H := HC5.out
   clear HC5
   by_cases c6 : (a0.size : Int) > 65536
   · rw [if_pos c6] at H
     have c6b0 : decide (65536 < (a0.size : Int)) = true := decide_eq_true c6
     have c6b1 : decide (65536 < a0.size) = true := decide_eq_true (by omega)
     clear c6
     (first | rw [c6b0] | (simp only [i64_w, i32_w]; rw [c6b0]) | skip)
     have H' := Aside0.mk H
     clear H
     go_wp2
     go_meet
     case rel => exact ⟨_, (true), (by first | rfl | (simp; done) | (simp [*]; done)), H', ⟨by first | omega | exact Nat.le_refl _⟩, ⟨by repeat (first | (with_reducible first | exact HB.out | apply below_alloc | apply pw_below_drewN | apply below_drew1) | exact HB.out)⟩⟩
   · rw [if_neg c6] at H
     have c6b0 : decide (65536 < (a0.size : Int)) = false := decide_eq_false c6
     have c6b1 : decide (65536 < a0.size) = false := decide_eq_false (by omega)
     clear c6
     (first | rw [c6b0] | (simp only [i64_w, i32_w]; rw [c6b0]) | skip)
     by_cases c7 : (a1.size : Int) > 65536
     · rw [if_pos c7] at H
       have c7b0 : decide (65536 < (a1.size : Int)) = true := decide_eq_true c7
       have c7b1 : decide (65536 < a1.size) = true := decide_eq_true (by omega)
       clear c7
       have H' := Aside0.mk H
       clear H
       go_wp2
       go_meet
       case rel => exact ⟨_, (true), (by first | rfl | (simp; done) | (simp [*]; done)), H', ⟨by first | omega | exact Nat.le_refl _⟩, ⟨by repeat (first | (with_reducible first | exact HB.out | apply below_alloc | apply pw_below_drewN | apply below_drew1) | exact HB.out)⟩⟩
     · rw [if_neg c7] at H
       have c7b0 : decide (65536 < (a1.size : Int)) = false := decide_eq_false c7
       have c7b1 : decide (65536 < a1.size) = false := decide_eq_false (by omega)
       clear c7
       by_cases c8 : (l2.length : Int) > 65536
       · rw [if_pos c8] at H
         have c8b0 : decide (65536 < (l2.length : Int)) = true := decide_eq_true c8
         have c8b1 : decide (65536 < l2.length) = true := decide_eq_true (by omega)
         clear c8
         have H' := Aside0.mk H
         clear H
         go_wp2
         go_meet
         case rel => exact ⟨_, (true), (by first | rfl | (simp; done) | (simp [*]; done)), H', ⟨by first | omega | exact Nat.le_refl _⟩, ⟨by repeat (first | (with_reducible first | exact HB.out | apply below_alloc | apply pw_below_drewN | apply below_drew1) | exact HB.out)⟩⟩
       · rw [if_neg c8] at H
         have c8b0 : decide (65536 < (l2.length : Int)) = false := decide_eq_false c8
         have c8b1 : decide (65536 < l2.length) = false := decide_eq_false (by omega)
         clear c8
         have H' := Aside0.mk H
         clear H
         go_wp2
         go_meet
         case rel => exact ⟨_, (decide ((l3.length : Int) > 65536)), (by first | rfl | (simp; done) | (simp [*]; done)), H', ⟨by first | omega | exact Nat.le_refl _⟩, ⟨by repeat (first | (with_reducible first | exact HB.out | apply below_alloc | apply pw_below_drewN | apply below_drew1) | exact HB.out)⟩⟩
 case rest =>
   clear HC5
   try clear c1
   try clear c2
   try clear p2
   try clear c3
   try clear c6
   try clear c6b0
   try clear c6b1
   try clear c7
   try clear c7b0
   try clear c7b1
   try clear c8
   try clear c8b0
   try clear c8b1
   obtain ⟨kq, x28_4, rfl, HA, HJ4, HB⟩ := hcut
   cases kq with
   | zero => exact absurd HA.out (by simp [spec_SealBytes.j0])
   | succ kj4 =>
     have H := HA.out
     clear HA
     simp only [spec_SealBytes.j0] at H
     by_cases c9 : x28_4 = true
     · subst c9
       have H1 : (some ((([] : List Int)), 2)) = some (r1, r2) := by rw [if_pos rfl] at H; exact H
       clear H
       have H := H1
       clear H1
       obtain ⟨y199, hy199⟩ : ∃ y_ : List Int, y_ = (([] : List Int)) := ⟨_, rfl⟩
       replace H : (some (y199, 2)) = some (r1, r2) := by first | (rw [hy199]; with_reducible exact H) | (have H2_ := (Option.bind_some _ _).symm.trans H; rw [hy199]; with_reducible exact H2_) | (have H2_ := (Option.bind_some _ _).symm.trans H; with_reducible exact H2_) | with_reducible exact H | (rw [hy199]; exact H) | exact H
       have Ny199 := Aside0.mk hy199
       clear hy199
       simp only [Option.some.injEq, Prod.mk.injEq] at H
       obtain ⟨rfl, rfl⟩ := H
       go_wp2_with (first | ((with_reducible refine gate_dst (N := 29) rfl ?_); (try (refine gate_guard (by rfl) ?_; dsimp only)); refine Kd.R_lit (Kd.int .u8) _ 5 ?hg (N := 29) ?hd (xs := ([] : List Int)) (inner := []) (ok := fun _ => True) (okp := fun _ => True) ?hr ?hp (fun _ hk => hk) trivial (Below.refl _ _) (Nat.le_refl _) (by simp) ?_; (case hd => rfl); (case hg => rfl); (case hr => first | (go_simp; done) | (go_simp; rfl)); (case hp => exact (Reps.none _ _)); intro v200 w10 ho11 hb hg_ hnew_; clear hg_ hnew_; (first | rw [← Ny199.out] at ho11 | (simp only [Int.reduceToNat] at ho11; rw [← Ny199.out] at ho11)); have n0_ := Aside0.mk (Kd.R_lower ho11 (below_size (by repeat (first | (with_reducible first | exact HB.out | apply below_alloc | apply pw_below_drewN | apply below_drew1) | exact HB.out)))); have n1_ := Aside0.mk (below_step (by repeat (first | (with_reducible first | exact HB.out | apply below_alloc | apply pw_below_drewN | apply below_drew1) | exact HB.out)) hb); clear HB; have HO201 := n0_; have HB := n1_; clear n0_ n1_; clear hb ho11))
       go_ret2
       exact ⟨_, by first | rfl | (simp [errW_none, errW_some] <;> rfl) | (simp [*, errW_none, errW_some] <;> rfl), by (with_reducible repeat (first | apply Kd.R_alloc | apply Kd.R_drewN | apply Kd.R_drew)); exact HO201.out, by repeat (first | (with_reducible first | exact HB.out | apply below_alloc | apply pw_below_drewN | apply below_drew1) | exact HB.out)⟩
     · replace c9 := Bool.eq_false_iff.mpr c9
       subst c9
       have H1 : ((spec_l04Code.f kj4 a0 a1 l2 l3 16).bind fun t202 => (if t202 = 0 then ((spec_l04Seal.f kj4 a0 a1 l2 l3).bind fun t203 => (some (t203, 0))) else (some ((([] : List Int)), t202)))) = some (r1, r2) := by rw [if_neg (show ¬ (false = true) by decide)] at H; exact H
       clear H
       have H := H1
       clear H1
       replace H := Option.bind_eq_some_iff.mp H
       obtain ⟨t202, A120, H⟩ := H
       replace H : (if t202 = 0 then ((spec_l04Seal.f kj4 a0 a1 l2 l3).bind fun t203 => (some (t203, 0))) else (some ((([] : List Int)), t202))) = some (r1, r2) := H
       have A12 := Aside0.mk A120
       clear A120
       by_cases c13 : t202 = 0
       · rw [if_pos c13] at H
         have c13b0 : (t202 == 0) = true := beq_iff_eq.mpr c13
         have c13b1 : (t202 != 0) = false := bne_eq_false_iff_eq.mpr c13
         clear c13
         replace H := Option.bind_eq_some_iff.mp H
         obtain ⟨t203, A140, H⟩ := H
         replace H : (some (t203, 0)) = some (r1, r2) := H
         have A14 := Aside0.mk A140
         clear A140
         simp only [Option.some.injEq, Prod.mk.injEq] at H
         obtain ⟨rfl, rfl⟩ := H
         go_wp2_with (first | ((with_reducible refine gate_callee (f := 46) rfl ?_); refine goesL_ (some 34) rfl rfl Try.func46 (by kernel_rfl) rfl #[.string a0, .string a1, .slice A2 l2.length c2, .slice A3 l3.length c3, .int .i64 16] rfl (by (try simp only [List.map_toArray, List.map_cons, List.map_nil]); first | done | rfl | (simp only [List.length_drop, List.length_take]; rfl)) ?_; (with_reducible refine (spec_l04Code.calls kj4 a0 a1 _ _ l2 _ _ l3 16 t202 _ ?side1 ?side2 ?side3 ?side4 A12.out).mono ?_); (case side1 => repeat (first | exact (Kd.C_below HR2.out HB.out) | (with_reducible refine Kd.C_alloc ?_ _) | (with_reducible refine Kd.C_drewN ?_ _) | (with_reducible refine Kd.C_drew ?_))); (case side2 => exact HC2.out); (case side3 => repeat (first | exact (Kd.C_below HR3.out HB.out) | (with_reducible refine Kd.C_alloc ?_ _) | (with_reducible refine Kd.C_drewN ?_ _) | (with_reducible refine Kd.C_drew ?_))); (case side4 => exact HC3.out); rintro e w' ⟨rfl, ⟨nd, rfl⟩⟩; refine ⟨_, rfl, ?_⟩) | ((with_reducible refine gate_callee (f := 47) rfl ?_); refine goesL_ (some 43) rfl rfl Try.func47 (by kernel_rfl) rfl #[.string a0, .string a1, .slice A2 l2.length c2, .slice A3 l3.length c3] rfl (by (try simp only [List.map_toArray, List.map_cons, List.map_nil]); first | done | rfl | (simp only [List.length_drop, List.length_take]; rfl)) ?_; (with_reducible refine (spec_l04Seal.calls kj4 a0 a1 _ _ l2 _ _ l3 t203 _ ?side1 ?side2 ?side3 ?side4 A14.out).mono ?_); (case side1 => repeat (first | exact (Kd.C_below HR2.out (by repeat (first | (with_reducible first | exact HB.out | apply below_alloc | apply pw_below_drewN | apply below_drew1) | exact HB.out))) | (with_reducible refine Kd.C_alloc ?_ _) | (with_reducible refine Kd.C_drewN ?_ _) | (with_reducible refine Kd.C_drew ?_))); (case side2 => exact HC2.out); (case side3 => repeat (first | exact (Kd.C_below HR3.out (by repeat (first | (with_reducible first | exact HB.out | apply below_alloc | apply pw_below_drewN | apply below_drew1) | exact HB.out))) | (with_reducible refine Kd.C_alloc ?_ _) | (with_reducible refine Kd.C_drewN ?_ _) | (with_reducible refine Kd.C_drew ?_))); (case side4 => exact HC3.out); rintro e w15 ⟨v204, rfl, ho0, hb⟩; refine ⟨_, rfl, ?_⟩; have n0_ := Aside0.mk (Kd.R_lower ho0 (below_size (by repeat (first | (with_reducible first | exact HB.out | apply below_alloc | apply pw_below_drewN | apply below_drew1) | exact HB.out)))); have n1_ := Aside0.mk (below_step (by repeat (first | (with_reducible first | exact HB.out | apply below_alloc | apply pw_below_drewN | apply below_drew1) | exact HB.out)) hb); clear HB; have HO205 := n0_; have HB := n1_; clear n0_ n1_; (try clear hb); (try clear hb2); (try clear hk); (try clear hi); (try clear ho0)))
         go_ret2
         exact ⟨_, by first | rfl | (simp [errW_none, errW_some] <;> rfl) | (simp [*, errW_none, errW_some] <;> rfl), by (with_reducible repeat (first | apply Kd.R_alloc | apply Kd.R_drewN | apply Kd.R_drew)); exact HO205.out, by repeat (first | (with_reducible first | exact HB.out | apply below_alloc | apply pw_below_drewN | apply below_drew1) | exact HB.out)⟩
       · rw [if_neg c13] at H
         have c13b0 : (t202 == 0) = false := beq_eq_false_iff_ne.mpr c13
         have c13b1 : (t202 != 0) = true := bne_iff_ne.mpr c13
         obtain ⟨y206, hy206⟩ : ∃ y_ : List Int, y_ = (([] : List Int)) := ⟨_, rfl⟩
         replace H : (some (y206, t202)) = some (r1, r2) := by first | (rw [hy206]; with_reducible exact H) | (have H2_ := (Option.bind_some _ _).symm.trans H; rw [hy206]; with_reducible exact H2_) | (have H2_ := (Option.bind_some _ _).symm.trans H; with_reducible exact H2_) | with_reducible exact H | (rw [hy206]; exact H) | exact H
         have Ny206 := Aside0.mk hy206
         clear hy206
         simp only [Option.some.injEq, Prod.mk.injEq] at H
         obtain ⟨rfl, rfl⟩ := H
         go_wp2_with (first | ((with_reducible refine gate_callee (f := 46) rfl ?_); refine goesL_ (some 34) rfl rfl Try.func46 (by kernel_rfl) rfl #[.string a0, .string a1, .slice A2 l2.length c2, .slice A3 l3.length c3, .int .i64 16] rfl (by (try simp only [List.map_toArray, List.map_cons, List.map_nil]); first | done | rfl | (simp only [List.length_drop, List.length_take]; rfl)) ?_; (with_reducible refine (spec_l04Code.calls kj4 a0 a1 _ _ l2 _ _ l3 16 t202 _ ?side1 ?side2 ?side3 ?side4 A12.out).mono ?_); (case side1 => repeat (first | exact (Kd.C_below HR2.out HB.out) | (with_reducible refine Kd.C_alloc ?_ _) | (with_reducible refine Kd.C_drewN ?_ _) | (with_reducible refine Kd.C_drew ?_))); (case side2 => exact HC2.out); (case side3 => repeat (first | exact (Kd.C_below HR3.out HB.out) | (with_reducible refine Kd.C_alloc ?_ _) | (with_reducible refine Kd.C_drewN ?_ _) | (with_reducible refine Kd.C_drew ?_))); (case side4 => exact HC3.out); rintro e w' ⟨rfl, ⟨nd, rfl⟩⟩; refine ⟨_, rfl, ?_⟩) | ((with_reducible refine gate_dst (N := 37) rfl ?_); (try (refine gate_guard (by rfl) ?_; dsimp only)); refine Kd.R_lit (Kd.int .u8) _ 5 ?hg (N := 37) ?hd (xs := ([] : List Int)) (inner := []) (ok := fun _ => True) (okp := fun _ => True) ?hr ?hp (fun _ hk => hk) trivial (Below.refl _ _) (Nat.le_refl _) (by simp) ?_; (case hd => rfl); (case hg => rfl); (case hr => first | (go_simp; done) | (go_simp; rfl)); (case hp => exact (Reps.none _ _)); intro v207 w16 ho17 hb hg_ hnew_; clear hg_ hnew_; (first | rw [← Ny206.out] at ho17 | (simp only [Int.reduceToNat] at ho17; rw [← Ny206.out] at ho17)); have n0_ := Aside0.mk (Kd.R_lower ho17 (below_size (by repeat (first | (with_reducible first | exact HB.out | apply below_alloc | apply pw_below_drewN | apply below_drew1) | exact HB.out)))); have n1_ := Aside0.mk (below_step (by repeat (first | (with_reducible first | exact HB.out | apply below_alloc | apply pw_below_drewN | apply below_drew1) | exact HB.out)) hb); clear HB; have HO208 := n0_; have HB := n1_; clear n0_ n1_; clear hb ho17))
         go_ret2
         exact ⟨_, by first | rfl | (simp [errW_none, errW_some] <;> rfl) | (simp [*, errW_none, errW_some] <;> rfl), by (with_reducible repeat (first | apply Kd.R_alloc | apply Kd.R_drewN | apply Kd.R_drew)); exact HO208.out, by repeat (first | (with_reducible first | exact HB.out | apply below_alloc | apply pw_below_drewN | apply below_drew1) | exact HB.out)⟩
end Go.Proofs.Ytlfpogbonmddmaa.P

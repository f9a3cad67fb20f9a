/- Laid by a program of this session: of Pt7 what this law uses. -/
import Derived.Test.YtlfpogbonmddmaaZFsM11
import Derived.Test.YtlfpogbonmddmaaZFsPt3
import Derived.Test.YtlfpogbonmddmaaZFsPt5
import Derived.Test.YtlfpogbonmddmaaZFsPt6
namespace Go.Proofs.Ytlfpogbonmddmaa.P
open Go.RowKit Go.Proofs.YtlfpogbonmddmaaW.PrintWords Go.Proofs.YtlfpogbonmddmaaW.PrintLast Go.Proofs.YtlfpogbonmddmaaW.PrintMore
attribute [local go_sem] min2_int min_two
set_option linter.unusedVariables false
set_option linter.unusedSimpArgs false
def spec_l01Text.l0 : Nat → List Int → List Int → Int → Option (ByteArray)
 | 0, _, _, _ => none
 | k + 1, x0, x3, x4 => if x4 < 16 then (if 0 ≤ x4 then (if x4 < (x0.length : Int) then (if x3.length < 140737488355328 then (spec_l01Text.l0 k x0 (x3 ++ [(rd x0 x4) % 256]) (wrap64 (x4 + 1))) else (none)) else (none)) else (none)) else (some (strOfNums x3))
def spec_l01Text.f (k : Nat) (l0 : List Int) : Option (ByteArray) := spec_l01Text.l0 k l0 (([] : List Int)) 0
set_option maxHeartbeats 8000000 in
set_option maxRecDepth 100000 in
theorem spec_l01Text.calls (k : Nat) (A0 : Option Addr) (c0 : Nat) (l0 : List Int) (r : ByteArray) (w : World) (hr0 : Kd.C (Kd.int .i64) w A0 l0.length l0) (hc0 : l0.length ≤ c0) (h : spec_l01Text.f k l0 = some r) :
   Calls Try.prog 114 #[.slice A0 l0.length c0] w fun e w' => e = .returned (.string r) ∧ Below w.heap.size w w' := by
 have HR0 := Aside0.mk hr0
 have HC0 := Aside0.mk hc0
 clear hr0 hc0
 have HB := Aside0.mk (Below.refl w.heap.size w)
 have H : (spec_l01Text.l0 k l0 (([] : List Int)) 0) = some r := h
 clear h
 obtain ⟨y148, hy148⟩ : ∃ y_ : List Int, y_ = (([] : List Int)) := ⟨_, rfl⟩
 replace H : (spec_l01Text.l0 k l0 y148 0) = some r := by first | (rw [hy148]; with_reducible exact H) | (have H2_ := (Option.bind_some _ _).symm.trans H; rw [hy148]; with_reducible exact H2_) | (have H2_ := (Option.bind_some _ _).symm.trans H; with_reducible exact H2_) | with_reducible exact H | (rw [hy148]; exact H) | exact H
 have Ny148 := Aside0.mk hy148
 clear hy148
 have H' := Aside0.mk H
 clear H
 go_enter Try.func114, Try.ntmps114
 go_wp2_with (first | ((with_reducible refine gate_dst (N := 5) rfl ?_); refine Kd.R_lit (Kd.int .u8) _ 5 ?hg (N := 5) ?hd (xs := ([] : List Int)) (inner := []) (ok := fun _ => True) (okp := fun _ => True) ?hr ?hp (fun _ hk => hk) trivial (Below.refl _ _) (Nat.le_refl _) (by simp) ?_; (case hd => rfl); (case hg => rfl); (case hr => first | (go_simp; done) | (go_simp; rfl)); (case hp => exact (Reps.none _ _)); intro v149 w2 ho3 hb hg_ hnew_; clear hg_ hnew_; (first | rw [← Ny148.out] at ho3 | (simp only [Int.reduceToNat] at ho3; rw [← Ny148.out] at ho3)); have n0_ := Aside0.mk (Kd.R_lower ho3 (below_size (by repeat (first | (with_reducible first | exact HB.out | apply below_alloc | apply pw_below_drewN | apply below_drew1) | exact HB.out)))); have n1_ := Aside0.mk (below_step (by repeat (first | (with_reducible first | exact HB.out | apply below_alloc | apply pw_below_drewN | apply below_drew1) | exact HB.out)) hb); clear HB; have HO150 := n0_; have HB := n1_; clear n0_ n1_; clear hb ho3))
 go_loopg [3, 4] k (fun kq v3 v4 w' => ∃ (x3_1 : List Int) (x4_1 : Int), v4 = .int .i64 x4_1 ∧ Aside0 (spec_l01Text.l0 kq l0 x3_1 x4_1 = some r) ∧ Aside0 (kq ≤ k) ∧ Aside0 (Kd.R (Kd.int .u8) 5 w' w.heap.size (fun _ => True) v3 x3_1) ∧ Aside0 (Below w.heap.size w w'))
 case atStart => exact ⟨(y148), (0), (by first | rfl | (simp; done) | (simp [*]; done)), H', ⟨Nat.le_refl _⟩, ⟨by (with_reducible repeat (first | apply Kd.R_alloc | apply Kd.R_drewN | apply Kd.R_drew)); exact HO150.out⟩, ⟨by repeat (first | (with_reducible first | exact HB.out | apply below_alloc | apply pw_below_drewN | apply below_drew1) | exact HB.out)⟩⟩
 case round =>
   clear H'
   try clear c1
   try clear p2
   obtain ⟨x3_1, x4_1, rfl, HA, HK1, HO_3, HB⟩ := hrel
   cases gk with
   | zero => exact absurd HA.out (by simp [spec_l01Text.l0])
   | succ k1 =>
     have H := HA.out
     clear HA
     simp only [spec_l01Text.l0] at H
     by_cases c4 : x4_1 < 16
     · rw [if_pos c4] at H
       have c4b0 : decide (x4_1 < 16) = true := decide_eq_true c4
       clear c4
       by_cases c5 : 0 ≤ x4_1
       · rw [if_pos c5] at H
         have c5b0 : decide (0 ≤ x4_1) = true := decide_eq_true c5
         clear c5
         by_cases c6 : x4_1 < (l0.length : Int)
         · rw [if_pos c6] at H
           have c6b0 : decide (x4_1 < (l0.length : Int)) = true := decide_eq_true c6
           clear c6
           by_cases c7 : x3_1.length < 140737488355328
           · rw [if_pos c7] at H
             have LMc7 := Aside0.mk c7
             clear c7
             obtain ⟨y152, hy152⟩ : ∃ y_ : List Int, y_ = (x3_1 ++ [(rd l0 x4_1) % 256]) := ⟨_, rfl⟩
             replace H : (spec_l01Text.l0 k1 l0 y152 (wrap64 (x4_1 + 1))) = some r := by first | (rw [hy152]; with_reducible exact H) | (have H2_ := (Option.bind_some _ _).symm.trans H; rw [hy152]; with_reducible exact H2_) | (have H2_ := (Option.bind_some _ _).symm.trans H; with_reducible exact H2_) | with_reducible exact H | (rw [hy152]; exact H) | exact H
             have Ny152 := Aside0.mk hy152
             clear hy152
             have H' := Aside0.mk H
             clear H
             have p151 : 0 ≤ (x4_1 : Int) := of_decide_eq_true (by first | (with_reducible assumption) | assumption)
             have q151 : x4_1 < (l0.length : Int) := of_decide_eq_true (by first | (with_reducible assumption) | assumption)
             obtain ⟨ad151, e151, hx151_0⟩ := Kd.at_int HR0.out x4_1 p151 q151
             cases e151
             replace hx151_0 := (HB.out.cell (World.block_lt_of_cell? w _ hx151_0)).trans hx151_0
             replace p151 := eq_true p151
             replace q151 := eq_true q151
             go_wp2_with (first | ((with_reducible refine gate_builtin (b := .append) (xs := #[.tmp 10, .tmp 16]) rfl ?_); at_builtin; refine Kd.R_append (Kd.int .u8) (w0 := w) w.heap.size rfl (.tmp 10) (.tmp 16) 22 5 (.int .u8 0) 1 rfl Try.underlying22 info5 rfl (by decide) (by omega) u3 x3_1 ((rd l0 x4_1) % 256) [.int .u8 ((rd l0 x4_1) % 256)] (fun _ => True) (fun _ => False) rfl rfl ?aP (fun _ hk => hk.elim) ?aF ?aO ?aB ?aS ?aL ?_; (case aP => exact rfl); (case aB => exact (by repeat (first | (with_reducible first | exact HB.out | apply below_alloc | apply pw_below_drewN | apply below_drew1) | exact HB.out))); (case aF => exact (fun _ _ => trivial)); (case aO => exact (by (with_reducible repeat (first | apply Kd.R_alloc | apply Kd.R_drewN | apply Kd.R_drew)); exact HO_3.out)); (case aS => exact (below_size (by repeat (first | (with_reducible first | exact HB.out | apply below_alloc | apply pw_below_drewN | apply below_drew1) | exact HB.out)))); (case aL => have := LMc7.out; omega); intro v153 w8 ho hb hg hat; rw [← Ny152.out] at ho; have n0_ := Aside0.mk (hb); have n1_ := Aside0.mk (ho); clear HB; clear HO_3; have HB := n0_; have HO154 := n1_; clear n0_ n1_; clear ho hb hg hat))
             go_roundg k1
             case measure => have := HK1.out; omega
             case rel => exact ⟨(y152), (wrap64 (x4_1 + 1)), (by first | rfl | (simp; done) | (simp [*]; done)), H', ⟨by have := HK1.out; omega⟩, ⟨by (with_reducible repeat (first | apply Kd.R_alloc | apply Kd.R_drewN | apply Kd.R_drew)); exact HO154.out⟩, ⟨by repeat (first | (with_reducible first | exact HB.out | apply below_alloc | apply pw_below_drewN | apply below_drew1) | exact HB.out)⟩⟩
           · rw [if_neg c7] at H
             exact absurd H (by simp)
         · rw [if_neg c6] at H
           exact absurd H (by simp)
       · rw [if_neg c5] at H
         exact absurd H (by simp)
     · rw [if_neg c4] at H
       have c4b0 : decide (x4_1 < 16) = false := decide_eq_false c4
       clear c4
       obtain rfl := Option.some.inj H
       have hcv9 := own_string (P := Try.prog) Try.underlying22 Try.underlying5 Try.underlying9 (Kd.own_of_R HO_3.out)
       go_wp2
       go_ret
       exact ⟨by first | rfl | (simp [errW_none, errW_some] <;> rfl) | (simp [*, errW_none, errW_some] <;> rfl), by repeat (first | (with_reducible first | exact HB.out | apply below_alloc | apply pw_below_drewN | apply below_drew1) | exact HB.out)⟩
def spec_l01Encrypt.l0 : Nat → List ByteArray → List Int → List Int → Int → Option (ByteArray)
 | 0, _, _, _, _ => none
 | k + 1, x0, x1, x7, x8 => if x8 < (x0.length : Int) then ((spec_l01Swap.f k x7 x1).bind fun t161 => ((spec_l01Shift.f k t161 1).bind fun t162 => (if x8 < (wrap64 ((x0.length : Int) - 1)) then ((spec_l01Fast.f k t162).bind fun t165 => (if 0 ≤ x8 then ((spec_l01Xor.f k t165 (rdOf ByteArray.empty x0 x8)).bind fun t169 => (spec_l01Encrypt.l0 k x0 x1 t169 (wrap64 (x8 + 1)))) else (none))) else (if 0 ≤ x8 then ((spec_l01Xor.f k t162 (rdOf ByteArray.empty x0 x8)).bind fun t171 => (spec_l01Encrypt.l0 k x0 x1 t171 (wrap64 (x8 + 1)))) else (none))))) else ((spec_l01Text.f k x7).bind fun t160 => (some t160))
def spec_l01Encrypt.f (k : Nat) (l0 : List ByteArray) (l1 : List Int) (a2 : ByteArray) : Option (ByteArray) := (spec_l01State.f k a2).bind fun t155 => (if 0 < (l0.length : Int) then ((spec_l01Xor.f k t155 (rdOf ByteArray.empty l0 0)).bind fun t159 => (spec_l01Encrypt.l0 k l0 l1 t159 1)) else (none))
set_option maxHeartbeats 8000000 in
set_option maxRecDepth 100000 in
theorem spec_l01Encrypt.calls (k : Nat) (A0 : Option Addr) (c0 : Nat) (l0 : List ByteArray) (A1 : Option Addr) (c1 : Nat) (l1 : List Int) (a2 : ByteArray) (r : ByteArray) (w : World) (hr0 : Kd.C Kd.string w A0 l0.length l0) (hc0 : l0.length ≤ c0) (hr1 : Kd.C (Kd.int .i64) w A1 l1.length l1) (hc1 : l1.length ≤ c1) (h : spec_l01Encrypt.f k l0 l1 a2 = some r) :
   Calls Try.prog 96 #[.slice A0 l0.length c0, .slice A1 l1.length c1, .string a2] w fun e w' => e = .returned (.string r) ∧ Below w.heap.size w w' := by
 have HR0 := Aside0.mk hr0
 have HC0 := Aside0.mk hc0
 clear hr0 hc0
 have HR1 := Aside0.mk hr1
 have HC1 := Aside0.mk hc1
 clear hr1 hc1
 have HB := Aside0.mk (Below.refl w.heap.size w)
 have H : ((spec_l01State.f k a2).bind fun t155 => (if 0 < (l0.length : Int) then ((spec_l01Xor.f k t155 (rdOf ByteArray.empty l0 0)).bind fun t159 => (spec_l01Encrypt.l0 k l0 l1 t159 1)) else (none))) = some r := h
 clear h
 replace H := Option.bind_eq_some_iff.mp H
 obtain ⟨t155, A40, H⟩ := H
 replace H : (if 0 < (l0.length : Int) then ((spec_l01Xor.f k t155 (rdOf ByteArray.empty l0 0)).bind fun t159 => (spec_l01Encrypt.l0 k l0 l1 t159 1)) else (none)) = some r := H
 have A4 := Aside0.mk A40
 clear A40
 by_cases c5 : 0 < (l0.length : Int)
 · rw [if_pos c5] at H
   have c5b0 : decide (0 < (l0.length : Int)) = true := decide_eq_true c5
   have c5b1 : decide (0 < l0.length) = true := decide_eq_true (by omega)
   clear c5
   replace H := Option.bind_eq_some_iff.mp H
   obtain ⟨t159, A60, H⟩ := H
   replace H : (spec_l01Encrypt.l0 k l0 l1 t159 1) = some r := H
   have A6 := Aside0.mk A60
   clear A60
   have H' := Aside0.mk H
   clear H
   go_enter Try.func96, Try.ntmps96
   go_wp2_with (first | ((with_reducible refine gate_callee (f := 109) rfl ?_); refine goesL_ (some 10) rfl rfl Try.func109 (by kernel_rfl) rfl #[.string a2] rfl (by (try simp only [List.map_toArray, List.map_cons, List.map_nil]); first | done | rfl | (simp only [List.length_drop, List.length_take]; rfl)) ?_; (with_reducible refine (spec_l01State.calls k a2 t155 _ A4.out).mono ?_); rintro e w7 ⟨v156, rfl, ho0, hb⟩; refine ⟨_, rfl, ?_⟩; have n0_ := Aside0.mk (Kd.R_lower ho0 (below_size (by repeat (first | (with_reducible first | exact HB.out | apply below_alloc | apply pw_below_drewN | apply below_drew1) | exact HB.out)))); have n1_ := Aside0.mk (below_step (by repeat (first | (with_reducible first | exact HB.out | apply below_alloc | apply pw_below_drewN | apply below_drew1) | exact HB.out)) hb); clear HB; have HO157 := n0_; have HB := n1_; clear n0_ n1_; (try clear hb); (try clear hb2); (try clear hk); (try clear hi); (try clear ho0); have p158 : 0 ≤ (0 : Int) := (by omega); have q158 : 0 < (l0.length : Int) := of_decide_eq_true (by first | (with_reducible assumption) | assumption); obtain ⟨ad158, e158, hx158_0⟩ := Kd.at_string HR0.out 0 p158 q158; cases e158; have qi158 : (0 < l0.length) = True := eq_true (by omega); (try rw [show ((0 : Int)).toNat = 0 from rfl] at hx158_0); (try rw [Addr.add_zero'] at hx158_0); replace hx158_0 := (HB.out.cell (World.block_lt_of_cell? w _ hx158_0)).trans hx158_0; replace p158 := eq_true p158; replace q158 := eq_true q158; obtain ⟨Ao8, co8, eo8⟩ := Kd.R_slice HO157.out; subst eo8) | ((with_reducible refine gate_callee (f := 110) rfl ?_); refine goesL_ (some 15) rfl rfl Try.func110 (by kernel_rfl) rfl #[.slice Ao8 t155.length co8, .string (rdOf ByteArray.empty l0 0)] rfl (by (try simp only [List.map_toArray, List.map_cons, List.map_nil]); first | done | rfl | (simp only [List.length_drop, List.length_take]; rfl)) ?_; (with_reducible refine (spec_l01Xor.calls k (fun k_ => some k_ = (.slice Ao8 t155.length co8 : Value).ownBlock) (.slice Ao8 t155.length co8) t155 (rdOf ByteArray.empty l0 0) t159 w _ ?side1 ?side2 A6.out).mono ?_); (case side1 => repeat (first | (with_reducible first | exact HB.out | apply below_alloc | apply pw_below_drewN | apply below_drew1) | exact HB.out)); (case side2 => exact Kd.R_tight rfl HO157.out); rintro e w9 ⟨rfl, hy0, hb, hkp⟩; refine ⟨_, rfl, ?_⟩; have n0_ := Aside0.mk (Kd.R_reok rfl hy0 (fun k_ e_ => HO157.out.1 k_ e_)); have n1_ := Aside0.mk (hb); clear HO157; clear HB; have HO157 := n0_; have HB := n1_; clear n0_ n1_; (try clear hb); (try clear hkp); (try clear hy0)))
   go_loopg [7, 8] k (fun kq v7 v8 w' => ∃ (x7_1 : List Int) (x8_1 : Int), v8 = .int .i64 x8_1 ∧ Aside0 (spec_l01Encrypt.l0 kq l0 l1 x7_1 x8_1 = some r) ∧ Aside0 (kq ≤ k) ∧ Aside0 (Kd.R (Kd.int .i64) 3 w' w.heap.size (fun _ => True) v7 x7_1) ∧ Aside0 (Below w.heap.size w w'))
   case atStart => exact ⟨(t159), (1), (by first | rfl | (simp; done) | (simp [*]; done)), H', ⟨Nat.le_refl _⟩, ⟨by (with_reducible repeat (first | apply Kd.R_alloc | apply Kd.R_drewN | apply Kd.R_drew)); exact HO157.out⟩, ⟨by repeat (first | (with_reducible first | exact HB.out | apply below_alloc | apply pw_below_drewN | apply below_drew1) | exact HB.out)⟩⟩
   case round =>
     clear H'
     try clear c1
     try clear p1
     try clear q1
     try clear hx1
     try clear qi1
     try clear p2
     try clear c5
     try clear c5b0
     try clear c5b1
     try clear c9
     try clear hx158_0
     try clear p158
     try clear q158
     obtain ⟨x7_1, x8_1, rfl, HA, HK1, HO_7, HB⟩ := hrel
     cases gk with
     | zero => exact absurd HA.out (by simp [spec_l01Encrypt.l0])
     | succ k1 =>
       have H := HA.out
       clear HA
       simp only [spec_l01Encrypt.l0] at H
       by_cases c10 : x8_1 < (l0.length : Int)
       · rw [if_pos c10] at H
         have c10b0 : decide (x8_1 < (l0.length : Int)) = true := decide_eq_true c10
         clear c10
         replace H := Option.bind_eq_some_iff.mp H
         obtain ⟨t161, A110, H⟩ := H
         replace H : ((spec_l01Shift.f k1 t161 1).bind fun t162 => (if x8_1 < (wrap64 ((l0.length : Int) - 1)) then ((spec_l01Fast.f k1 t162).bind fun t165 => (if 0 ≤ x8_1 then ((spec_l01Xor.f k1 t165 (rdOf ByteArray.empty l0 x8_1)).bind fun t169 => (spec_l01Encrypt.l0 k1 l0 l1 t169 (wrap64 (x8_1 + 1)))) else (none))) else (if 0 ≤ x8_1 then ((spec_l01Xor.f k1 t162 (rdOf ByteArray.empty l0 x8_1)).bind fun t171 => (spec_l01Encrypt.l0 k1 l0 l1 t171 (wrap64 (x8_1 + 1)))) else (none)))) = some r := H
         have A11 := Aside0.mk A110
         clear A110
         replace H := Option.bind_eq_some_iff.mp H
         obtain ⟨t162, A120, H⟩ := H
         replace H : (if x8_1 < (wrap64 ((l0.length : Int) - 1)) then ((spec_l01Fast.f k1 t162).bind fun t165 => (if 0 ≤ x8_1 then ((spec_l01Xor.f k1 t165 (rdOf ByteArray.empty l0 x8_1)).bind fun t169 => (spec_l01Encrypt.l0 k1 l0 l1 t169 (wrap64 (x8_1 + 1)))) else (none))) else (if 0 ≤ x8_1 then ((spec_l01Xor.f k1 t162 (rdOf ByteArray.empty l0 x8_1)).bind fun t171 => (spec_l01Encrypt.l0 k1 l0 l1 t171 (wrap64 (x8_1 + 1)))) else (none))) = some r := H
         have A12 := Aside0.mk A120
         clear A120
         by_cases c13 : x8_1 < (wrap64 ((l0.length : Int) - 1))
         · rw [if_pos c13] at H
           have c13b0 : decide (x8_1 < (wrap64 ((l0.length : Int) - 1))) = true := decide_eq_true c13
           clear c13
           replace H := Option.bind_eq_some_iff.mp H
           obtain ⟨t165, A140, H⟩ := H
           replace H : (if 0 ≤ x8_1 then ((spec_l01Xor.f k1 t165 (rdOf ByteArray.empty l0 x8_1)).bind fun t169 => (spec_l01Encrypt.l0 k1 l0 l1 t169 (wrap64 (x8_1 + 1)))) else (none)) = some r := H
           have A14 := Aside0.mk A140
           clear A140
           by_cases c15 : 0 ≤ x8_1
           · rw [if_pos c15] at H
             have c15b0 : decide (0 ≤ x8_1) = true := decide_eq_true c15
             clear c15
             replace H := Option.bind_eq_some_iff.mp H
             obtain ⟨t169, A160, H⟩ := H
             replace H : (spec_l01Encrypt.l0 k1 l0 l1 t169 (wrap64 (x8_1 + 1))) = some r := H
             have A16 := Aside0.mk A160
             clear A160
             have H' := Aside0.mk H
             clear H
             obtain ⟨Ao17, co17, eo17⟩ := Kd.R_slice HO_7.out
             subst eo17
             go_wp2_with (first | ((with_reducible refine gate_callee (f := 111) rfl ?_); refine goesL_ (some 24) rfl rfl Try.func111 (by kernel_rfl) rfl #[.slice Ao17 x7_1.length co17, .slice A1 l1.length c1] rfl (by (try simp only [List.map_toArray, List.map_cons, List.map_nil]); first | done | rfl | (simp only [List.length_drop, List.length_take]; rfl)) ?_; (with_reducible refine (spec_l01Swap.calls k1 (fun k_ => some k_ = (.slice Ao17 x7_1.length co17 : Value).ownBlock) (.slice Ao17 x7_1.length co17) x7_1 _ _ l1 t161 w _ ?side1 ?side2 ?side3 ?side4 A11.out).mono ?_); (case side1 => repeat (first | (with_reducible first | exact HB.out | apply below_alloc | apply pw_below_drewN | apply below_drew1) | exact HB.out)); (case side2 => exact Kd.R_tight rfl HO_7.out); (case side3 => exact Kd.C_kept_came (Kd.heap_int .i64) HR1.out (by repeat (first | (with_reducible first | exact HB.out | apply below_alloc | apply pw_below_drewN | apply below_drew1) | exact HB.out)) (fun k_ hs_ => (fun e_ => Kd.R_base HO_7.out k_ e_.symm) hs_)); (case side4 => exact HC1.out); rintro e w18 ⟨rfl, hy0, hb, hkp⟩; refine ⟨_, rfl, ?_⟩; have n0_ := Aside0.mk (Kd.R_reok rfl hy0 (fun k_ e_ => HO_7.out.1 k_ e_)); have n1_ := Aside0.mk (hb); clear HO_7; clear HB; have HO_7 := n0_; have HB := n1_; clear n0_ n1_; (try clear hb); (try clear hkp); (try clear hy0)) | ((with_reducible refine gate_callee (f := 112) rfl ?_); refine goesL_ (some 26) rfl rfl Try.func112 (by kernel_rfl) rfl #[.slice Ao17 t161.length co17, .int .i64 1] rfl (by (try simp only [List.map_toArray, List.map_cons, List.map_nil]); first | done | (rw [show t161.length = x7_1.length from (Kd.R_reads' HO_7.out).1.symm] <;> rfl) | rfl | (simp only [List.length_drop, List.length_take]; rfl)) ?_; (with_reducible refine (spec_l01Shift.calls k1 _ _ t161 1 t162 _ ?side1 ?side2 A12.out).mono ?_); (case side1 => repeat (first | exact (Kd.R_reads' HO_7.out).2.2 | (with_reducible refine Kd.C_alloc ?_ _) | (with_reducible refine Kd.C_drewN ?_ _) | (with_reducible refine Kd.C_drew ?_))); (case side2 => rw [show t161.length = x7_1.length from (Kd.R_reads' HO_7.out).1.symm]; exact (Kd.R_reads' HO_7.out).2.1); rintro e w19 ⟨v163, rfl, ho0, hb⟩; refine ⟨_, rfl, ?_⟩; have n0_ := Aside0.mk (Kd.R_elder' (by (with_reducible repeat (first | apply Kd.R_alloc | apply Kd.R_drewN | apply Kd.R_drew)); exact HO_7.out) (Kd.R_base ho0) hb); have n1_ := Aside0.mk (Kd.R_lower (Kd.R_new' ho0 (Kd.R_lt (by (with_reducible repeat (first | apply Kd.R_alloc | apply Kd.R_drewN | apply Kd.R_drew)); exact HO_7.out))) (below_size (by repeat (first | (with_reducible first | exact HB.out | apply below_alloc | apply pw_below_drewN | apply below_drew1) | exact HB.out)))); have n2_ := Aside0.mk (below_step (by repeat (first | (with_reducible first | exact HB.out | apply below_alloc | apply pw_below_drewN | apply below_drew1) | exact HB.out)) hb); clear HO_7; clear HB; have HO_7 := n0_; have HO164 := n1_; have HB := n2_; clear n0_ n1_ n2_; (try clear hb); (try clear hb2); (try clear hk); (try clear hi); (try clear ho0); obtain ⟨Ao20, co20, eo20⟩ := Kd.R_slice HO164.out; subst eo20) | ((with_reducible refine gate_callee (f := 113) rfl ?_); refine goesL_ (some 33) rfl rfl Try.func113 (by kernel_rfl) rfl #[.slice Ao20 t162.length co20] rfl (by (try simp only [List.map_toArray, List.map_cons, List.map_nil]); first | done | rfl | (simp only [List.length_drop, List.length_take]; rfl)) ?_; (with_reducible refine (spec_l01Fast.calls k1 _ _ t162 t165 _ ?side1 ?side2 A14.out).mono ?_); (case side1 => repeat (first | exact (Kd.R_reads' HO164.out).2.2 | (with_reducible refine Kd.C_alloc ?_ _) | (with_reducible refine Kd.C_drewN ?_ _) | (with_reducible refine Kd.C_drew ?_))); (case side2 => exact (Kd.R_reads' HO164.out).2.1); rintro e w21 ⟨v166, rfl, ho0, hb⟩; refine ⟨_, rfl, ?_⟩; have n0_ := Aside0.mk (Kd.R_elder' (by (with_reducible repeat (first | apply Kd.R_alloc | apply Kd.R_drewN | apply Kd.R_drew)); exact HO_7.out) (Kd.R_base ho0) hb); have n1_ := Aside0.mk (Kd.R_elder' (by (with_reducible repeat (first | apply Kd.R_alloc | apply Kd.R_drewN | apply Kd.R_drew)); exact HO164.out) (Kd.R_base ho0) hb); have n2_ := Aside0.mk (Kd.R_lower (Kd.R_new' (Kd.R_new' ho0 (Kd.R_lt (by (with_reducible repeat (first | apply Kd.R_alloc | apply Kd.R_drewN | apply Kd.R_drew)); exact HO_7.out))) (Kd.R_lt (by (with_reducible repeat (first | apply Kd.R_alloc | apply Kd.R_drewN | apply Kd.R_drew)); exact HO164.out))) (below_size (by repeat (first | (with_reducible first | exact HB.out | apply below_alloc | apply pw_below_drewN | apply below_drew1) | exact HB.out)))); have n3_ := Aside0.mk (below_step (by repeat (first | (with_reducible first | exact HB.out | apply below_alloc | apply pw_below_drewN | apply below_drew1) | exact HB.out)) hb); clear HO_7; clear HO164; clear HB; have HO_7 := n0_; have HO164 := n1_; have HO167 := n2_; have HB := n3_; clear n0_ n1_ n2_ n3_; (try clear hb); (try clear hb2); (try clear hk); (try clear hi); (try clear ho0); have p168 : 0 ≤ (x8_1 : Int) := of_decide_eq_true (by first | (with_reducible assumption) | assumption); have q168 : x8_1 < (l0.length : Int) := of_decide_eq_true (by first | (with_reducible assumption) | assumption); obtain ⟨ad168, e168, hx168_0⟩ := Kd.at_string HR0.out x8_1 p168 q168; obtain rfl : ad158 = ad168 := (by injection e168); replace hx168_0 := (HB.out.cell (World.block_lt_of_cell? w _ hx168_0)).trans hx168_0; replace p168 := eq_true p168; replace q168 := eq_true q168; obtain ⟨Ao22, co22, eo22⟩ := Kd.R_slice HO167.out; subst eo22) | ((with_reducible refine gate_callee (f := 110) rfl ?_); refine goesL_ (some 39) rfl rfl Try.func110 (by kernel_rfl) rfl #[.slice Ao22 t165.length co22, .string (rdOf ByteArray.empty l0 x8_1)] rfl (by (try simp only [List.map_toArray, List.map_cons, List.map_nil]); first | done | rfl | (simp only [List.length_drop, List.length_take]; rfl)) ?_; (with_reducible refine (spec_l01Xor.calls k1 (fun k_ => some k_ = (.slice Ao22 t165.length co22 : Value).ownBlock) (.slice Ao22 t165.length co22) t165 (rdOf ByteArray.empty l0 x8_1) t169 w _ ?side1 ?side2 A16.out).mono ?_); (case side1 => repeat (first | (with_reducible first | exact HB.out | apply below_alloc | apply pw_below_drewN | apply below_drew1) | exact HB.out)); (case side2 => exact Kd.R_tight rfl HO167.out); rintro e w23 ⟨rfl, hy0, hb, hkp⟩; refine ⟨_, rfl, ?_⟩; have n0_ := Aside0.mk (Kd.R_mono (ok' := fun k_ => some k_ ≠ (.slice Ao20 t162.length co20 : Value).ownBlock ∧ some k_ ≠ (.slice Ao22 t165.length co22 : Value).ownBlock) (Kd.R_keptB (HO_7.out) hkp (fun k_ hk_ hs_ => (hk_.2) hs_)) (fun k_ hk_ => ⟨hk_.1.1.2, hk_.1.2⟩)); have n1_ := Aside0.mk (Kd.R_mono (ok' := fun k_ => some k_ ≠ (.slice Ao17 x7_1.length co17 : Value).ownBlock ∧ some k_ ≠ (.slice Ao22 t165.length co22 : Value).ownBlock) (Kd.R_keptB (HO164.out) hkp (fun k_ hk_ hs_ => (hk_.2) hs_)) (fun k_ hk_ => ⟨hk_.1.1.2, hk_.1.2⟩)); have n2_ := Aside0.mk (Kd.R_reok rfl hy0 (fun k_ e_ => HO167.out.1 k_ e_)); have n3_ := Aside0.mk (hb); clear HO_7; clear HO164; clear HO167; clear HB; have HO_7 := n0_; have HO164 := n1_; have HO167 := n2_; have HB := n3_; clear n0_ n1_ n2_ n3_; (try clear hb); (try clear hkp); (try clear hy0)))
             go_roundg k1
             case measure => have := HK1.out; omega
             case rel => exact ⟨(t169), (wrap64 (x8_1 + 1)), (by first | rfl | (simp; done) | (simp [*]; done)), H', ⟨by have := HK1.out; omega⟩, ⟨by (with_reducible repeat (first | apply Kd.R_alloc | apply Kd.R_drewN | apply Kd.R_drew)); exact Kd.R_mono HO167.out (fun _ hk => trivial)⟩, ⟨by repeat (first | (with_reducible first | exact HB.out | apply below_alloc | apply pw_below_drewN | apply below_drew1) | exact HB.out)⟩⟩
           · rw [if_neg c15] at H
             exact absurd H (by simp)
         · rw [if_neg c13] at H
           have c13b0 : decide (x8_1 < (wrap64 ((l0.length : Int) - 1))) = false := decide_eq_false c13
           clear c13
           by_cases c24 : 0 ≤ x8_1
           · rw [if_pos c24] at H
             have c24b0 : decide (0 ≤ x8_1) = true := decide_eq_true c24
             clear c24
             replace H := Option.bind_eq_some_iff.mp H
             obtain ⟨t171, A250, H⟩ := H
             replace H : (spec_l01Encrypt.l0 k1 l0 l1 t171 (wrap64 (x8_1 + 1))) = some r := H
             have A25 := Aside0.mk A250
             clear A250
             have H' := Aside0.mk H
             clear H
             obtain ⟨Ao26, co26, eo26⟩ := Kd.R_slice HO_7.out
             subst eo26
             go_wp2_with (first | ((with_reducible refine gate_callee (f := 111) rfl ?_); refine goesL_ (some 24) rfl rfl Try.func111 (by kernel_rfl) rfl #[.slice Ao26 x7_1.length co26, .slice A1 l1.length c1] rfl (by (try simp only [List.map_toArray, List.map_cons, List.map_nil]); first | done | rfl | (simp only [List.length_drop, List.length_take]; rfl)) ?_; (with_reducible refine (spec_l01Swap.calls k1 (fun k_ => some k_ = (.slice Ao26 x7_1.length co26 : Value).ownBlock) (.slice Ao26 x7_1.length co26) x7_1 _ _ l1 t161 w _ ?side1 ?side2 ?side3 ?side4 A11.out).mono ?_); (case side1 => repeat (first | (with_reducible first | exact HB.out | apply below_alloc | apply pw_below_drewN | apply below_drew1) | exact HB.out)); (case side2 => exact Kd.R_tight rfl HO_7.out); (case side3 => exact Kd.C_kept_came (Kd.heap_int .i64) HR1.out (by repeat (first | (with_reducible first | exact HB.out | apply below_alloc | apply pw_below_drewN | apply below_drew1) | exact HB.out)) (fun k_ hs_ => (fun e_ => Kd.R_base HO_7.out k_ e_.symm) hs_)); (case side4 => exact HC1.out); rintro e w27 ⟨rfl, hy0, hb, hkp⟩; refine ⟨_, rfl, ?_⟩; have n0_ := Aside0.mk (Kd.R_reok rfl hy0 (fun k_ e_ => HO_7.out.1 k_ e_)); have n1_ := Aside0.mk (hb); clear HO_7; clear HB; have HO_7 := n0_; have HB := n1_; clear n0_ n1_; (try clear hb); (try clear hkp); (try clear hy0)) | ((with_reducible refine gate_callee (f := 112) rfl ?_); refine goesL_ (some 26) rfl rfl Try.func112 (by kernel_rfl) rfl #[.slice Ao26 t161.length co26, .int .i64 1] rfl (by (try simp only [List.map_toArray, List.map_cons, List.map_nil]); first | done | (rw [show t161.length = x7_1.length from (Kd.R_reads' HO_7.out).1.symm] <;> rfl) | rfl | (simp only [List.length_drop, List.length_take]; rfl)) ?_; (with_reducible refine (spec_l01Shift.calls k1 _ _ t161 1 t162 _ ?side1 ?side2 A12.out).mono ?_); (case side1 => repeat (first | exact (Kd.R_reads' HO_7.out).2.2 | (with_reducible refine Kd.C_alloc ?_ _) | (with_reducible refine Kd.C_drewN ?_ _) | (with_reducible refine Kd.C_drew ?_))); (case side2 => rw [show t161.length = x7_1.length from (Kd.R_reads' HO_7.out).1.symm]; exact (Kd.R_reads' HO_7.out).2.1); rintro e w28 ⟨v163, rfl, ho0, hb⟩; refine ⟨_, rfl, ?_⟩; have n0_ := Aside0.mk (Kd.R_elder' (by (with_reducible repeat (first | apply Kd.R_alloc | apply Kd.R_drewN | apply Kd.R_drew)); exact HO_7.out) (Kd.R_base ho0) hb); have n1_ := Aside0.mk (Kd.R_lower (Kd.R_new' ho0 (Kd.R_lt (by (with_reducible repeat (first | apply Kd.R_alloc | apply Kd.R_drewN | apply Kd.R_drew)); exact HO_7.out))) (below_size (by repeat (first | (with_reducible first | exact HB.out | apply below_alloc | apply pw_below_drewN | apply below_drew1) | exact HB.out)))); have n2_ := Aside0.mk (below_step (by repeat (first | (with_reducible first | exact HB.out | apply below_alloc | apply pw_below_drewN | apply below_drew1) | exact HB.out)) hb); clear HO_7; clear HB; have HO_7 := n0_; have HO164 := n1_; have HB := n2_; clear n0_ n1_ n2_; (try clear hb); (try clear hb2); (try clear hk); (try clear hi); (try clear ho0); have p170 : 0 ≤ (x8_1 : Int) := of_decide_eq_true (by first | (with_reducible assumption) | assumption); have q170 : x8_1 < (l0.length : Int) := of_decide_eq_true (by first | (with_reducible assumption) | assumption); obtain ⟨ad170, e170, hx170_0⟩ := Kd.at_string HR0.out x8_1 p170 q170; obtain rfl : ad158 = ad170 := (by injection e170); replace hx170_0 := (HB.out.cell (World.block_lt_of_cell? w _ hx170_0)).trans hx170_0; replace p170 := eq_true p170; replace q170 := eq_true q170; obtain ⟨Ao29, co29, eo29⟩ := Kd.R_slice HO164.out; subst eo29) | ((with_reducible refine gate_callee (f := 110) rfl ?_); refine goesL_ (some 39) rfl rfl Try.func110 (by kernel_rfl) rfl #[.slice Ao29 t162.length co29, .string (rdOf ByteArray.empty l0 x8_1)] rfl (by (try simp only [List.map_toArray, List.map_cons, List.map_nil]); first | done | rfl | (simp only [List.length_drop, List.length_take]; rfl)) ?_; (with_reducible refine (spec_l01Xor.calls k1 (fun k_ => some k_ = (.slice Ao29 t162.length co29 : Value).ownBlock) (.slice Ao29 t162.length co29) t162 (rdOf ByteArray.empty l0 x8_1) t171 w _ ?side1 ?side2 A25.out).mono ?_); (case side1 => repeat (first | (with_reducible first | exact HB.out | apply below_alloc | apply pw_below_drewN | apply below_drew1) | exact HB.out)); (case side2 => exact Kd.R_tight rfl HO164.out); rintro e w30 ⟨rfl, hy0, hb, hkp⟩; refine ⟨_, rfl, ?_⟩; have n0_ := Aside0.mk (Kd.R_mono (ok' := fun k_ => some k_ ≠ (.slice Ao29 t162.length co29 : Value).ownBlock) (Kd.R_keptB (HO_7.out) hkp (fun k_ hk_ hs_ => (hk_.2) hs_)) (fun k_ hk_ => hk_.1.2)); have n1_ := Aside0.mk (Kd.R_reok rfl hy0 (fun k_ e_ => HO164.out.1 k_ e_)); have n2_ := Aside0.mk (hb); clear HO_7; clear HO164; clear HB; have HO_7 := n0_; have HO164 := n1_; have HB := n2_; clear n0_ n1_ n2_; (try clear hb); (try clear hkp); (try clear hy0)))
             go_roundg k1
             case measure => have := HK1.out; omega
             case rel => exact ⟨(t171), (wrap64 (x8_1 + 1)), (by first | rfl | (simp; done) | (simp [*]; done)), H', ⟨by have := HK1.out; omega⟩, ⟨by (with_reducible repeat (first | apply Kd.R_alloc | apply Kd.R_drewN | apply Kd.R_drew)); exact Kd.R_mono HO164.out (fun _ hk => trivial)⟩, ⟨by repeat (first | (with_reducible first | exact HB.out | apply below_alloc | apply pw_below_drewN | apply below_drew1) | exact HB.out)⟩⟩
           · rw [if_neg c24] at H
             exact absurd H (by simp)
       · rw [if_neg c10] at H
         have c10b0 : decide (x8_1 < (l0.length : Int)) = false := decide_eq_false c10
         clear c10
         replace H := Option.bind_eq_some_iff.mp H
         obtain ⟨t160, A310, H⟩ := H
         replace H : (some t160) = some r := H
         have A31 := Aside0.mk A310
         clear A310
         obtain rfl := Option.some.inj H
         obtain ⟨Ao32, co32, eo32⟩ := Kd.R_slice HO_7.out
         subst eo32
         go_wp2_with (first | ((with_reducible refine gate_callee (f := 114) rfl ?_); refine goesL_ (some 41) rfl rfl Try.func114 (by kernel_rfl) rfl #[.slice Ao32 x7_1.length co32] rfl (by (try simp only [List.map_toArray, List.map_cons, List.map_nil]); first | done | rfl | (simp only [List.length_drop, List.length_take]; rfl)) ?_; (with_reducible refine (spec_l01Text.calls k1 _ _ x7_1 t160 _ ?side1 ?side2 A31.out).mono ?_); (case side1 => repeat (first | exact (Kd.R_reads' HO_7.out).2.2 | (with_reducible refine Kd.C_alloc ?_ _) | (with_reducible refine Kd.C_drewN ?_ _) | (with_reducible refine Kd.C_drew ?_))); (case side2 => exact (Kd.R_reads' HO_7.out).2.1); rintro e w33 ⟨rfl, hb⟩; refine ⟨_, rfl, ?_⟩; have n0_ := Aside0.mk (Kd.R_below (by (with_reducible repeat (first | apply Kd.R_alloc | apply Kd.R_drewN | apply Kd.R_drew)); exact HO_7.out) hb); have n1_ := Aside0.mk (below_step (by repeat (first | (with_reducible first | exact HB.out | apply below_alloc | apply pw_below_drewN | apply below_drew1) | exact HB.out)) hb); clear HO_7; clear HB; have HO_7 := n0_; have HB := n1_; clear n0_ n1_; (try clear hb); (try clear hb2); (try clear hk); (try clear hi)))
         go_ret
         exact ⟨by first | rfl | (simp [errW_none, errW_some] <;> rfl) | (simp [*, errW_none, errW_some] <;> rfl), by repeat (first | (with_reducible first | exact HB.out | apply below_alloc | apply pw_below_drewN | apply below_drew1) | exact HB.out)⟩
 · rw [if_neg c5] at H
   exact absurd H (by simp)
theorem suc64 (i : Nat) (h : i < 1000000) : wrap64 ((i : Int) + 1) = ((i + 1 : Nat) : Int) := by unfold wrap64; omega
theorem w64b {x : Int} (h : Aes.by_ x) : wrap64 x = x := by unfold Aes.by_ at h; unfold wrap64; omega
theorem rdn (l : List Int) (i : Nat) : rd l (i : Int) = l.getD i 0 := rfl
theorem take_one (l : List Int) (i : Nat) (h : i < l.length) : l.take i ++ [l.getD i 0] = l.take (i + 1) := by
 rw [List.take_add_one, List.getElem?_eq_getElem h, List.getD_eq_getElem?_getD, List.getElem?_eq_getElem h]
 rfl
theorem ok_bytesL (s : ByteArray) : Aes.ok (bytesL s) := u8ok_bytesL s
theorem state_run (s : ByteArray) (hs : s.size = 16) (d : Nat) : ∀ k i, i + d = 16 → d < k → spec_l01State.l0 k s ((bytesL s).take i) (i : Int) = some (bytesL s) := by
 have hl := bytesL_length s
 induction d with
 | zero =>
   intro k i hi hk
   obtain ⟨k, rfl⟩ : ∃ m, k = m + 1 := ⟨k - 1, by omega⟩
   simp only [spec_l01State.l0]
   rw [if_neg (by omega), List.take_of_length_le (by omega)]
 | succ d ih =>
   intro k i hi hk
   obtain ⟨k, rfl⟩ : ∃ m, k = m + 1 := ⟨k - 1, by omega⟩
   simp only [spec_l01State.l0]
   rw [if_pos (by omega), if_pos (by omega), if_pos (by omega), if_pos (by rw [List.length_take]; omega), suc64 i (by omega), ← bytesL_getD s i (by omega), w64b (Aes.at_by (ok_bytesL s) i), take_one _ i (by omega)]
   exact ih k (i + 1) (by omega) (by omega)
theorem state_eq (k : Nat) (hk : 16 < k) (s : ByteArray) (hs : s.size = 16) : spec_l01State.f k s = some (bytesL s) := state_run s hs 16 k 0 rfl hk
theorem xorS_run (a : List Int) (s : ByteArray) (ha : a.length = 16) (oa : Aes.ok a) (hs : s.size = 16) (d : Nat) : ∀ k i, i + d = 16 → d < k → spec_l01Xor.l0 k ((Aes.xorS a (bytesL s)).take i ++ a.drop i) s (i : Int) = some (Aes.xorS a (bytesL s)) := by
 have hX := Aes.xorS_length a (bytesL s)
 induction d with
 | zero =>
   intro k i hi hk
   obtain ⟨k, rfl⟩ : ∃ m, k = m + 1 := ⟨k - 1, by omega⟩
   simp only [spec_l01Xor.l0]
   rw [if_neg (by omega), List.take_of_length_le (by omega), List.drop_eq_nil_of_le (by omega), List.append_nil]
 | succ d ih =>
   intro k i hi hk
   obtain ⟨k, rfl⟩ : ∃ m, k = m + 1 := ⟨k - 1, by omega⟩
   have hd : ((Aes.xorS a (bytesL s)).take i ++ a.drop i).length = 16 := by rw [List.length_append, List.length_take, List.length_drop, hX]; omega
   have e1 : ((Aes.xorS a (bytesL s)).take i ++ a.drop i).getD i 0 = a.getD i 0 := by
     rw [List.getD_eq_getElem?_getD, td_at _ a (by omega) i (by omega)]; rfl
   have e2 := td_set (Aes.xorS a (bytesL s)) a (by omega) i (by omega)
   have e3 : (Aes.xorS a (bytesL s)).getD i 0 = Aes.xr (a.getD i 0) ((bytesL s).getD i 0) := by rw [Aes.xorS, Aes.st_at _ i (by omega)]
   rw [e3] at e2
   simp only [spec_l01Xor.l0]
   rw [if_pos (by omega), if_pos (by omega), if_pos (by omega), if_pos (by omega), suc64 i (by omega), rdn, e1, ← bytesL_getD s i (by omega), w64b (Aes.at_by (ok_bytesL s) i), Aes.xr_i64 (Aes.at_by oa i) (Aes.at_by (ok_bytesL s) i), Int.toNat_natCast, e2]
   exact ih k (i + 1) (by omega) (by omega)
theorem xor_eq (k : Nat) (hk : 16 < k) (a : List Int) (s : ByteArray) (ha : a.length = 16) (oa : Aes.ok a) (hs : s.size = 16) : spec_l01Xor.f k a s = some (Aes.xorS a (bytesL s)) := by
 have := xorS_run a s ha oa hs 16 k 0 rfl hk
 rw [List.take_zero, List.nil_append, List.drop_zero] at this
 exact this
theorem swap_run (T : List Int) (f : Int → Int) (hT : T.length = 256) (hf : ∀ x, Aes.by_ x → T.getD x.toNat 0 = f x) (a : List Int) (ha : a.length = 16) (oa : Aes.ok a) (d : Nat) : ∀ k i, i + d = 16 → d < k →
   spec_l01Swap.l0 k ((Aes.st fun i => f (a.getD i 0)).take i ++ a.drop i) T (i : Int) = some (Aes.st fun i => f (a.getD i 0)) := by
 have hX := Aes.st_length fun i => f (a.getD i 0)
 induction d with
 | zero =>
   intro k i hi hk
   obtain ⟨k, rfl⟩ : ∃ m, k = m + 1 := ⟨k - 1, by omega⟩
   simp only [spec_l01Swap.l0]
   rw [if_neg (by omega), List.take_of_length_le (by omega), List.drop_eq_nil_of_le (by omega), List.append_nil]
 | succ d ih =>
   intro k i hi hk
   obtain ⟨k, rfl⟩ : ∃ m, k = m + 1 := ⟨k - 1, by omega⟩
   have hd : ((Aes.st fun i => f (a.getD i 0)).take i ++ a.drop i).length = 16 := by rw [List.length_append, List.length_take, List.length_drop, hX]; omega
   have e1 : ((Aes.st fun i => f (a.getD i 0)).take i ++ a.drop i).getD i 0 = a.getD i 0 := by
     rw [List.getD_eq_getElem?_getD, td_at _ a (by omega) i (by omega)]; rfl
   have e2 := td_set (Aes.st fun i => f (a.getD i 0)) a (by omega) i (by omega)
   rw [Aes.st_at _ i (by omega)] at e2
   have hb := Aes.at_by oa i
   have e3 : rd T (a.getD i 0) = f (a.getD i 0) := hf _ hb
   unfold Aes.by_ at hb
   simp only [spec_l01Swap.l0]
   rw [if_pos (by omega), if_pos (by omega), if_pos (by omega), rdn, e1, if_pos (by omega), if_pos (by omega), suc64 i (by omega), e3, Int.toNat_natCast, e2]
   exact ih k (i + 1) (by omega) (by omega)
theorem swap_eq (k : Nat) (hk : 16 < k) (T : List Int) (f : Int → Int) (hT : T.length = 256) (hf : ∀ x, Aes.by_ x → T.getD x.toNat 0 = f x) (a : List Int) (ha : a.length = 16) (oa : Aes.ok a) : spec_l01Swap.f k a T = some (Aes.st fun i => f (a.getD i 0)) := by
 have := swap_run T f hT hf a ha oa 16 k 0 rfl hk
 rw [List.take_zero, List.nil_append, List.drop_zero] at this
 exact this
theorem text_run (a : List Int) (ha : a.length = 16) (oa : Aes.ok a) (d : Nat) : ∀ k i, i + d = 16 → d < k → spec_l01Text.l0 k a (a.take i) (i : Int) = some (strOfNums a) := by
 induction d with
 | zero =>
   intro k i hi hk
   obtain ⟨k, rfl⟩ : ∃ m, k = m + 1 := ⟨k - 1, by omega⟩
   simp only [spec_l01Text.l0]
   rw [if_neg (by omega), List.take_of_length_le (by omega)]
 | succ d ih =>
   intro k i hi hk
   obtain ⟨k, rfl⟩ : ∃ m, k = m + 1 := ⟨k - 1, by omega⟩
   have hb := Aes.at_by oa i
   have e : a.getD i 0 % 256 = a.getD i 0 := by unfold Aes.by_ at hb; omega
   simp only [spec_l01Text.l0]
   rw [if_pos (by omega), if_pos (by omega), if_pos (by omega), if_pos (by rw [List.length_take]; omega), suc64 i (by omega), rdn, e, take_one _ i (by omega)]
   exact ih k (i + 1) (by omega) (by omega)
theorem text_eq (k : Nat) (hk : 16 < k) (a : List Int) (ha : a.length = 16) (oa : Aes.ok a) : spec_l01Text.f k a = some (strOfNums a) := text_run a ha oa 16 k 0 rfl hk
theorem shift_40 (f : Nat → Int) : spec_l01Shift.f 40 (Aes.st f) 1 = some (Aes.shiftS (Aes.st f)) := by kernel_rfl
theorem shift_eq (k : Nat) (hk : 40 ≤ k) (a : List Int) (ha : a.length = 16) : spec_l01Shift.f k a 1 = some (Aes.shiftS a) := by
 have e := Aes.st_is a (fun j => a.getD j 0) ha fun _ _ => rfl
 rw [e]
 exact at_rounds (spec_l01Shift.mono _ _) hk (shift_40 _)
theorem dbl_eq {x : Int} (h : Aes.by_ x) : spec_l01Double.f x = some ((Gf.xt x.toNat : Nat) : Int) := by
 obtain ⟨n, hn, rfl⟩ := Aes.by_nat h
 rw [Int.toNat_natCast]
 have key : ∀ n : Nat, n < 256 → spec_l01Double.f (n : Int) = some ((Gf.xt n : Nat) : Int) := by decide +kernel
 exact key n hn
theorem fast_step (a : List Int) (ha : a.length = 16) (oa : Aes.ok a) (X : List Int) (hX : X.length = 16) (c i k : Nat) (hc : c < 4) (hi : i < 4) (A : Int)
   (hA : A = Go.bits .xor .u8 (Go.bits .xor .u8 (Go.bits .xor .u8 (a.getD (4 * c) 0) (a.getD (4 * c + 1) 0)) (a.getD (4 * c + 2) 0)) (a.getD (4 * c + 3) 0)) :
   spec_l01Fast.l1 (k + 1) a X ((4 * c : Nat) : Int) A (i : Int) = spec_l01Fast.l1 k a (X.set (4 * c + i) ((colsF fastL a).getD (4 * c + i) 0)) ((4 * c : Nat) : Int) A ((i + 1 : Nat) : Int) := by
 have e1 : wrap64 (((4 * c : Nat) : Int) + (i : Int)) = ((4 * c + i : Nat) : Int) := by unfold wrap64; omega
 have e2 : Int.tmod (((i + 1 : Nat) : Int)) 4 = (((i + 1) % 4 : Nat) : Int) := by rw [Int.tmod_eq_emod_of_nonneg (Int.natCast_nonneg _)]; rfl
 have e3 : wrap64 (((4 * c : Nat) : Int) + (((i + 1) % 4 : Nat) : Int)) = ((4 * c + (i + 1) % 4 : Nat) : Int) := by unfold wrap64; omega
 have b := fun j => Aes.at_by oa j
 have hx := Aes.xr_by (b (4 * c + i)) (b (4 * c + (i + 1) % 4))
 have bA : Aes.by_ A := by
   rw [hA]
   exact Aes.xr_by (Aes.xr_by (Aes.xr_by (b _) (b _)) (b _)) (b _)
 have hxt : Aes.by_ ((Gf.xt (Aes.xr (a.getD (4 * c + i) 0) (a.getD (4 * c + (i + 1) % 4) 0)).toNat : Nat) : Int) := Aes.nat_by (Gf.xt_lt _ (by unfold Aes.by_ at hx; omega))
 have q : ∀ j, j < 4 → ((a.drop (4 * c)).take 4).getD j 0 = a.getD (4 * c + j) 0 := fun j hj => by
   simp only [List.getD_eq_getElem?_getD]
   rw [List.getElem?_take_of_lt hj, List.getElem?_drop]
 have eV : (colsF fastL a).getD (4 * c + i) 0 = Aes.xr (Aes.xr (a.getD (4 * c + i) 0) A) ((Gf.xt (Aes.xr (a.getD (4 * c + i) 0) (a.getD (4 * c + (i + 1) % 4) 0)).toNat : Nat) : Int) := by
   rw [colsF_part fastL (fun c _ => fastL_length c) a ha c i hc hi, fastL_at _ i hi, q i hi, q 0 (by decide), q 1 (by decide), q 2 (by decide), q 3 (by decide), q _ (Nat.mod_lt _ (by decide)), hA]
   rfl
 simp only [spec_l01Fast.l1]
 rw [if_pos (by omega), e1, suc64 i (by omega), e2, e3, if_pos (by omega), if_pos (by omega), if_pos (by omega), if_pos (by omega), rdn, rdn, Aes.xr_i64 (b _) (b _), dbl_eq hx, Option.bind_some, if_pos (by omega), Aes.xr_i64 (b _) bA, Aes.xr_i64 (Aes.xr_by (b _) bA) hxt, Int.toNat_natCast, eV]
theorem fast_col (a : List Int) (ha : a.length = 16) (oa : Aes.ok a) (c k : Nat) (hc : c < 4) :
   spec_l01Fast.l0 (k + 6) a ((colsF fastL a).take (4 * c) ++ (List.replicate 16 0).drop (4 * c)) ((4 * c : Nat) : Int) = spec_l01Fast.l0 k a ((colsF fastL a).take (4 * (c + 1)) ++ (List.replicate 16 0).drop (4 * (c + 1))) ((4 * (c + 1) : Nat) : Int) := by
 have hF : (colsF fastL a).length = 16 := colsF_length fastL (fun c _ => fastL_length c) a ha
 have hz : (List.replicate 16 (0 : Int)).length = 16 := List.length_replicate
 have hd : ∀ p, ((colsF fastL a).take p ++ (List.replicate 16 (0 : Int)).drop p).length = 16 ∨ 16 < p := fun p => by simp; omega
 have w : ∀ j : Nat, j ≤ 4 → wrap64 (((4 * c : Nat) : Int) + (j : Int)) = ((4 * c + j : Nat) : Int) := fun j hj => by unfold wrap64; omega
 have b := fun j => Aes.at_by oa j
 have T := fun p (hp : p < 16) => td_set (colsF fastL a) (List.replicate 16 (0 : Int)) (by rw [hF, hz]) p (by omega)
 show spec_l01Fast.l0 (k + 5 + 1) a _ _ = _
 simp only [spec_l01Fast.l0]
 rw [if_pos (by omega), if_pos (by omega), if_pos (by omega), show wrap64 (((4 * c : Nat) : Int) + 1) = _ from w 1 (by decide), show wrap64 (((4 * c : Nat) : Int) + 2) = _ from w 2 (by decide), show wrap64 (((4 * c : Nat) : Int) + 3) = _ from w 3 (by decide),
   if_pos (by omega), if_pos (by omega), if_pos (by omega), if_pos (by omega), if_pos (by omega), if_pos (by omega), rdn, rdn, rdn, rdn, Aes.xr_i64 (b _) (b _), Aes.xr_i64 (Aes.xr_by (b _) (b _)) (b _), Aes.xr_i64 (Aes.xr_by (Aes.xr_by (b _) (b _)) (b _)) (b _)]
 obtain ⟨A, hA⟩ : ∃ A, A = Go.bits .xor .u8 (Go.bits .xor .u8 (Go.bits .xor .u8 (a.getD (4 * c) 0) (a.getD (4 * c + 1) 0)) (a.getD (4 * c + 2) 0)) (a.getD (4 * c + 3) 0) := ⟨_, rfl⟩
 have s := fun X hX i k hi => fast_step a ha oa X hX c i k hc hi A hA
 show spec_l01Fast.l1 (k + 4 + 1) a _ _ (Go.bits .xor .u8 (Go.bits .xor .u8 (Go.bits .xor .u8 (a.getD (4 * c) 0) (a.getD (4 * c + 1) 0)) (a.getD (4 * c + 2) 0)) (a.getD (4 * c + 3) 0)) ((0 : Nat) : Int) = _
 rw [← hA, s _ ((hd (4 * c)).resolve_right (by omega)) 0 (k + 4) (by decide)]
 show spec_l01Fast.l1 (k + 3 + 1) a (((colsF fastL a).take (4 * c) ++ (List.replicate 16 (0 : Int)).drop (4 * c)).set (4 * c) ((colsF fastL a).getD (4 * c) 0)) _ A ((1 : Nat) : Int) = _
 rw [T (4 * c) (by omega), s _ ((hd (4 * c + 1)).resolve_right (by omega)) 1 (k + 3) (by decide)]
 show spec_l01Fast.l1 (k + 2 + 1) a (((colsF fastL a).take (4 * c + 1) ++ (List.replicate 16 (0 : Int)).drop (4 * c + 1)).set (4 * c + 1) ((colsF fastL a).getD (4 * c + 1) 0)) _ A ((2 : Nat) : Int) = _
 rw [T (4 * c + 1) (by omega), s _ ((hd (4 * c + 1 + 1)).resolve_right (by omega)) 2 (k + 2) (by decide)]
 show spec_l01Fast.l1 (k + 1 + 1) a (((colsF fastL a).take (4 * c + 2) ++ (List.replicate 16 (0 : Int)).drop (4 * c + 2)).set (4 * c + 2) ((colsF fastL a).getD (4 * c + 2) 0)) _ A ((3 : Nat) : Int) = _
 rw [T (4 * c + 2) (by omega), s _ ((hd (4 * c + 2 + 1)).resolve_right (by omega)) 3 (k + 1) (by decide)]
 show spec_l01Fast.l1 (k + 1) a (((colsF fastL a).take (4 * c + 3) ++ (List.replicate 16 (0 : Int)).drop (4 * c + 3)).set (4 * c + 3) ((colsF fastL a).getD (4 * c + 3) 0)) _ A ((4 : Nat) : Int) = _
 rw [T (4 * c + 3) (by omega)]
 simp only [spec_l01Fast.l1]
 rw [if_neg (by omega), show wrap64 (((4 * c : Nat) : Int) + 4) = _ from w 4 (by decide)]
 rfl
theorem fast_eq (k : Nat) (hk : 40 ≤ k) (a : List Int) (ha : a.length = 16) (oa : Aes.ok a) : spec_l01Fast.f k a = some (Aes.mixS Gf.mixF a) := by
 obtain ⟨k, rfl⟩ : ∃ m, k = m + 25 := ⟨k - 25, by omega⟩
 have hF : (colsF fastL a).length = 16 := colsF_length fastL (fun c _ => fastL_length c) a ha
 rw [← fast_mix a ha oa]
 unfold spec_l01Fast.f
 rw [if_pos (by decide)]
 have z0 : (colsF fastL a).take (4 * 0) ++ (List.replicate 16 (0 : Int)).drop (4 * 0) = List.replicate 16 0 := rfl
 have z4 : (colsF fastL a).take (4 * (3 + 1)) ++ (List.replicate 16 (0 : Int)).drop (4 * (3 + 1)) = colsF fastL a := by
   rw [List.take_of_length_le (by omega), List.drop_eq_nil_of_le (by simp), List.append_nil]
 have h0 := fast_col a ha oa 0 (k + 1 + 6 + 6 + 6) (by decide)
 have h1 := fast_col a ha oa 1 (k + 1 + 6 + 6) (by decide)
 have h2 := fast_col a ha oa 2 (k + 1 + 6) (by decide)
 have h3 := fast_col a ha oa 3 (k + 1) (by decide)
 rw [z0] at h0
 rw [z4] at h3
 have hz : spec_l01Fast.l0 (k + 1) a (colsF fastL a) ((4 * (3 + 1) : Nat) : Int) = some (colsF fastL a) := by
   simp only [spec_l01Fast.l0]
   rw [if_neg (by omega)]
 exact h0.trans (h1.trans (h2.trans (h3.trans hz)))
theorem rdK (keys : List (List Int)) (r : Nat) (hr : r < keys.length) : rdOf ByteArray.empty (keys.map strOfNums) (r : Int) = strOfNums (keys.getD r []) := by
 unfold rdOf
 rw [Int.toNat_natCast, List.getD_eq_getElem?_getD, List.getElem?_map, List.getElem?_eq_getElem hr, List.getD_eq_getElem?_getD, List.getElem?_eq_getElem hr]
 rfl
theorem key_at {keys : List (List Int)} (h : Aes.keysOk keys) (r : Nat) (hr : r < keys.length) : (keys.getD r []).length = 16 ∧ Aes.ok (keys.getD r []) := by
 rw [List.getD_eq_getElem?_getD, List.getElem?_eq_getElem hr]
 exact h _ (List.getElem_mem hr)
theorem xorK (k : Nat) (hk : 16 < k) {keys : List (List Int)} (h : Aes.keysOk keys) (r : Nat) (hr : r < keys.length) (a : List Int) (ha : a.length = 16) (oa : Aes.ok a) :
   spec_l01Xor.f k a (rdOf ByteArray.empty (keys.map strOfNums) (r : Int)) = some (Aes.xorS a (keys.getD r [])) := by
 have hk2 := key_at h r hr
 rw [rdK keys r hr, xor_eq k hk a _ ha oa (by rw [str_size]; exact hk2.1), bytesL_str _ hk2.2]
theorem enc_run {keys : List (List Int)} (h : Aes.keysOk keys) (hn : keys.length ≤ 1000) (b : List Int) (ob : Aes.ok b) (d : Nat) : ∀ k r, r + 1 + d = keys.length → d + 100 < k →
   spec_l01Encrypt.l0 k (keys.map strOfNums) Aes.subs (Aes.encTo keys b r) ((r + 1 : Nat) : Int) = some (strOfNums (Aes.encL keys b)) := by
 have hl : (keys.map strOfNums).length = keys.length := List.length_map ..
 induction d with
 | zero =>
   intro k r hr hk
   obtain ⟨k, rfl⟩ : ∃ m, k = m + 1 := ⟨k - 1, by omega⟩
   simp only [spec_l01Encrypt.l0]
   rw [if_neg (by omega), text_eq k (by omega) _ (Aes.encTo_length _ _ _) (Aes.encTo_ok h ob _), Option.bind_some, Aes.encL, show keys.length - 1 = r from by omega]
 | succ d ih =>
   intro k r hr hk
   obtain ⟨k, rfl⟩ : ∃ m, k = m + 1 := ⟨k - 1, by omega⟩
   have w1 : wrap64 (((keys.map strOfNums).length : Int) - 1) = ((keys.length - 1 : Nat) : Int) := by rw [hl]; unfold wrap64; omega
   have oS := Aes.encTo_ok h ob r
   have lS := Aes.encTo_length keys b r
   have e1 : spec_l01Swap.f k (Aes.encTo keys b r) Aes.subs = some (Aes.subS (Aes.encTo keys b r)) := swap_eq k (by omega) Aes.subs Aes.sb Aes.subs_length (fun x hx => Aes.subs_at hx) _ lS oS
   have e2 := shift_eq k (by omega) (Aes.subS (Aes.encTo keys b r)) (Aes.subS_length _)
   have o2 := Aes.shiftS_ok (Aes.subS_ok oS)
   have l2 := Aes.shiftS_length (Aes.subS (Aes.encTo keys b r))
   simp only [spec_l01Encrypt.l0]
   rw [if_pos (by omega), e1, Option.bind_some, e2, Option.bind_some, w1]
   have hi := ih k (r + 1) (by omega) (by omega)
   by_cases hlt : r + 1 < keys.length - 1
   · have hi2 : spec_l01Encrypt.l0 k (keys.map strOfNums) Aes.subs (Aes.xorS (Aes.mixS Gf.mixF (Aes.shiftS (Aes.subS (Aes.encTo keys b r)))) (keys.getD (r + 1) [])) ((r + 1 + 1 : Nat) : Int) = some (strOfNums (Aes.encL keys b)) := by
       have e : Aes.encTo keys b (r + 1) = Aes.xorS (Aes.mixS Gf.mixF (Aes.shiftS (Aes.subS (Aes.encTo keys b r)))) (keys.getD (r + 1) []) := by
         simp only [Aes.encTo]; rw [if_pos hlt]
       rw [← e]; exact hi
     rw [if_pos (by omega), fast_eq k (by omega) _ l2 o2, Option.bind_some, if_pos (by omega), xorK k (by omega) h (r + 1) (by omega) _ (Aes.mixS_length _ _) (Aes.mixS_ok _ o2), Option.bind_some, suc64 (r + 1) (by omega)]
     exact hi2
   · have hi2 : spec_l01Encrypt.l0 k (keys.map strOfNums) Aes.subs (Aes.xorS (Aes.shiftS (Aes.subS (Aes.encTo keys b r))) (keys.getD (r + 1) [])) ((r + 1 + 1 : Nat) : Int) = some (strOfNums (Aes.encL keys b)) := by
       have e : Aes.encTo keys b (r + 1) = Aes.xorS (Aes.shiftS (Aes.subS (Aes.encTo keys b r))) (keys.getD (r + 1) []) := by
         simp only [Aes.encTo]; rw [if_neg hlt]
       rw [← e]; exact hi
     rw [if_neg (by omega), if_pos (by omega), xorK k (by omega) h (r + 1) (by omega) _ l2 o2, Option.bind_some, suc64 (r + 1) (by omega)]
     exact hi2
theorem enc_eq {keys : List (List Int)} (h : Aes.keysOk keys) (h0 : 0 < keys.length) (hn : keys.length ≤ 1000) (k : Nat) (hk : 1200 ≤ k) (s : ByteArray) (hs : s.size = 16) :
   spec_l01Encrypt.f k (keys.map strOfNums) Aes.subs s = some (strOfNums (Aes.encL keys (bytesL s))) := by
 have hl : (keys.map strOfNums).length = keys.length := List.length_map ..
 have e := enc_run h hn (bytesL s) (ok_bytesL s) (keys.length - 1) k 0 (by omega) (by omega)
 have x := xorK k (by omega) h 0 h0 (bytesL s) (by rw [bytesL_length, hs]) (ok_bytesL s)
 have x' : spec_l01Xor.f k (bytesL s) (rdOf ByteArray.empty (keys.map strOfNums) 0) = _ := x
 unfold spec_l01Encrypt.f
 rw [state_eq k (by omega) s hs, Option.bind_some, if_pos (by omega), x', Option.bind_some]
 exact e
theorem keysL_good (key : ByteArray) : Aes.keysOk (Aes.keysL (bytesL key)) := Aes.keysL_ok (ok_bytesL key)
end Go.Proofs.Ytlfpogbonmddmaa.P

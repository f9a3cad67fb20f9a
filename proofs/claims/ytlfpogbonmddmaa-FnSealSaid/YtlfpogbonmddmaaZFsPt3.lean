/- Laid by a program of this session: of Pt3 what this law uses. -/
import Derived.Test.YtlfpogbonmddmaaZFsM11
import Derived.Test.YtlfpogbonmddmaaZFsPt2
namespace Go.Proofs.Ytlfpogbonmddmaa.P
open Go.RowKit Go.Proofs.YtlfpogbonmddmaaW.PrintWords Go.Proofs.YtlfpogbonmddmaaW.PrintLast Go.Proofs.YtlfpogbonmddmaaW.PrintMore
attribute [local go_sem] min2_int min_two
set_option linter.unusedVariables false
set_option linter.unusedSimpArgs false
def keysK (s0 : ByteArray) : List Int := Sha.expandL (Sha.hmacL [115, 101, 97, 108] (bytesL s0)) [107, 101, 121, 115] 64
def spec_l04Keys.f (s0 : ByteArray) : Option (ByteArray × ByteArray) := if s0.size ≤ 1048576 then some (strOfNums ((keysK s0).take 32), strOfNums ((keysK s0).drop 32)) else none
theorem keysK_length (s0 : ByteArray) : (keysK s0).length = 64 := by
 rw [keysK, exp_take _ _ 64 2 (by decide) (by decide), List.length_take, exp_len]
 decide
set_option maxHeartbeats 8000000 in
set_option maxRecDepth 100000 in
theorem spec_l04Keys_in (s0 : ByteArray) (w0 : World) (hl0 : s0.size ≤ 1048576) :
   Calls Try.prog 62 #[.string s0] w0 fun e w' => e = .returned (.tuple #[.string (strOfNums ((keysK s0).take 32)), .string (strOfNums ((keysK s0).drop 32))]) ∧ Below w0.heap.size w0 w' := by
 have HL0 := Aside0.mk hl0
 obtain ⟨W0, hW0⟩ : ∃ W, W = w0.alloc (.cells #[.int .u8 115, .int .u8 101, .int .u8 97, .int .u8 108] 5 (4, 5)) := ⟨_, rfl⟩
 have kcA : (convert 22 22 (.slice (some ⟨w0.heap.size, 0, none⟩) 4 4)).run Try.prog (w0.alloc (.cells #[.int .u8 115, .int .u8 101, .int .u8 97, .int .u8 108] 5)) = .ok (.slice (some ⟨w0.heap.size, 0, none⟩) 4 4) W0 := by
   rw [hW0]; exact Lib.run_convert_bytes_const w0 _ _ _ 4 4 Try.underlying22 Try.underlying5
 have kc1 := Lib.run_convert_string_bytes (P := Try.prog) W0 9 22 5 s0 Try.underlying9 Try.underlying22 Try.underlying5
 have HR0 := Aside0.mk (conv_rowB W0 W0.heap.size 5 s0 (Nat.le_refl _))
 have HW1 : Aside0 (Below W0.heap.size W0 (Lib.bytesWorld W0 5 s0)) := ⟨bytes_below (Below.refl _ _) (Nat.le_refl _) _ _⟩
 generalize hW1 : Lib.bytesWorld W0 5 s0 = W1 at *
 obtain ⟨cK, hcK⟩ : ∃ c, c = grownCap W0 s0.size 0 5 := ⟨_, rfl⟩
 rw [← hcK] at kc1 HR0
 rw [← bytesL_length] at kc1 HR0
 have HA : Aside0 (W0.heap[w0.heap.size]? = some (.cells (nums .u8 [115, 101, 97, 108]).toArray 5 (4, 5))) := ⟨by rw [hW0]; exact blk_new w0 _⟩
 have HB0 : Aside0 (Below w0.heap.size w0 W0) := ⟨by rw [hW0]; exact below_alloc (Below.refl _ _) _⟩
 have HS0 : Aside0 (w0.heap.size < W0.heap.size) := ⟨by rw [hW0]; simp⟩
 have HC0 : Aside0 (Kd.C (Kd.int .u8) W1 (some ⟨w0.heap.size, 0, none⟩) 4 [115, 101, 97, 108]) := ⟨Kd.C_below (C_row_int HA.out (by decide)) HW1.out⟩
 clear hW1 hcK hl0 hW0 HA
 generalize hga : W0.heap.size = ga at kc1 HR0
 go_enter Try.func62, Try.ntmps62
 go_wp2_with fail
 refine (spec_l03Hmac_in (some ⟨w0.heap.size, 0, none⟩) 4 [115, 101, 97, 108] (some ⟨ga, 0, none⟩) cK (bytesL s0) W1 HC0.out (by decide) (rowB_C HR0.out (by rw [bytesL_length]; have := HL0.out; omega)) (rowB_form' HR0.out) (fun x hx => by simp only [List.mem_cons, List.not_mem_nil, or_false] at hx; omega) (u8ok_bytesL s0) (by decide) (by rw [bytesL_length]; have := HL0.out; omega)).mono ?_
 rintro e w2 ⟨rfl, hb2⟩
 have HB2 : Aside0 (Below w0.heap.size w0 w2) := ⟨(HB0.out.trans (HW1.out.mono HB0.out.size)).trans (hb2.mono (Nat.le_trans HB0.out.size HW1.out.size))⟩
 obtain ⟨sm, hsm⟩ : ∃ s, s = strOfNums (Sha.hmacL [115, 101, 97, 108] (bytesL s0)) := ⟨_, rfl⟩
 have hbm : bytesL sm = Sha.hmacL [115, 101, 97, 108] (bytesL s0) := by rw [hsm, bytesL_str _ (u8ok_hmacL _ _)]
 have hzm : sm.size = 32 := by rw [hsm, str_size, hmacL_length]
 rw [← hsm]
 clear hsm kc1 kcA hb2 HC0 HR0
 obtain ⟨W2, hW2⟩ : ∃ W, W = w2.alloc (.cells #[.int .u8 107, .int .u8 101, .int .u8 121, .int .u8 115] 5 (4, 5)) := ⟨_, rfl⟩
 have kcB : (convert 22 22 (.slice (some ⟨w2.heap.size, 0, none⟩) 4 4)).run Try.prog (w2.alloc (.cells #[.int .u8 107, .int .u8 101, .int .u8 121, .int .u8 115] 5)) = .ok (.slice (some ⟨w2.heap.size, 0, none⟩) 4 4) W2 := by
   rw [hW2]; exact Lib.run_convert_bytes_const w2 _ _ _ 4 4 Try.underlying22 Try.underlying5
 have HC2 : Aside0 (Kd.C (Kd.int .u8) W2 (some ⟨w2.heap.size, 0, none⟩) 4 [107, 101, 121, 115]) := ⟨C_row_int (l := [107, 101, 121, 115]) (by rw [hW2]; exact blk_new w2 _) (by decide)⟩
 have HB3 : Aside0 (Below w0.heap.size w0 W2) := ⟨by rw [hW2]; exact HB2.out.alloc HB2.out.size _⟩
 clear hW2
 have HBM := Aside0.mk hbm
 have HZM := Aside0.mk hzm
 clear hbm hzm
 go_wp2_with fail
 refine (spec_l03Expand_in sm (some ⟨w2.heap.size, 0, none⟩) 4 [107, 101, 121, 115] 64 W2 HC2.out (by decide) (fun x hx => by simp only [List.mem_cons, List.not_mem_nil, or_false] at hx; omega) (by rw [HZM.out]; decide) (by decide) (by decide)).mono ?_
 rintro e w3 ⟨rfl, hb3⟩
 have HB4 : Aside0 (Below w0.heap.size w0 w3) := ⟨HB3.out.trans (hb3.mono HB3.out.size)⟩
 obtain ⟨sa, hsa⟩ : ∃ s, s = strOfNums (Sha.expandL (bytesL sm) [107, 101, 121, 115] 64) := ⟨_, rfl⟩
 have HSA : Aside0 (sa = strOfNums (keysK s0)) := ⟨by rw [hsa, HBM.out]; rfl⟩
 rw [← hsa]
 have hza : sa.size = 64 := by rw [HSA.out, str_size, keysK_length]
 have hz2 : (sa.size : Int) = 64 := by omega
 have F1 : Aside0 (sa.extract 0 32 = strOfNums ((keysK s0).take 32)) := ⟨by rw [HSA.out, str_extract]⟩
 have F2 : Aside0 (sa.extract 32 64 = strOfNums ((keysK s0).drop 32)) := ⟨by rw [HSA.out, str_extract2, List.take_of_length_le (by rw [keysK_length]; decide)]⟩
 clear hsa hb3 kcB HC2
 go_wp2
 go_region
 go_wp2
 go_ret2
 exact ⟨by rw [F1.out, F2.out]; rfl, HB4.out.drew⟩
theorem spec_l04Keys.calls (s0 : ByteArray) (r1 r2 : ByteArray) (w : World) (h : spec_l04Keys.f s0 = some (r1, r2)) :
   Calls Try.prog 62 #[.string s0] w fun e w' => e = .returned (.tuple #[.string r1, .string r2]) ∧ Below w.heap.size w w' := by
 unfold spec_l04Keys.f at h
 split at h
 · rename_i h1
   injection h with h
   injection h with h2 h3
   subst h2 h3
   exact spec_l04Keys_in s0 w h1
 · cases h
def spec_l02Four.f (a0 : Int) : Option (List Int) := some (([(a0 / 16777216) % 256, (a0 / 65536) % 256, (a0 / 256) % 256, (a0) % 256] : List Int))
set_option maxHeartbeats 8000000 in
set_option maxRecDepth 100000 in
theorem spec_l02Four.calls (a0 : Int) (r : List Int) (w : World) (h : spec_l02Four.f a0 = some r) :
   Calls Try.prog 86 #[.int .i64 a0] w fun e w' => ∃ v0_ : Value, e = .returned (v0_) ∧ Kd.R (Kd.int .u8) 5 w' w.heap.size (fun _ => True) v0_ r ∧ Below w.heap.size w w' := by
 have HB := Aside0.mk (Below.refl w.heap.size w)
 have H : (some (([(a0 / 16777216) % 256, (a0 / 65536) % 256, (a0 / 256) % 256, (a0) % 256] : List Int))) = some r := h
 clear h
 obtain ⟨y104, hy104⟩ : ∃ y_ : List Int, y_ = (([(a0 / 16777216) % 256, (a0 / 65536) % 256, (a0 / 256) % 256, (a0) % 256] : List Int)) := ⟨_, rfl⟩
 replace H : (some y104) = some r := by first | (rw [hy104]; with_reducible exact H) | (have H2_ := (Option.bind_some _ _).symm.trans H; rw [hy104]; with_reducible exact H2_) | (have H2_ := (Option.bind_some _ _).symm.trans H; with_reducible exact H2_) | with_reducible exact H | (rw [hy104]; exact H) | exact H
 have Ny104 := Aside0.mk hy104
 clear hy104
 obtain rfl := Option.some.inj H
 go_enter Try.func86, Try.ntmps86
 go_wp2_with (first | ((with_reducible refine gate_dst (N := 14) rfl ?_); refine Kd.R_lit (Kd.int .u8) _ 5 ?hg (N := 14) ?hd (xs := ([(a0 / 16777216) % 256, (a0 / 65536) % 256, (a0 / 256) % 256, (a0) % 256] : List Int)) (inner := [.int .u8 ((a0 / 16777216) % 256), .int .u8 ((a0 / 65536) % 256), .int .u8 ((a0 / 256) % 256), .int .u8 ((a0) % 256)]) (ok := fun _ => True) (okp := fun _ => True) ?hr ?hp (fun _ hk => hk) trivial (Below.refl _ _) (Nat.le_refl _) (by simp) ?_; (case hd => rfl); (case hg => rfl); (case hr => first | (go_simp; done) | (go_simp; rfl)); (case hp => exact (Reps.one (show Kd.M (Kd.int .u8) _ _ _ ((a0 / 16777216) % 256) [.int .u8 ((a0 / 16777216) % 256)] from rfl) (Reps.one (show Kd.M (Kd.int .u8) _ _ _ ((a0 / 65536) % 256) [.int .u8 ((a0 / 65536) % 256)] from rfl) (Reps.one (show Kd.M (Kd.int .u8) _ _ _ ((a0 / 256) % 256) [.int .u8 ((a0 / 256) % 256)] from rfl) (Reps.one (show Kd.M (Kd.int .u8) _ _ _ ((a0) % 256) [.int .u8 ((a0) % 256)] from rfl) (Reps.none _ _)))))); intro v105 w2 ho3 hb hg_ hnew_; clear hg_ hnew_; (first | rw [← Ny104.out] at ho3 | (simp only [Int.reduceToNat] at ho3; rw [← Ny104.out] at ho3)); have n0_ := Aside0.mk (Kd.R_lower ho3 (below_size (by repeat (first | (with_reducible first | exact HB.out | apply below_alloc | apply pw_below_drewN | apply below_drew1) | exact HB.out)))); have n1_ := Aside0.mk (below_step (by repeat (first | (with_reducible first | exact HB.out | apply below_alloc | apply pw_below_drewN | apply below_drew1) | exact HB.out)) hb); clear HB; have HO106 := n0_; have HB := n1_; clear n0_ n1_; clear hb ho3))
 go_ret
 exact ⟨_, by first | rfl | (simp [errW_none, errW_some] <;> rfl) | (simp [*, errW_none, errW_some] <;> rfl), by (with_reducible repeat (first | apply Kd.R_alloc | apply Kd.R_drewN | apply Kd.R_drew)); exact HO106.out, by repeat (first | (with_reducible first | exact HB.out | apply below_alloc | apply pw_below_drewN | apply below_drew1) | exact HB.out)⟩
def spec_l01Double.f (a0 : Int) : Option (Int) := if (wrap64 (a0 * 2)) > 255 then (some (Go.bits .xor .i64 (wrap64 (a0 * 2)) 283)) else (some (wrap64 (a0 * 2)))
set_option maxHeartbeats 8000000 in
set_option maxRecDepth 100000 in
theorem spec_l01Double.calls (a0 : Int) (r : Int) (w : World) (h : spec_l01Double.f a0 = some r) :
   Calls Try.prog 106 #[.int .i64 a0] w fun e w' => e = .returned (.int .i64 r) ∧ Drawn0 w w' := by
 have H : (if (wrap64 (a0 * 2)) > 255 then (some (Go.bits .xor .i64 (wrap64 (a0 * 2)) 283)) else (some (wrap64 (a0 * 2)))) = some r := h
 clear h
 by_cases c2 : (wrap64 (a0 * 2)) > 255
 · rw [if_pos c2] at H
   have c2b0 : decide (255 < (wrap64 (a0 * 2))) = true := decide_eq_true c2
   clear c2
   obtain rfl := Option.some.inj H
   go_enter Try.func106, Try.ntmps106
   go_wp2
   go_ret
   exact ⟨by first | rfl | (simp; done) | (simp [*]; done), by repeat (first | exact Drawn0.refl _ | apply Drawn0.step)⟩
 · rw [if_neg c2] at H
   have c2b0 : decide (255 < (wrap64 (a0 * 2))) = false := decide_eq_false c2
   clear c2
   obtain rfl := Option.some.inj H
   go_enter Try.func106, Try.ntmps106
   go_wp2
   go_ret
   exact ⟨by first | rfl | (simp; done) | (simp [*]; done), by repeat (first | exact Drawn0.refl _ | apply Drawn0.step)⟩
def spec_l01Affine.l0 : Nat → Int → Int → Int → Option (Int)
 | 0, _, _, _ => none
 | k + 1, x0, x3, x4 => if x4 < 4 then (spec_l01Affine.l0 k (wrap64 ((Int.tmod (wrap64 (x0 * 2)) 256) + (wrap64 (Int.tdiv x0 128)))) (Go.bits .xor .i64 x3 (wrap64 ((Int.tmod (wrap64 (x0 * 2)) 256) + (wrap64 (Int.tdiv x0 128))))) (wrap64 (x4 + 1))) else (some x3)
def spec_l01Affine.f (k : Nat) (a0 : Int) : Option (Int) := spec_l01Affine.l0 k a0 (Go.bits .xor .i64 a0 99) 0
theorem spec_l01Affine.mono_l : ∀ k, (∀ y0 y1 y2, LeO (spec_l01Affine.l0 k y0 y1 y2) (spec_l01Affine.l0 (k + 1) y0 y1 y2))
 | 0 => fun _ _ _ r h => by simp [spec_l01Affine.l0] at h
 | k + 1 => by
   have ih0 := spec_l01Affine.mono_l k
   · intro y0 y1 y2
     unfold spec_l01Affine.l0
     repeat' first
     | (with_reducible exact ih0 _ _ _)
     | (with_reducible exact LeO.refl _)
     | (with_reducible exact LeO.none _)
     | (with_reducible refine LeO.ite ?_ ?_)
     | (with_reducible refine LeO.bind ?_ (fun _ => ?_))
     | exact ih0 _ _ _
     | exact LeO.none _
     | refine LeO.ite ?_ ?_
     | refine LeO.bind ?_ (fun _ => ?_)
theorem spec_l01Affine.mono : ∀ a0 k, LeO (spec_l01Affine.f k a0) (spec_l01Affine.f (k + 1) a0) := by
 intro a0 k
 have ih0 := spec_l01Affine.mono_l k
 unfold spec_l01Affine.f
 repeat' first
     | (with_reducible exact ih0 _ _ _)
     | (with_reducible exact LeO.refl _)
     | (with_reducible exact LeO.none _)
     | (with_reducible refine LeO.ite ?_ ?_)
     | (with_reducible refine LeO.bind ?_ (fun _ => ?_))
     | exact ih0 _ _ _
     | exact LeO.none _
     | refine LeO.ite ?_ ?_
     | refine LeO.bind ?_ (fun _ => ?_)
set_option maxHeartbeats 8000000 in
set_option maxRecDepth 100000 in
theorem spec_l01Affine.calls (k : Nat) (a0 : Int) (r : Int) (w : World) (h : spec_l01Affine.f k a0 = some r) :
   Calls Try.prog 107 #[.int .i64 a0] w fun e w' => e = .returned (.int .i64 r) ∧ Drawn0 w w' := by
 have H : (spec_l01Affine.l0 k a0 (Go.bits .xor .i64 a0 99) 0) = some r := h
 clear h
 have H' := Aside0.mk H
 clear H
 go_enter Try.func107, Try.ntmps107
 go_wp2
 go_loopg [0, 3, 4] k (fun kq v0 v3 v4 w' => ∃ (x0_1 : Int) (x3_1 : Int) (x4_1 : Int), v0 = .int .i64 x0_1 ∧ v3 = .int .i64 x3_1 ∧ v4 = .int .i64 x4_1 ∧ Aside0 (spec_l01Affine.l0 kq x0_1 x3_1 x4_1 = some r) ∧ Aside0 (kq ≤ k) ∧ Drawn0 w w')
 case atStart => exact ⟨(a0), (Go.bits .xor .i64 a0 99), (0), (by first | rfl | (simp; done) | (simp [*]; done)), (by first | rfl | (simp; done) | (simp [*]; done)), (by first | rfl | (simp; done) | (simp [*]; done)), H', ⟨Nat.le_refl _⟩, by repeat (first | exact Drawn0.refl _ | apply Drawn0.step)⟩
 case round =>
   clear H'
   try clear c1
   obtain ⟨x0_1, x3_1, x4_1, rfl, rfl, rfl, HA, HK1, ⟨m1, rfl⟩⟩ := hrel
   cases gk with
   | zero => exact absurd HA.out (by simp [spec_l01Affine.l0])
   | succ k1 =>
     have H := HA.out
     clear HA
     simp only [spec_l01Affine.l0] at H
     by_cases c2 : x4_1 < 4
     · rw [if_pos c2] at H
       have c2b0 : decide (x4_1 < 4) = true := decide_eq_true c2
       clear c2
       have H' := Aside0.mk H
       clear H
       go_wp2
       go_roundg k1
       case measure => have := HK1.out; omega
       case rel => exact ⟨(wrap64 ((Int.tmod (wrap64 (x0_1 * 2)) 256) + (wrap64 (Int.tdiv x0_1 128)))), (Go.bits .xor .i64 x3_1 (wrap64 ((Int.tmod (wrap64 (x0_1 * 2)) 256) + (wrap64 (Int.tdiv x0_1 128))))), (wrap64 (x4_1 + 1)), (by first | rfl | (simp; done) | (simp [*]; done)), (by first | rfl | (simp; done) | (simp [*]; done)), (by first | rfl | (simp; done) | (simp [*]; done)), H', ⟨by have := HK1.out; omega⟩, by repeat (first | exact Drawn0.refl _ | apply Drawn0.step)⟩
     · rw [if_neg c2] at H
       have c2b0 : decide (x4_1 < 4) = false := decide_eq_false c2
       clear c2
       obtain rfl := Option.some.inj H
       go_wp2
       go_ret
       exact ⟨by first | rfl | (simp; done) | (simp [*]; done), by repeat (first | exact Drawn0.refl _ | apply Drawn0.step)⟩
mutual
def spec_l01Table.l0 : Nat → List Int → Int → Int → Option (List Int)
 | 0, _, _, _ => none
 | k + 1, x1, x2, x3 => if x3 < 255 then (if 0 ≤ x3 then (if x3 < (x1.length : Int) then ((spec_l01Double.f x2).bind fun t111 => (spec_l01Table.l0 k (x1.set (x3 : Int).toNat x2) (Go.bits .xor .i64 x2 t111) (wrap64 (x3 + 1)))) else (none)) else (none)) else (if 256 ≤ 35184372088832 then ((some (List.replicate 256 0 : List Int)).bind fun y112 => (if 0 < (y112.length : Int) then (spec_l01Table.l1 k x1 (y112.set (0 : Int).toNat 99) 0) else (none))) else (none))
def spec_l01Table.l1 : Nat → List Int → List Int → Int → Option (List Int)
 | 0, _, _, _ => none
 | k + 1, x1, x4, x5 => if x5 < 255 then (if 0 ≤ x5 then (if x5 < (x1.length : Int) then (if 0 ≤ (Int.tmod (wrap64 (255 - x5)) 255) then (if (Int.tmod (wrap64 (255 - x5)) 255) < (x1.length : Int) then ((spec_l01Affine.f k (rd x1 (Int.tmod (wrap64 (255 - x5)) 255))).bind fun t118 => (if 0 ≤ (rd x1 x5) then (if (rd x1 x5) < (x4.length : Int) then (spec_l01Table.l1 k x1 (x4.set ((rd x1 x5) : Int).toNat t118) (wrap64 (x5 + 1))) else (none)) else (none))) else (none)) else (none)) else (none)) else (none)) else (some x4)
end
def spec_l01Table.f (k : Nat)  : Option (List Int) := if 255 ≤ 35184372088832 then (spec_l01Table.l0 k (List.replicate 255 0) 1 0) else (none)
theorem spec_l01Table.mono_l : ∀ k, (∀ y0 y1 y2, LeO (spec_l01Table.l0 k y0 y1 y2) (spec_l01Table.l0 (k + 1) y0 y1 y2)) ∧ (∀ y0 y1 y2, LeO (spec_l01Table.l1 k y0 y1 y2) (spec_l01Table.l1 (k + 1) y0 y1 y2))
 | 0 => ⟨fun _ _ _ r h => by simp [spec_l01Table.l0] at h, fun _ _ _ r h => by simp [spec_l01Table.l1] at h⟩
 | k + 1 => by
   obtain ⟨ih0, ih1⟩ := spec_l01Table.mono_l k
   refine ⟨?_, ?_⟩
   · intro y0 y1 y2
     unfold spec_l01Table.l0
     repeat' first
     | (with_reducible exact ih0 _ _ _)
     | (with_reducible exact ih1 _ _ _)
     | (with_reducible exact spec_l01Affine.mono _ _)
     | (with_reducible exact LeO.refl _)
     | (with_reducible exact LeO.none _)
     | (with_reducible refine LeO.ite ?_ ?_)
     | (with_reducible refine LeO.bind ?_ (fun _ => ?_))
     | exact ih0 _ _ _
     | exact ih1 _ _ _
     | exact spec_l01Affine.mono _ _
     | exact LeO.none _
     | refine LeO.ite ?_ ?_
     | refine LeO.bind ?_ (fun _ => ?_)
   · intro y0 y1 y2
     unfold spec_l01Table.l1
     repeat' first
     | (with_reducible exact ih0 _ _ _)
     | (with_reducible exact ih1 _ _ _)
     | (with_reducible exact spec_l01Affine.mono _ _)
     | (with_reducible exact LeO.refl _)
     | (with_reducible exact LeO.none _)
     | (with_reducible refine LeO.ite ?_ ?_)
     | (with_reducible refine LeO.bind ?_ (fun _ => ?_))
     | exact ih0 _ _ _
     | exact ih1 _ _ _
     | exact spec_l01Affine.mono _ _
     | exact LeO.none _
     | refine LeO.ite ?_ ?_
     | refine LeO.bind ?_ (fun _ => ?_)
theorem spec_l01Table.mono : ∀ k, LeO (spec_l01Table.f k ) (spec_l01Table.f (k + 1) ) := by
 intro  k
 obtain ⟨ih0, ih1⟩ := spec_l01Table.mono_l k
 unfold spec_l01Table.f
 repeat' first
     | (with_reducible exact ih0 _ _ _)
     | (with_reducible exact ih1 _ _ _)
     | (with_reducible exact spec_l01Affine.mono _ _)
     | (with_reducible exact LeO.refl _)
     | (with_reducible exact LeO.none _)
     | (with_reducible refine LeO.ite ?_ ?_)
     | (with_reducible refine LeO.bind ?_ (fun _ => ?_))
     | exact ih0 _ _ _
     | exact ih1 _ _ _
     | exact spec_l01Affine.mono _ _
     | exact LeO.none _
     | refine LeO.ite ?_ ?_
     | refine LeO.bind ?_ (fun _ => ?_)
def spec_l01Table.T13 : Bool × List (List Nat × List Nat) := (true, [([], []), ([], []), ([], []), ([1, 2], [1, 2]), ([3], [3]), ([], []), ([], []), ([6], [6]), ([7], [7]), ([5, 8], [5, 8]), ([9], [9]), ([10], [10]), ([0, 4, 0, 1, 2, 3, 4, 5, 6, 7, 8, 9, 10, 11], [0, 4]), ([12, 11, 11, 0, 1, 2, 3, 4, 5, 6, 7, 8, 9, 10, 11], [11, 12])])
def spec_l01Table.B13 : List Nat := [0, 0, 0, 6, 14, 0, 0, 64, 192, 480, 992, 2016, 4095, 8191]
theorem spec_l01Table.tab13 : rtab .any (opsOf Try.f94 13) = spec_l01Table.T13 := by kernel_rfl
theorem spec_l01Table.bits13 : waitsOk spec_l01Table.T13.2 spec_l01Table.B13 = true := by kernel_rfl
set_option maxHeartbeats 8000000 in
set_option maxRecDepth 100000 in
theorem spec_l01Table.calls (k : Nat)  (r : List Int) (w : World) (h : spec_l01Table.f k  = some r) :
   Calls Try.prog 94 #[] w fun e w' => ∃ v0_ : Value, e = .returned (v0_) ∧ Kd.R (Kd.int .i64) 3 w' w.heap.size (fun _ => True) v0_ r ∧ Below w.heap.size w w' := by
 have HB := Aside0.mk (Below.refl w.heap.size w)
 have H : (if 255 ≤ 35184372088832 then (spec_l01Table.l0 k (List.replicate 255 0) 1 0) else (none)) = some r := h
 clear h
 by_cases c1 : 255 ≤ 35184372088832
 · rw [if_pos c1] at H
   have c1b0 := eq_true c1
   have c1b1 : decide (255 ≤ 35184372088832) = true := decide_eq_true c1
   clear c1
   obtain ⟨y107, hy107⟩ : ∃ y_ : List Int, y_ = (List.replicate 255 0) := ⟨_, rfl⟩
   replace H : (spec_l01Table.l0 k y107 1 0) = some r := by first | (rw [hy107]; with_reducible exact H) | (have H2_ := (Option.bind_some _ _).symm.trans H; rw [hy107]; with_reducible exact H2_) | (have H2_ := (Option.bind_some _ _).symm.trans H; with_reducible exact H2_) | with_reducible exact H | (rw [hy107]; exact H) | exact H
   have Ny107 := Aside0.mk hy107
   clear hy107
   have H' := Aside0.mk H
   clear H
   go_enter Try.func94, Try.ntmps94
   go_wp2_with (first | ((with_reducible refine gate_dst (N := 6) rfl ?_); refine Kd.R_make (Kd.int .i64) _ 3 rfl (N := 6) rfl 89 _ _ rfl 255 rfl rfl Try.underlying89 (.int .i64 0) 8 info3 rfl (by decide) (by omega) 0 (ok := fun _ => True) (okp := fun _ => True) rfl (fun _ hk => hk) trivial (by omega) (by omega) (Below.refl _ _) (Nat.le_refl _) ?_; intro v108 w2 ho3 hb hg_ hnew_; clear hg_ hnew_; (first | rw [← Ny107.out] at ho3 | (simp only [Int.reduceToNat] at ho3; rw [← Ny107.out] at ho3)); have n0_ := Aside0.mk (Kd.R_lower ho3 (below_size (by repeat (first | (with_reducible first | exact HB.out | apply below_alloc | apply pw_below_drewN | apply below_drew1) | exact HB.out)))); have n1_ := Aside0.mk (below_step (by repeat (first | (with_reducible first | exact HB.out | apply below_alloc | apply pw_below_drewN | apply below_drew1) | exact HB.out)) hb); clear HB; have HO109 := n0_; have HB := n1_; clear n0_ n1_; clear hb ho3))
   go_loopg [2, 3] k (fun kq v2 v3 w' => ∃ (x1_1 : List Int) (x2_1 : Int) (x3_1 : Int), v2 = .int .i64 x2_1 ∧ v3 = .int .i64 x3_1 ∧ Aside0 (spec_l01Table.l0 kq x1_1 x2_1 x3_1 = some r) ∧ Aside0 (kq ≤ k) ∧ Aside0 (Kd.R (Kd.int .i64) 3 w' w.heap.size (fun _ => True) v108 x1_1) ∧ Aside0 (Below w.heap.size w w'))
   case atStart => exact ⟨(y107), (1), (0), (by first | rfl | (simp; done) | (simp [*]; done)), (by first | rfl | (simp; done) | (simp [*]; done)), H', ⟨Nat.le_refl _⟩, ⟨by (with_reducible repeat (first | apply Kd.R_alloc | apply Kd.R_drewN | apply Kd.R_drew)); exact HO109.out⟩, ⟨by repeat (first | (with_reducible first | exact HB.out | apply below_alloc | apply pw_below_drewN | apply below_drew1) | exact HB.out)⟩⟩
   case round =>
     clear H'
     try clear c1
     try clear c1b0
     try clear c1b1
     try clear p2
     obtain ⟨x1_1, x2_1, x3_1, rfl, rfl, HA, HK1, HO_1, HB⟩ := hrel
     cases gk with
     | zero => exact absurd HA.out (by simp [spec_l01Table.l0])
     | succ k1 =>
       have H := HA.out
       clear HA
       simp only [spec_l01Table.l0] at H
       by_cases c4 : x3_1 < 255
       · rw [if_pos c4] at H
         have c4b0 : decide (x3_1 < 255) = true := decide_eq_true c4
         clear c4
         by_cases c5 : 0 ≤ x3_1
         · rw [if_pos c5] at H
           have c5b0 : decide (0 ≤ x3_1) = true := decide_eq_true c5
           clear c5
           by_cases c6 : x3_1 < (x1_1.length : Int)
           · rw [if_pos c6] at H
             have c6b0 : decide (x3_1 < (x1_1.length : Int)) = true := decide_eq_true c6
             clear c6
             obtain ⟨y110, hy110⟩ : ∃ y_ : List Int, y_ = (x1_1.set (x3_1 : Int).toNat x2_1) := ⟨_, rfl⟩
             replace H : ((spec_l01Double.f x2_1).bind fun t111 => (spec_l01Table.l0 k1 y110 (Go.bits .xor .i64 x2_1 t111) (wrap64 (x3_1 + 1)))) = some r := by first | (rw [hy110]; with_reducible exact H) | (have H2_ := (Option.bind_some _ _).symm.trans H; rw [hy110]; with_reducible exact H2_) | (have H2_ := (Option.bind_some _ _).symm.trans H; with_reducible exact H2_) | with_reducible exact H | (rw [hy110]; exact H) | exact H
             have Ny110 := Aside0.mk hy110
             clear hy110
             replace H := Option.bind_eq_some_iff.mp H
             obtain ⟨t111, A80, H⟩ := H
             replace H : (spec_l01Table.l0 k1 y110 (Go.bits .xor .i64 x2_1 t111) (wrap64 (x3_1 + 1))) = some r := H
             have A8 := Aside0.mk A80
             clear A80
             have H' := Aside0.mk H
             clear H
             have p7 : 0 ≤ (x3_1 : Int) := of_decide_eq_true (by first | (with_reducible assumption) | assumption)
             have q7 : (x3_1 : Int) < ((x1_1.length : Int) : Int) := of_decide_eq_true (by first | (with_reducible assumption) | assumption)
             obtain ⟨go7, co7, eo7, gb7, gl7, cl7, HG7⟩ := Kd.R_form HO_1.out (by omega)
             (first | cases eo7 | (injection eo7 with ea_ en_ ec_; (first | subst ea_ | (injection ea_ with ea_; subst ea_)); subst ec_; clear en_))
             have GB7 := Aside0.mk gb7
             have GG7 := Aside0.mk HG7
             clear gb7 gl7 HG7
             obtain ⟨hx7_0, hf7_0⟩ := Kd.R_celln 0 HO_1.out (x3_1 : Int) p7 q7
             replace p7 := eq_true p7
             replace q7 := eq_true q7
             have HP9 := Kd.R_putg HO_1.out (x3_1 : Int) x2_1
             go_wp2_with (first | ((with_reducible refine gate_store (t := 3) (p := 14) rfl ?_); refine store_event (t := 3) (p := 14) (v := ?vo_w10) (w1 := (wr.setCell ⟨go7, (x3_1 : Int).toNat, none⟩ (.int .i64 x2_1))) ?hg ?ho ?hn ?hr ?_; (case ho => rfl); (case hg => rfl); (case hn => rfl); (case hr => first | (go_simp; done) | (go_simp; rfl)); intro w10 hw; have hg : wr.grownBy w10 (some go7) := (by rw [hw]; exact HP9.2); have hp_ : Kd.R (Kd.int .i64) 3 w10 w.heap.size (fun _ => True) (.slice (some ⟨go7, 0, none⟩) x1_1.length co7) y110 := (by rw [hw, Ny110.out]; exact HP9.1); clear HP9; have n0_ := Aside0.mk (hp_); have n1_ := Aside0.mk ((by rw [hw]; exact below_set (HB.out) GB7.out : Below w.heap.size w w10)); clear HO_1; clear HB; have HO_1 := n0_; have HB := n1_; clear n0_ n1_; clear hg hw hp_) | ((with_reducible refine gate_callee (f := 106) rfl ?_); refine goesL_ (some 17) rfl rfl Try.func106 (by kernel_rfl) rfl #[.int .i64 x2_1] rfl (by (try simp only [List.map_toArray, List.map_cons, List.map_nil]); first | done | rfl | (simp only [List.length_drop, List.length_take]; rfl)) ?_; (with_reducible refine (spec_l01Double.calls x2_1 t111 _ A8.out).mono ?_); rintro e w' ⟨rfl, ⟨nd, rfl⟩⟩; refine ⟨_, rfl, ?_⟩))
             go_roundg k1
             case measure => have := HK1.out; omega
             case rel => exact ⟨(y110), (Go.bits .xor .i64 x2_1 t111), (wrap64 (x3_1 + 1)), (by first | rfl | (simp; done) | (simp [*]; done)), (by first | rfl | (simp; done) | (simp [*]; done)), H', ⟨by have := HK1.out; omega⟩, ⟨by (with_reducible repeat (first | apply Kd.R_alloc | apply Kd.R_drewN | apply Kd.R_drew)); exact HO_1.out⟩, ⟨by repeat (first | (with_reducible first | exact HB.out | apply below_alloc | apply pw_below_drewN | apply below_drew1) | exact HB.out)⟩⟩
           · rw [if_neg c6] at H
             exact absurd H (by simp)
         · rw [if_neg c5] at H
           exact absurd H (by simp)
       · rw [if_neg c4] at H
         have c4b0 : decide (x3_1 < 255) = false := decide_eq_false c4
         clear c4
         by_cases c11 : 256 ≤ 35184372088832
         · rw [if_pos c11] at H
           have c11b0 := eq_true c11
           have c11b1 : decide (256 ≤ 35184372088832) = true := decide_eq_true c11
           clear c11
           obtain ⟨y112, hy112⟩ : ∃ y_ : List Int, y_ = (List.replicate 256 0) := ⟨_, rfl⟩
           replace H : (if 0 < (y112.length : Int) then (spec_l01Table.l1 k1 x1_1 (y112.set (0 : Int).toNat 99) 0) else (none)) = some r := by first | (rw [hy112]; with_reducible exact H) | (have H2_ := (Option.bind_some _ _).symm.trans H; rw [hy112]; with_reducible exact H2_) | (have H2_ := (Option.bind_some _ _).symm.trans H; with_reducible exact H2_) | with_reducible exact H | (rw [hy112]; exact H) | exact H
           have Ny112 := Aside0.mk hy112
           clear hy112
           by_cases c12 : 0 < (y112.length : Int)
           · rw [if_pos c12] at H
             have c12b0 : decide (0 < (y112.length : Int)) = true := decide_eq_true c12
             have c12b1 : decide (0 < y112.length) = true := decide_eq_true (by omega)
             clear c12
             obtain ⟨y115, hy115⟩ : ∃ y_ : List Int, y_ = (y112.set (0 : Int).toNat 99) := ⟨_, rfl⟩
             replace H : (spec_l01Table.l1 k1 x1_1 y115 0) = some r := by first | (rw [hy115]; with_reducible exact H) | (have H2_ := (Option.bind_some _ _).symm.trans H; rw [hy115]; with_reducible exact H2_) | (have H2_ := (Option.bind_some _ _).symm.trans H; with_reducible exact H2_) | with_reducible exact H | (rw [hy115]; exact H) | exact H
             have Ny115 := Aside0.mk hy115
             clear hy115
             have H' := Aside0.mk H
             clear H
             go_wp2_with (first | ((with_reducible refine gate_dst (N := 19) rfl ?_); refine Kd.R_make (Kd.int .i64) _ 3 rfl (N := 19) rfl 89 _ _ rfl 256 rfl rfl Try.underlying89 (.int .i64 0) 8 info3 rfl (by decide) (by omega) 0 (ok := fun _ => True) (okp := fun _ => True) rfl (fun _ hk => hk) trivial (by omega) (by omega) (Below.refl _ _) (Nat.le_refl _) ?_; intro v113 w14 ho15 hb hg_ hnew_; clear hg_ hnew_; (first | rw [← Ny112.out] at ho15 | (simp only [Int.reduceToNat] at ho15; rw [← Ny112.out] at ho15)); have n0_ := Aside0.mk (Kd.R_elder' (by (with_reducible repeat (first | apply Kd.R_alloc | apply Kd.R_drewN | apply Kd.R_drew)); exact HO_1.out) (Kd.R_base ho15) hb); have n1_ := Aside0.mk (Kd.R_lower (Kd.R_new' ho15 (Kd.R_lt (by (with_reducible repeat (first | apply Kd.R_alloc | apply Kd.R_drewN | apply Kd.R_drew)); exact HO_1.out))) (below_size (by repeat (first | (with_reducible first | exact HB.out | apply below_alloc | apply pw_below_drewN | apply below_drew1) | exact HB.out)))); have n2_ := Aside0.mk (below_step (by repeat (first | (with_reducible first | exact HB.out | apply below_alloc | apply pw_below_drewN | apply below_drew1) | exact HB.out)) hb); clear HO_1; clear HB; have HO_1 := n0_; have HO114 := n1_; have HB := n2_; clear n0_ n1_ n2_; clear hb ho15; have p13 : 0 ≤ (0 : Int) := (by omega); have q13 : (0 : Int) < ((y112.length : Int) : Int) := of_decide_eq_true (by first | (with_reducible assumption) | assumption); have qi13 : (0 < y112.length) = True := eq_true (by omega); obtain ⟨go13, co13, eo13, gb13, gl13, cl13, HG13⟩ := Kd.R_form HO114.out (by omega); (first | cases eo13 | (injection eo13 with ea_ en_ ec_; (first | subst ea_ | (injection ea_ with ea_; subst ea_)); subst ec_; clear en_)); have GB13 := Aside0.mk gb13; have GG13 := Aside0.mk HG13; clear gb13 gl13 HG13; obtain ⟨hx13_0, hf13_0⟩ := Kd.R_celln 0 HO114.out (0 : Int) p13 q13; (try rw [show ((0 : Int)).toNat = 0 from rfl] at hx13_0); (try simp only [Nat.reduceMul, Nat.zero_mul, Nat.zero_add, Nat.reduceAdd] at hx13_0); (try rw [show ((0 : Int)).toNat = 0 from rfl] at hf13_0); (try simp only [Nat.reduceMul, Nat.zero_mul, Nat.zero_add, Nat.reduceAdd] at hf13_0); replace p13 := eq_true p13; replace q13 := eq_true q13; have n_ := Aside0.mk (Kd.R_mono (ok' := (fun k_ => some k_ ≠ (v108 : Value).ownBlock)) HO114.out (fun k_ hk => hk.2)); clear HO114; have HO114 := n_; clear n_; obtain ⟨hy16_, hz16_⟩ := Kd.R_celln 0 HO114.out (0 : Int) (by omega) (of_decide_eq_true (by first | (with_reducible assumption) | assumption)); (try simp only [Int.reduceToNat, Int.toNat_zero, Int.toNat_ofNat, Nat.reduceMul, Nat.zero_mul, Nat.zero_add] at hy16_ hz16_); (try rw [show ((0 : Int)).toNat = 0 from rfl] at hy16_); (try rw [show ((0 : Int)).toNat = 0 from rfl] at hz16_); have HP16 := Kd.R_putg HO114.out (0 : Int) 99) | ((with_reducible refine gate_store (t := 3) (p := 21) rfl ?_); refine store_event (t := 3) (p := 21) (v := ?vo_w17) (w1 := (w14.setCell ⟨go13, (0 : Int).toNat, none⟩ (.int .i64 99))) ?hg ?ho ?hn ?hr ?_; (case ho => rfl); (case hg => rfl); (case hn => rfl); (case hr => first | (go_simp; done) | (go_simp; rfl)); intro w17 hw; have hg : w14.grownBy w17 (some go13) := (by rw [hw]; exact HP16.2); have hp_ : Kd.R (Kd.int .i64) 3 w17 w.heap.size (fun k_ => some k_ ≠ (v108 : Value).ownBlock) (.slice (some ⟨go13, 0, none⟩) y112.length co13) y115 := (by rw [hw, Ny115.out]; exact HP16.1); clear HP16; have n0_ := Aside0.mk (Kd.R_after (v := (.slice (some ⟨go13, 0, none⟩) y112.length co13)) (v1 := (.slice (some ⟨go13, 0, none⟩) y112.length co13)) (ok := (fun _ => True)) (by (with_reducible repeat (first | apply Kd.R_alloc | apply Kd.R_drewN | apply Kd.R_drew)); exact HO_1.out) hg (.inl rfl)); have n1_ := Aside0.mk (hp_); have n2_ := Aside0.mk ((by rw [hw]; exact below_set (HB.out) GB13.out : Below w.heap.size w w17)); clear HO_1; clear HO114; clear HB; have HO_1 := n0_; have HO114 := n1_; have HB := n2_; clear n0_ n1_ n2_; clear hg hw hp_))
             go_loopg [5] k1 (fun kq v5 w' => ∃ (x4_2 : List Int) (x5_2 : Int), v5 = .int .i64 x5_2 ∧ Aside0 (spec_l01Table.l1 kq x1_1 x4_2 x5_2 = some r) ∧ Aside0 (kq ≤ k1) ∧ Aside0 (Kd.R (Kd.int .i64) 3 w' w.heap.size (fun k_ => some k_ ≠ ((.slice (some ⟨go13, 0, none⟩) y112.length co13) : Value).ownBlock) v108 x1_1) ∧ Aside0 (Kd.R (Kd.int .i64) 3 w' w.heap.size (fun k_ => some k_ ≠ (v108 : Value).ownBlock) (.slice (some ⟨go13, 0, none⟩) y112.length co13) x4_2) ∧ Aside0 (Below w.heap.size w w'))
             case atStart => exact ⟨(y115), (0), (by first | rfl | (simp; done) | (simp [*]; done)), H', ⟨Nat.le_refl _⟩, ⟨by (with_reducible repeat (first | apply Kd.R_alloc | apply Kd.R_drewN | apply Kd.R_drew)); exact Kd.R_mono HO_1.out (fun _ hk => hk.2)⟩, ⟨by (with_reducible repeat (first | apply Kd.R_alloc | apply Kd.R_drewN | apply Kd.R_drew)); exact HO114.out⟩, ⟨by repeat (first | (with_reducible first | exact HB.out | apply below_alloc | apply pw_below_drewN | apply below_drew1) | exact HB.out)⟩⟩
             case round =>
               clear H'
               try clear c1
               try clear c1b0
               try clear c1b1
               try clear p1
               try clear q1
               try clear hx1
               try clear qi1
               try clear hf1
               try clear p2
               try clear c4
               try clear c4b0
               try clear c5
               try clear c5b0
               try clear c6
               try clear c6b0
               try clear p6
               try clear p7
               try clear q7
               try clear hx7
               try clear hf7
               try clear c9
               try clear c10
               try clear c11
               try clear c11b0
               try clear c11b1
               try clear c12
               try clear c12b0
               try clear c12b1
               try clear p13
               try clear q13
               try clear hx13
               try clear qi13
               try clear hf13
               try clear hx13_0
               try clear hx7_0
               try clear p13
               try clear p2
               try clear p7
               try clear q13
               try clear q7
               obtain ⟨x4_2, x5_2, rfl, HA, HK2, HO_1, HO_4, HB⟩ := hrel
               have hl4_2 := (Kd.R_reads' HO_4.out).1
               rw [hl4_2] at HO_4
               (try simp only [hl4_2])
               (try simp only [hl4_2] at HO_1)
               cases gk with
               | zero => exact absurd HA.out (by simp [spec_l01Table.l1])
               | succ k2 =>
                 have H := HA.out
                 clear HA
                 simp only [spec_l01Table.l1] at H
                 by_cases c18 : x5_2 < 255
                 · rw [if_pos c18] at H
                   have c18b0 : decide (x5_2 < 255) = true := decide_eq_true c18
                   clear c18
                   by_cases c19 : 0 ≤ x5_2
                   · rw [if_pos c19] at H
                     have c19b0 : decide (0 ≤ x5_2) = true := decide_eq_true c19
                     clear c19
                     by_cases c20 : x5_2 < (x1_1.length : Int)
                     · rw [if_pos c20] at H
                       have c20b0 : decide (x5_2 < (x1_1.length : Int)) = true := decide_eq_true c20
                       clear c20
                       obtain ⟨ji21, hji21⟩ : ∃ j_ : Int, (Int.tmod (wrap64 (255 - x5_2)) 255) = j_ := ⟨_, rfl⟩
                       replace H : (if 0 ≤ (ji21) then (if (ji21) < (x1_1.length : Int) then ((spec_l01Affine.f k2 (rd x1_1 (ji21))).bind fun t118 => (if 0 ≤ (rd x1_1 x5_2) then (if (rd x1_1 x5_2) < (x4_2.length : Int) then (spec_l01Table.l1 k2 x1_1 (x4_2.set ((rd x1_1 x5_2) : Int).toNat t118) (wrap64 (x5_2 + 1))) else (none)) else (none))) else (none)) else (none)) = some r := by first | (rw [hji21] at H; exact H) | (simp only [hji21] at H ⊢; exact H)
                       by_cases c22 : 0 ≤ (ji21)
                       · rw [if_pos c22] at H
                         have c22b0 : decide (0 ≤ (ji21)) = true := decide_eq_true c22
                         clear c22
                         by_cases c23 : (ji21) < (x1_1.length : Int)
                         · rw [if_pos c23] at H
                           have c23b0 : decide ((ji21) < (x1_1.length : Int)) = true := decide_eq_true c23
                           clear c23
                           replace H := Option.bind_eq_some_iff.mp H
                           obtain ⟨t118, A240, H⟩ := H
                           replace H : (if 0 ≤ (rd x1_1 x5_2) then (if (rd x1_1 x5_2) < (x4_2.length : Int) then (spec_l01Table.l1 k2 x1_1 (x4_2.set ((rd x1_1 x5_2) : Int).toNat t118) (wrap64 (x5_2 + 1))) else (none)) else (none)) = some r := H
                           have A24 := Aside0.mk A240
                           clear A240
                           by_cases c25 : 0 ≤ (rd x1_1 x5_2)
                           · rw [if_pos c25] at H
                             have c25b0 : decide (0 ≤ (rd x1_1 x5_2)) = true := decide_eq_true c25
                             clear c25
                             by_cases c26 : (rd x1_1 x5_2) < (x4_2.length : Int)
                             · rw [if_pos c26] at H
                               have c26b0 : decide ((rd x1_1 x5_2) < (x4_2.length : Int)) = true := decide_eq_true c26
                               clear c26
                               obtain ⟨y119, hy119⟩ : ∃ y_ : List Int, y_ = (x4_2.set ((rd x1_1 x5_2) : Int).toNat t118) := ⟨_, rfl⟩
                               replace H : (spec_l01Table.l1 k2 x1_1 y119 (wrap64 (x5_2 + 1))) = some r := by first | (rw [hy119]; with_reducible exact H) | (have H2_ := (Option.bind_some _ _).symm.trans H; rw [hy119]; with_reducible exact H2_) | (have H2_ := (Option.bind_some _ _).symm.trans H; with_reducible exact H2_) | with_reducible exact H | (rw [hy119]; exact H) | exact H
                               have Ny119 := Aside0.mk hy119
                               clear hy119
                               have H' := Aside0.mk H
                               clear H
                               try go_wp2
                               have n0_ := Aside0.mk (Kd.R_drew HO_1.out)
                               have n1_ := Aside0.mk (Kd.R_drew HO_4.out)
                               have n2_ := Aside0.mk (below_drew1 HB.out)
                               clear HO_1
                               clear HO_4
                               clear HB
                               have HO_1 := n0_
                               have HO_4 := n1_
                               have HB := n2_
                               clear n0_ n1_ n2_
                               obtain ⟨Ao29, co29, eo29⟩ := Kd.R_slice HO_1.out
                               (first | subst eo29 | (injection eo29 with f1_ f2_ f3_; have f4_ := f1_.symm; have f5_ := f3_.symm; clear f1_ f2_ f3_; subst f4_; subst f5_))
                               have p116 : 0 ≤ (x5_2 : Int) := of_decide_eq_true (by first | (with_reducible assumption) | assumption)
                               have q116 : x5_2 < (x1_1.length : Int) := of_decide_eq_true (by first | (with_reducible assumption) | assumption)
                               obtain ⟨ad116, e116, hx116_0⟩ := Kd.at_int (Kd.R_reads' HO_1.out).2.2 x5_2 p116 q116
                               cases e116
                               replace p116 := eq_true p116
                               replace q116 := eq_true q116
                               have p117 : 0 ≤ ((ji21) : Int) := of_decide_eq_true (by first | (with_reducible assumption) | assumption)
                               have q117 : (ji21) < (x1_1.length : Int) := of_decide_eq_true (by first | (with_reducible assumption) | assumption)
                               obtain ⟨ad117, e117, hx117_0⟩ := Kd.at_int (Kd.R_reads' HO_1.out).2.2 (ji21) p117 q117
                               obtain rfl : ad116 = ad117 := (by injection e117)
                               replace p117 := eq_true p117
                               replace q117 := eq_true q117
                               refine start_ (n := 14) (S := fun w' => w'.cell? (ad116.add (x5_2).toNat) = some (.int .i64 (rd x1_1 x5_2)) ∧ w'.cell? (ad116.add ((ji21)).toNat) = some (.int .i64 (rd x1_1 (ji21)))) (ds := [13]) #[false, false, false, false, false, false, false, false, false, false, false, false, false, false] (by kernel_rfl) rfl rfl ⟨hx116_0, hx117_0⟩ (fun hHeld => ?_); refine with_tabW spec_l01Table.tab13 spec_l01Table.bits13 (fun HT_ HW_ => ?_)
                               generalize wr.drew = w28 at HO_1 HO_4 HB hx116_0 hx117_0 hHeld ⊢
                               refine pure_ (i := 0) (N := some 26) (v := ?_) (a' := ?_) #[true, false, false, false, false, false, false, false, false, false, false, false, false, false] rfl rfl (any_of HT_.out (by kernel_rfl)) (fun _ _ _ h => h) (Or.inl ⟨by rfl, ?_⟩) ?_ ?_
                               rotate_left
                               · intro w'
                                 go_simp
                                 with_reducible rfl
                               rotate_left
                               · simp only [Act.put, sA_, s0_, s1_, i64_w, i32_w]
                                 rfl
                               refine pure_ (i := 1) (N := some 27) (v := ?_) (a' := ?_) #[true, true, false, false, false, false, false, false, false, false, false, false, false, false] rfl rfl (any_of HT_.out (by kernel_rfl)) (fun _ _ _ h => h) (Or.inl ⟨by rfl, ?_⟩) ?_ ?_
                               rotate_left
                               · intro w'
                                 go_simp
                                 with_reducible rfl
                               rotate_left
                               · simp only [Act.put, sA_, s0_, s1_, i64_w, i32_w]
                                 rfl
                               refine pure_ (i := 2) (N := some 28) (v := ?_) (a' := ?_) #[true, true, true, false, false, false, false, false, false, false, false, false, false, false] rfl rfl (any_of HT_.out (by kernel_rfl)) (fun _ _ _ h => h) (Or.inl ⟨by rfl, ?_⟩) ?_ ?_
                               rotate_left
                               · intro w'
                                 go_simp
                                 with_reducible rfl
                               rotate_left
                               · simp only [Act.put, sA_, s0_, s1_, i64_w, i32_w]
                                 rfl
                               refine pure_ (i := 3) (N := some 29) (v := ?_) (a' := ?_) #[true, true, true, true, false, false, false, false, false, false, false, false, false, false] rfl rfl (any_of HT_.out (by kernel_rfl)) (fun _ _ _ h => h) (Or.inl ⟨by rfl, ?_⟩) ?_ ?_
                               rotate_left
                               · intro w'
                                 go_simp
                                 with_reducible rfl
                               rotate_left
                               · simp only [Act.put, sA_, s0_, s1_, i64_w, i32_w]
                                 rfl
                               refine pure_ (i := 5) (N := some 31) (v := ?_) (a' := ?_) #[true, true, true, true, false, true, false, false, false, false, false, false, false, false] rfl rfl (any_of HT_.out (by kernel_rfl)) (fun _ _ _ h => h) (Or.inl ⟨by rfl, ?_⟩) ?_ ?_
                               rotate_left
                               · intro w'
                                 go_simp
                                 with_reducible rfl
                               rotate_left
                               · simp only [Act.put, sA_, s0_, s1_, i64_w, i32_w]
                                 rfl
                               refine pure_ (i := 6) (N := some 32) (v := ?_) (a' := ?_) #[true, true, true, true, false, true, true, false, false, false, false, false, false, false] rfl rfl (any_of HT_.out (by kernel_rfl)) (fun _ _ _ h => h) (Or.inl ⟨by rfl, ?_⟩) ?_ ?_
                               rotate_left
                               · intro w'
                                 go_simp
                                 with_reducible rfl
                               rotate_left
                               · simp only [Act.put, sA_, s0_, s1_, i64_w, i32_w]
                                 rfl
                               refine pure_ (i := 7) (N := some 33) (v := ?_) (a' := ?_) #[true, true, true, true, false, true, true, true, false, false, false, false, false, false] rfl rfl (any_of HT_.out (by kernel_rfl)) (fun _ _ _ h => h) (Or.inl ⟨by rfl, ?_⟩) ?_ ?_
                               rotate_left
                               · intro w'
                                 go_simp
                                 with_reducible rfl
                               rotate_left
                               · simp only [Act.put, sA_, s0_, s1_, i64_w, i32_w]
                                 rfl
                               refine pure_ (i := 8) (N := some 34) (v := ?_) (a' := ?_) #[true, true, true, true, false, true, true, true, true, false, false, false, false, false] rfl rfl (any_of HT_.out (by kernel_rfl)) (fun _ _ _ h => h) (Or.inl ⟨by rfl, ?_⟩) ?_ ?_
                               rotate_left
                               · intro w'
                                 go_simp
                                 with_reducible rfl
                               rotate_left
                               · simp only [Act.put, sA_, s0_, s1_, i64_w, i32_w]
                                 rfl
                               refine pure_ (i := 9) (N := some 35) (v := ?_) (a' := ?_) #[true, true, true, true, false, true, true, true, true, true, false, false, false, false] rfl rfl (any_of HT_.out (by kernel_rfl)) (fun _ _ _ h => h) (Or.inl ⟨by rfl, ?_⟩) ?_ ?_
                               rotate_left
                               · intro w'
                                 go_simp
                                 with_reducible rfl
                               rotate_left
                               · simp only [Act.put, sA_, s0_, s1_, i64_w, i32_w]
                                 rfl
                               refine take_ (i := 4) (N := some 30) (v := ?_) (a' := ?_) #[true, true, true, true, true, true, true, true, true, true, false, false, false, false] rfl rfl (take_ofW HT_.out HW_.out (by kernel_rfl)) (fun _ _ _ h => h) (Or.inl ⟨by rfl, ?_⟩) hHeld ?_ ?_
                               rotate_left
                               · rintro w' ⟨s0, s1⟩
                                 go_simp
                                 with_reducible rfl
                               rotate_left
                               · simp only [Act.put, sA_, s0_, s1_, i64_w, i32_w]
                                 rfl
                               refine take_ (i := 10) (N := some 36) (v := ?_) (a' := ?_) #[true, true, true, true, true, true, true, true, true, true, true, false, false, false] rfl rfl (take_ofW HT_.out HW_.out (by kernel_rfl)) (fun _ _ _ h => h) (Or.inl ⟨by rfl, ?_⟩) hHeld ?_ ?_
                               rotate_left
                               · rintro w' ⟨s0, s1⟩
                                 go_simp
                                 with_reducible rfl
                               rotate_left
                               · simp only [Act.put, sA_, s0_, s1_, i64_w, i32_w]
                                 rfl
                               refine one_ (i := 11) (N := some 37) #[true, true, true, true, true, true, true, true, true, true, true, true, false, false] rfl rfl (one_of HT_.out (by kernel_rfl)) (by decide) (fun K hK => ?_)
                               refine goes_ Try.func107 (by kernel_rfl) rfl #[.int .i64 (rd x1_1 (ji21))] (by rfl) rfl rfl (by (try simp only [List.map_toArray, List.map_cons, List.map_nil]); first | done | (simp only [hji21]; rfl) | rfl | (simp only [List.length_drop, List.length_take]; rfl)) ?_
                               with_reducible refine (spec_l01Affine.calls k2 (rd x1_1 (ji21)) t118 _ A24.out).mono ?_
                               rintro e w' ⟨rfl, ⟨nd, rfl⟩⟩
                               refine ⟨_, rfl, ?_⟩
                               have p27 : 0 ≤ ((rd x1_1 x5_2) : Int) := of_decide_eq_true (by first | (with_reducible assumption) | assumption)
                               have q27 : ((rd x1_1 x5_2) : Int) < ((x4_2.length : Int) : Int) := of_decide_eq_true (by first | (with_reducible assumption) | assumption)
                               obtain ⟨hx27_0, hf27_0⟩ := Kd.R_celln 0 HO_4.out ((rd x1_1 x5_2) : Int) p27 q27
                               replace p27 := eq_true p27
                               replace q27 := eq_true q27
                               have HP30 := Kd.R_putn HO_4.out ((rd x1_1 x5_2) : Int) t118
                               rw [← Ny119.out] at HP30
                               have HQ30 := Aside0.mk HP30
                               clear HP30
                               refine hK.out _ _ ⟨hHeld.1, hHeld.2⟩ (fun hHeld => ?_)
                               clear hK K
                               refine norm_ (a' := ?_) ?_ ?_
                               rotate_left
                               · show Act.put _ (some 37) _ = _
                                 simp only [Act.put, sA_, s0_, s1_, i64_w, i32_w]
                                 rfl
                               refine pure_ (i := 12) (N := some 38) (v := ?_) (a' := ?_) #[true, true, true, true, true, true, true, true, true, true, true, true, true, false] rfl rfl (any_of HT_.out (by kernel_rfl)) (fun _ _ _ h => h) (Or.inl ⟨by rfl, ?_⟩) ?_ ?_
                               rotate_left
                               · intro w'
                                 go_simp
                                 with_reducible rfl
                               rotate_left
                               · simp only [Act.put, sA_, s0_, s1_, i64_w, i32_w]
                                 rfl
                               refine last_ (i := 13) (N := none) #[true, true, true, true, true, true, true, true, true, true, true, true, true, true] rfl rfl (one_of HT_.out (by kernel_rfl)) (by decide) (fun K hK => ?_)
                               refine skip_ (w1 := ?_) (by rfl) rfl ?_ ?_
                               rotate_left
                               · go_simp
                                 rfl
                               refine hK.out _ _ ?_
                               clear hK K
                               refine done_ (done_of HT_.out (by kernel_rfl)) ?_
                               try go_wp2
                               (try simp only [← hl4_2])
                               go_roundg k2
                               case measure => have := HK1.out; have := HK2.out; omega
                               case rel => exact ⟨(y119), (wrap64 (x5_2 + 1)), (by first | rfl | (simp; done) | (simp [*]; done)), H', ⟨by have := HK1.out; have := HK2.out; omega⟩, ⟨by (try simp only [hl4_2]); (with_reducible repeat (first | apply Kd.R_alloc | apply Kd.R_drewN | apply Kd.R_drew)); exact Kd.R_mono (Kd.R_far (p := ⟨go13, ((rd x1_1 x5_2) : Int).toNat, none⟩) (Kd.R_mono HO_1.out (fun k_ hk => (⟨hk, fun e_ => hk (by rw [e_]; rfl)⟩ : _ ∧ k_ ≠ go13))) (fun _ hk => hk.2) (.int .i64 t118)) (fun _ hk => hk.1)⟩, ⟨by (try simp only [hl4_2]); (with_reducible repeat (first | apply Kd.R_alloc | apply Kd.R_drewN | apply Kd.R_drew)); exact HQ30.out⟩, ⟨by repeat (first | (with_reducible first | exact HB.out | apply below_alloc | apply pw_below_drewN | apply below_drew1 | refine below_set ?_ GB13.out) | exact HB.out)⟩⟩
                             · rw [if_neg c26] at H
                               exact absurd H (by simp)
                           · rw [if_neg c25] at H
                             exact absurd H (by simp)
                         · rw [if_neg c23] at H
                           exact absurd H (by simp)
                       · rw [if_neg c22] at H
                         exact absurd H (by simp)
                     · rw [if_neg c20] at H
                       exact absurd H (by simp)
                   · rw [if_neg c19] at H
                     exact absurd H (by simp)
                 · rw [if_neg c18] at H
                   have c18b0 : decide (x5_2 < 255) = false := decide_eq_false c18
                   clear c18
                   obtain rfl := Option.some.inj H
                   go_wp2
                   go_ret
                   exact ⟨_, by first | rfl | (simp [errW_none, errW_some] <;> rfl) | (simp [*, errW_none, errW_some] <;> rfl), by (with_reducible repeat (first | apply Kd.R_alloc | apply Kd.R_drewN | apply Kd.R_drew)); exact Kd.R_mono HO_4.out (fun _ hk => trivial), by repeat (first | (with_reducible first | exact HB.out | apply below_alloc | apply pw_below_drewN | apply below_drew1) | exact HB.out)⟩
           · rw [if_neg c12] at H
             exact absurd H (by simp)
         · rw [if_neg c11] at H
           exact absurd H (by simp)
 · rw [if_neg c1] at H
   exact absurd H (by simp)
theorem table_600 : spec_l01Table.f 600 = some Aes.subs := by decide +kernel
theorem table_at (k : Nat) (h : 600 ≤ k) : spec_l01Table.f k = some Aes.subs := at_rounds spec_l01Table.mono h table_600
def spec_l01Mul.l0 : Nat → Int → Int → Int → Int → Option (Int)
 | 0, _, _, _, _ => none
 | k + 1, x0, x1, x5, x6 => if x6 < 8 then (if 0 ≤ (IntKind.u64.wrap (x6)) then (if (Go.bits .and .i64 (shr .i64 x1 (IntKind.u64.wrap (x6))) 1) = 1 then (if (wrap64 (x0 * 2)) > 255 then (spec_l01Mul.l0 k (Go.bits .xor .i64 (wrap64 (x0 * 2)) 283) x1 (Go.bits .xor .i64 x5 x0) (wrap64 (x6 + 1))) else (spec_l01Mul.l0 k (wrap64 (x0 * 2)) x1 (Go.bits .xor .i64 x5 x0) (wrap64 (x6 + 1)))) else (if (wrap64 (x0 * 2)) > 255 then (spec_l01Mul.l0 k (Go.bits .xor .i64 (wrap64 (x0 * 2)) 283) x1 x5 (wrap64 (x6 + 1))) else (spec_l01Mul.l0 k (wrap64 (x0 * 2)) x1 x5 (wrap64 (x6 + 1))))) else (none)) else (some x5)
def spec_l01Mul.f (k : Nat) (a0 : Int) (a1 : Int) : Option (Int) := spec_l01Mul.l0 k a0 a1 0 0
set_option maxHeartbeats 8000000 in
set_option maxRecDepth 100000 in
theorem spec_l01Mul.calls (k : Nat) (a0 : Int) (a1 : Int) (r : Int) (w : World) (h : spec_l01Mul.f k a0 a1 = some r) :
   Calls Try.prog 108 #[.int .i64 a0, .int .i64 a1] w fun e w' => e = .returned (.int .i64 r) ∧ Drawn0 w w' := by
 have H : (spec_l01Mul.l0 k a0 a1 0 0) = some r := h
 clear h
 have H' := Aside0.mk H
 clear H
 go_enter Try.func108, Try.ntmps108
 go_wp2
 go_loopg [0, 5, 6] k (fun kq v0 v5 v6 w' => ∃ (x0_1 : Int) (x5_1 : Int) (x6_1 : Int), v0 = .int .i64 x0_1 ∧ v5 = .int .i64 x5_1 ∧ v6 = .int .i64 x6_1 ∧ Aside0 (spec_l01Mul.l0 kq x0_1 a1 x5_1 x6_1 = some r) ∧ Aside0 (kq ≤ k) ∧ Drawn0 w w')
 case atStart => exact ⟨(a0), (0), (0), (by first | rfl | (simp; done) | (simp [*]; done)), (by first | rfl | (simp; done) | (simp [*]; done)), (by first | rfl | (simp; done) | (simp [*]; done)), H', ⟨Nat.le_refl _⟩, by repeat (first | exact Drawn0.refl _ | apply Drawn0.step)⟩
 case round =>
   clear H'
   try clear c1
   try clear p2
   obtain ⟨x0_1, x5_1, x6_1, rfl, rfl, rfl, HA, HK1, ⟨m1, rfl⟩⟩ := hrel
   cases gk with
   | zero => exact absurd HA.out (by simp [spec_l01Mul.l0])
   | succ k1 =>
     have H := HA.out
     clear HA
     simp only [spec_l01Mul.l0] at H
     by_cases c3 : x6_1 < 8
     · rw [if_pos c3] at H
       have c3b0 : decide (x6_1 < 8) = true := decide_eq_true c3
       clear c3
       obtain ⟨ji4, hji4⟩ : ∃ j_ : Int, (IntKind.u64.wrap (x6_1)) = j_ := ⟨_, rfl⟩
       replace H : (if 0 ≤ (ji4) then (if (Go.bits .and .i64 (shr .i64 a1 (ji4)) 1) = 1 then (if (wrap64 (x0_1 * 2)) > 255 then (spec_l01Mul.l0 k1 (Go.bits .xor .i64 (wrap64 (x0_1 * 2)) 283) a1 (Go.bits .xor .i64 x5_1 x0_1) (wrap64 (x6_1 + 1))) else (spec_l01Mul.l0 k1 (wrap64 (x0_1 * 2)) a1 (Go.bits .xor .i64 x5_1 x0_1) (wrap64 (x6_1 + 1)))) else (if (wrap64 (x0_1 * 2)) > 255 then (spec_l01Mul.l0 k1 (Go.bits .xor .i64 (wrap64 (x0_1 * 2)) 283) a1 x5_1 (wrap64 (x6_1 + 1))) else (spec_l01Mul.l0 k1 (wrap64 (x0_1 * 2)) a1 x5_1 (wrap64 (x6_1 + 1))))) else (none)) = some r := by first | (rw [hji4] at H; exact H) | (simp only [hji4] at H ⊢; exact H)
       by_cases c5 : 0 ≤ (ji4)
       · rw [if_pos c5] at H
         have c5b0 := eq_true c5
         have c5b1 : decide (0 ≤ (ji4)) = true := decide_eq_true c5
         clear c5
         obtain ⟨ji6, hji6⟩ : ∃ j_ : Int, (shr .i64 a1 (ji4)) = j_ := ⟨_, rfl⟩
         replace H : (if (Go.bits .and .i64 (ji6) 1) = 1 then (if (wrap64 (x0_1 * 2)) > 255 then (spec_l01Mul.l0 k1 (Go.bits .xor .i64 (wrap64 (x0_1 * 2)) 283) a1 (Go.bits .xor .i64 x5_1 x0_1) (wrap64 (x6_1 + 1))) else (spec_l01Mul.l0 k1 (wrap64 (x0_1 * 2)) a1 (Go.bits .xor .i64 x5_1 x0_1) (wrap64 (x6_1 + 1)))) else (if (wrap64 (x0_1 * 2)) > 255 then (spec_l01Mul.l0 k1 (Go.bits .xor .i64 (wrap64 (x0_1 * 2)) 283) a1 x5_1 (wrap64 (x6_1 + 1))) else (spec_l01Mul.l0 k1 (wrap64 (x0_1 * 2)) a1 x5_1 (wrap64 (x6_1 + 1))))) = some r := by first | (rw [hji6] at H; exact H) | (simp only [hji6] at H ⊢; exact H)
         have hji6_ : (a1 / 2 ^ min (ji4).toNat 64) = ji6 := hji6
         have hji6z : (ji4) ≤ 64 → (a1 / 2 ^ (ji4).toNat) = ji6 := shr_small hji6
         by_cases c7 : (Go.bits .and .i64 (ji6) 1) = 1
         · rw [if_pos c7] at H
           have c7b0 : ((Go.bits .and .i64 (ji6) 1) == 1) = true := beq_iff_eq.mpr c7
           have c7b1 : ((Go.bits .and .i64 (ji6) 1) != 1) = false := bne_eq_false_iff_eq.mpr c7
           clear c7
           by_cases c8 : (wrap64 (x0_1 * 2)) > 255
           · rw [if_pos c8] at H
             have c8b0 : decide (255 < (wrap64 (x0_1 * 2))) = true := decide_eq_true c8
             clear c8
             have H' := Aside0.mk H
             clear H
             go_wp2
             go_roundg k1
             case measure => have := HK1.out; omega
             case rel => exact ⟨(Go.bits .xor .i64 (wrap64 (x0_1 * 2)) 283), (Go.bits .xor .i64 x5_1 x0_1), (wrap64 (x6_1 + 1)), (by first | rfl | (simp; done) | (simp [*]; done)), (by first | rfl | (simp; done) | (simp [*]; done)), (by first | rfl | (simp; done) | (simp [*]; done)), H', ⟨by have := HK1.out; omega⟩, by repeat (first | exact Drawn0.refl _ | apply Drawn0.step)⟩
           · rw [if_neg c8] at H
             have c8b0 : decide (255 < (wrap64 (x0_1 * 2))) = false := decide_eq_false c8
             clear c8
             have H' := Aside0.mk H
             clear H
             go_wp2
             go_roundg k1
             case measure => have := HK1.out; omega
             case rel => exact ⟨(wrap64 (x0_1 * 2)), (Go.bits .xor .i64 x5_1 x0_1), (wrap64 (x6_1 + 1)), (by first | rfl | (simp; done) | (simp [*]; done)), (by first | rfl | (simp; done) | (simp [*]; done)), (by first | rfl | (simp; done) | (simp [*]; done)), H', ⟨by have := HK1.out; omega⟩, by repeat (first | exact Drawn0.refl _ | apply Drawn0.step)⟩
         · rw [if_neg c7] at H
           have c7b0 : ((Go.bits .and .i64 (ji6) 1) == 1) = false := beq_eq_false_iff_ne.mpr c7
           have c7b1 : ((Go.bits .and .i64 (ji6) 1) != 1) = true := bne_iff_ne.mpr c7
           by_cases c9 : (wrap64 (x0_1 * 2)) > 255
           · rw [if_pos c9] at H
             have c9b0 : decide (255 < (wrap64 (x0_1 * 2))) = true := decide_eq_true c9
             clear c9
             have H' := Aside0.mk H
             clear H
             go_wp2
             go_roundg k1
             case measure => have := HK1.out; omega
             case rel => exact ⟨(Go.bits .xor .i64 (wrap64 (x0_1 * 2)) 283), (x5_1), (wrap64 (x6_1 + 1)), (by first | rfl | (simp; done) | (simp [*]; done)), (by first | rfl | (simp; done) | (simp [*]; done)), (by first | rfl | (simp; done) | (simp [*]; done)), H', ⟨by have := HK1.out; omega⟩, by repeat (first | exact Drawn0.refl _ | apply Drawn0.step)⟩
           · rw [if_neg c9] at H
             have c9b0 : decide (255 < (wrap64 (x0_1 * 2))) = false := decide_eq_false c9
             clear c9
             have H' := Aside0.mk H
             clear H
             go_wp2
             go_roundg k1
             case measure => have := HK1.out; omega
             case rel => exact ⟨(wrap64 (x0_1 * 2)), (x5_1), (wrap64 (x6_1 + 1)), (by first | rfl | (simp; done) | (simp [*]; done)), (by first | rfl | (simp; done) | (simp [*]; done)), (by first | rfl | (simp; done) | (simp [*]; done)), H', ⟨by have := HK1.out; omega⟩, by repeat (first | exact Drawn0.refl _ | apply Drawn0.step)⟩
       · rw [if_neg c5] at H
         exact absurd H (by simp)
     · rw [if_neg c3] at H
       have c3b0 : decide (x6_1 < 8) = false := decide_eq_false c3
       clear c3
       obtain rfl := Option.some.inj H
       go_wp2
       go_ret
       exact ⟨by first | rfl | (simp; done) | (simp [*]; done), by repeat (first | exact Drawn0.refl _ | apply Drawn0.step)⟩
end Go.Proofs.Ytlfpogbonmddmaa.P

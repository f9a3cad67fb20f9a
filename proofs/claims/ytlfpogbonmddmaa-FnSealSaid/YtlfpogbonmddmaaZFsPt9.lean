/- Laid by a program of this session: of Pt9 what this law uses. -/
import Derived.Test.YtlfpogbonmddmaaZFsM11
namespace Go.Proofs.Ytlfpogbonmddmaa.P
open Go.RowKit Go.Proofs.YtlfpogbonmddmaaW.PrintWords Go.Proofs.YtlfpogbonmddmaaW.PrintLast Go.Proofs.YtlfpogbonmddmaaW.PrintMore
attribute [local go_sem] min2_int min_two
set_option linter.unusedVariables false
set_option linter.unusedSimpArgs false
theorem isLong_string_1.calls (s : ByteArray) (w : World) : Calls Try.prog 79 #[.string s] w fun e w' => e = .returned (.bool (decide (65536 < (s.size : Int)))) ∧ w = w' := by
 go_enter Try.func79, Try.ntmps79
 go_wp2
 go_ret
 exact ⟨rfl, rfl⟩
def isLong_string_idx (l0 : List ByteArray) (w : World) (e : Ending) (w' : World) : Prop :=
 ∃ i : Int, e = .returned (.int .i64 i) ∧ decide (0 ≤ i) = (l0.any fun t => decide (65536 < (t.size : Int))) ∧ w = w'
theorem isLong_string_at {w : World} {A0 : Option Addr} {l0 : List ByteArray} (hr0 : Kd.C Kd.string w A0 l0.length l0) (k : Nat) (hk : k < l0.length) :
   ∃ ad, A0 = some ad ∧ w.cell? (ad.add k) = some (.string l0[k]) := by
 obtain ⟨ad, c, rfl, _, hc, hw⟩ := Kd.C_get hr0 (ByteArray.empty) (k : Int) (by omega) (by omega)
 refine ⟨ad, rfl, ?_⟩
 have hc : c = [.string (l0.getD (k : Int).toNat ByteArray.empty)] := hc
 subst hc
 have := hw 0 _ rfl
 simpa [Kd.string, Kd.scalar, List.getD_eq_getElem?_getD, hk] using this
theorem IndexFunc_string.calls (A0 : Option Addr) (c0 : Nat) (l0 : List ByteArray) (w : World) (hr0 : Kd.C Kd.string w A0 l0.length l0) :
   Calls Try.prog 97 #[.slice A0 l0.length c0, .func (.func 79) #[] #[]] w (isLong_string_idx l0 w) := by
 have HR0 := Aside0.mk hr0
 clear hr0
 have hm : l0.length ≤ 9223372036854775807 := HR0.out.2.1
 go_enter Try.func97, Try.ntmps97
 go_wp2
 go_loop [8] (fun i => ∃ k : Nat, k ≤ l0.length ∧ i = .int .i64 k ∧ Aside0 (∀ j (hj : j < l0.length), j < k → ¬ 65536 < l0[j].size)) (fun i => l0.length - (intOf i).toNat)
 case atStart => exact ⟨0, Nat.zero_le _, rfl, ⟨fun _ _ h => absurd h (by omega)⟩⟩
 case round =>
   obtain ⟨k, hk, rfl, HA⟩ := hrel
   by_cases hlt : k < l0.length
   · obtain ⟨ad, had, hcell⟩ := isLong_string_at HR0.out k hlt
     subst had
     by_cases hbig : 65536 < l0[k].size
     · have HF : Aside0 (isLong_string_idx l0 w (.returned (.int .i64 (k : Int))) w) := ⟨⟨k, rfl, by
         rw [show decide ((0 : Int) ≤ (k : Int)) = true from decide_eq_true (by omega)]
         exact (List.any_eq_true.2 ⟨l0[k], List.getElem_mem hlt, by simp; omega⟩).symm, rfl⟩⟩
       have hd : decide (65536 < (l0[k].size : Int)) = true := decide_eq_true (by omega)
       go_wp2_with (go_at_call 79; refine (isLong_string_1.calls _ _).mono ?_; rintro e w' ⟨rfl, rfl⟩)
       go_ret
       exact HF.out
     · have hd : decide (65536 < (l0[k].size : Int)) = false := decide_eq_false (by omega)
       have HA1 : Aside0 (∀ j (hj : j < l0.length), j < k + 1 → ¬ 65536 < l0[j].size) := ⟨fun j hj hjk => by
         rcases Nat.lt_or_ge j k with h | h
         · exact HA.out j hj h
         · obtain rfl : j = k := by omega
           exact hbig⟩
       go_wp2_with (go_at_call 79; refine (isLong_string_1.calls _ _).mono ?_; rintro e w' ⟨rfl, rfl⟩)
       go_round
       case rel => exact ⟨k + 1, by omega, by go_num, HA1⟩
       case measure => simp [intOf]; omega
   · have HF : Aside0 (isLong_string_idx l0 w (.returned (.int .i64 (-1))) w) := ⟨⟨-1, rfl, by
       rw [show decide ((0 : Int) ≤ -1) = false from rfl]
       refine (List.any_eq_false.2 fun x hx => ?_).symm
       obtain ⟨j, hj, rfl⟩ := List.mem_iff_getElem.1 hx
       have := HA.out j hj (by omega)
       simp; omega, rfl⟩⟩
     go_wp2
     go_ret
     exact HF.out
theorem ContainsFunc_string.calls (A0 : Option Addr) (c0 : Nat) (l0 : List ByteArray) (w : World) (hr0 : Kd.C Kd.string w A0 l0.length l0) :
   Calls Try.prog 78 #[.slice A0 l0.length c0, .func (.func 79) #[] #[]] w fun e w' => e = .returned (.bool (l0.any fun t => decide (65536 < (t.size : Int)))) ∧ w = w' := by
 go_enter Try.func78, Try.ntmps78
 go_wp2_with (go_at_call 97; refine (IndexFunc_string.calls _ _ _ _ hr0).mono ?_; rintro e w' ⟨i, rfl, hi, rfl⟩)
 go_ret
 exact ⟨by rw [← hi]; simp, rfl⟩
def impl_isLong_string.f (l0 : List ByteArray) : Option (Bool) := some (l0.any fun t => decide (65536 < (t.size : Int)))
theorem impl_isLong_string.calls (A0 : Option Addr) (c0 : Nat) (l0 : List ByteArray) (r : Bool) (w : World) (hr0 : Kd.C Kd.string w A0 l0.length l0) (hc0 : l0.length ≤ c0) (h : impl_isLong_string.f l0 = some r) :
   Calls Try.prog 48 #[.slice A0 l0.length c0] w fun e w' => e = .returned (.bool r) ∧ Drawn0 w w' := by
 unfold impl_isLong_string.f at h
 injection h with h
 have H := Aside0.mk h
 clear h
 go_enter Try.func48, Try.ntmps48
 go_wp2_with (go_at_call 78; refine (ContainsFunc_string.calls _ _ _ _ hr0).mono ?_; rintro e w' ⟨rfl, rfl⟩)
 go_ret
 exact ⟨by rw [← H.out]; rfl, Drawn0.refl _⟩
theorem isLong_byte_1.calls (A : Option Addr) (n c : Nat) (w : World) : Calls Try.prog 81 #[.slice A n c] w fun e w' => e = .returned (.bool (decide (65536 < (n : Int)))) ∧ w = w' := by
 go_enter Try.func81, Try.ntmps81
 go_wp2
 go_ret
 exact ⟨rfl, rfl⟩
def isLong_byte_idx (l0 : List (List Int)) (w : World) (e : Ending) (w' : World) : Prop :=
 ∃ i : Int, e = .returned (.int .i64 i) ∧ decide (0 ≤ i) = (l0.any fun t => decide (65536 < (t.length : Int))) ∧ w = w'
theorem isLong_byte_at {w : World} {A0 : Option Addr} {l0 : List (List Int)} (hr0 : Kd.C (Kd.slice 5 (Kd.int .u8)) w A0 l0.length l0) (k : Nat) (hk : k < l0.length) :
   ∃ ad A c, A0 = some ad ∧ w.cell? (ad.add k) = some (.slice A l0[k].length c) := by
 obtain ⟨ad, c, rfl, _, ⟨A, cap, hc, _⟩, hw⟩ := Kd.C_get hr0 ([] : List Int) (k : Int) (by omega) (by omega)
 refine ⟨ad, A, cap, rfl, ?_⟩
 subst hc
 have := hw 0 _ rfl
 simpa [Kd.slice, List.getD_eq_getElem?_getD, hk] using this
theorem IndexFunc_byte.calls (A0 : Option Addr) (c0 : Nat) (l0 : List (List Int)) (w : World) (hr0 : Kd.C (Kd.slice 5 (Kd.int .u8)) w A0 l0.length l0) :
   Calls Try.prog 98 #[.slice A0 l0.length c0, .func (.func 81) #[] #[]] w (isLong_byte_idx l0 w) := by
 have HR0 := Aside0.mk hr0
 clear hr0
 have hm : l0.length ≤ 9223372036854775807 := HR0.out.2.1
 go_enter Try.func98, Try.ntmps98
 go_wp2
 go_loop [8] (fun i => ∃ k : Nat, k ≤ l0.length ∧ i = .int .i64 k ∧ Aside0 (∀ j (hj : j < l0.length), j < k → ¬ 65536 < l0[j].length)) (fun i => l0.length - (intOf i).toNat)
 case atStart => exact ⟨0, Nat.zero_le _, rfl, ⟨fun _ _ h => absurd h (by omega)⟩⟩
 case round =>
   obtain ⟨k, hk, rfl, HA⟩ := hrel
   by_cases hlt : k < l0.length
   · obtain ⟨ad, A, c, had, hcell⟩ := isLong_byte_at HR0.out k hlt
     subst had
     by_cases hbig : 65536 < l0[k].length
     · have HF : Aside0 (isLong_byte_idx l0 w (.returned (.int .i64 (k : Int))) w) := ⟨⟨k, rfl, by
         rw [show decide ((0 : Int) ≤ (k : Int)) = true from decide_eq_true (by omega)]
         exact (List.any_eq_true.2 ⟨l0[k], List.getElem_mem hlt, by simp; omega⟩).symm, rfl⟩⟩
       have hd : decide (65536 < (l0[k].length : Int)) = true := decide_eq_true (by omega)
       go_wp2_with (go_at_call 81; refine (isLong_byte_1.calls _ _ _ _).mono ?_; rintro e w' ⟨rfl, rfl⟩)
       go_ret
       exact HF.out
     · have hd : decide (65536 < (l0[k].length : Int)) = false := decide_eq_false (by omega)
       have HA1 : Aside0 (∀ j (hj : j < l0.length), j < k + 1 → ¬ 65536 < l0[j].length) := ⟨fun j hj hjk => by
         rcases Nat.lt_or_ge j k with h | h
         · exact HA.out j hj h
         · obtain rfl : j = k := by omega
           exact hbig⟩
       go_wp2_with (go_at_call 81; refine (isLong_byte_1.calls _ _ _ _).mono ?_; rintro e w' ⟨rfl, rfl⟩)
       go_round
       case rel => exact ⟨k + 1, by omega, by go_num, HA1⟩
       case measure => simp [intOf]; omega
   · have HF : Aside0 (isLong_byte_idx l0 w (.returned (.int .i64 (-1))) w) := ⟨⟨-1, rfl, by
       rw [show decide ((0 : Int) ≤ -1) = false from rfl]
       refine (List.any_eq_false.2 fun x hx => ?_).symm
       obtain ⟨j, hj, rfl⟩ := List.mem_iff_getElem.1 hx
       have := HA.out j hj (by omega)
       simp; omega, rfl⟩⟩
     go_wp2
     go_ret
     exact HF.out
theorem ContainsFunc_byte.calls (A0 : Option Addr) (c0 : Nat) (l0 : List (List Int)) (w : World) (hr0 : Kd.C (Kd.slice 5 (Kd.int .u8)) w A0 l0.length l0) :
   Calls Try.prog 80 #[.slice A0 l0.length c0, .func (.func 81) #[] #[]] w fun e w' => e = .returned (.bool (l0.any fun t => decide (65536 < (t.length : Int)))) ∧ w = w' := by
 go_enter Try.func80, Try.ntmps80
 go_wp2_with (go_at_call 98; refine (IndexFunc_byte.calls _ _ _ _ hr0).mono ?_; rintro e w' ⟨i, rfl, hi, rfl⟩)
 go_ret
 exact ⟨by rw [← hi]; simp, rfl⟩
def impl_isLong_byte.f (l0 : List (List Int)) : Option (Bool) := some (l0.any fun t => decide (65536 < (t.length : Int)))
theorem impl_isLong_byte.calls (A0 : Option Addr) (c0 : Nat) (l0 : List (List Int)) (r : Bool) (w : World) (hr0 : Kd.C (Kd.slice 5 (Kd.int .u8)) w A0 l0.length l0) (hc0 : l0.length ≤ c0) (h : impl_isLong_byte.f l0 = some r) :
   Calls Try.prog 49 #[.slice A0 l0.length c0] w fun e w' => e = .returned (.bool r) ∧ Drawn0 w w' := by
 unfold impl_isLong_byte.f at h
 injection h with h
 have H := Aside0.mk h
 clear h
 go_enter Try.func49, Try.ntmps49
 go_wp2_with (go_at_call 80; refine (ContainsFunc_byte.calls _ _ _ _ hr0).mono ?_; rintro e w' ⟨rfl, rfl⟩)
 go_ret
 exact ⟨by rw [← H.out]; rfl, Drawn0.refl _⟩
theorem C_one_slice {W : World} {g : Nat} {A : Option Addr} {n c : Nat} {xs : List Int} {T : TypeId} {fr : Nat × Nat} (h : W.heap[g]? = some (.cells #[.slice A n c] T fr)) (hn : xs.length = n) (hc : n ≤ c) (hC : Kd.C (Kd.int .u8) W A xs.length xs) :
   Kd.C (Kd.slice 5 (Kd.int .u8)) W (some ⟨g, 0, none⟩) 1 [xs] := by
 subst hn
 refine ⟨rfl, by decide, fun _ => ⟨⟨g, 0, none⟩, rfl, fun j p hj => ?_⟩⟩
 match j, hj with
 | 0, hj =>
   obtain rfl : xs = p := by simpa using hj
   refine ⟨[.slice A xs.length c], rfl, ⟨A, c, rfl, hc, hC⟩, fun i u hu => ?_⟩
   match i, hu with
   | 0, hu =>
     obtain rfl : Value.slice A xs.length c = u := by simpa using hu
     simp [World.cell?, Addr.add, h]
def impl_bytesOf.l0 : Nat → Int → List Int → Int → Option (ByteArray)
 | 0, _, _, _ => none
 | k + 1, x0, x5, x6 => if x6 ≥ 0 then (if 0 ≤ x6 then (if x6 < (x5.length : Int) then (impl_bytesOf.l0 k (x0 / 256) (x5.set (x6 : Int).toNat ((x0) % 256)) (wrap64 (x6 - 1))) else (none)) else (none)) else (some (strOfNums x5))
def impl_bytesOf.f (k : Nat) (a0 : Int) (a1 : Int) : Option (ByteArray) := if 0 ≤ a1 then (if (a1 : Int).toNat ≤ 281474976710656 then (impl_bytesOf.l0 k a0 (List.replicate (a1 : Int).toNat 0) (wrap64 (a1 - 1))) else (none)) else (none)
set_option maxHeartbeats 8000000 in
set_option maxRecDepth 100000 in
theorem impl_bytesOf.calls (k : Nat) (a0 : Int) (a1 : Int) (r : ByteArray) (w : World) (h : impl_bytesOf.f k a0 a1 = some r) :
   Calls Try.prog 85 #[.int .i64 a0, .int .i64 a1] w fun e w' => e = .returned (.string r) ∧ Below w.heap.size w w' := by
 have HB := Aside0.mk (Below.refl w.heap.size w)
 have H : (if 0 ≤ a1 then (if (a1 : Int).toNat ≤ 281474976710656 then (impl_bytesOf.l0 k a0 (List.replicate (a1 : Int).toNat 0) (wrap64 (a1 - 1))) else (none)) else (none)) = some r := h
 clear h
 by_cases c3 : 0 ≤ a1
 · rw [if_pos c3] at H
   have c3b0 := eq_true c3
   have c3b1 : decide (0 ≤ a1) = true := decide_eq_true c3
   clear c3
   by_cases c4 : (a1 : Int).toNat ≤ 281474976710656
   · rw [if_pos c4] at H
     have c4b0 := eq_true c4
     have c4b1 : decide ((a1 : Int).toNat ≤ 281474976710656) = true := decide_eq_true c4
     clear c4
     obtain ⟨y214, hy214⟩ : ∃ y_ : List Int, y_ = (List.replicate (a1 : Int).toNat 0) := ⟨_, rfl⟩
     replace H : (impl_bytesOf.l0 k a0 y214 (wrap64 (a1 - 1))) = some r := by first | (rw [hy214]; with_reducible exact H) | (have H2_ := (Option.bind_some _ _).symm.trans H; rw [hy214]; with_reducible exact H2_) | (have H2_ := (Option.bind_some _ _).symm.trans H; with_reducible exact H2_) | with_reducible exact H | (rw [hy214]; exact H) | exact H
     have Ny214 := Aside0.mk hy214
     clear hy214
     have H' := Aside0.mk H
     clear H
     go_enter Try.func85, Try.ntmps85
     go_wp2_with (first | ((with_reducible refine gate_dst (N := 8) rfl ?_); refine Kd.R_make (Kd.int .u8) _ 5 rfl (N := 8) rfl 22 _ _ rfl a1 rfl rfl Try.underlying22 (.int .u8 0) 1 info5 rfl (by decide) (by omega) 0 (ok := fun _ => True) (okp := fun _ => True) rfl (fun _ hk => hk) trivial (of_decide_eq_true (by first | (with_reducible assumption) | assumption)) (Nat.le_trans (Nat.mul_le_mul_right _ (of_decide_eq_true (by first | (with_reducible assumption) | assumption) : a1.toNat ≤ 281474976710656)) (by omega)) (Below.refl _ _) (Nat.le_refl _) ?_; intro v215 w5 ho6 hb hg_ hnew_; clear hg_ hnew_; (first | rw [← Ny214.out] at ho6 | (simp only [Int.reduceToNat] at ho6; rw [← Ny214.out] at ho6)); have n0_ := Aside0.mk (Kd.R_lower ho6 (below_size (by repeat (first | (with_reducible first | exact HB.out | apply below_alloc | apply pw_below_drewN | apply below_drew1) | exact HB.out)))); have n1_ := Aside0.mk (below_step (by repeat (first | (with_reducible first | exact HB.out | apply below_alloc | apply pw_below_drewN | apply below_drew1) | exact HB.out)) hb); clear HB; have HO216 := n0_; have HB := n1_; clear n0_ n1_; clear hb ho6))
     go_loopg [0, 6] k (fun kq v0 v6 w' => ∃ (x0_1 : Int) (x5_1 : List Int) (x6_1 : Int), v0 = .int .i64 x0_1 ∧ v6 = .int .i64 x6_1 ∧ Aside0 (impl_bytesOf.l0 kq x0_1 x5_1 x6_1 = some r) ∧ Aside0 (kq ≤ k) ∧ Aside0 (Kd.R (Kd.int .u8) 5 w' w.heap.size (fun _ => True) v215 x5_1) ∧ Aside0 (Below w.heap.size w w'))
     case atStart => exact ⟨(a0), (y214), (wrap64 (a1 - 1)), (by first | rfl | (simp; done) | (simp [*]; done)), (by first | rfl | (simp; done) | (simp [*]; done)), H', ⟨Nat.le_refl _⟩, ⟨by (with_reducible repeat (first | apply Kd.R_alloc | apply Kd.R_drewN | apply Kd.R_drew)); exact HO216.out⟩, ⟨by repeat (first | (with_reducible first | exact HB.out | apply below_alloc | apply pw_below_drewN | apply below_drew1) | exact HB.out)⟩⟩
     case round =>
       clear H'
       try clear p2
       try clear c3
       try clear c3b0
       try clear c3b1
       try clear c4
       try clear c4b0
       try clear c4b1
       try clear p6
       obtain ⟨x0_1, x5_1, x6_1, rfl, rfl, HA, HK1, HO_5, HB⟩ := hrel
       cases gk with
       | zero => exact absurd HA.out (by simp [impl_bytesOf.l0])
       | succ k1 =>
         have H := HA.out
         clear HA
         simp only [impl_bytesOf.l0] at H
         by_cases c7 : x6_1 ≥ 0
         · rw [if_pos c7] at H
           have c7b0 : decide (0 ≤ x6_1) = true := decide_eq_true c7
           clear c7
           by_cases c8 : 0 ≤ x6_1
           · rw [if_pos c8] at H
             have c8b0 : decide (0 ≤ x6_1) = true := decide_eq_true c8
             clear c8
             by_cases c9 : x6_1 < (x5_1.length : Int)
             · rw [if_pos c9] at H
               have c9b0 : decide (x6_1 < (x5_1.length : Int)) = true := decide_eq_true c9
               clear c9
               obtain ⟨y217, hy217⟩ : ∃ y_ : List Int, y_ = (x5_1.set (x6_1 : Int).toNat ((x0_1) % 256)) := ⟨_, rfl⟩
               replace H : (impl_bytesOf.l0 k1 (x0_1 / 256) y217 (wrap64 (x6_1 - 1))) = some r := by first | (rw [hy217]; with_reducible exact H) | (have H2_ := (Option.bind_some _ _).symm.trans H; rw [hy217]; with_reducible exact H2_) | (have H2_ := (Option.bind_some _ _).symm.trans H; with_reducible exact H2_) | with_reducible exact H | (rw [hy217]; exact H) | exact H
               have Ny217 := Aside0.mk hy217
               clear hy217
               have H' := Aside0.mk H
               clear H
               have p10 : 0 ≤ (x6_1 : Int) := of_decide_eq_true (by first | (with_reducible assumption) | assumption)
               have q10 : (x6_1 : Int) < ((x5_1.length : Int) : Int) := of_decide_eq_true (by first | (with_reducible assumption) | assumption)
               obtain ⟨go10, co10, eo10, gb10, gl10, cl10, HG10⟩ := Kd.R_form HO_5.out (by omega)
               (first | cases eo10 | (injection eo10 with ea_ en_ ec_; (first | subst ea_ | (injection ea_ with ea_; subst ea_)); subst ec_; clear en_))
               have GB10 := Aside0.mk gb10
               have GG10 := Aside0.mk HG10
               clear gb10 gl10 HG10
               obtain ⟨hx10_0, hf10_0⟩ := Kd.R_celln 0 HO_5.out (x6_1 : Int) p10 q10
               replace p10 := eq_true p10
               replace q10 := eq_true q10
               have HP11 := Kd.R_putg HO_5.out (x6_1 : Int) ((x0_1) % 256)
               go_wp2_with (first | ((with_reducible refine gate_store (t := 5) (p := 19) rfl ?_); refine store_event (t := 5) (p := 19) (v := ?vo_w12) (w1 := (wr.setCell ⟨go10, (x6_1 : Int).toNat, none⟩ (.int .u8 ((x0_1) % 256)))) ?hg ?ho ?hn ?hr ?_; (case ho => rfl); (case hg => rfl); (case hn => rfl); (case hr => first | (go_simp; done) | (go_simp; rfl)); intro w12 hw; have hg : wr.grownBy w12 (some go10) := (by rw [hw]; exact HP11.2); have hp_ : Kd.R (Kd.int .u8) 5 w12 w.heap.size (fun _ => True) (.slice (some ⟨go10, 0, none⟩) x5_1.length co10) y217 := (by rw [hw, Ny217.out]; exact HP11.1); clear HP11; have n0_ := Aside0.mk (hp_); have n1_ := Aside0.mk ((by rw [hw]; exact below_set (HB.out) GB10.out : Below w.heap.size w w12)); clear HO_5; clear HB; have HO_5 := n0_; have HB := n1_; clear n0_ n1_; clear hg hw hp_))
               go_roundg k1
               case measure => have := HK1.out; omega
               case rel => exact ⟨(x0_1 / 256), (y217), (wrap64 (x6_1 - 1)), (by first | rfl | (simp; done) | (simp [*]; done)), (by first | rfl | (simp; done) | (simp [*]; done)), H', ⟨by have := HK1.out; omega⟩, ⟨by (with_reducible repeat (first | apply Kd.R_alloc | apply Kd.R_drewN | apply Kd.R_drew)); exact HO_5.out⟩, ⟨by repeat (first | (with_reducible first | exact HB.out | apply below_alloc | apply pw_below_drewN | apply below_drew1) | exact HB.out)⟩⟩
             · rw [if_neg c9] at H
               exact absurd H (by simp)
           · rw [if_neg c8] at H
             exact absurd H (by simp)
         · rw [if_neg c7] at H
           have c7b0 : decide (0 ≤ x6_1) = false := decide_eq_false c7
           clear c7
           obtain rfl := Option.some.inj H
           have hcv13 := own_string (P := Try.prog) Try.underlying22 Try.underlying5 Try.underlying9 (Kd.own_of_R HO_5.out)
           go_wp2
           go_ret
           exact ⟨by first | rfl | (simp [errW_none, errW_some] <;> rfl) | (simp [*, errW_none, errW_some] <;> rfl), by repeat (first | (with_reducible first | exact HB.out | apply below_alloc | apply pw_below_drewN | apply below_drew1) | exact HB.out)⟩
   · rw [if_neg c4] at H
     exact absurd H (by simp)
 · rw [if_neg c3] at H
   exact absurd H (by simp)
theorem bo4 (n : Int) : impl_bytesOf.f 6 n 4 = some (strOfNums (Sha.four n)) := by
 have w3 : wrap64 3 = 3 := by unfold wrap64; omega
 have w2 : wrap64 2 = 2 := by unfold wrap64; omega
 have w1 : wrap64 1 = 1 := by unfold wrap64; omega
 have w0 : wrap64 0 = 0 := by unfold wrap64; omega
 have wm : wrap64 (-1) = -1 := by unfold wrap64; omega
 have e : n / 65536 / 256 = n / 16777216 := by omega
 have e2 : n / 256 / 256 = n / 65536 := by omega
 simp [impl_bytesOf.f, impl_bytesOf.l0, w3, w2, w1, w0, wm, Sha.four, List.replicate, e, e2]
theorem bo8 (n : Int) : impl_bytesOf.f 10 n 8 = some (strOfNums (Sha.be8 n)) := by
 have w7 : wrap64 7 = 7 := by unfold wrap64; omega
 have w6 : wrap64 6 = 6 := by unfold wrap64; omega
 have w5 : wrap64 5 = 5 := by unfold wrap64; omega
 have w4 : wrap64 4 = 4 := by unfold wrap64; omega
 have w3 : wrap64 3 = 3 := by unfold wrap64; omega
 have w2 : wrap64 2 = 2 := by unfold wrap64; omega
 have w1 : wrap64 1 = 1 := by unfold wrap64; omega
 have w0 : wrap64 0 = 0 := by unfold wrap64; omega
 have wm : wrap64 (-1) = -1 := by unfold wrap64; omega
 have e2 : n / 256 / 256 = n / 65536 := by omega
 have e3 : n / 65536 / 256 = n / 16777216 := by omega
 have e4 : n / 16777216 / 256 = n / 4294967296 := by omega
 have e5 : n / 4294967296 / 256 = n / 1099511627776 := by omega
 have e6 : n / 1099511627776 / 256 = n / 281474976710656 := by omega
 have e7 : n / 281474976710656 / 256 = n / 72057594037927936 := by omega
 simp [impl_bytesOf.f, impl_bytesOf.l0, w7, w6, w5, w4, w3, w2, w1, w0, wm, List.replicate, Sha.be8, e2, e3, e4, e5, e6, e7]
theorem bo4_calls (n : Int) (w : World) : Calls Try.prog 85 #[.int .i64 n, .int .i64 4] w fun e w' => e = .returned (.string (strOfNums (Sha.four n))) ∧ Below w.heap.size w w' := impl_bytesOf.calls 6 n 4 _ w (bo4 n)
theorem bo8_calls (n : Int) (w : World) : Calls Try.prog 85 #[.int .i64 n, .int .i64 8] w fun e w' => e = .returned (.string (strOfNums (Sha.be8 n))) ∧ Below w.heap.size w w' := impl_bytesOf.calls 10 n 8 _ w (bo8 n)
theorem info64w : (Try.prog.info? 95).map (·.size) = some 64 := by kernel_rfl
set_option maxHeartbeats 2000000 in
set_option maxRecDepth 100000 in
theorem rounds_calls (W : World) : Calls Try.prog 89 #[] W fun e w' => e = .returned (arr32 Sha.K) ∧ Below W.heap.size W w' := by
 obtain ⟨KK, hKK⟩ : ∃ KK, KK = (nums .u32 Sha.K).toArray := ⟨_, rfl⟩
 have HK := Aside0.mk hKK
 have HS : Aside0 (KK.size = 64) := ⟨by rw [hKK]; rfl⟩
 have HO : Aside0 (KK.all (·.oneCell') = true) := ⟨by rw [hKK]; exact nums_one _ _⟩
 unfold arr32
 rw [← hKK]
 clear hKK
 have G0 := Aside0.mk (blk_new W (Obj.cells (nums .u32 (List.replicate 64 0)).toArray 95 (0, 0)))
 have GR := Aside0.mk (setRow_heap _ W.heap.size _ KK _ _ G0.out)
 have HB : Aside0 (Below W.heap.size W ((W.alloc (Obj.cells (nums .u32 (List.replicate 64 0)).toArray 95 (0, 0))).setRow W.heap.size KK)) := ⟨below_row (below_alloc (Below.refl W.heap.size W) _) (by omega) _⟩
 go_enter Try.func89, Try.ntmps89
 go_wp2_with (first
   | ((with_reducible refine gate_dst (N := 1) rfl ?_); refine wpList_build_is (by rfl) 95 _ (by rfl) KK (by rw [HK.out]; kernel_rfl) ?_)
   | ((with_reducible refine gate_ (.store 95 (.tmp 0) (.tmp 1)) rfl ?_); refine wpList_store_row (by rfl) 95 (.tmp 0) (.tmp 1) (by rfl) W.heap.size KK (by rfl) (by rfl) 95 _ G0.out (by rw [HS.out]; exact info64w) (by rw [HS.out]; rfl) HO.out ?_))
 refine bodyPost_ret (v := .agg KK) ?_ rfl ?_
 · exact results_cell_row (fn := Try.f89) (p := 0) (ty := 95) Try.results89 _ _ _ 95 _ (0, 0) _ (by rfl) GR.out Try.underlying95 rfl (by rw [HS.out]; exact info64w)
 · exact ⟨rfl, HB.out⟩
def KpB (Bs Bn : Nat) (W W' : World) : Prop := ∀ a : Addr, a.block = Bs ∨ a.block = Bn → W'.cell? a = W.cell? a
theorem KpB.refl (Bs Bn : Nat) (W : World) : KpB Bs Bn W W := fun _ _ => rfl
theorem KpB.trans {Bs Bn : Nat} {A B C : World} (h : KpB Bs Bn A B) (k : KpB Bs Bn B C) : KpB Bs Bn A C := fun a ha => (k a ha).trans (h a ha)
theorem KpB.put {Bs Bn b : Nat} (hs : Bs < b) (hn : Bn < b) (W : World) (l : Nat) (o o' : Obj) (hl : b ≤ l) (_ : W.heap[l]? = some o) (_ : o.isCells = false) (_ : o.isWalk = false) : KpB Bs Bn W (W.putObj l o') := fun a ha => by
 have hne : a.block ≠ l := by omega
 exact World.cell?_of_block (World.putObj_heap_other hne)
section
attribute [local go_sem] Oper.semAt_some
set_option maxRecDepth 100000 in
set_option maxHeartbeats 2000000 in
theorem chunk1_in (F : Fence) (n : Nat) (hF : F.fn 104) (hro : F.round = none) (hn : 1 ≤ n) (l Bs Bn : Nat) (ad : Addr) (q m c : Nat) (hq : 0 < q) (hc : q * m ≤ c) (hreach : q * m ≤ 140737488355328) (J Jx : List (Fin m) → World → Prop) (hJd : ∀ s V, J s V → J s V.drew)
   (hY : ∀ pre x W, J pre W → pre.length < m → YieldAt F (n - 1) Try.prog l #[.slice (some (ad.add (q * x.1))) q q] W fun e W' =>
     (e = .returned (.bool true) ∧ J (pre ++ [x]) W' ∧ KpB Bs Bn W W') ∨ (e = .returned (.bool false) ∧ Jx (pre ++ [x]) W'))
   (W : World) (hBs : W.cell? ⟨Bs, 0, none⟩ = some (.slice (some ad) (q * m) c)) (hBn : W.cell? ⟨Bn, 0, none⟩ = some (.int .i64 (q : Int))) (h0 : J [] W) :
   CallsIn F n Try.prog 104 #[.func (.yield l) #[] #[], .pointer (some ⟨Bs, 0, none⟩), .pointer (some ⟨Bn, 0, none⟩)] W fun e W' => (∃ v, e = .returned v) ∧
     ((∃ ys : List (Fin m), ys.map (·.1) = List.range m ∧ J ys W') ∨ (∃ pre : List (Fin m), (∃ k, k ≤ m ∧ pre.map (·.1) = List.range k) ∧ Jx pre W')) := by
 refine callsIn_of_wp Try.func104 rfl hF ?_ hro
 simp only [Try.ntmps104, List.size_toArray, List.length_cons, List.length_nil, Nat.reduceAdd, Nat.reduceSub, Array.replicate_succ, Array.replicate_zero, List.push_toArray, List.append_toArray, List.nil_append, List.cons_append]
 obtain ⟨L, hL⟩ : ∃ L, L = q * m := ⟨_, rfl⟩
 rw [← hL] at hBs hc hreach
 have HL := Aside0.mk hL
 clear hL
 have HBs := Aside0.mk hBs
 have HBn := Aside0.mk hBn
 clear hBs hBn
 gi_wp2
 gi_loopw [4] (fun i wr => ∃ (k j : Nat) (pre : List (Fin m)), k ≤ m ∧ i = .int .i64 (j : Int) ∧ Aside0 (j = q * k) ∧ Aside0 (pre.map (·.1) = List.range k) ∧ J pre wr ∧ Aside0 (KpB Bs Bn W wr)) (fun i _ => L - (intOf i).toNat)
 case atStart => exact ⟨0, 0, [], Nat.zero_le _, rfl, ⟨by simp⟩, ⟨rfl⟩, h0, ⟨KpB.refl _ _ _⟩⟩
 case round =>
   obtain ⟨k, j, pre, hk, rfl, hj, hpre, hJs, hnx⟩ := hrel
   have cS : wr.cell? ⟨Bs, 0, none⟩ = some (.slice (some ad) L c) := (hnx.out _ (.inl rfl)).trans HBs.out
   have cN : wr.cell? ⟨Bn, 0, none⟩ = some (.int .i64 (q : Int)) := (hnx.out _ (.inr rfl)).trans HBn.out
   have j0 : (0 : Int) ≤ (j : Int) := Int.natCast_nonneg j
   have q0 : (0 : Int) < (q : Int) := by omega
   by_cases hlt : k < m
   · have hjq : j + q ≤ L := by
       rw [hj.out, HL.out, ← Nat.mul_succ]
       exact Nat.mul_le_mul_left q hlt
     obtain ⟨fn, tmps, assign, body, hy, hR⟩ := hY pre ⟨k, hlt⟩ wr.drew (hJd _ _ hJs) (by rw [← List.length_map (f := fun x : Fin m => x.1), hpre.out, List.length_range]; exact hlt)
     have hy2 : (Instr.yield l #[.slice (some (ad.add j)) q q]).run Try.prog wr.drew = .ok (.round l fn tmps assign body) wr.drew := by rw [hj.out]; exact hy
     clear hy
     have hd : decide ((j : Int) < (L : Int)) = true := decide_eq_true (by omega)
     have hd2 : decide (j < L) = true := decide_eq_true (by omega)
     gi_wp2
     gi_region
     all_goals gi_wp2
     all_goals
       refine hR.mono ?_
       rintro e W3 (⟨rfl, hJ3, hk3⟩ | ⟨rfl, hJx3⟩)
       · have cN3 : W3.cell? ⟨Bn, 0, none⟩ = some (.int .i64 (q : Int)) := (hk3 _ (.inr rfl)).trans cN
         gi_wp2
         go_roundw
         case rel =>
           refine ⟨k + 1, j + q, pre ++ [⟨k, hlt⟩], by omega, by go_num, ⟨by rw [hj.out, Nat.mul_succ]⟩, ⟨by rw [List.range_succ, List.map_append, hpre.out]; rfl⟩, hJ3, ⟨hnx.out.trans hk3⟩⟩
         case measure => simp [intOf]; omega
       · gi_wp2
         refine bodyPost_ret (results_none rfl _ _ _) rfl ?_
         exact ⟨⟨_, rfl⟩, .inr ⟨_, ⟨k + 1, by omega, by rw [List.range_succ, List.map_append, hpre.out]; rfl⟩, hJx3⟩⟩
   · obtain rfl : k = m := by omega
     have e1 : j = L := by rw [hj.out, HL.out]
     have hd : decide ((j : Int) < (L : Int)) = false := decide_eq_false (by omega)
     have hd2 : decide (j < L) = false := decide_eq_false (by omega)
     clear e1
     gi_wp2
     go_end0
     exact ⟨⟨_, rfl⟩, .inl ⟨_, hpre.out, hJs⟩⟩
end
theorem chunk_stops (F : Fence) (n : Nat) (hF : F.fn 104) (hro : F.round = none) (hn : 1 ≤ n) (Bs Bn : Nat) (ad : Addr) (q m c : Nat) (hq : 0 < q) (hc : q * m ≤ c) (hreach : q * m ≤ 140737488355328) (w : World) (hs : Bs < w.heap.size) (hb : Bn < w.heap.size)
   (hBs : w.cell? ⟨Bs, 0, none⟩ = some (.slice (some ad) (q * m) c)) (hBn : w.cell? ⟨Bn, 0, none⟩ = some (.int .i64 (q : Int))) :
   SeqStopsK F n Try.prog 104 #[.pointer (some ⟨Bs, 0, none⟩), .pointer (some ⟨Bn, 0, none⟩)] (fun x : Fin m => #[Value.slice (some (ad.add (q * x.1))) q q]) (KpB Bs Bn) (fun ys => ys.map (·.1) = List.range m) (fun pre => ∃ k, k ≤ m ∧ pre.map (·.1) = List.range k) m w := fun l J Jx W hW hJ _ hY h0 =>
 chunk1_in F n hF hro hn l Bs Bn ad q m c hq hc hreach J Jx (fun s V hV => hJ s V V.drew none hV ⟨rfl, rfl, rfl, Nat.le_refl _, fun _ _ _ => rfl⟩ (fun r e => by cases e)) hY W ((hW.cell (p := ⟨Bs, 0, none⟩) hs).trans hBs) ((hW.cell (p := ⟨Bn, 0, none⟩) hb).trans hBn) h0
theorem chunk_calls (a : Option Addr) (len cap : Nat) (q : Int) (hq : 1 ≤ q) (w : World) :
   Calls Try.prog 90 #[.slice a len cap, .int .i64 q] w fun e w' => e = .returned (.func (.func 104) #[] #[.pointer (some ⟨w.heap.size, 0, none⟩), .pointer (some ⟨w.heap.size + 1, 0, none⟩)]) ∧ w' = (w.alloc (.cells #[.slice a len cap] 22)).alloc (.cells #[.int .i64 q] 3) := by
 have hd : decide (q < 1) = false := decide_eq_false (by omega)
 go_enter Try.func90, Try.ntmps90
 go_wp2
 go_ret
 exact ⟨rfl, rfl⟩
def bits_RotateLeft32.f (a0 : Int) (a1 : Int) : Option (Int) := if 0 ≤ (Go.bits .and .u64 (IntKind.u64.wrap (a1)) 31) then (if 0 ≤ (IntKind.u64.wrap (32 - (Go.bits .and .u64 (IntKind.u64.wrap (a1)) 31))) then (some (Go.bits .or .u32 (shl .u32 a0 (Go.bits .and .u64 (IntKind.u64.wrap (a1)) 31)) (shr .u32 a0 (IntKind.u64.wrap (32 - (Go.bits .and .u64 (IntKind.u64.wrap (a1)) 31)))))) else (none)) else (none)
set_option maxHeartbeats 8000000 in
set_option maxRecDepth 100000 in
theorem bits_RotateLeft32.calls (a0 : Int) (a1 : Int) (r : Int) (w : World) (h : bits_RotateLeft32.f a0 a1 = some r) :
   Calls Try.prog 120 #[.int .u32 a0, .int .i64 a1] w fun e w' => e = .returned (.int .u32 r) ∧ Drawn0 w w' := by
 have H : (if 0 ≤ (Go.bits .and .u64 (IntKind.u64.wrap (a1)) 31) then (if 0 ≤ (IntKind.u64.wrap (32 - (Go.bits .and .u64 (IntKind.u64.wrap (a1)) 31))) then (some (Go.bits .or .u32 (shl .u32 a0 (Go.bits .and .u64 (IntKind.u64.wrap (a1)) 31)) (shr .u32 a0 (IntKind.u64.wrap (32 - (Go.bits .and .u64 (IntKind.u64.wrap (a1)) 31)))))) else (none)) else (none)) = some r := h
 clear h
 obtain ⟨ji3, hji3⟩ : ∃ j_ : Int, (Go.bits .and .u64 (IntKind.u64.wrap (a1)) 31) = j_ := ⟨_, rfl⟩
 replace H : (if 0 ≤ (ji3) then (if 0 ≤ (IntKind.u64.wrap (32 - (ji3))) then (some (Go.bits .or .u32 (shl .u32 a0 (ji3)) (shr .u32 a0 (IntKind.u64.wrap (32 - (ji3)))))) else (none)) else (none)) = some r := by first | (rw [hji3] at H; exact H) | (simp only [hji3] at H ⊢; exact H)
 by_cases c4 : 0 ≤ (ji3)
 · rw [if_pos c4] at H
   have c4b0 := eq_true c4
   have c4b1 : decide (0 ≤ (ji3)) = true := decide_eq_true c4
   clear c4
   obtain ⟨ji5, hji5⟩ : ∃ j_ : Int, (shl .u32 a0 (ji3)) = j_ := ⟨_, rfl⟩
   replace H : (if 0 ≤ (IntKind.u64.wrap (32 - (ji3))) then (some (Go.bits .or .u32 (ji5) (shr .u32 a0 (IntKind.u64.wrap (32 - (ji3)))))) else (none)) = some r := by first | (rw [hji5] at H; exact H) | (simp only [hji5] at H ⊢; exact H)
   have hji5_ : (IntKind.u32.wrap (a0 * 2 ^ min (ji3).toNat 32)) = ji5 := hji5
   have hji5z : (ji3) ≤ 32 → (IntKind.u32.wrap (a0 * 2 ^ (ji3).toNat)) = ji5 := shl_small hji5
   obtain ⟨ji6, hji6⟩ : ∃ j_ : Int, (IntKind.u64.wrap (32 - (ji3))) = j_ := ⟨_, rfl⟩
   replace H : (if 0 ≤ (ji6) then (some (Go.bits .or .u32 (ji5) (shr .u32 a0 (ji6)))) else (none)) = some r := by first | (rw [hji6] at H; exact H) | (simp only [hji6] at H ⊢; exact H)
   by_cases c7 : 0 ≤ (ji6)
   · rw [if_pos c7] at H
     have c7b0 := eq_true c7
     have c7b1 : decide (0 ≤ (ji6)) = true := decide_eq_true c7
     clear c7
     obtain ⟨ji8, hji8⟩ : ∃ j_ : Int, (shr .u32 a0 (ji6)) = j_ := ⟨_, rfl⟩
     replace H : (some (Go.bits .or .u32 (ji5) (ji8))) = some r := by first | (rw [hji8] at H; exact H) | (simp only [hji8] at H ⊢; exact H)
     have hji8_ : (a0 / 2 ^ min (ji6).toNat 32) = ji8 := hji8
     have hji8z : (ji6) ≤ 32 → (a0 / 2 ^ (ji6).toNat) = ji8 := shr_small hji8
     obtain rfl := Option.some.inj H
     go_enter Try.func120, Try.ntmps120
     go_wp2
     go_ret
     exact ⟨by first | rfl | (simp; done) | (simp only [← hji3, ← hji5, ← hji6, ← hji8] <;> (first | rfl | simp)) | (simp [*]; done), by repeat (first | exact Drawn0.refl _ | apply Drawn0.step)⟩
   · rw [if_neg c7] at H
     exact absurd H (by simp)
 · rw [if_neg c4] at H
   exact absurd H (by simp)
def impl_right.f (a0 : Int) (a1 : Int) : Option (Int) := (bits_RotateLeft32.f a0 (wrap64 (-a1))).bind fun t218 => (some t218)
set_option maxHeartbeats 8000000 in
set_option maxRecDepth 100000 in
theorem impl_right.calls (a0 : Int) (a1 : Int) (r : Int) (w : World) (h : impl_right.f a0 a1 = some r) :
   Calls Try.prog 105 #[.int .u32 a0, .int .i64 a1] w fun e w' => e = .returned (.int .u32 r) ∧ Drawn0 w w' := by
 have H : ((bits_RotateLeft32.f a0 (wrap64 (-a1))).bind fun t218 => (some t218)) = some r := h
 clear h
 replace H := Option.bind_eq_some_iff.mp H
 obtain ⟨t218, A30, H⟩ := H
 replace H : (some t218) = some r := H
 have A3 := Aside0.mk A30
 clear A30
 obtain rfl := Option.some.inj H
 go_enter Try.func105, Try.ntmps105
 go_wp2_with (first | ((with_reducible refine gate_callee (f := 120) rfl ?_); refine goesL_ (some 8) rfl rfl Try.func120 (by kernel_rfl) rfl #[.int .u32 a0, .int .i64 (wrap64 (-a1))] rfl (by (try simp only [List.map_toArray, List.map_cons, List.map_nil]); first | done | rfl | (simp only [List.length_drop, List.length_take]; rfl)) ?_; (with_reducible refine (bits_RotateLeft32.calls a0 (wrap64 (-a1)) t218 _ A3.out).mono ?_); rintro e w' ⟨rfl, ⟨nd, rfl⟩⟩; refine ⟨_, rfl, ?_⟩))
 go_ret
 exact ⟨by first | rfl | (simp; done) | (simp [*]; done), by repeat (first | exact Drawn0.refl _ | apply Drawn0.step)⟩
theorem bits_or_comm (k : IntKind) (a b : Int) : Go.bits .or k a b = Go.bits .or k b a := by
 simp only [Go.bits, BitVec.or_comm]
theorem right_is (x n : Int) (h1 : 1 ≤ n) (h2 : n ≤ 31) : impl_right.f x n = some (Sha.rr x n.toNat) := by
 obtain ⟨m, rfl⟩ := Int.eq_ofNat_of_zero_le (show 0 ≤ n by omega)
 have m1 : 1 ≤ m := by omega
 have m2 : m < 32 := by omega
 have e1 : ∀ m : Nat, m < 32 → 1 ≤ m → Go.bits .and .u64 (IntKind.u64.wrap (wrap64 (-(m : Int)))) 31 = ((32 - m : Nat) : Int) := by decide +kernel
 have e2 : ∀ m : Nat, m < 32 → 1 ≤ m → IntKind.u64.wrap (32 - ((32 - m : Nat) : Int)) = (m : Int) := by decide +kernel
 have b : min (32 - m) IntKind.u32.bits = 32 - m := Nat.min_eq_left (by show 32 - m ≤ 32; omega)
 have b2 : min m IntKind.u32.bits = m := Nat.min_eq_left (by show m ≤ 32; omega)
 unfold impl_right.f bits_RotateLeft32.f
 rw [e1 m m2 m1, e2 m m2 m1, if_pos (Int.natCast_nonneg _), if_pos (Int.natCast_nonneg _), Option.bind_some]
 unfold shl shr Sha.rr
 rw [Int.toNat_natCast, Int.toNat_natCast, b, b2, bits_or_comm]
theorem right_q2 (x n : Int) (h1 : 1 ≤ n) (h2 : n ≤ 31) (w : World) (a m : Nat) :
   Calls Try.prog 105 #[.int .u32 x, .int .i64 n] (w.drewN (a + m)) fun e w' => e = .returned (.int .u32 (Sha.rr x n.toNat)) ∧ ∃ q, w' = w.drewN (a + q) :=
 (impl_right.calls x n _ _ (right_is x n h1 h2)).mono fun _ _ ⟨he, ⟨q, hd⟩⟩ => ⟨he, m + q, by rw [hd, World.drewN_drewN, Nat.add_assoc]⟩
theorem right_calls (x n : Int) (h1 : 1 ≤ n) (h2 : n ≤ 31) (w : World) :
   Calls Try.prog 105 #[.int .u32 x, .int .i64 n] w fun e w' => e = .returned (.int .u32 (Sha.rr x n.toNat)) ∧ Drawn0 w w' := impl_right.calls x n _ _ (right_is x n h1 h2)
theorem info8w : (Try.prog.info? 94).map (·.size) = some 8 := by kernel_rfl
set_option maxHeartbeats 8000000 in
set_option maxRecDepth 100000 in
theorem impl_turn_in (v : Sha.V8) (k w : List Int) (W : World) (hk : k.length = 64) (hw : w.length = 64) :
   Calls Try.prog 91 #[arr32 v.l, arr32 k, arr32 w] W fun e w' => e = .returned (arr32 (Sha.turn k w v).l) ∧ Below W.heap.size W w' := by
 have HK := Aside0.mk hk
 have HW := Aside0.mk hw
 have HLv : Aside0 ((nums IntKind.u32 v.l).toArray.size = 8) := ⟨rfl⟩
 clear hk hw
 unfold arr32
 go_enter Try.func91, Try.ntmps91
 go_wp2_with (first
   | ((with_reducible refine gate_ (.load 94 (.tmp 3)) rfl ?_); refine wpList_load_row (by rfl) 94 (.tmp 3) (by rfl) W.heap.size (by rfl) 94 (nums IntKind.u32 v.l).toArray (0, 0) _ (blk_alloc (blk_alloc (blk_alloc (blk_new W _) _) _) _) Try.underlying94 rfl (by rw [HLv.out]; exact info8w) ?_)
   | ((with_reducible refine gate_ (.store 94 (.tmp 7) (.tmp 14)) rfl ?_); refine wpList_store_row (by rfl) 94 (.tmp 7) (.tmp 14) (by rfl) (W.heap.size + 1 + 1 + 1 + 1) (nums IntKind.u32 v.l).toArray (by rfl) (by rfl) 94 _ (blk_new5 W _ _ _ _ _) (by rw [HLv.out]; exact info8w) (by rfl) (nums_one _ _) ?_))
 go_loopw [15] (fun i wr => ∃ j : Nat, j ≤ 64 ∧ i = .int .i64 j ∧ Aside0 (wr.heap[W.heap.size]? = some (.cells (nums .u32 v.l).toArray 94 (0, 0))) ∧ Aside0 (wr.heap[W.heap.size + 1]? = some (.cells (nums .u32 k).toArray 95 (0, 0)))
     ∧ Aside0 (wr.heap[W.heap.size + 1 + 1]? = some (.cells (nums .u32 w).toArray 95 (0, 0))) ∧ Aside0 (wr.heap[W.heap.size + 1 + 1 + 1]? = some (.cells (nums .u32 [0, 0, 0, 0, 0, 0, 0, 0]).toArray 94 (0, 0)))
     ∧ Aside0 (wr.heap[W.heap.size + 1 + 1 + 1 + 1]? = some (.cells (nums .u32 (Sha.rnd k w v j).l).toArray 94 (0, 0))) ∧ Aside0 (Below W.heap.size W wr)) (fun i _ => 64 - (intOf i).toNat)
 case atStart =>
   refine ⟨0, by omega, rfl, ⟨?_⟩, ⟨?_⟩, ⟨?_⟩, ⟨?_⟩, ⟨?_⟩, ⟨?_⟩⟩
   · exact (setRow_other _ _ _ _ (by omega)).trans (blk_alloc (blk_alloc (blk_alloc (blk_alloc (blk_new W _) _) _) _) _)
   · exact (setRow_other _ _ _ _ (by omega)).trans (blk_alloc (blk_alloc (blk_alloc (blk_new2 W _ _) _) _) _)
   · exact (setRow_other _ _ _ _ (by omega)).trans (blk_alloc (blk_alloc (blk_new3 W _ _ _) _) _)
   · exact (setRow_other _ _ _ _ (by omega)).trans (blk_alloc (blk_new4 W _ _ _ _) _)
   · exact setRow_heap _ _ _ _ _ _ (blk_new5 W _ _ _ _ _)
   · exact below_row (below_alloc (below_alloc (below_alloc (below_alloc (below_alloc (Below.refl W.heap.size W) _) _) _) _) _) (by omega) _
 case round =>
   obtain ⟨i, hi, rfl, G0, G1, G2, G3, G4, HB⟩ := hrel
   by_cases hlt : i < 64
   · have i0 : (0 : Int) ≤ (i : Int) := Int.natCast_nonneg i
     have i1 : (i : Int) < 64 := by omega
     have hd : decide ((i : Int) < 64) = true := decide_eq_true i1
     obtain ⟨u, hu⟩ : ∃ u, u = Sha.rnd k w v i := ⟨_, rfl⟩
     have HS : Aside0 (Sha.rnd k w v (i + 1) = Sha.step u (k.getD i 0) (w.getD i 0)) := ⟨by rw [hu]; rfl⟩
     rw [← hu] at G4
     clear hu
     obtain ⟨xa, xb, xc, xd, xe, xf, xg, xh⟩ := u
     have c0 : wr.cell? ⟨W.heap.size + 1 + 1 + 1 + 1, 0, none⟩ = some (.int .u32 xa) := blk_cell G4.out 0
     have c1 : wr.cell? ⟨W.heap.size + 1 + 1 + 1 + 1, 1, none⟩ = some (.int .u32 xb) := blk_cell G4.out 1
     have c2 : wr.cell? ⟨W.heap.size + 1 + 1 + 1 + 1, 2, none⟩ = some (.int .u32 xc) := blk_cell G4.out 2
     have c3 : wr.cell? ⟨W.heap.size + 1 + 1 + 1 + 1, 3, none⟩ = some (.int .u32 xd) := blk_cell G4.out 3
     have c4 : wr.cell? ⟨W.heap.size + 1 + 1 + 1 + 1, 4, none⟩ = some (.int .u32 xe) := blk_cell G4.out 4
     have c5 : wr.cell? ⟨W.heap.size + 1 + 1 + 1 + 1, 5, none⟩ = some (.int .u32 xf) := blk_cell G4.out 5
     have c6 : wr.cell? ⟨W.heap.size + 1 + 1 + 1 + 1, 6, none⟩ = some (.int .u32 xg) := blk_cell G4.out 6
     have c7 : wr.cell? ⟨W.heap.size + 1 + 1 + 1 + 1, 7, none⟩ = some (.int .u32 xh) := blk_cell G4.out 7
     obtain ⟨ki, hki⟩ : ∃ x, x = k.getD i 0 := ⟨_, rfl⟩
     obtain ⟨wi, hwi⟩ : ∃ x, x = w.getD i 0 := ⟨_, rfl⟩
     have cK : wr.cell? ⟨W.heap.size + 1, i, none⟩ = some (.int .u32 ki) := by
       rw [blk_cell G1.out i, hki]
       exact nums_at? _ _ _ _ (by rw [List.getD_eq_getElem?_getD, List.getElem?_eq_getElem (by have := HK.out; omega)]; rfl)
     have cW : wr.cell? ⟨W.heap.size + 1 + 1, i, none⟩ = some (.int .u32 wi) := by
       rw [blk_cell G2.out i, hwi]
       exact nums_at? _ _ _ _ (by rw [List.getD_eq_getElem?_getD, List.getElem?_eq_getElem (by have := HW.out; omega)]; rfl)
     rw [← hki, ← hwi] at HS
     clear hki hwi
     go_wp2
     go_quiet (fail)
     go_wp2
     go_quiet ((go_at_call 105; first | exact right_q2 _ _ (by decide) (by decide) _ _ _ | exact right_q _ _ (by decide) (by decide) _ _))
     go_wp2
     go_quiet ((go_at_call 105; first | exact right_q2 _ _ (by decide) (by decide) _ _ _ | exact right_q _ _ (by decide) (by decide) _ _))
     go_wp2_with ((with_reducible refine gate_ (.store 94 (.tmp 7) (.tmp 93)) rfl ?_); refine wpList_store_row (by rfl) 94 (.tmp 7) (.tmp 93) (by rfl) (W.heap.size + 1 + 1 + 1 + 1) _ (by rfl) (by rfl) 94 _ (blk_drewN G4.out _) (by exact info8w) (by rfl) (by simp [Value.oneCell']) ?_)
     go_roundw
     case rel =>
       refine ⟨i + 1, by omega, by go_num, ⟨?_⟩, ⟨?_⟩, ⟨?_⟩, ⟨?_⟩, ⟨?_⟩, ⟨?_⟩⟩
       · exact (setRow_other _ _ _ _ (by omega)).trans (blk_drewN G0.out _)
       · exact (setRow_other _ _ _ _ (by omega)).trans (blk_drewN G1.out _)
       · exact (setRow_other _ _ _ _ (by omega)).trans (blk_drewN G2.out _)
       · exact (setRow_other _ _ _ _ (by omega)).trans (blk_drewN G3.out _)
       · rw [HS.out]
         refine (setRow_heap _ _ _ _ _ _ (blk_drewN G4.out _)).trans ?_
         rw [Sha.step_l]
         rfl
       · exact below_row (pw_below_drewN HB.out _) (by omega) _
     case measure => simp [intOf]; omega
   · have hd : decide ((i : Int) < 64) = false := decide_eq_false (by omega)
     have e64 : Sha.rnd k w v i = Sha.rnd k w v 64 := by
       obtain rfl : i = 64 := by omega
       rfl
     rw [e64] at G4
     clear e64
     obtain ⟨u, hu⟩ : ∃ u, u = Sha.rnd k w v 64 := ⟨_, rfl⟩
     have HU : Aside0 (Sha.turn k w v = v.add u) := ⟨by rw [hu]; rfl⟩
     rw [← hu] at G4
     clear hu
     go_wp2
     go_loopw [95] (fun i wr => ∃ j : Nat, j ≤ 8 ∧ i = .int .i64 j ∧ Aside0 (wr.heap[W.heap.size]? = some (.cells (nums .u32 (addTo v u j)).toArray 94 (0, 0)))
       ∧ Aside0 (wr.heap[W.heap.size + 1 + 1 + 1]? = some (.cells (nums .u32 [0, 0, 0, 0, 0, 0, 0, 0]).toArray 94 (0, 0)))
       ∧ Aside0 (wr.heap[W.heap.size + 1 + 1 + 1 + 1]? = some (.cells (nums .u32 u.l).toArray 94 (0, 0))) ∧ Aside0 (Below W.heap.size W wr)) (fun i _ => 8 - (intOf i).toNat)
     case atStart => exact ⟨0, by omega, rfl, G0, G3, G4, HB⟩
     case round =>
       clear G0 G1 G2 G3 G4 HB
       obtain ⟨j, hj, rfl, G0, G3, G4, HB⟩ := hrel
       by_cases hlj : j < 8
       · have j0 : (0 : Int) ≤ (j : Int) := Int.natCast_nonneg j
         have j1 : (j : Int) < 8 := by omega
         have hdj : decide ((j : Int) < 8) = true := decide_eq_true j1
         obtain ⟨vj, hvj⟩ : ∃ x, x = v.l.getD j 0 := ⟨_, rfl⟩
         obtain ⟨uj, huj⟩ : ∃ x, x = u.l.getD j 0 := ⟨_, rfl⟩
         have HA := Aside0.mk (addTo_set v u j hlj)
         rw [← hvj, ← huj] at HA
         have cH : wr.cell? ⟨W.heap.size, j, none⟩ = some (.int .u32 vj) := by
           rw [blk_cell G0.out j, hvj]
           exact nums_at? _ _ _ _ (addTo_at v u j hlj)
         have cX : wr.cell? ⟨W.heap.size + 1 + 1 + 1 + 1, j, none⟩ = some (.int .u32 uj) := by
           rw [blk_cell G4.out j, huj]
           exact nums_at? _ _ _ _ (V8l_at u j hlj)
         have zH := blk_frozen G0.out j
         clear hvj huj
         go_wp2
         go_region
         all_goals go_wp2
         go_roundw
         case rel =>
           refine ⟨j + 1, by omega, by go_num, ⟨?_⟩, ⟨blk_far (blk_drew G3.out) (by simp <;> omega) _⟩, ⟨blk_far (blk_drew G4.out) (by simp <;> omega) _⟩, ⟨below_set (below_drew1 HB.out) (Nat.le_refl _)⟩⟩
           rw [← HA.out, ← nums_set]
           exact blk_set (blk_drew G0.out) j _
         case measure => simp [intOf]; omega
       · have hdj : decide ((j : Int) < 8) = false := decide_eq_false (by omega)
         have e8 : addTo v u j = (Sha.turn k w v).l := by
           obtain rfl : j = 8 := by omega
           rw [HU.out]; rfl
         rw [e8] at G0
         clear e8
         have GR := Aside0.mk (setRow_heap wr (W.heap.size + 1 + 1 + 1) _ (nums IntKind.u32 (Sha.turn k w v).l).toArray _ _ G3.out)
         go_wp2_with (first
           | ((with_reducible refine gate_ (.load 94 (.tmp 3)) rfl ?_); refine wpList_load_row (by rfl) 94 (.tmp 3) (by rfl) _ (by rfl) 94 _ (0, 0) _ G0.out Try.underlying94 rfl (by exact info8w) ?_)
           | ((with_reducible refine gate_ (.store 94 (.tmp 6) (.tmp 107)) rfl ?_); refine wpList_store_row (by rfl) 94 (.tmp 6) (.tmp 107) (by rfl) (W.heap.size + 1 + 1 + 1) _ (by rfl) (by rfl) 94 _ G3.out (by exact info8w) (by rfl) (nums_one _ _) ?_))
         refine bodyPost_ret (v := arr32 (Sha.turn k w v).l) ?_ rfl ?_
         · exact results_cell_row (fn := Try.f91) (p := 6) (ty := 94) Try.results91 _ _ _ 94 _ (0, 0) _ (by rfl) GR.out Try.underlying94 rfl (by exact info8w)
         · exact ⟨rfl, below_row HB.out (by omega) _⟩
set_option maxHeartbeats 8000000 in
set_option maxRecDepth 100000 in
theorem impl_schedule_in (ad : Addr) (c0 : Nat) (b : List Int) (W : World) (hr0 : Kd.C (Kd.int .u8) W (some ad) b.length b) (hc0 : 64 ≤ c0) (hb : b.length = 64) :
   Calls Try.prog 92 #[.slice (some ad) 64 c0] W fun e w' => e = .returned (arr32 (Sha.sched b 64)) ∧ Below W.heap.size W w' := by
 have HR := Aside0.mk hr0
 have HBL := Aside0.mk hb
 have HC := Aside0.mk hc0
 clear hr0 hb
 unfold arr32
 go_enter Try.func92, Try.ntmps92
 go_wp2
 go_loopw [11] (fun i wr => ∃ j : Nat, j ≤ 64 ∧ i = .int .i64 j ∧ Aside0 (wr.heap[W.heap.size]? = some (.cells (nums .u32 (List.replicate 64 0)).toArray 95 (0, 0)))
     ∧ Aside0 (wr.heap[W.heap.size + 1]? = some (.cells (nums .u32 (Sha.sched b j ++ List.replicate (64 - j) 0)).toArray 95 (0, 0))) ∧ Aside0 (Below W.heap.size W wr)) (fun i _ => 64 - (intOf i).toNat)
 case atStart => exact ⟨0, by omega, rfl, ⟨blk_alloc (blk_new W _) _⟩, ⟨blk_new2 W _ _⟩, ⟨below_alloc (below_alloc (Below.refl W.heap.size W) _) _⟩⟩
 case round =>
   obtain ⟨i, hi, rfl, G0, G1, HB⟩ := hrel
   by_cases hlt : i < 64
   · have i0 : (0 : Int) ≤ (i : Int) := Int.natCast_nonneg i
     have i1 : (i : Int) < 64 := by omega
     have hd : decide ((i : Int) < 64) = true := decide_eq_true i1
     by_cases h16 : i < 16
     · have i2 : (i : Int) < 16 := by omega
       have hd2 : decide ((i : Int) < 16) = true := decide_eq_true i2
       have hl4 : (i + 1) * 4 - i * 4 = 4 := by omega
       go_wp2
       clear hl4
       rw [upd_zero _ i hlt] at G1
       go_loopw [24] (fun n wr => ∃ k : Nat, k ≤ 4 ∧ n = .int .i64 k ∧ Aside0 (wr.heap[W.heap.size]? = some (.cells (nums .u32 (List.replicate 64 0)).toArray 95 (0, 0)))
         ∧ Aside0 (wr.heap[W.heap.size + 1]? = some (.cells (nums .u32 (Sha.sched b i ++ Sha.pw b i k :: List.replicate (63 - i) 0)).toArray 95 (0, 0))) ∧ Aside0 (Below W.heap.size W wr)) (fun n _ => 4 - (intOf n).toNat)
       case atStart => exact ⟨0, by omega, rfl, G0, G1, HB⟩
       case round =>
         clear G0 G1 HB
         obtain ⟨k, hk, rfl, G0, G1, HB⟩ := hrel
         by_cases hlk : k < 4
         · have k0 : (0 : Int) ≤ (k : Int) := Int.natCast_nonneg k
           have k1 : (k : Int) < 4 := by omega
           have hdk : decide ((k : Int) < 4) = true := decide_eq_true k1
           obtain ⟨x, hx⟩ : ∃ x, x = Sha.pw b i k := ⟨_, rfl⟩
           have HP : Aside0 (Sha.pw b i (k + 1) = Go.bits .or .u32 ((x * 256) % 4294967296) (b.getD (4 * i + k) 0 % 4294967296)) := ⟨by rw [hx]; rfl⟩
           rw [← hx] at G1
           clear hx
           have cA : wr.cell? ⟨W.heap.size + 1, i, none⟩ = some (.int .u32 x) := by
             rw [blk_cell G1.out i]
             exact nums_at? _ _ _ _ (upd_at _ _ _ _ (Sha.sched_length b i))
           have zA := blk_frozen G1.out i
           obtain ⟨y, hy⟩ : ∃ y, y = b.getD (4 * i + k) 0 := ⟨_, rfl⟩
           have cB : wr.cell? ((ad.add (i * 4)).add k) = some (.int .u8 y) := by
             rw [add_add, hy]
             have h1 := C_u8_cell (Kd.C_below HR.out HB.out) rfl (i * 4 + k) (by have := HBL.out; omega)
             rw [show 4 * i + k = i * 4 + k from by omega]
             exact h1
           rw [← hy] at HP
           clear hy
           go_wp2
           go_roundw
           case rel =>
             refine ⟨k + 1, by omega, by go_num, ⟨blk_far G0.out (by simp <;> omega) _⟩, ⟨?_⟩, ⟨below_set HB.out (by omega)⟩⟩
             rw [HP.out, ← upd_set (Sha.sched b i) x _ _ i (Sha.sched_length b i), ← nums_set]
             exact blk_set G1.out i _
           case measure => simp [intOf]; omega
         · have hdk : decide ((k : Int) < 4) = false := decide_eq_false (by omega)
           have e4 : Sha.sched b i ++ Sha.pw b i k :: List.replicate (63 - i) 0 = Sha.sched b (i + 1) ++ List.replicate (64 - (i + 1)) 0 := by
             obtain rfl : k = 4 := by omega
             rw [← upd_next b i hlt, Sha.wordAt, if_pos h16]
           rw [e4] at G1
           clear e4
           go_wp2
           go_roundw
           case rel => exact ⟨i + 1, by omega, by go_num, G0, G1, HB⟩
           case measure => simp [intOf]; omega
     · have i2 : (16 : Int) ≤ (i : Int) := by omega
       have hd2 : decide ((i : Int) < 16) = false := decide_eq_false (by omega)
       rw [upd_zero _ i hlt] at G1
       obtain ⟨xa, hxa⟩ : ∃ x, x = (Sha.sched b i).getD (i - 15) 0 := ⟨_, rfl⟩
       obtain ⟨xb, hxb⟩ : ∃ x, x = (Sha.sched b i).getD (i - 2) 0 := ⟨_, rfl⟩
       obtain ⟨xc, hxc⟩ : ∃ x, x = (Sha.sched b i).getD (i - 16) 0 := ⟨_, rfl⟩
       obtain ⟨xd, hxd⟩ : ∃ x, x = (Sha.sched b i).getD (i - 7) 0 := ⟨_, rfl⟩
       have HWd : Aside0 (Sha.wordAt b (Sha.sched b i) i = (xc + Sha.sg0 xa + xd + Sha.sg1 xb) % 4294967296) := ⟨by rw [Sha.wordAt, if_neg h16, hxa, hxb, hxc, hxd]; rfl⟩
       have cOld : ∀ j, j < i → wr.cell? ⟨W.heap.size + 1, j, none⟩ = some (.int .u32 ((Sha.sched b i).getD j 0)) := fun j hj => by
         rw [blk_cell G1.out j]
         exact nums_at? _ _ _ _ (upd_old _ _ _ (by rw [Sha.sched_length]; exact hj))
       have cA := cOld (i - 15) (by omega)
       have cB := cOld (i - 2) (by omega)
       have cC := cOld (i - 16) (by omega)
       have cD := cOld (i - 7) (by omega)
       rw [← hxa] at cA
       rw [← hxb] at cB
       rw [← hxc] at cC
       rw [← hxd] at cD
       clear hxa hxb hxc hxd cOld
       have cI : wr.cell? ⟨W.heap.size + 1, i, none⟩ = some (.int .u32 0) := by
         rw [blk_cell G1.out i]
         exact nums_at? _ _ _ _ (upd_at _ _ _ _ (Sha.sched_length b i))
       have zI := blk_frozen G1.out i
       go_wp2
       go_quiet (fail)
       go_wp2_with (go_at_call 105; refine (right_calls _ _ (by decide) (by decide) _).mono ?_; rintro e w' ⟨rfl, ⟨⟨n, rfl⟩⟩⟩)
       go_region
       all_goals go_wp2
       go_roundw
       case rel =>
         refine ⟨i + 1, by omega, by go_num, ⟨blk_far (blk_drewN G0.out _) (by simp <;> omega) _⟩, ⟨?_⟩, ⟨below_set (pw_below_drewN HB.out _) (by omega)⟩⟩
         rw [← upd_next b i hlt, HWd.out, ← upd_set (Sha.sched b i) 0 _ _ i (Sha.sched_length b i), ← nums_set]
         exact blk_set (blk_drewN G1.out _) i _
       case measure => simp [intOf]; omega
   · have hd : decide ((i : Int) < 64) = false := decide_eq_false (by omega)
     have e64 : Sha.sched b i ++ List.replicate (64 - i) 0 = Sha.sched b 64 := by
       obtain rfl : i = 64 := by omega
       simp
     rw [e64] at G1
     clear e64
     have HLs : Aside0 ((nums IntKind.u32 (Sha.sched b 64)).toArray.size = 64) := ⟨by simp [nums, Sha.sched_length]⟩
     have GR := Aside0.mk (setRow_heap wr W.heap.size _ (nums IntKind.u32 (Sha.sched b 64)).toArray _ _ G0.out)
     go_wp2_with (first
       | ((with_reducible refine gate_ (.load 95 (.tmp 3)) rfl ?_); refine wpList_load_row (by rfl) 95 (.tmp 3) (by rfl) _ (by rfl) 95 _ (0, 0) _ G1.out Try.underlying95 rfl (by rw [HLs.out]; exact info64w) ?_)
       | ((with_reducible refine gate_ (.store 95 (.tmp 2) (.tmp 78)) rfl ?_); refine wpList_store_row (by rfl) 95 (.tmp 2) (.tmp 78) (by rfl) W.heap.size _ (by rfl) (by rfl) 95 _ G0.out (by rw [HLs.out]; exact info64w) (by rw [HLs.out]; simp [nums]) (nums_one _ _) ?_))
     refine bodyPost_ret (v := arr32 (Sha.sched b 64)) ?_ rfl ?_
     · exact results_cell_row (fn := Try.f92) (p := 2) (ty := 95) Try.results92 _ _ _ 95 _ (0, 0) _ (by rfl) GR.out Try.underlying95 rfl (by rw [HLs.out]; exact info64w)
     · exact ⟨rfl, below_row HB.out (by omega) _⟩
end Go.Proofs.Ytlfpogbonmddmaa.P

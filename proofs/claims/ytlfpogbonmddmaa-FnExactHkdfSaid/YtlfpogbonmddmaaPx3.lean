-- Laid by a program of this session (wip/prn) over the translation: functions and their contracts. Lean checks it.
import Derived.Test.YtlfpogbonmddmaaPx0
import Derived.Test.YtlfpogbonmddmaaPx1
import Derived.Test.YtlfpogbonmddmaaPx2
namespace Go.Proofs.Ytlfpogbonmddmaa.P
open Go.RowKit Go.Proofs.YtlfpogbonmddmaaW.PrintWords Go.Proofs.YtlfpogbonmddmaaW.PrintLast Go.Proofs.YtlfpogbonmddmaaW.PrintMore
attribute [local go_sem] max2_int min2_int max_two min_two max_three min_three max_four min_four   -- for this text's walks alone
set_option linter.unusedVariables false
set_option linter.unusedSimpArgs false

/-! ### spec_l03Expand: function 72 -/
-- HAND rounds=0 making=1 info=5
def spec_l03Expand.f (s0 : ByteArray) (l1 : List Int) (n : Int) : Option ByteArray := if u8b l1 = true then (if s0.size ≤ 1048576 ∧ l1.length ≤ 1048576 ∧ 0 ≤ n ∧ n ≤ 8160 then some (strOfNums (Sha.expandL (bytesL s0) l1 n.toNat)) else none) else none
theorem hmacL_length (a b : List Int) : (Sha.hmacL a b).length = 32 := shaL_length _
theorem u8ok_hmacL (a b : List Int) : u8ok (Sha.hmacL a b) := u8ok_shaL _
theorem exp_len (K info : List Int) (j : Nat) : (Sha.exp K info j).1.length = 32 * j := by
  induction j with
  | zero => rfl
  | succ j ih =>
    simp only [Sha.exp]
    rw [List.length_append, ih, hmacL_length]; omega
theorem exp_last (K info : List Int) (j : Nat) : (Sha.exp K info j).2.length ≤ 32 := by
  cases j with
  | zero => show 0 ≤ 32; decide
  | succ j =>
    simp only [Sha.exp]
    rw [hmacL_length]; exact Nat.le_refl _
theorem exp_u8 (K info : List Int) (j : Nat) : u8ok (Sha.exp K info j).1 ∧ u8ok (Sha.exp K info j).2 := by
  induction j with
  | zero => exact ⟨fun x hx => (by cases hx), fun x hx => (by cases hx)⟩
  | succ j ih =>
    simp only [Sha.exp]
    exact ⟨u8ok_append ih.1 (u8ok_hmacL _ _), u8ok_hmacL _ _⟩
theorem exp_more (K info : List Int) (j d : Nat) : ∃ r, (Sha.exp K info (j + d)).1 = (Sha.exp K info j).1 ++ r := by
  induction d with
  | zero => exact ⟨[], (List.append_nil _).symm⟩
  | succ d ih =>
    obtain ⟨r, hr⟩ := ih
    refine ⟨r ++ Sha.hmacL K ((Sha.exp K info (j + d)).2 ++ info ++ [((j + d + 1 : Nat) : Int) % 256]), ?_⟩
    rw [← List.append_assoc, ← hr]
    rfl
theorem exp_take (K info : List Int) (n j : Nat) (h : n ≤ 32 * j) (hj : j ≤ n + 31) : Sha.expandL K info n = (Sha.exp K info j).1.take n := by
  obtain ⟨r, hr⟩ := exp_more K info j (n + 31 - j)
  rw [show j + (n + 31 - j) = n + 31 from by omega] at hr
  rw [Sha.expandL, hr, List.take_append_of_le_length (by rw [exp_len]; exact h)]
theorem str_extract (l : List Int) (n : Nat) : (strOfNums l).extract 0 n = strOfNums (l.take n) := by
  have h : ∀ x y : ByteArray, x.data = y.data → x = y := fun x y e => by cases x; cases y; cases e; rfl
  apply h
  simp [strOfNums, ByteArray.extract, ByteArray.copySlice, List.map_take]
theorem str_size (l : List Int) : (strOfNums l).size = l.length := by simp [strOfNums, ByteArray.size]
set_option maxHeartbeats 8000000 in
set_option maxRecDepth 100000 in
theorem spec_l03Expand_in (s0 : ByteArray) (A1 : Option Addr) (c1 : Nat) (l1 : List Int) (N : Nat) (w0 : World) (hr1 : Kd.C (Kd.int .u8) w0 A1 l1.length l1) (hc1 : l1.length ≤ c1) (hu1 : u8ok l1) (hl0 : s0.size ≤ 1048576) (hl1 : l1.length ≤ 1048576) (hN : N ≤ 8160) :
    Calls Try.prog 72 #[.string s0, .slice A1 l1.length c1, .int .i64 (N : Int)] w0 fun e w' => e = .returned (.string (strOfNums (Sha.expandL (bytesL s0) l1 N))) ∧ Below w0.heap.size w0 w' := by
  have HR1 := Aside0.mk hr1
  have HU1 := Aside0.mk hu1
  have HL0 := Aside0.mk hl0
  have HL1 := Aside0.mk hl1
  have HN := Aside0.mk hN
  clear hr1 hu1 hl0 hl1 hc1 hN
  go_enter Try.func72, Try.ntmps72
  go_wp2
  go_loopw [7, 8, 9] (fun vo vl vi wr => ∃ (j p : Nat) (so sl : ByteArray), vo = .string so ∧ vl = .string sl ∧ vi = .int .i64 (p : Int) ∧ p = j + 1 ∧ j ≤ 255 ∧ j ≤ N + 31 ∧ Aside0 (so = strOfNums (Sha.exp (bytesL s0) l1 j).1) ∧ Aside0 (sl = strOfNums (Sha.exp (bytesL s0) l1 j).2) ∧ Aside0 (Below w0.heap.size w0 wr))
    (fun _ _ i _ => 300 - (intOf i).toNat)
  case atStart => exact ⟨0, 1, _, _, rfl, rfl, rfl, rfl, by omega, by omega, ⟨rfl⟩, ⟨rfl⟩, ⟨Below.refl _ _⟩⟩
  case round =>
    obtain ⟨j, p, so, sl, rfl, rfl, rfl, hp, hj, hjN, HSO, HSL, HB⟩ := hrel
    have hso : so.size = 32 * j := by rw [HSO.out, str_size, exp_len]
    have hsl : sl.size ≤ 32 := by rw [HSL.out, str_size]; exact exp_last _ _ _
    by_cases hlt : 32 * j < N
    · have hd : decide ((so.size : Int) < (N : Int)) = true := decide_eq_true (by omega)
      have kc1 := Lib.run_convert_string_bytes (P := Try.prog) wr 9 22 5 s0 Try.underlying9 Try.underlying22 Try.underlying5
      have HR0 := Aside0.mk (conv_rowB wr wr.heap.size 5 s0 (Nat.le_refl _))
      have HW1 : Aside0 (Below wr.heap.size wr (Lib.bytesWorld wr 5 s0)) := ⟨bytes_below (Below.refl _ _) (Nat.le_refl _) _ _⟩
      generalize hW1 : Lib.bytesWorld wr 5 s0 = W1 at *
      obtain ⟨cK, hcK⟩ : ∃ c, c = grownCap wr s0.size 0 5 := ⟨_, rfl⟩
      rw [← hcK] at kc1 HR0
      have HGK : Aside0 (wr.heap.size < W1.heap.size) := ⟨by rw [← hW1, Lib.bytesWorld_size]; omega⟩
      clear hW1 hcK
      rw [← bytesL_length] at kc1 HR0
      have kc2 := Lib.run_convert_string_bytes (P := Try.prog) W1 9 22 5 sl Try.underlying9 Try.underlying22 Try.underlying5
      have HR2 := Aside0.mk (conv_rowB W1 W1.heap.size 5 sl (Nat.le_refl _))
      have HW2 : Aside0 (Below W1.heap.size W1 (Lib.bytesWorld W1 5 sl)) := ⟨bytes_below (Below.refl _ _) (Nat.le_refl _) _ _⟩
      generalize hW2 : Lib.bytesWorld W1 5 sl = W2 at *
      obtain ⟨cL, hcL⟩ : ∃ c, c = grownCap W1 sl.size 0 5 := ⟨_, rfl⟩
      rw [← hcL] at kc2 HR2
      clear hW2 hcL
      rw [← bytesL_length] at kc2 HR2
      have hslb : bytesL sl = (Sha.exp (bytesL s0) l1 j).2 := by rw [HSL.out, bytesL_str _ (exp_u8 _ _ _).2]
      obtain ⟨lB, hlB⟩ : ∃ L, L = bytesL sl ++ l1 := ⟨_, rfl⟩
      obtain ⟨lC, hlC⟩ : ∃ L, L = lB ++ [(p : Int) % 256] := ⟨_, rfl⟩
      have HLB := Aside0.mk hlB
      have HLC := Aside0.mk hlC
      have HLBl : Aside0 (lB.length ≤ 1048608) := ⟨by rw [hlB, List.length_append, hslb]; have := HL1.out; have := exp_last (bytesL s0) l1 j; omega⟩
      have HLCl : Aside0 (lC.length ≤ 1048609) := ⟨by rw [hlC, List.length_append]; have := HLBl.out; simp; omega⟩
      have HUC : Aside0 (u8ok lC) := ⟨by rw [hlC, hlB]; exact u8ok_append (u8ok_append (u8ok_bytesL _) HU1.out) (fun x hx => by obtain rfl := List.mem_singleton.1 hx; omega)⟩
      have HNX : Aside0 (Sha.exp (bytesL s0) l1 (j + 1) = ((Sha.exp (bytesL s0) l1 j).1 ++ Sha.hmacL (bytesL s0) lC, Sha.hmacL (bytesL s0) lC)) := ⟨by rw [hlC, hlB, hslb, hp]; rfl⟩
      have HSLl : Aside0 ((bytesL sl).length ≤ 32) := ⟨by rw [bytesL_length]; exact hsl⟩
      have HP := Aside0.mk hp
      have HSOs := Aside0.mk hso
      have hcat : so.size + 32 ≤ 9223372036854775807 := by omega
      clear hlB hlC hslb hsl hp
      have HC1 : Aside0 (Kd.C (Kd.int .u8) W2 A1 l1.length l1) := ⟨Kd.C_below (Kd.C_below (Kd.C_below HR1.out HB.out) HW1.out) HW2.out⟩
      go_wp2_with (first
        | ((with_reducible refine gate_dst (N := 21) rfl ?_); refine wpList_append_rowB_C (by rfl) (.tmp 19) (.tmp 20) 22 5 (by rfl) Try.underlying22 info5 l1 (w0 := W1) (B := W1.heap.size) (by rfl) HR2.out HW2.out HW2.out.size A1 _ _ (by rfl) HC1.out (by have := HSLl.out; have := HL1.out; omega) lB HLB.out ?_; intro v3 w3 H1 H2 H3; obtain ⟨g3, c3, rfl, hc3⟩ := rowB_form H1.out)
        | ((with_reducible refine gate_dst (N := 25) rfl ?_); refine wpList_append_rowB (by rfl) (.tmp 21) (.tmp 24) 22 5 (by rfl) Try.underlying22 info5 [(p : Int) % 256] (by rfl) (rowB_below H1.out (below_alloc (Below.refl _ _) _)) (H2.out.alloc H3.out _) (by have := H3.out; simp; omega) ⟨w3.heap.size, 0, none⟩ 1 1 (by rfl) rfl (cell_lit1 _ _ _ _) (by have := HLBl.out; simp; omega) lC HLC.out ?_; intro v4 w4 K1 K2 K3; obtain ⟨g4, c4, rfl, hc4⟩ := rowB_form K1.out))
      refine (spec_l03Hmac_in (some ⟨wr.heap.size, 0, none⟩) cK (bytesL s0) (some ⟨g4, 0, none⟩) c4 lC w4 (rowB_C (rowB_below HR0.out K2.out) (by rw [bytesL_length]; have := HL0.out; omega)) (rowB_form' HR0.out) (rowB_C K1.out (by have := HLCl.out; omega)) hc4 (u8ok_bytesL s0) HUC.out (by rw [bytesL_length]; have := HL0.out; omega) (by have := HLCl.out; omega)).mono ?_
      rintro e w5 ⟨rfl, hb5⟩
      obtain ⟨sn, hsn⟩ : ∃ s, s = strOfNums (Sha.hmacL (bytesL s0) lC) := ⟨_, rfl⟩
      have HSN := Aside0.mk hsn
      have hsz : sn.size = 32 := by rw [hsn, str_size, hmacL_length]
      rw [← hsn]
      have HB5 : Aside0 (Below w0.heap.size w0 w5) := ⟨(HB.out.trans (HW1.out.mono HB.out.size)).trans ((K2.out.mono (Nat.le_trans HB.out.size HW1.out.size)).trans (hb5.mono (Nat.le_trans (Nat.le_trans HB.out.size HW1.out.size) K3.out)))⟩
      clear hsn hb5 kc1 kc2
      have hc1 : so.size + sn.size ≤ 9223372036854775807 := by omega
      have c9b0 := eq_true hc1
      have c9b1 : decide (so.size + sn.size ≤ 9223372036854775807) = true := decide_eq_true hc1
      have c9b2 : (9223372036854775807 < so.size + sn.size) = False := eq_false (Nat.not_lt.2 hc1)
      have hw : wrap64 ((p : Int) + 1) = ((p + 1 : Nat) : Int) := by unfold wrap64; have := HP.out; omega
      go_wp2
      rw [hw]
      clear hw
      go_roundw
      case rel => exact ⟨j + 1, p + 1, so ++ sn, sn, rfl, rfl, rfl, by have := HP.out; omega, by have := HN.out; omega, by omega, ⟨by rw [HSO.out, HSN.out, strOfNums_append, HNX.out]⟩, ⟨by rw [HSN.out, HNX.out]⟩, HB5⟩
      case measure => simp [intOf]; have := HP.out; omega
    · have hd : decide ((so.size : Int) < (N : Int)) = false := decide_eq_false (by omega)
      have c1b0 : (0 : Int) ≤ (N : Int) := by omega
      have c2b0 : (N : Int) ≤ (so.size : Int) := by omega
      have HFI : Aside0 (so.extract 0 N = strOfNums (Sha.expandL (bytesL s0) l1 N)) := ⟨by rw [exp_take (bytesL s0) l1 N j (by omega) hjN, HSO.out, str_extract]⟩
      clear hp hj hjN hso hlt
      go_wp2
      go_ret
      exact ⟨congrArg (fun s => Ending.returned (.string s)) HFI.out, HB.out⟩
theorem spec_l03Expand.calls (s0 : ByteArray) (A1 : Option Addr) (c1 : Nat) (l1 : List Int) (n : Int) (r : ByteArray) (w : World) (hr1 : Kd.C (Kd.int .u8) w A1 l1.length l1) (hc1 : l1.length ≤ c1) (h : spec_l03Expand.f s0 l1 n = some r) :
    Calls Try.prog 72 #[.string s0, .slice A1 l1.length c1, .int .i64 n] w fun e w' => e = .returned (.string r) ∧ Below w.heap.size w w' := by
  unfold spec_l03Expand.f at h
  split at h
  · rename_i h1
    split at h
    · rename_i h2
      obtain ⟨h2, h3, h4, h5⟩ := h2
      obtain ⟨N, rfl⟩ : ∃ N : Nat, n = (N : Int) := ⟨n.toNat, by omega⟩
      rw [Int.toNat_natCast] at h
      injection h with h
      subst h
      exact spec_l03Expand_in s0 A1 c1 l1 N w hr1 hc1 (u8b_ok h1) h2 h3 (by omega)
    · cases h
  · cases h

/-! ### spec_Hkdf: function 40 -/
def spec_Hkdf.j0 : Nat → List Int → List Int → List Int → Int → Bool → Option (ByteArray × Int)
  | 0, _, _, _, _, _ => none
  | k + 1, x0, x1, x2, x3, x22 => if x22 = true then (some ((⟨#[]⟩ : ByteArray), 2)) else ((spec_l01In.f x3 0 8160).bind fun t111 => (if t111 = true then ((spec_l03Hmac.f x0 x1).bind fun t112 => ((spec_l03Expand.f t112 x2 x3).bind fun t113 => (some (t113, 0)))) else (some ((⟨#[]⟩ : ByteArray), 4))))
def spec_Hkdf.f (k : Nat) (l0 : List Int) (l1 : List Int) (l2 : List Int) (a3 : Int) : Option (ByteArray × Int) := if (l0.length : Int) > 65536 then (spec_Hkdf.j0 k l0 l1 l2 a3 true) else (if (l1.length : Int) > 65536 then (spec_Hkdf.j0 k l0 l1 l2 a3 true) else (spec_Hkdf.j0 k l0 l1 l2 a3 (decide ((l2.length : Int) > 65536))))
theorem spec_Hkdf.mono_l : ∀ k, (∀ y0 y1 y2 y3 y4, LeO (spec_Hkdf.j0 k y0 y1 y2 y3 y4) (spec_Hkdf.j0 (k + 1) y0 y1 y2 y3 y4))
  | 0 => fun _ _ _ _ _ r h => by simp [spec_Hkdf.j0] at h
  | k + 1 => by
    have ih0 := spec_Hkdf.mono_l k
    · intro y0 y1 y2 y3 y4
      unfold spec_Hkdf.j0
      repeat' first
      | (with_reducible exact ih0 _ _ _ _ _)
      | (with_reducible exact LeO.refl _)
      | (with_reducible exact LeO.none _)
      | (with_reducible refine LeO.ite ?_ ?_)
      | (with_reducible refine LeO.bind ?_ (fun _ => ?_))
      | exact ih0 _ _ _ _ _
      | exact LeO.none _
      | refine LeO.ite ?_ ?_
      | refine LeO.bind ?_ (fun _ => ?_)
theorem spec_Hkdf.mono : ∀ a0 a1 a2 a3 k, LeO (spec_Hkdf.f k a0 a1 a2 a3) (spec_Hkdf.f (k + 1) a0 a1 a2 a3) := by
  intro a0 a1 a2 a3 k
  have ih0 := spec_Hkdf.mono_l k
  unfold spec_Hkdf.f
  repeat' first
      | (with_reducible exact ih0 _ _ _ _ _)
      | (with_reducible exact LeO.refl _)
      | (with_reducible exact LeO.none _)
      | (with_reducible refine LeO.ite ?_ ?_)
      | (with_reducible refine LeO.bind ?_ (fun _ => ?_))
      | exact ih0 _ _ _ _ _
      | exact LeO.none _
      | refine LeO.ite ?_ ?_
      | refine LeO.bind ?_ (fun _ => ?_)
set_option maxHeartbeats 8000000 in
set_option maxRecDepth 100000 in
theorem spec_Hkdf.calls (k : Nat) (A0 : Option Addr) (c0 : Nat) (l0 : List Int) (A1 : Option Addr) (c1 : Nat) (l1 : List Int) (A2 : Option Addr) (c2 : Nat) (l2 : List Int) (a3 : Int) (r1 : ByteArray) (r2 : Int) (w : World) (hr0 : Kd.C (Kd.int .u8) w A0 l0.length l0) (hc0 : l0.length ≤ c0) (hr1 : Kd.C (Kd.int .u8) w A1 l1.length l1) (hc1 : l1.length ≤ c1) (hr2 : Kd.C (Kd.int .u8) w A2 l2.length l2) (hc2 : l2.length ≤ c2) (h : spec_Hkdf.f k l0 l1 l2 a3 = some (r1, r2)) :
    Calls Try.prog 40 #[.slice A0 l0.length c0, .slice A1 l1.length c1, .slice A2 l2.length c2, .int .i64 a3] w fun e w' => e = .returned (.tuple #[.string r1, .int .i64 r2]) ∧ Below w.heap.size w w' := by
  have HR0 := Aside0.mk hr0
  have HC0 := Aside0.mk hc0
  clear hr0 hc0
  have HR1 := Aside0.mk hr1
  have HC1 := Aside0.mk hc1
  clear hr1 hc1
  have HR2 := Aside0.mk hr2
  have HC2 := Aside0.mk hc2
  clear hr2 hc2
  have HB := Aside0.mk (Below.refl w.heap.size w)
  have H : (if (l0.length : Int) > 65536 then (spec_Hkdf.j0 k l0 l1 l2 a3 true) else (if (l1.length : Int) > 65536 then (spec_Hkdf.j0 k l0 l1 l2 a3 true) else (spec_Hkdf.j0 k l0 l1 l2 a3 (decide ((l2.length : Int) > 65536))))) = some (r1, r2) := h
  clear h
  have HC5 := Aside0.mk H
  clear H
  go_enter Try.func40, Try.ntmps40
  go_upto_region 1 with (fail)
  go_cut [22] (fun v22 wc => ∃ (kq : Nat) (x22_4 : Bool), v22 = .bool x22_4 ∧ Aside0 (spec_Hkdf.j0 kq l0 l1 l2 a3 x22_4 = some (r1, r2)) ∧ Aside0 (kq ≤ k) ∧ Aside0 (Below w.heap.size w wc))
  case first =>
    have H := HC5.out
    clear HC5
    by_cases c6 : (l0.length : Int) > 65536
    · rw [if_pos c6] at H
      have c6b0 : decide (65536 < (l0.length : Int)) = true := decide_eq_true c6
      have c6b1 : decide (65536 < l0.length) = true := decide_eq_true (by omega)
      clear c6
      (first | rw [c6b0] | (simp only [i64_w, i32_w]; rw [c6b0]) | skip)
      have H' := Aside0.mk H
      clear H
      go_wp2
      go_meet
      case rel => exact ⟨_, (true), (by first | rfl | (simp; done) | (simp [*]; done)), H', ⟨by first | omega | exact Nat.le_refl _⟩, ⟨by repeat (first | (with_reducible first | exact HB.out | apply below_alloc | apply pw_below_drewN | apply below_drew1) | exact HB.out)⟩⟩
    · rw [if_neg c6] at H
      have c6b0 : decide (65536 < (l0.length : Int)) = false := decide_eq_false c6
      have c6b1 : decide (65536 < l0.length) = false := decide_eq_false (by omega)
      clear c6
      (first | rw [c6b0] | (simp only [i64_w, i32_w]; rw [c6b0]) | skip)
      by_cases c7 : (l1.length : Int) > 65536
      · rw [if_pos c7] at H
        have c7b0 : decide (65536 < (l1.length : Int)) = true := decide_eq_true c7
        have c7b1 : decide (65536 < l1.length) = true := decide_eq_true (by omega)
        clear c7
        have H' := Aside0.mk H
        clear H
        go_wp2
        go_meet
        case rel => exact ⟨_, (true), (by first | rfl | (simp; done) | (simp [*]; done)), H', ⟨by first | omega | exact Nat.le_refl _⟩, ⟨by repeat (first | (with_reducible first | exact HB.out | apply below_alloc | apply pw_below_drewN | apply below_drew1) | exact HB.out)⟩⟩
      · rw [if_neg c7] at H
        have c7b0 : decide (65536 < (l1.length : Int)) = false := decide_eq_false c7
        have c7b1 : decide (65536 < l1.length) = false := decide_eq_false (by omega)
        clear c7
        have H' := Aside0.mk H
        clear H
        go_wp2
        go_meet
        case rel => exact ⟨_, (decide ((l2.length : Int) > 65536)), (by first | rfl | (simp; done) | (simp [*]; done)), H', ⟨by first | omega | exact Nat.le_refl _⟩, ⟨by repeat (first | (with_reducible first | exact HB.out | apply below_alloc | apply pw_below_drewN | apply below_drew1) | exact HB.out)⟩⟩
  case rest =>
    clear HC5
    try clear c1
    try clear c2
    try clear p2
    try clear c4
    try clear c6
    try clear c6b0
    try clear c6b1
    try clear c7
    try clear c7b0
    try clear c7b1
    obtain ⟨kq, x22_4, rfl, HA, HJ4, HB⟩ := hcut
    cases kq with
    | zero => exact absurd HA.out (by simp [spec_Hkdf.j0])
    | succ kj4 =>
      have H := HA.out
      clear HA
      simp only [spec_Hkdf.j0] at H
      by_cases c8 : x22_4 = true
      · subst c8
        have H1 : (some ((⟨#[]⟩ : ByteArray), 2)) = some (r1, r2) := by rw [if_pos rfl] at H; exact H
        clear H
        have H := H1
        clear H1
        simp only [Option.some.injEq, Prod.mk.injEq] at H
        obtain ⟨rfl, rfl⟩ := H
        go_wp2
        go_ret2
        exact ⟨by first | rfl | (simp [errW_none, errW_some] <;> rfl) | (simp [*, errW_none, errW_some] <;> rfl), by repeat (first | (with_reducible first | exact HB.out | apply below_alloc | apply pw_below_drewN | apply below_drew1) | exact HB.out)⟩
      · replace c8 := Bool.eq_false_iff.mpr c8
        subst c8
        have H1 : ((spec_l01In.f a3 0 8160).bind fun t111 => (if t111 = true then ((spec_l03Hmac.f l0 l1).bind fun t112 => ((spec_l03Expand.f t112 l2 a3).bind fun t113 => (some (t113, 0)))) else (some ((⟨#[]⟩ : ByteArray), 4)))) = some (r1, r2) := by rw [if_neg (show ¬ (false = true) by decide)] at H; exact H
        clear H
        have H := H1
        clear H1
        replace H := Option.bind_eq_some_iff.mp H
        obtain ⟨t111, A90, H⟩ := H
        replace H : (if t111 = true then ((spec_l03Hmac.f l0 l1).bind fun t112 => ((spec_l03Expand.f t112 l2 a3).bind fun t113 => (some (t113, 0)))) else (some ((⟨#[]⟩ : ByteArray), 4))) = some (r1, r2) := H
        have A9 := Aside0.mk A90
        clear A90
        by_cases c10 : t111 = true
        · subst c10
          have H1 : ((spec_l03Hmac.f l0 l1).bind fun t112 => ((spec_l03Expand.f t112 l2 a3).bind fun t113 => (some (t113, 0)))) = some (r1, r2) := by rw [if_pos rfl] at H; exact H
          clear H
          have H := H1
          clear H1
          replace H := Option.bind_eq_some_iff.mp H
          obtain ⟨t112, A110, H⟩ := H
          replace H : ((spec_l03Expand.f t112 l2 a3).bind fun t113 => (some (t113, 0))) = some (r1, r2) := H
          have A11 := Aside0.mk A110
          clear A110
          replace H := Option.bind_eq_some_iff.mp H
          obtain ⟨t113, A120, H⟩ := H
          replace H : (some (t113, 0)) = some (r1, r2) := H
          have A12 := Aside0.mk A120
          clear A120
          simp only [Option.some.injEq, Prod.mk.injEq] at H
          obtain ⟨rfl, rfl⟩ := H
          go_wp2_with (first | ((with_reducible refine gate_callee (f := 57) rfl ?_); refine goesL_ (some 24) rfl rfl Try.func57 (by kernel_rfl) rfl #[.int .i64 a3, .int .i64 0, .int .i64 8160] rfl (by (try simp only [List.map_toArray, List.map_cons, List.map_nil]); first | done | rfl | (simp only [List.length_drop, List.length_take]; rfl)) ?_; (with_reducible refine (spec_l01In.calls a3 0 8160 true _ A9.out).mono ?_); rintro e w' ⟨rfl, ⟨nd, rfl⟩⟩; refine ⟨_, rfl, ?_⟩) | ((with_reducible refine gate_callee (f := 70) rfl ?_); refine goesL_ (some 28) rfl rfl Try.func70 (by kernel_rfl) rfl #[.slice A0 l0.length c0, .slice A1 l1.length c1] rfl (by (try simp only [List.map_toArray, List.map_cons, List.map_nil]); first | done | rfl | (simp only [List.length_drop, List.length_take]; rfl)) ?_; (with_reducible refine (spec_l03Hmac.calls _ _ l0 _ _ l1 t112 _ ?side1 ?side2 ?side3 ?side4 A11.out).mono ?_); (case side1 => repeat (first | exact (Kd.C_below HR0.out (by repeat (first | (with_reducible first | exact HB.out | apply below_alloc | apply pw_below_drewN | apply below_drew1) | exact HB.out))) | (with_reducible refine Kd.C_alloc ?_ _) | (with_reducible refine Kd.C_drewN ?_ _) | (with_reducible refine Kd.C_drew ?_))); (case side2 => exact HC0.out); (case side3 => repeat (first | exact (Kd.C_below HR1.out (by repeat (first | (with_reducible first | exact HB.out | apply below_alloc | apply pw_below_drewN | apply below_drew1) | exact HB.out))) | (with_reducible refine Kd.C_alloc ?_ _) | (with_reducible refine Kd.C_drewN ?_ _) | (with_reducible refine Kd.C_drew ?_))); (case side4 => exact HC1.out); rintro e w13 ⟨rfl, hb⟩; refine ⟨_, rfl, ?_⟩; have n0_ := Aside0.mk (below_step (by repeat (first | (with_reducible first | exact HB.out | apply below_alloc | apply pw_below_drewN | apply below_drew1) | exact HB.out)) hb); clear HB; have HB := n0_; clear n0_; (try clear hb); (try clear hb2); (try clear hk); (try clear hi)) | ((with_reducible refine gate_callee (f := 72) rfl ?_); refine goesL_ (some 31) rfl rfl Try.func72 (by kernel_rfl) rfl #[.string t112, .slice A2 l2.length c2, .int .i64 a3] rfl (by (try simp only [List.map_toArray, List.map_cons, List.map_nil]); first | done | rfl | (simp only [List.length_drop, List.length_take]; rfl)) ?_; (with_reducible refine (spec_l03Expand.calls t112 _ _ l2 a3 t113 _ ?side1 ?side2 A12.out).mono ?_); (case side1 => repeat (first | exact (Kd.C_below HR2.out HB.out) | (with_reducible refine Kd.C_alloc ?_ _) | (with_reducible refine Kd.C_drewN ?_ _) | (with_reducible refine Kd.C_drew ?_))); (case side2 => exact HC2.out); rintro e w14 ⟨rfl, hb⟩; refine ⟨_, rfl, ?_⟩; have n0_ := Aside0.mk (below_step (by repeat (first | (with_reducible first | exact HB.out | apply below_alloc | apply pw_below_drewN | apply below_drew1) | exact HB.out)) hb); clear HB; have HB := n0_; clear n0_; (try clear hb); (try clear hb2); (try clear hk); (try clear hi)))
          go_ret2
          exact ⟨by first | rfl | (simp [errW_none, errW_some] <;> rfl) | (simp [*, errW_none, errW_some] <;> rfl), by repeat (first | (with_reducible first | exact HB.out | apply below_alloc | apply pw_below_drewN | apply below_drew1) | exact HB.out)⟩
        · replace c10 := Bool.eq_false_iff.mpr c10
          subst c10
          have H1 : (some ((⟨#[]⟩ : ByteArray), 4)) = some (r1, r2) := by rw [if_neg (show ¬ (false = true) by decide)] at H; exact H
          clear H
          have H := H1
          clear H1
          simp only [Option.some.injEq, Prod.mk.injEq] at H
          obtain ⟨rfl, rfl⟩ := H
          go_wp2_with (first | ((with_reducible refine gate_callee (f := 57) rfl ?_); refine goesL_ (some 24) rfl rfl Try.func57 (by kernel_rfl) rfl #[.int .i64 a3, .int .i64 0, .int .i64 8160] rfl (by (try simp only [List.map_toArray, List.map_cons, List.map_nil]); first | done | rfl | (simp only [List.length_drop, List.length_take]; rfl)) ?_; (with_reducible refine (spec_l01In.calls a3 0 8160 false _ A9.out).mono ?_); rintro e w' ⟨rfl, ⟨nd, rfl⟩⟩; refine ⟨_, rfl, ?_⟩))
          go_ret2
          exact ⟨by first | rfl | (simp [errW_none, errW_some] <;> rfl) | (simp [*, errW_none, errW_some] <;> rfl), by repeat (first | (with_reducible first | exact HB.out | apply below_alloc | apply pw_below_drewN | apply below_drew1) | exact HB.out)⟩

-- NOT PRINTED: function 98 (slices_IndexFunc_byte_byte)

-- NOT PRINTED: function 80 (slices_ContainsFunc_byte_byte)

/-! ### impl_isLong_byte: function 49 -/
-- HAND rounds=0 making=0
theorem isLong_byte_1.calls (A : Option Addr) (n c : Nat) (w : World) : Calls Try.prog 81 #[.slice A n c] w fun e w' => e = .returned (.bool (decide (65536 < (n : Int)))) ∧ w = w' := by
  go_enter Try.func81, Try.ntmps81
  go_wp2
  go_ret
  exact ⟨rfl, rfl⟩
def isLong_byte_idx (l0 : List (List Int)) (w : World) (e : Ending) (w' : World) : Prop :=
  ∃ i : Int, e = .returned (.int .i64 i) ∧ decide (0 ≤ i) = (l0.any fun t => decide (65536 < (t.length : Int))) ∧ w = w'
theorem isLong_byte_at {w : World} {A0 : Option Addr} {l0 : List (List Int)} (hr0 : Kd.C (Kd.slice 5 (Kd.int .u8)) w A0 l0.length l0) (k : Nat) (hk : k < l0.length) :
    ∃ ad A c, A0 = some ad ∧ w.cell? (ad.add k) = some (.slice A l0[k].length c) := by
  obtain ⟨ad, c, rfl, _, ⟨A, cap, hc, _⟩, hw⟩ := Kd.C_get hr0 ([] : List Int) (k : Int) (by omega) (by omega)
  refine ⟨ad, A, cap, rfl, ?_⟩
  subst hc
  have := hw 0 _ rfl
  simpa [Kd.slice, List.getD_eq_getElem?_getD, hk] using this
theorem IndexFunc_byte.calls (A0 : Option Addr) (c0 : Nat) (l0 : List (List Int)) (w : World) (hr0 : Kd.C (Kd.slice 5 (Kd.int .u8)) w A0 l0.length l0) :
    Calls Try.prog 98 #[.slice A0 l0.length c0, .func (.func 81) #[] #[]] w (isLong_byte_idx l0 w) := by
  have HR0 := Aside0.mk hr0
  clear hr0
  have hm : l0.length ≤ 9223372036854775807 := HR0.out.2.1
  go_enter Try.func98, Try.ntmps98
  go_wp2
  go_loop [8] (fun i => ∃ k : Nat, k ≤ l0.length ∧ i = .int .i64 k ∧ Aside0 (∀ j (hj : j < l0.length), j < k → ¬ 65536 < l0[j].length)) (fun i => l0.length - (intOf i).toNat)
  case atStart => exact ⟨0, Nat.zero_le _, rfl, ⟨fun _ _ h => absurd h (by omega)⟩⟩
  case round =>
    obtain ⟨k, hk, rfl, HA⟩ := hrel
    by_cases hlt : k < l0.length
    · obtain ⟨ad, A, c, had, hcell⟩ := isLong_byte_at HR0.out k hlt
      subst had
      by_cases hbig : 65536 < l0[k].length
      · have HF : Aside0 (isLong_byte_idx l0 w (.returned (.int .i64 (k : Int))) w) := ⟨⟨k, rfl, by
          rw [show decide ((0 : Int) ≤ (k : Int)) = true from decide_eq_true (by omega)]
          exact (List.any_eq_true.2 ⟨l0[k], List.getElem_mem hlt, by simp; omega⟩).symm, rfl⟩⟩
        have hd : decide (65536 < (l0[k].length : Int)) = true := decide_eq_true (by omega)
        go_wp2_with (go_at_call 81; refine (isLong_byte_1.calls _ _ _ _).mono ?_; rintro e w' ⟨rfl, rfl⟩)
        go_ret
        exact HF.out
      · have hd : decide (65536 < (l0[k].length : Int)) = false := decide_eq_false (by omega)
        have HA1 : Aside0 (∀ j (hj : j < l0.length), j < k + 1 → ¬ 65536 < l0[j].length) := ⟨fun j hj hjk => by
          rcases Nat.lt_or_ge j k with h | h
          · exact HA.out j hj h
          · obtain rfl : j = k := by omega
            exact hbig⟩
        go_wp2_with (go_at_call 81; refine (isLong_byte_1.calls _ _ _ _).mono ?_; rintro e w' ⟨rfl, rfl⟩)
        go_round
        case rel => exact ⟨k + 1, by omega, by go_num, HA1⟩
        case measure => simp [intOf]; omega
    · have HF : Aside0 (isLong_byte_idx l0 w (.returned (.int .i64 (-1))) w) := ⟨⟨-1, rfl, by
        rw [show decide ((0 : Int) ≤ -1) = false from rfl]
        refine (List.any_eq_false.2 fun x hx => ?_).symm
        obtain ⟨j, hj, rfl⟩ := List.mem_iff_getElem.1 hx
        have := HA.out j hj (by omega)
        simp; omega, rfl⟩⟩
      go_wp2
      go_ret
      exact HF.out
theorem ContainsFunc_byte.calls (A0 : Option Addr) (c0 : Nat) (l0 : List (List Int)) (w : World) (hr0 : Kd.C (Kd.slice 5 (Kd.int .u8)) w A0 l0.length l0) :
    Calls Try.prog 80 #[.slice A0 l0.length c0, .func (.func 81) #[] #[]] w fun e w' => e = .returned (.bool (l0.any fun t => decide (65536 < (t.length : Int)))) ∧ w = w' := by
  go_enter Try.func80, Try.ntmps80
  go_wp2_with (go_at_call 98; refine (IndexFunc_byte.calls _ _ _ _ hr0).mono ?_; rintro e w' ⟨i, rfl, hi, rfl⟩)
  go_ret
  exact ⟨by rw [← hi]; simp, rfl⟩
def impl_isLong_byte.f (l0 : List (List Int)) : Option (Bool) := some (l0.any fun t => decide (65536 < (t.length : Int)))
theorem impl_isLong_byte.calls (A0 : Option Addr) (c0 : Nat) (l0 : List (List Int)) (r : Bool) (w : World) (hr0 : Kd.C (Kd.slice 5 (Kd.int .u8)) w A0 l0.length l0) (hc0 : l0.length ≤ c0) (h : impl_isLong_byte.f l0 = some r) :
    Calls Try.prog 49 #[.slice A0 l0.length c0] w fun e w' => e = .returned (.bool r) ∧ Drawn0 w w' := by
  unfold impl_isLong_byte.f at h
  injection h with h
  have H := Aside0.mk h
  clear h
  go_enter Try.func49, Try.ntmps49
  go_wp2_with (go_at_call 80; refine (ContainsFunc_byte.calls _ _ _ _ hr0).mono ?_; rintro e w' ⟨rfl, rfl⟩)
  go_ret
  exact ⟨by rw [← H.out]; rfl, Drawn0.refl _⟩

/-! ### impl_bytesOf: function 85 -/
def impl_bytesOf.l0 : Nat → Int → List Int → Int → Option (ByteArray)
  | 0, _, _, _ => none
  | k + 1, x0, x5, x6 => if x6 ≥ 0 then (if 0 ≤ x6 then (if x6 < (x5.length : Int) then (impl_bytesOf.l0 k (x0 / 256) (x5.set (x6 : Int).toNat ((x0) % 256)) (wrap64 (x6 - 1))) else (none)) else (none)) else (some (strOfNums x5))
def impl_bytesOf.f (k : Nat) (a0 : Int) (a1 : Int) : Option (ByteArray) := if 0 ≤ a1 then (if (a1 : Int).toNat ≤ 281474976710656 then (impl_bytesOf.l0 k a0 (List.replicate (a1 : Int).toNat 0) (wrap64 (a1 - 1))) else (none)) else (none)
theorem impl_bytesOf.mono_l : ∀ k, (∀ y0 y1 y2, LeO (impl_bytesOf.l0 k y0 y1 y2) (impl_bytesOf.l0 (k + 1) y0 y1 y2))
  | 0 => fun _ _ _ r h => by simp [impl_bytesOf.l0] at h
  | k + 1 => by
    have ih0 := impl_bytesOf.mono_l k
    · intro y0 y1 y2
      unfold impl_bytesOf.l0
      repeat' first
      | (with_reducible exact ih0 _ _ _)
      | (with_reducible exact LeO.refl _)
      | (with_reducible exact LeO.none _)
      | (with_reducible refine LeO.ite ?_ ?_)
      | (with_reducible refine LeO.bind ?_ (fun _ => ?_))
      | exact ih0 _ _ _
      | exact LeO.none _
      | refine LeO.ite ?_ ?_
      | refine LeO.bind ?_ (fun _ => ?_)
theorem impl_bytesOf.mono : ∀ a0 a1 k, LeO (impl_bytesOf.f k a0 a1) (impl_bytesOf.f (k + 1) a0 a1) := by
  intro a0 a1 k
  have ih0 := impl_bytesOf.mono_l k
  unfold impl_bytesOf.f
  repeat' first
      | (with_reducible exact ih0 _ _ _)
      | (with_reducible exact LeO.refl _)
      | (with_reducible exact LeO.none _)
      | (with_reducible refine LeO.ite ?_ ?_)
      | (with_reducible refine LeO.bind ?_ (fun _ => ?_))
      | exact ih0 _ _ _
      | exact LeO.none _
      | refine LeO.ite ?_ ?_
      | refine LeO.bind ?_ (fun _ => ?_)
set_option maxHeartbeats 8000000 in
set_option maxRecDepth 100000 in
theorem impl_bytesOf.calls (k : Nat) (a0 : Int) (a1 : Int) (r : ByteArray) (w : World) (h : impl_bytesOf.f k a0 a1 = some r) :
    Calls Try.prog 85 #[.int .i64 a0, .int .i64 a1] w fun e w' => e = .returned (.string r) ∧ Below w.heap.size w w' := by
  have HB := Aside0.mk (Below.refl w.heap.size w)
  have H : (if 0 ≤ a1 then (if (a1 : Int).toNat ≤ 281474976710656 then (impl_bytesOf.l0 k a0 (List.replicate (a1 : Int).toNat 0) (wrap64 (a1 - 1))) else (none)) else (none)) = some r := h
  clear h
  by_cases c3 : 0 ≤ a1
  · rw [if_pos c3] at H
    have c3b0 := eq_true c3
    have c3b1 : decide (0 ≤ a1) = true := decide_eq_true c3
    clear c3
    by_cases c4 : (a1 : Int).toNat ≤ 281474976710656
    · rw [if_pos c4] at H
      have c4b0 := eq_true c4
      have c4b1 : decide ((a1 : Int).toNat ≤ 281474976710656) = true := decide_eq_true c4
      clear c4
      obtain ⟨y114, hy114⟩ : ∃ y_ : List Int, y_ = (List.replicate (a1 : Int).toNat 0) := ⟨_, rfl⟩
      replace H : (impl_bytesOf.l0 k a0 y114 (wrap64 (a1 - 1))) = some r := by first | (rw [hy114]; with_reducible exact H) | (have H2_ := (Option.bind_some _ _).symm.trans H; rw [hy114]; with_reducible exact H2_) | (have H2_ := (Option.bind_some _ _).symm.trans H; with_reducible exact H2_) | with_reducible exact H | (rw [hy114]; exact H) | exact H
      have Ny114 := Aside0.mk hy114
      clear hy114
      have H' := Aside0.mk H
      clear H
      go_enter Try.func85, Try.ntmps85
      go_wp2_with (first | ((with_reducible refine gate_dst (N := 8) rfl ?_); refine Kd.R_make (Kd.int .u8) _ 5 rfl (N := 8) rfl 22 _ _ rfl a1 rfl rfl Try.underlying22 (.int .u8 0) 1 info5 rfl (by decide) (by omega) 0 (ok := fun _ => True) (okp := fun _ => True) rfl (fun _ hk => hk) trivial (of_decide_eq_true (by first | (with_reducible assumption) | assumption)) (Nat.le_trans (Nat.mul_le_mul_right _ (of_decide_eq_true (by first | (with_reducible assumption) | assumption) : a1.toNat ≤ 281474976710656)) (by omega)) (Below.refl _ _) (Nat.le_refl _) ?_; intro v115 w5 ho6 hb hg_ hnew_; clear hg_ hnew_; (first | rw [← Ny114.out] at ho6 | (simp only [Int.reduceToNat] at ho6; rw [← Ny114.out] at ho6)); have n0_ := Aside0.mk (Kd.R_lower ho6 (below_size (by repeat (first | (with_reducible first | exact HB.out | apply below_alloc | apply pw_below_drewN | apply below_drew1) | exact HB.out)))); have n1_ := Aside0.mk (below_step (by repeat (first | (with_reducible first | exact HB.out | apply below_alloc | apply pw_below_drewN | apply below_drew1) | exact HB.out)) hb); clear HB; have HO116 := n0_; have HB := n1_; clear n0_ n1_; clear hb ho6))
      go_loopg [0, 6] k (fun kq v0 v6 w' => ∃ (x0_1 : Int) (x5_1 : List Int) (x6_1 : Int), v0 = .int .i64 x0_1 ∧ v6 = .int .i64 x6_1 ∧ Aside0 (impl_bytesOf.l0 kq x0_1 x5_1 x6_1 = some r) ∧ Aside0 (kq ≤ k) ∧ Aside0 (Kd.R (Kd.int .u8) 5 w' w.heap.size (fun _ => True) v115 x5_1) ∧ Aside0 (Below w.heap.size w w'))
      case atStart => exact ⟨(a0), (y114), (wrap64 (a1 - 1)), (by first | rfl | (simp; done) | (simp [*]; done)), (by first | rfl | (simp; done) | (simp [*]; done)), H', ⟨Nat.le_refl _⟩, ⟨by (with_reducible repeat (first | apply Kd.R_alloc | apply Kd.R_drewN | apply Kd.R_drew)); exact HO116.out⟩, ⟨by repeat (first | (with_reducible first | exact HB.out | apply below_alloc | apply pw_below_drewN | apply below_drew1) | exact HB.out)⟩⟩
      case round =>
        clear H'
        try clear p2
        try clear c3
        try clear c3b0
        try clear c3b1
        try clear c4
        try clear c4b0
        try clear c4b1
        try clear p6
        obtain ⟨x0_1, x5_1, x6_1, rfl, rfl, HA, HK1, HO_5, HB⟩ := hrel
        cases gk with
        | zero => exact absurd HA.out (by simp [impl_bytesOf.l0])
        | succ k1 =>
          have H := HA.out
          clear HA
          simp only [impl_bytesOf.l0] at H
          by_cases c7 : x6_1 ≥ 0
          · rw [if_pos c7] at H
            have c7b0 : decide (0 ≤ x6_1) = true := decide_eq_true c7
            clear c7
            by_cases c8 : 0 ≤ x6_1
            · rw [if_pos c8] at H
              have c8b0 : decide (0 ≤ x6_1) = true := decide_eq_true c8
              clear c8
              by_cases c9 : x6_1 < (x5_1.length : Int)
              · rw [if_pos c9] at H
                have c9b0 : decide (x6_1 < (x5_1.length : Int)) = true := decide_eq_true c9
                clear c9
                obtain ⟨y117, hy117⟩ : ∃ y_ : List Int, y_ = (x5_1.set (x6_1 : Int).toNat ((x0_1) % 256)) := ⟨_, rfl⟩
                replace H : (impl_bytesOf.l0 k1 (x0_1 / 256) y117 (wrap64 (x6_1 - 1))) = some r := by first | (rw [hy117]; with_reducible exact H) | (have H2_ := (Option.bind_some _ _).symm.trans H; rw [hy117]; with_reducible exact H2_) | (have H2_ := (Option.bind_some _ _).symm.trans H; with_reducible exact H2_) | with_reducible exact H | (rw [hy117]; exact H) | exact H
                have Ny117 := Aside0.mk hy117
                clear hy117
                have H' := Aside0.mk H
                clear H
                have p10 : 0 ≤ (x6_1 : Int) := of_decide_eq_true (by first | (with_reducible assumption) | assumption)
                have q10 : (x6_1 : Int) < ((x5_1.length : Int) : Int) := of_decide_eq_true (by first | (with_reducible assumption) | assumption)
                obtain ⟨go10, co10, eo10, gb10, gl10, cl10, HG10⟩ := Kd.R_form HO_5.out (by omega)
                (first | cases eo10 | (injection eo10 with ea_ en_ ec_; (first | subst ea_ | (injection ea_ with ea_; subst ea_)); subst ec_; clear en_))
                have GB10 := Aside0.mk gb10
                have GG10 := Aside0.mk HG10
                clear gb10 gl10 HG10
                obtain ⟨hx10_0, hf10_0⟩ := Kd.R_celln 0 HO_5.out (x6_1 : Int) p10 q10
                replace p10 := eq_true p10
                replace q10 := eq_true q10
                have HP11 := Kd.R_putg HO_5.out (x6_1 : Int) ((x0_1) % 256)
                go_wp2_with (first | ((with_reducible refine gate_store (t := 5) (p := 19) rfl ?_); refine store_event (t := 5) (p := 19) (v := ?vo_w12) (w1 := (wr.setCell ⟨go10, (x6_1 : Int).toNat, none⟩ (.int .u8 ((x0_1) % 256)))) ?hg ?ho ?hn ?hr ?_; (case ho => rfl); (case hg => rfl); (case hn => rfl); (case hr => first | (go_simp; done) | (go_simp; rfl)); intro w12 hw; have hg : wr.grownBy w12 (some go10) := (by rw [hw]; exact HP11.2); have hp_ : Kd.R (Kd.int .u8) 5 w12 w.heap.size (fun _ => True) (.slice (some ⟨go10, 0, none⟩) x5_1.length co10) y117 := (by rw [hw, Ny117.out]; exact HP11.1); clear HP11; have n0_ := Aside0.mk (hp_); have n1_ := Aside0.mk ((by rw [hw]; exact below_set (HB.out) GB10.out : Below w.heap.size w w12)); clear HO_5; clear HB; have HO_5 := n0_; have HB := n1_; clear n0_ n1_; clear hg hw hp_))
                go_roundg k1
                case measure => have := HK1.out; omega
                case rel => exact ⟨(x0_1 / 256), (y117), (wrap64 (x6_1 - 1)), (by first | rfl | (simp; done) | (simp [*]; done)), (by first | rfl | (simp; done) | (simp [*]; done)), H', ⟨by have := HK1.out; omega⟩, ⟨by (with_reducible repeat (first | apply Kd.R_alloc | apply Kd.R_drewN | apply Kd.R_drew)); exact HO_5.out⟩, ⟨by repeat (first | (with_reducible first | exact HB.out | apply below_alloc | apply pw_below_drewN | apply below_drew1) | exact HB.out)⟩⟩
              · rw [if_neg c9] at H
                exact absurd H (by simp)
            · rw [if_neg c8] at H
              exact absurd H (by simp)
          · rw [if_neg c7] at H
            have c7b0 : decide (0 ≤ x6_1) = false := decide_eq_false c7
            clear c7
            obtain rfl := Option.some.inj H
            have hcv13 := own_string (P := Try.prog) Try.underlying22 Try.underlying5 Try.underlying9 (Kd.own_of_R HO_5.out)
            go_wp2
            go_ret
            exact ⟨by first | rfl | (simp [errW_none, errW_some] <;> rfl) | (simp [*, errW_none, errW_some] <;> rfl), by repeat (first | (with_reducible first | exact HB.out | apply below_alloc | apply pw_below_drewN | apply below_drew1) | exact HB.out)⟩
    · rw [if_neg c4] at H
      exact absurd H (by simp)
  · rw [if_neg c3] at H
    exact absurd H (by simp)

/-! ### behind impl_bytesOf -/
theorem bo4 (n : Int) : impl_bytesOf.f 6 n 4 = some (strOfNums (Sha.four n)) := by
  have w3 : wrap64 3 = 3 := by unfold wrap64; omega
  have w2 : wrap64 2 = 2 := by unfold wrap64; omega
  have w1 : wrap64 1 = 1 := by unfold wrap64; omega
  have w0 : wrap64 0 = 0 := by unfold wrap64; omega
  have wm : wrap64 (-1) = -1 := by unfold wrap64; omega
  have e : n / 65536 / 256 = n / 16777216 := by omega
  have e2 : n / 256 / 256 = n / 65536 := by omega
  simp [impl_bytesOf.f, impl_bytesOf.l0, w3, w2, w1, w0, wm, Sha.four, List.replicate, e, e2]
theorem bo8 (n : Int) : impl_bytesOf.f 10 n 8 = some (strOfNums (Sha.be8 n)) := by
  have w7 : wrap64 7 = 7 := by unfold wrap64; omega
  have w6 : wrap64 6 = 6 := by unfold wrap64; omega
  have w5 : wrap64 5 = 5 := by unfold wrap64; omega
  have w4 : wrap64 4 = 4 := by unfold wrap64; omega
  have w3 : wrap64 3 = 3 := by unfold wrap64; omega
  have w2 : wrap64 2 = 2 := by unfold wrap64; omega
  have w1 : wrap64 1 = 1 := by unfold wrap64; omega
  have w0 : wrap64 0 = 0 := by unfold wrap64; omega
  have wm : wrap64 (-1) = -1 := by unfold wrap64; omega
  have e2 : n / 256 / 256 = n / 65536 := by omega
  have e3 : n / 65536 / 256 = n / 16777216 := by omega
  have e4 : n / 16777216 / 256 = n / 4294967296 := by omega
  have e5 : n / 4294967296 / 256 = n / 1099511627776 := by omega
  have e6 : n / 1099511627776 / 256 = n / 281474976710656 := by omega
  have e7 : n / 281474976710656 / 256 = n / 72057594037927936 := by omega
  simp [impl_bytesOf.f, impl_bytesOf.l0, w7, w6, w5, w4, w3, w2, w1, w0, wm, List.replicate, Sha.be8, e2, e3, e4, e5, e6, e7]
theorem bo4_calls (n : Int) (w : World) : Calls Try.prog 85 #[.int .i64 n, .int .i64 4] w fun e w' => e = .returned (.string (strOfNums (Sha.four n))) ∧ Below w.heap.size w w' := impl_bytesOf.calls 6 n 4 _ w (bo4 n)
theorem bo8_calls (n : Int) (w : World) : Calls Try.prog 85 #[.int .i64 n, .int .i64 8] w fun e w' => e = .returned (.string (strOfNums (Sha.be8 n))) ∧ Below w.heap.size w w' := impl_bytesOf.calls 10 n 8 _ w (bo8 n)

/-! ### impl_rounds: function 89 -/
-- HAND rounds=0 making=1
theorem info64w : (Try.prog.info? 95).map (·.size) = some 64 := by kernel_rfl
set_option maxHeartbeats 2000000 in
set_option maxRecDepth 100000 in
theorem rounds_calls (W : World) : Calls Try.prog 89 #[] W fun e w' => e = .returned (arr32 Sha.K) ∧ Below W.heap.size W w' := by
  obtain ⟨KK, hKK⟩ : ∃ KK, KK = (nums .u32 Sha.K).toArray := ⟨_, rfl⟩
  have HK := Aside0.mk hKK
  have HS : Aside0 (KK.size = 64) := ⟨by rw [hKK]; rfl⟩
  have HO : Aside0 (KK.all (·.oneCell') = true) := ⟨by rw [hKK]; exact nums_one _ _⟩
  unfold arr32
  rw [← hKK]
  clear hKK
  have G0 := Aside0.mk (blk_new W (Obj.cells (nums .u32 (List.replicate 64 0)).toArray 95 (0, 0)))
  have GR := Aside0.mk (setRow_heap _ W.heap.size _ KK _ _ G0.out)
  have HB : Aside0 (Below W.heap.size W ((W.alloc (Obj.cells (nums .u32 (List.replicate 64 0)).toArray 95 (0, 0))).setRow W.heap.size KK)) := ⟨below_row (below_alloc (Below.refl W.heap.size W) _) (by omega) _⟩
  go_enter Try.func89, Try.ntmps89
  go_wp2_with (first
    | ((with_reducible refine gate_dst (N := 1) rfl ?_); refine wpList_build_is (by rfl) 95 _ (by rfl) KK (by rw [HK.out]; kernel_rfl) ?_)
    | ((with_reducible refine gate_ (.store 95 (.tmp 0) (.tmp 1)) rfl ?_); refine wpList_store_row (by rfl) 95 (.tmp 0) (.tmp 1) (by rfl) W.heap.size KK (by rfl) (by rfl) 95 _ G0.out (by rw [HS.out]; exact info64w) (by rw [HS.out]; rfl) HO.out ?_))
  refine bodyPost_ret (v := .agg KK) ?_ rfl ?_
  · exact results_cell_row (fn := Try.f89) (p := 0) (ty := 95) Try.results89 _ _ _ 95 _ (0, 0) _ (by rfl) GR.out Try.underlying95 rfl (by rw [HS.out]; exact info64w)
  · exact ⟨rfl, HB.out⟩

/-! ### slices_Chunk_byte_byte: function 90 -/
-- HAND rounds=0 making=1
/-- the boxes of an iterator over cuts lie as they lay -/
def KpB (Bs Bn : Nat) (W W' : World) : Prop := ∀ a : Addr, a.block = Bs ∨ a.block = Bn → W'.cell? a = W.cell? a
theorem KpB.refl (Bs Bn : Nat) (W : World) : KpB Bs Bn W W := fun _ _ => rfl
theorem KpB.trans {Bs Bn : Nat} {A B C : World} (h : KpB Bs Bn A B) (k : KpB Bs Bn B C) : KpB Bs Bn A C := fun a ha => (k a ha).trans (h a ha)
theorem KpB.put {Bs Bn b : Nat} (hs : Bs < b) (hn : Bn < b) (W : World) (l : Nat) (o o' : Obj) (hl : b ≤ l) (_ : W.heap[l]? = some o) (_ : o.isCells = false) (_ : o.isWalk = false) : KpB Bs Bn W (W.putObj l o') := fun a ha => by
  have hne : a.block ≠ l := by omega
  exact World.cell?_of_block (World.putObj_heap_other hne)
section
attribute [local go_sem] Oper.semAt_some
set_option maxRecDepth 100000 in
set_option maxHeartbeats 2000000 in
theorem chunk1_in (F : Fence) (n : Nat) (hF : F.fn 104) (hro : F.round = none) (hn : 1 ≤ n) (l Bs Bn : Nat) (ad : Addr) (q m c : Nat) (hq : 0 < q) (hc : q * m ≤ c) (hreach : q * m ≤ 140737488355328) (J Jx : List (Fin m) → World → Prop) (hJd : ∀ s V, J s V → J s V.drew)
    (hY : ∀ pre x W, J pre W → pre.length < m → YieldAt F (n - 1) Try.prog l #[.slice (some (ad.add (q * x.1))) q q] W fun e W' =>
      (e = .returned (.bool true) ∧ J (pre ++ [x]) W' ∧ KpB Bs Bn W W') ∨ (e = .returned (.bool false) ∧ Jx (pre ++ [x]) W'))
    (W : World) (hBs : W.cell? ⟨Bs, 0, none⟩ = some (.slice (some ad) (q * m) c)) (hBn : W.cell? ⟨Bn, 0, none⟩ = some (.int .i64 (q : Int))) (h0 : J [] W) :
    CallsIn F n Try.prog 104 #[.func (.yield l) #[] #[], .pointer (some ⟨Bs, 0, none⟩), .pointer (some ⟨Bn, 0, none⟩)] W fun e W' => (∃ v, e = .returned v) ∧
      ((∃ ys : List (Fin m), ys.map (·.1) = List.range m ∧ J ys W') ∨ (∃ pre : List (Fin m), (∃ k, k ≤ m ∧ pre.map (·.1) = List.range k) ∧ Jx pre W')) := by
  refine callsIn_of_wp Try.func104 rfl hF ?_ hro
  simp only [Try.ntmps104, List.size_toArray, List.length_cons, List.length_nil, Nat.reduceAdd, Nat.reduceSub, Array.replicate_succ, Array.replicate_zero, List.push_toArray, List.append_toArray, List.nil_append, List.cons_append]
  obtain ⟨L, hL⟩ : ∃ L, L = q * m := ⟨_, rfl⟩
  rw [← hL] at hBs hc hreach
  have HL := Aside0.mk hL
  clear hL
  have HBs := Aside0.mk hBs
  have HBn := Aside0.mk hBn
  clear hBs hBn
  gi_wp2
  gi_loopw [4] (fun i wr => ∃ (k j : Nat) (pre : List (Fin m)), k ≤ m ∧ i = .int .i64 (j : Int) ∧ Aside0 (j = q * k) ∧ Aside0 (pre.map (·.1) = List.range k) ∧ J pre wr ∧ Aside0 (KpB Bs Bn W wr)) (fun i _ => L - (intOf i).toNat)
  case atStart => exact ⟨0, 0, [], Nat.zero_le _, rfl, ⟨by simp⟩, ⟨rfl⟩, h0, ⟨KpB.refl _ _ _⟩⟩
  case round =>
    obtain ⟨k, j, pre, hk, rfl, hj, hpre, hJs, hnx⟩ := hrel
    have cS : wr.cell? ⟨Bs, 0, none⟩ = some (.slice (some ad) L c) := (hnx.out _ (.inl rfl)).trans HBs.out
    have cN : wr.cell? ⟨Bn, 0, none⟩ = some (.int .i64 (q : Int)) := (hnx.out _ (.inr rfl)).trans HBn.out
    have j0 : (0 : Int) ≤ (j : Int) := Int.natCast_nonneg j
    have q0 : (0 : Int) < (q : Int) := by omega
    by_cases hlt : k < m
    · have hjq : j + q ≤ L := by
        rw [hj.out, HL.out, ← Nat.mul_succ]
        exact Nat.mul_le_mul_left q hlt
      obtain ⟨fn, tmps, assign, body, hy, hR⟩ := hY pre ⟨k, hlt⟩ wr.drew (hJd _ _ hJs) (by rw [← List.length_map (f := fun x : Fin m => x.1), hpre.out, List.length_range]; exact hlt)
      have hy2 : (Instr.yield l #[.slice (some (ad.add j)) q q]).run Try.prog wr.drew = .ok (.round l fn tmps assign body) wr.drew := by rw [hj.out]; exact hy
      clear hy
      have hd : decide ((j : Int) < (L : Int)) = true := decide_eq_true (by omega)
      have hd2 : decide (j < L) = true := decide_eq_true (by omega)
      gi_wp2
      gi_region
      all_goals gi_wp2
      all_goals
        refine hR.mono ?_
        rintro e W3 (⟨rfl, hJ3, hk3⟩ | ⟨rfl, hJx3⟩)
        · have cN3 : W3.cell? ⟨Bn, 0, none⟩ = some (.int .i64 (q : Int)) := (hk3 _ (.inr rfl)).trans cN
          gi_wp2
          go_roundw
          case rel =>
            refine ⟨k + 1, j + q, pre ++ [⟨k, hlt⟩], by omega, by go_num, ⟨by rw [hj.out, Nat.mul_succ]⟩, ⟨by rw [List.range_succ, List.map_append, hpre.out]; rfl⟩, hJ3, ⟨hnx.out.trans hk3⟩⟩
          case measure => simp [intOf]; omega
        · gi_wp2
          refine bodyPost_ret (results_none rfl _ _ _) rfl ?_
          exact ⟨⟨_, rfl⟩, .inr ⟨_, ⟨k + 1, by omega, by rw [List.range_succ, List.map_append, hpre.out]; rfl⟩, hJx3⟩⟩
    · obtain rfl : k = m := by omega
      have e1 : j = L := by rw [hj.out, HL.out]
      have hd : decide ((j : Int) < (L : Int)) = false := decide_eq_false (by omega)
      have hd2 : decide (j < L) = false := decide_eq_false (by omega)
      clear e1
      gi_wp2
      go_end0
      exact ⟨⟨_, rfl⟩, .inl ⟨_, hpre.out, hJs⟩⟩
set_option maxRecDepth 100000 in
set_option maxHeartbeats 1000000 in
/-- no round where nothing is to be cut -/
theorem chunk1_nil_in (F : Fence) (n : Nat) (hF : F.fn 104) (hro : F.round = none) (l Bs Bn : Nat) {α : Type} (A0 : Option Addr) (c : Nat) (J : List α → World → Prop) (W : World) (hBs : W.cell? ⟨Bs, 0, none⟩ = some (.slice A0 0 c)) (h0 : J [] W) :
    CallsIn F n Try.prog 104 #[.func (.yield l) #[] #[], .pointer (some ⟨Bs, 0, none⟩), .pointer (some ⟨Bn, 0, none⟩)] W fun e W' => (∃ v, e = .returned v) ∧ J [] W' := by
  refine callsIn_of_wp Try.func104 rfl hF ?_ hro
  simp only [Try.ntmps104, List.size_toArray, List.length_cons, List.length_nil, Nat.reduceAdd, Nat.reduceSub, Array.replicate_succ, Array.replicate_zero, List.push_toArray, List.append_toArray, List.nil_append, List.cons_append]
  have HBs := Aside0.mk hBs
  clear hBs
  gi_wp2
  gi_loopw [4] (fun i wr => i = .int .i64 0 ∧ J [] wr ∧ Aside0 (wr.cell? ⟨Bs, 0, none⟩ = some (.slice A0 0 c))) (fun _ _ => 0)
  case atStart => exact ⟨rfl, h0, HBs⟩
  case round =>
    obtain ⟨rfl, hJs, hcs⟩ := hrel
    have hB := hcs.out
    gi_wp2
    go_end0
    exact ⟨⟨_, rfl⟩, hJs⟩
end
/-- the cuts of a row, in order; each round keeps the iterator's boxes -/
theorem chunk_stops (F : Fence) (n : Nat) (hF : F.fn 104) (hro : F.round = none) (hn : 1 ≤ n) (Bs Bn : Nat) (ad : Addr) (q m c : Nat) (hq : 0 < q) (hc : q * m ≤ c) (hreach : q * m ≤ 140737488355328) (w : World) (hs : Bs < w.heap.size) (hb : Bn < w.heap.size)
    (hBs : w.cell? ⟨Bs, 0, none⟩ = some (.slice (some ad) (q * m) c)) (hBn : w.cell? ⟨Bn, 0, none⟩ = some (.int .i64 (q : Int))) :
    SeqStopsK F n Try.prog 104 #[.pointer (some ⟨Bs, 0, none⟩), .pointer (some ⟨Bn, 0, none⟩)] (fun x : Fin m => #[Value.slice (some (ad.add (q * x.1))) q q]) (KpB Bs Bn) (fun ys => ys.map (·.1) = List.range m) (fun pre => ∃ k, k ≤ m ∧ pre.map (·.1) = List.range k) m w := fun l J Jx W hW hJ _ hY h0 =>
  chunk1_in F n hF hro hn l Bs Bn ad q m c hq hc hreach J Jx (fun s V hV => hJ s V V.drew none hV ⟨rfl, rfl, rfl, Nat.le_refl _, fun _ _ _ => rfl⟩ (fun r e => by cases e)) hY W ((hW.cell (p := ⟨Bs, 0, none⟩) hs).trans hBs) ((hW.cell (p := ⟨Bn, 0, none⟩) hb).trans hBn) h0
theorem chunk_stops_nil (F : Fence) (n : Nat) (hF : F.fn 104) (hro : F.round = none) (Bs Bn : Nat) (A0 : Option Addr) (q c : Nat) (encs : Fin 0 → Array Value) (w : World) (hs : Bs < w.heap.size)
    (hBs : w.cell? ⟨Bs, 0, none⟩ = some (.slice A0 0 c)) :
    SeqStopsK F n Try.prog 104 #[.pointer (some ⟨Bs, 0, none⟩), .pointer (some ⟨Bn, 0, none⟩)] encs (KpB Bs Bn) (fun ys => ys.map (·.1) = List.range 0) (fun pre => ∃ k, k ≤ 0 ∧ pre.map (·.1) = List.range k) 0 w := fun l J Jx W hW hJ _ hY h0 =>
  (chunk1_nil_in F n hF hro l Bs Bn A0 c J W ((hW.cell (p := ⟨Bs, 0, none⟩) hs).trans hBs) h0).mono fun e W' ⟨he, hj⟩ => ⟨he, .inl ⟨_, rfl, hj⟩⟩
/-- slices.Chunk itself: two boxes -/
theorem chunk_calls (a : Option Addr) (len cap : Nat) (q : Int) (hq : 1 ≤ q) (w : World) :
    Calls Try.prog 90 #[.slice a len cap, .int .i64 q] w fun e w' => e = .returned (.func (.func 104) #[] #[.pointer (some ⟨w.heap.size, 0, none⟩), .pointer (some ⟨w.heap.size + 1, 0, none⟩)]) ∧ w' = (w.alloc (.cells #[.slice a len cap] 22)).alloc (.cells #[.int .i64 q] 3) := by
  have hd : decide (q < 1) = false := decide_eq_false (by omega)
  go_enter Try.func90, Try.ntmps90
  go_wp2
  go_ret
  exact ⟨rfl, rfl⟩

/-! ### bits_RotateLeft32: function 120 -/
def bits_RotateLeft32.f (a0 : Int) (a1 : Int) : Option (Int) := if 0 ≤ (Go.bits .and .u64 (IntKind.u64.wrap (a1)) 31) then (if 0 ≤ (IntKind.u64.wrap (32 - (Go.bits .and .u64 (IntKind.u64.wrap (a1)) 31))) then (some (Go.bits .or .u32 (shl .u32 a0 (Go.bits .and .u64 (IntKind.u64.wrap (a1)) 31)) (shr .u32 a0 (IntKind.u64.wrap (32 - (Go.bits .and .u64 (IntKind.u64.wrap (a1)) 31)))))) else (none)) else (none)
set_option maxHeartbeats 8000000 in
set_option maxRecDepth 100000 in
theorem bits_RotateLeft32.calls (a0 : Int) (a1 : Int) (r : Int) (w : World) (h : bits_RotateLeft32.f a0 a1 = some r) :
    Calls Try.prog 120 #[.int .u32 a0, .int .i64 a1] w fun e w' => e = .returned (.int .u32 r) ∧ Drawn0 w w' := by
  have H : (if 0 ≤ (Go.bits .and .u64 (IntKind.u64.wrap (a1)) 31) then (if 0 ≤ (IntKind.u64.wrap (32 - (Go.bits .and .u64 (IntKind.u64.wrap (a1)) 31))) then (some (Go.bits .or .u32 (shl .u32 a0 (Go.bits .and .u64 (IntKind.u64.wrap (a1)) 31)) (shr .u32 a0 (IntKind.u64.wrap (32 - (Go.bits .and .u64 (IntKind.u64.wrap (a1)) 31)))))) else (none)) else (none)) = some r := h
  clear h
  obtain ⟨ji3, hji3⟩ : ∃ j_ : Int, (Go.bits .and .u64 (IntKind.u64.wrap (a1)) 31) = j_ := ⟨_, rfl⟩
  replace H : (if 0 ≤ (ji3) then (if 0 ≤ (IntKind.u64.wrap (32 - (ji3))) then (some (Go.bits .or .u32 (shl .u32 a0 (ji3)) (shr .u32 a0 (IntKind.u64.wrap (32 - (ji3)))))) else (none)) else (none)) = some r := by first | (rw [hji3] at H; exact H) | (simp only [hji3] at H ⊢; exact H)
  by_cases c4 : 0 ≤ (ji3)
  · rw [if_pos c4] at H
    have c4b0 := eq_true c4
    have c4b1 : decide (0 ≤ (ji3)) = true := decide_eq_true c4
    clear c4
    obtain ⟨ji5, hji5⟩ : ∃ j_ : Int, (shl .u32 a0 (ji3)) = j_ := ⟨_, rfl⟩
    replace H : (if 0 ≤ (IntKind.u64.wrap (32 - (ji3))) then (some (Go.bits .or .u32 (ji5) (shr .u32 a0 (IntKind.u64.wrap (32 - (ji3)))))) else (none)) = some r := by first | (rw [hji5] at H; exact H) | (simp only [hji5] at H ⊢; exact H)
    have hji5_ : (IntKind.u32.wrap (a0 * 2 ^ min (ji3).toNat 32)) = ji5 := hji5
    have hji5z : (ji3) ≤ 32 → (IntKind.u32.wrap (a0 * 2 ^ (ji3).toNat)) = ji5 := shl_small hji5
    obtain ⟨ji6, hji6⟩ : ∃ j_ : Int, (IntKind.u64.wrap (32 - (ji3))) = j_ := ⟨_, rfl⟩
    replace H : (if 0 ≤ (ji6) then (some (Go.bits .or .u32 (ji5) (shr .u32 a0 (ji6)))) else (none)) = some r := by first | (rw [hji6] at H; exact H) | (simp only [hji6] at H ⊢; exact H)
    by_cases c7 : 0 ≤ (ji6)
    · rw [if_pos c7] at H
      have c7b0 := eq_true c7
      have c7b1 : decide (0 ≤ (ji6)) = true := decide_eq_true c7
      clear c7
      obtain ⟨ji8, hji8⟩ : ∃ j_ : Int, (shr .u32 a0 (ji6)) = j_ := ⟨_, rfl⟩
      replace H : (some (Go.bits .or .u32 (ji5) (ji8))) = some r := by first | (rw [hji8] at H; exact H) | (simp only [hji8] at H ⊢; exact H)
      have hji8_ : (a0 / 2 ^ min (ji6).toNat 32) = ji8 := hji8
      have hji8z : (ji6) ≤ 32 → (a0 / 2 ^ (ji6).toNat) = ji8 := shr_small hji8
      obtain rfl := Option.some.inj H
      go_enter Try.func120, Try.ntmps120
      go_wp2
      go_ret
      exact ⟨by first | rfl | (simp; done) | (simp only [← hji3, ← hji5, ← hji6, ← hji8] <;> (first | rfl | simp)) | (simp [*]; done), by repeat (first | exact Drawn0.refl _ | apply Drawn0.step)⟩
    · rw [if_neg c7] at H
      exact absurd H (by simp)
  · rw [if_neg c4] at H
    exact absurd H (by simp)

/-! ### impl_right: function 105 -/
def impl_right.f (a0 : Int) (a1 : Int) : Option (Int) := (bits_RotateLeft32.f a0 (wrap64 (-a1))).bind fun t118 => (some t118)
set_option maxHeartbeats 8000000 in
set_option maxRecDepth 100000 in
theorem impl_right.calls (a0 : Int) (a1 : Int) (r : Int) (w : World) (h : impl_right.f a0 a1 = some r) :
    Calls Try.prog 105 #[.int .u32 a0, .int .i64 a1] w fun e w' => e = .returned (.int .u32 r) ∧ Drawn0 w w' := by
  have H : ((bits_RotateLeft32.f a0 (wrap64 (-a1))).bind fun t118 => (some t118)) = some r := h
  clear h
  replace H := Option.bind_eq_some_iff.mp H
  obtain ⟨t118, A30, H⟩ := H
  replace H : (some t118) = some r := H
  have A3 := Aside0.mk A30
  clear A30
  obtain rfl := Option.some.inj H
  go_enter Try.func105, Try.ntmps105
  go_wp2_with (first | ((with_reducible refine gate_callee (f := 120) rfl ?_); refine goesL_ (some 8) rfl rfl Try.func120 (by kernel_rfl) rfl #[.int .u32 a0, .int .i64 (wrap64 (-a1))] rfl (by (try simp only [List.map_toArray, List.map_cons, List.map_nil]); first | done | rfl | (simp only [List.length_drop, List.length_take]; rfl)) ?_; (with_reducible refine (bits_RotateLeft32.calls a0 (wrap64 (-a1)) t118 _ A3.out).mono ?_); rintro e w' ⟨rfl, ⟨nd, rfl⟩⟩; refine ⟨_, rfl, ?_⟩))
  go_ret
  exact ⟨by first | rfl | (simp; done) | (simp [*]; done), by repeat (first | exact Drawn0.refl _ | apply Drawn0.step)⟩

/-! ### behind impl_right -/
theorem bits_or_comm (k : IntKind) (a b : Int) : Go.bits .or k a b = Go.bits .or k b a := by
  simp only [Go.bits, BitVec.or_comm]
theorem right_is (x n : Int) (h1 : 1 ≤ n) (h2 : n ≤ 31) : impl_right.f x n = some (Sha.rr x n.toNat) := by
  obtain ⟨m, rfl⟩ := Int.eq_ofNat_of_zero_le (show 0 ≤ n by omega)
  have m1 : 1 ≤ m := by omega
  have m2 : m < 32 := by omega
  have e1 : ∀ m : Nat, m < 32 → 1 ≤ m → Go.bits .and .u64 (IntKind.u64.wrap (wrap64 (-(m : Int)))) 31 = ((32 - m : Nat) : Int) := by decide +kernel
  have e2 : ∀ m : Nat, m < 32 → 1 ≤ m → IntKind.u64.wrap (32 - ((32 - m : Nat) : Int)) = (m : Int) := by decide +kernel
  have b : min (32 - m) IntKind.u32.bits = 32 - m := Nat.min_eq_left (by show 32 - m ≤ 32; omega)
  have b2 : min m IntKind.u32.bits = m := Nat.min_eq_left (by show m ≤ 32; omega)
  unfold impl_right.f bits_RotateLeft32.f
  rw [e1 m m2 m1, e2 m m2 m1, if_pos (Int.natCast_nonneg _), if_pos (Int.natCast_nonneg _), Option.bind_some]
  unfold shl shr Sha.rr
  rw [Int.toNat_natCast, Int.toNat_natCast, b, b2, bits_or_comm]
theorem right_q (x n : Int) (h1 : 1 ≤ n) (h2 : n ≤ 31) (w : World) (m : Nat) :
    Calls Try.prog 105 #[.int .u32 x, .int .i64 n] (w.drewN m) fun e w' => e = .returned (.int .u32 (Sha.rr x n.toNat)) ∧ ∃ q, w' = w.drewN q :=
  Calls.quiet_of ((impl_right.calls x n _ _ (right_is x n h1 h2)).mono fun _ _ ⟨he, ⟨hd⟩⟩ => ⟨he, hd⟩)
theorem right_q2 (x n : Int) (h1 : 1 ≤ n) (h2 : n ≤ 31) (w : World) (a m : Nat) :
    Calls Try.prog 105 #[.int .u32 x, .int .i64 n] (w.drewN (a + m)) fun e w' => e = .returned (.int .u32 (Sha.rr x n.toNat)) ∧ ∃ q, w' = w.drewN (a + q) :=
  (impl_right.calls x n _ _ (right_is x n h1 h2)).mono fun _ _ ⟨he, ⟨q, hd⟩⟩ => ⟨he, m + q, by rw [hd, World.drewN_drewN, Nat.add_assoc]⟩
theorem right_calls (x n : Int) (h1 : 1 ≤ n) (h2 : n ≤ 31) (w : World) :
    Calls Try.prog 105 #[.int .u32 x, .int .i64 n] w fun e w' => e = .returned (.int .u32 (Sha.rr x n.toNat)) ∧ Drawn0 w w' := impl_right.calls x n _ _ (right_is x n h1 h2)

/-! ### impl_turn: function 91 -/
-- HAND rounds=0 making=1
theorem info8w : (Try.prog.info? 94).map (·.size) = some 8 := by kernel_rfl
theorem V8l_len (v : Sha.V8) : (nums IntKind.u32 v.l).toArray.size = 8 := rfl
set_option maxHeartbeats 8000000 in
set_option maxRecDepth 100000 in
theorem impl_turn_in (v : Sha.V8) (k w : List Int) (W : World) (hk : k.length = 64) (hw : w.length = 64) :
    Calls Try.prog 91 #[arr32 v.l, arr32 k, arr32 w] W fun e w' => e = .returned (arr32 (Sha.turn k w v).l) ∧ Below W.heap.size W w' := by
  have HK := Aside0.mk hk
  have HW := Aside0.mk hw
  have HLv : Aside0 ((nums IntKind.u32 v.l).toArray.size = 8) := ⟨rfl⟩
  clear hk hw
  unfold arr32
  go_enter Try.func91, Try.ntmps91
  go_wp2_with (first
    | ((with_reducible refine gate_ (.load 94 (.tmp 3)) rfl ?_); refine wpList_load_row (by rfl) 94 (.tmp 3) (by rfl) W.heap.size (by rfl) 94 (nums IntKind.u32 v.l).toArray (0, 0) _ (blk_alloc (blk_alloc (blk_alloc (blk_new W _) _) _) _) Try.underlying94 rfl (by rw [HLv.out]; exact info8w) ?_)
    | ((with_reducible refine gate_ (.store 94 (.tmp 7) (.tmp 14)) rfl ?_); refine wpList_store_row (by rfl) 94 (.tmp 7) (.tmp 14) (by rfl) (W.heap.size + 1 + 1 + 1 + 1) (nums IntKind.u32 v.l).toArray (by rfl) (by rfl) 94 _ (blk_new5 W _ _ _ _ _) (by rw [HLv.out]; exact info8w) (by rfl) (nums_one _ _) ?_))
  go_loopw [15] (fun i wr => ∃ j : Nat, j ≤ 64 ∧ i = .int .i64 j ∧ Aside0 (wr.heap[W.heap.size]? = some (.cells (nums .u32 v.l).toArray 94 (0, 0))) ∧ Aside0 (wr.heap[W.heap.size + 1]? = some (.cells (nums .u32 k).toArray 95 (0, 0)))
      ∧ Aside0 (wr.heap[W.heap.size + 1 + 1]? = some (.cells (nums .u32 w).toArray 95 (0, 0))) ∧ Aside0 (wr.heap[W.heap.size + 1 + 1 + 1]? = some (.cells (nums .u32 [0, 0, 0, 0, 0, 0, 0, 0]).toArray 94 (0, 0)))
      ∧ Aside0 (wr.heap[W.heap.size + 1 + 1 + 1 + 1]? = some (.cells (nums .u32 (Sha.rnd k w v j).l).toArray 94 (0, 0))) ∧ Aside0 (Below W.heap.size W wr)) (fun i _ => 64 - (intOf i).toNat)
  case atStart =>
    refine ⟨0, by omega, rfl, ⟨?_⟩, ⟨?_⟩, ⟨?_⟩, ⟨?_⟩, ⟨?_⟩, ⟨?_⟩⟩
    · exact (setRow_other _ _ _ _ (by omega)).trans (blk_alloc (blk_alloc (blk_alloc (blk_alloc (blk_new W _) _) _) _) _)
    · exact (setRow_other _ _ _ _ (by omega)).trans (blk_alloc (blk_alloc (blk_alloc (blk_new2 W _ _) _) _) _)
    · exact (setRow_other _ _ _ _ (by omega)).trans (blk_alloc (blk_alloc (blk_new3 W _ _ _) _) _)
    · exact (setRow_other _ _ _ _ (by omega)).trans (blk_alloc (blk_new4 W _ _ _ _) _)
    · exact setRow_heap _ _ _ _ _ _ (blk_new5 W _ _ _ _ _)
    · exact below_row (below_alloc (below_alloc (below_alloc (below_alloc (below_alloc (Below.refl W.heap.size W) _) _) _) _) _) (by omega) _
  case round =>
    obtain ⟨i, hi, rfl, G0, G1, G2, G3, G4, HB⟩ := hrel
    by_cases hlt : i < 64
    · have i0 : (0 : Int) ≤ (i : Int) := Int.natCast_nonneg i
      have i1 : (i : Int) < 64 := by omega
      have hd : decide ((i : Int) < 64) = true := decide_eq_true i1
      obtain ⟨u, hu⟩ : ∃ u, u = Sha.rnd k w v i := ⟨_, rfl⟩
      have HS : Aside0 (Sha.rnd k w v (i + 1) = Sha.step u (k.getD i 0) (w.getD i 0)) := ⟨by rw [hu]; rfl⟩
      rw [← hu] at G4
      clear hu
      obtain ⟨xa, xb, xc, xd, xe, xf, xg, xh⟩ := u
      have c0 : wr.cell? ⟨W.heap.size + 1 + 1 + 1 + 1, 0, none⟩ = some (.int .u32 xa) := blk_cell G4.out 0
      have c1 : wr.cell? ⟨W.heap.size + 1 + 1 + 1 + 1, 1, none⟩ = some (.int .u32 xb) := blk_cell G4.out 1
      have c2 : wr.cell? ⟨W.heap.size + 1 + 1 + 1 + 1, 2, none⟩ = some (.int .u32 xc) := blk_cell G4.out 2
      have c3 : wr.cell? ⟨W.heap.size + 1 + 1 + 1 + 1, 3, none⟩ = some (.int .u32 xd) := blk_cell G4.out 3
      have c4 : wr.cell? ⟨W.heap.size + 1 + 1 + 1 + 1, 4, none⟩ = some (.int .u32 xe) := blk_cell G4.out 4
      have c5 : wr.cell? ⟨W.heap.size + 1 + 1 + 1 + 1, 5, none⟩ = some (.int .u32 xf) := blk_cell G4.out 5
      have c6 : wr.cell? ⟨W.heap.size + 1 + 1 + 1 + 1, 6, none⟩ = some (.int .u32 xg) := blk_cell G4.out 6
      have c7 : wr.cell? ⟨W.heap.size + 1 + 1 + 1 + 1, 7, none⟩ = some (.int .u32 xh) := blk_cell G4.out 7
      obtain ⟨ki, hki⟩ : ∃ x, x = k.getD i 0 := ⟨_, rfl⟩
      obtain ⟨wi, hwi⟩ : ∃ x, x = w.getD i 0 := ⟨_, rfl⟩
      have cK : wr.cell? ⟨W.heap.size + 1, i, none⟩ = some (.int .u32 ki) := by
        rw [blk_cell G1.out i, hki]
        exact nums_at? _ _ _ _ (by rw [List.getD_eq_getElem?_getD, List.getElem?_eq_getElem (by have := HK.out; omega)]; rfl)
      have cW : wr.cell? ⟨W.heap.size + 1 + 1, i, none⟩ = some (.int .u32 wi) := by
        rw [blk_cell G2.out i, hwi]
        exact nums_at? _ _ _ _ (by rw [List.getD_eq_getElem?_getD, List.getElem?_eq_getElem (by have := HW.out; omega)]; rfl)
      rw [← hki, ← hwi] at HS
      clear hki hwi
      go_wp2
      go_quiet (fail)
      go_wp2
      go_quiet ((go_at_call 105; first | exact right_q2 _ _ (by decide) (by decide) _ _ _ | exact right_q _ _ (by decide) (by decide) _ _))
      go_wp2
      go_quiet ((go_at_call 105; first | exact right_q2 _ _ (by decide) (by decide) _ _ _ | exact right_q _ _ (by decide) (by decide) _ _))
      go_wp2_with ((with_reducible refine gate_ (.store 94 (.tmp 7) (.tmp 93)) rfl ?_); refine wpList_store_row (by rfl) 94 (.tmp 7) (.tmp 93) (by rfl) (W.heap.size + 1 + 1 + 1 + 1) _ (by rfl) (by rfl) 94 _ (blk_drewN G4.out _) (by exact info8w) (by rfl) (by simp [Value.oneCell']) ?_)
      go_roundw
      case rel =>
        refine ⟨i + 1, by omega, by go_num, ⟨?_⟩, ⟨?_⟩, ⟨?_⟩, ⟨?_⟩, ⟨?_⟩, ⟨?_⟩⟩
        · exact (setRow_other _ _ _ _ (by omega)).trans (blk_drewN G0.out _)
        · exact (setRow_other _ _ _ _ (by omega)).trans (blk_drewN G1.out _)
        · exact (setRow_other _ _ _ _ (by omega)).trans (blk_drewN G2.out _)
        · exact (setRow_other _ _ _ _ (by omega)).trans (blk_drewN G3.out _)
        · rw [HS.out]
          refine (setRow_heap _ _ _ _ _ _ (blk_drewN G4.out _)).trans ?_
          rw [Sha.step_l]
          rfl
        · exact below_row (pw_below_drewN HB.out _) (by omega) _
      case measure => simp [intOf]; omega
    · have hd : decide ((i : Int) < 64) = false := decide_eq_false (by omega)
      have e64 : Sha.rnd k w v i = Sha.rnd k w v 64 := by
        obtain rfl : i = 64 := by omega
        rfl
      rw [e64] at G4
      clear e64
      obtain ⟨u, hu⟩ : ∃ u, u = Sha.rnd k w v 64 := ⟨_, rfl⟩
      have HU : Aside0 (Sha.turn k w v = v.add u) := ⟨by rw [hu]; rfl⟩
      rw [← hu] at G4
      clear hu
      go_wp2
      go_loopw [95] (fun i wr => ∃ j : Nat, j ≤ 8 ∧ i = .int .i64 j ∧ Aside0 (wr.heap[W.heap.size]? = some (.cells (nums .u32 (addTo v u j)).toArray 94 (0, 0)))
        ∧ Aside0 (wr.heap[W.heap.size + 1 + 1 + 1]? = some (.cells (nums .u32 [0, 0, 0, 0, 0, 0, 0, 0]).toArray 94 (0, 0)))
        ∧ Aside0 (wr.heap[W.heap.size + 1 + 1 + 1 + 1]? = some (.cells (nums .u32 u.l).toArray 94 (0, 0))) ∧ Aside0 (Below W.heap.size W wr)) (fun i _ => 8 - (intOf i).toNat)
      case atStart => exact ⟨0, by omega, rfl, G0, G3, G4, HB⟩
      case round =>
        clear G0 G1 G2 G3 G4 HB
        obtain ⟨j, hj, rfl, G0, G3, G4, HB⟩ := hrel
        by_cases hlj : j < 8
        · have j0 : (0 : Int) ≤ (j : Int) := Int.natCast_nonneg j
          have j1 : (j : Int) < 8 := by omega
          have hdj : decide ((j : Int) < 8) = true := decide_eq_true j1
          obtain ⟨vj, hvj⟩ : ∃ x, x = v.l.getD j 0 := ⟨_, rfl⟩
          obtain ⟨uj, huj⟩ : ∃ x, x = u.l.getD j 0 := ⟨_, rfl⟩
          have HA := Aside0.mk (addTo_set v u j hlj)
          rw [← hvj, ← huj] at HA
          have cH : wr.cell? ⟨W.heap.size, j, none⟩ = some (.int .u32 vj) := by
            rw [blk_cell G0.out j, hvj]
            exact nums_at? _ _ _ _ (addTo_at v u j hlj)
          have cX : wr.cell? ⟨W.heap.size + 1 + 1 + 1 + 1, j, none⟩ = some (.int .u32 uj) := by
            rw [blk_cell G4.out j, huj]
            exact nums_at? _ _ _ _ (V8l_at u j hlj)
          have zH := blk_frozen G0.out j
          clear hvj huj
          go_wp2
          go_region
          all_goals go_wp2
          go_roundw
          case rel =>
            refine ⟨j + 1, by omega, by go_num, ⟨?_⟩, ⟨blk_far (blk_drew G3.out) (by simp <;> omega) _⟩, ⟨blk_far (blk_drew G4.out) (by simp <;> omega) _⟩, ⟨below_set (below_drew1 HB.out) (Nat.le_refl _)⟩⟩
            rw [← HA.out, ← nums_set]
            exact blk_set (blk_drew G0.out) j _
          case measure => simp [intOf]; omega
        · have hdj : decide ((j : Int) < 8) = false := decide_eq_false (by omega)
          have e8 : addTo v u j = (Sha.turn k w v).l := by
            obtain rfl : j = 8 := by omega
            rw [HU.out]; rfl
          rw [e8] at G0
          clear e8
          have GR := Aside0.mk (setRow_heap wr (W.heap.size + 1 + 1 + 1) _ (nums IntKind.u32 (Sha.turn k w v).l).toArray _ _ G3.out)
          go_wp2_with (first
            | ((with_reducible refine gate_ (.load 94 (.tmp 3)) rfl ?_); refine wpList_load_row (by rfl) 94 (.tmp 3) (by rfl) _ (by rfl) 94 _ (0, 0) _ G0.out Try.underlying94 rfl (by exact info8w) ?_)
            | ((with_reducible refine gate_ (.store 94 (.tmp 6) (.tmp 107)) rfl ?_); refine wpList_store_row (by rfl) 94 (.tmp 6) (.tmp 107) (by rfl) (W.heap.size + 1 + 1 + 1) _ (by rfl) (by rfl) 94 _ G3.out (by exact info8w) (by rfl) (nums_one _ _) ?_))
          refine bodyPost_ret (v := arr32 (Sha.turn k w v).l) ?_ rfl ?_
          · exact results_cell_row (fn := Try.f91) (p := 6) (ty := 94) Try.results91 _ _ _ 94 _ (0, 0) _ (by rfl) GR.out Try.underlying94 rfl (by exact info8w)
          · exact ⟨rfl, below_row HB.out (by omega) _⟩

end Go.Proofs.Ytlfpogbonmddmaa.P

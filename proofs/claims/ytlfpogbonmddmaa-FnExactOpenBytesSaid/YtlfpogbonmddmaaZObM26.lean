/- Laid by a program of this session: of PlawOpen, WSized what this law uses. -/
import Derived.Test.YtlfpogbonmddmaaZObM25
import Derived.RegionTactic
import Derived.BigRegion
import Derived.SizedLaws
import Derived.ChangeSlices
namespace Go.Proofs.Ytlfpogbonmddmaa.Pg
open Go.RowKit Go.Proofs.Ytlfpogbonmddmaa.P Go.Proofs.YtlfpogbonmddmaaW.PrintWords Go.Proofs.YtlfpogbonmddmaaW.PrintLast Go.Proofs.YtlfpogbonmddmaaW.PrintMore
set_option linter.unusedVariables false
set_option linter.unusedSimpArgs false
set_option maxHeartbeats 8000000 in
set_option maxRecDepth 100000 in
theorem FnExactOpenBytes_law (a0 a1 : ByteArray) (A2 : Option Addr) (c2 : Nat) (l2 : List Int) (A3 : Option Addr) (c3 : Nat) (l3 : List Int) (w : World) (hr2 : Kd.C (Kd.int .u8) w A2 l2.length l2) (hc2 : l2.length ≤ c2) (hr3 : Kd.C (Kd.int .u8) w A3 l3.length l3) (hc3 : l3.length ≤ c3) (u2 : u8ok l2) (u3 : u8ok l3) (b0 : a0.size ≤ 1048576) (b1 : a1.size ≤ 1048576) (b2 : l2.length ≤ 1048576) (b3 : l3.length ≤ 1048576) :
    Calls Try.prog 4 #[.string a0, .string a1, .slice A2 l2.length c2, .slice A3 l3.length c3] w fun e w' => e = .returned (.bool true) ∧ Below w.heap.size w w' := by
  obtain ⟨rl, rc, hx⟩ : ∃ rl rc, openX a0 a1 l2 l3 = (rl, rc) := ⟨_, _, rfl⟩
  have hlen : rl.length ≤ 70000 := by have := openX_len a0 a1 l2 l3 u3; rw [hx] at this; exact this
  have ES : Aside0 (spec_OpenBytes.f 300000 a0 a1 l2 l3 = some (rl, rc)) := ⟨by rw [spec_openx a0 a1 l2 l3 u2 u3, hx]⟩
  have EX := Aside0.mk hx
  have E2 : Aside0 (laws_toByteS.f 2000000 l2 = some l2) := ⟨toByteS_eq _ _ (by omega) (by omega)⟩
  have E3 : Aside0 (laws_toByteS.f 2000000 l3 = some l3) := ⟨toByteS_eq _ _ (by omega) (by omega)⟩
  have Q2 : Aside0 (laws_eqByteS.f 2000000 l2 l2 = some true) := ⟨by rw [eqByteS_eq 2000000 l2 l2 (by omega) (by omega)]; simp⟩
  have Q3 : Aside0 (laws_eqByteS.f 2000000 l3 l3 = some true) := ⟨by rw [eqByteS_eq 2000000 l3 l3 (by omega) (by omega)]; simp⟩
  have QR : Aside0 (laws_eqByteS.f 2000000 rl rl = some true) := ⟨by rw [eqByteS_eq 2000000 rl rl (by omega) (by omega)]; simp⟩
  have HD : Aside0 (laws_heldByteS.f 2000000 (markTo 1 rl rl.length) 1 = some ((1 + rl.length : Nat) : Int)) := ⟨held_to 1 rl 2000000 (by omega) (by omega) (by omega)⟩
  have HLZ : Aside0 (rl.length ≤ 70000 ∧ l2.length ≤ 1048576 ∧ l3.length ≤ 1048576 ∧ (markTo 1 rl rl.length).length = rl.length) := ⟨hlen, b2, b3, markTo_length _ _ _ (Nat.le_refl _)⟩
  have HR2 := Aside0.mk hr2
  have HC2 := Aside0.mk hc2
  have HR3 := Aside0.mk hr3
  have HC3 := Aside0.mk hc3
  have HU2 := Aside0.mk u2
  have HU3 := Aside0.mk u3
  have d0 : decide (1048576 < (a0.size : Int)) = false := decide_eq_false (by omega)
  have d1 : decide (1048576 < (a1.size : Int)) = false := decide_eq_false (by omega)
  have d2 : decide (1048576 < (l2.length : Int)) = false := decide_eq_false (by omega)
  have d3 : decide (1048576 < (l3.length : Int)) = false := decide_eq_false (by omega)
  have d4 : decide (1048576 < a0.size) = false := decide_eq_false (by omega)
  have d5 : decide (1048576 < a1.size) = false := decide_eq_false (by omega)
  have d6 : decide (1048576 < l2.length) = false := decide_eq_false (by omega)
  have d7 : decide (1048576 < l3.length) = false := decide_eq_false (by omega)
  clear hx hlen hr2 hc2 hr3 hc3 u2 u3 b0 b1 b2 b3
  have HB : Aside0 (Below w.heap.size w w) := ⟨Below.refl _ _⟩
  go_enter Try.func4, Try.ntmps4
  go_wp2_with fail
  refine (laws_toByteS.calls 2000000 A2 c2 l2 l2 _ (Kd.C_below HR2.out HB.out) HC2.out E2.out).mono ?_
  rintro e w1 ⟨v, rfl, hR, hb⟩
  have HB : Aside0 (Below w.heap.size w w1) := ⟨below_then HB.out HB.out.size hb⟩
  have HRB_p2 := Aside0.mk (RB_of_R hR)
  obtain ⟨A_p2, c_p2, rfl, hcc, hCC⟩ := RB_reads HRB_p2.out (by have := HLZ.out; omega)
  have HC_p2 := Aside0.mk hCC
  have HL_p2 := Aside0.mk hcc
  have HT_p2 : Aside0 (l2 ≠ [] → ∀ g, (Value.slice A_p2 l2.length c_p2).ownBlock = some g → g < w1.heap.size) := ⟨RB_top HRB_p2.out⟩
  clear hb hR hCC hcc
  go_wp2_with fail
  refine (laws_toByteS.calls 2000000 A3 c3 l3 l3 _ (Kd.C_below HR3.out HB.out) HC3.out E3.out).mono ?_
  rintro e w2 ⟨v, rfl, hR, hb⟩
  have HB : Aside0 (Below w.heap.size w w2) := ⟨below_then HB.out HB.out.size hb⟩
  have HC_p2 := Aside0.mk (Kd.C_below HC_p2.out hb)
  have HRB_p2 := Aside0.mk (RB_below HRB_p2.out hb)
  have HRB_p3 := Aside0.mk (RB_of_R hR)
  obtain ⟨A_p3, c_p3, rfl, hcc, hCC⟩ := RB_reads HRB_p3.out (by have := HLZ.out; omega)
  have HC_p3 := Aside0.mk hCC
  have HL_p3 := Aside0.mk hcc
  have HT_p3 : Aside0 (l3 ≠ [] → ∀ g, (Value.slice A_p3 l3.length c_p3).ownBlock = some g → g < w2.heap.size) := ⟨RB_top HRB_p3.out⟩
  clear hb hR hCC hcc
  go_wp2_with fail
  refine (spec_OpenBytes.calls 300000 a0 a1 A_p2 c_p2 l2 A_p3 c_p3 l3 rl rc _ HC_p2.out HL_p2.out HC_p3.out HL_p3.out ES.out).mono ?_
  rintro e w3 ⟨v, rfl, hR, hb⟩
  have HB : Aside0 (Below w.heap.size w w3) := ⟨below_then HB.out HB.out.size hb⟩
  obtain ⟨A_w, c_w, rfl, hcc, hCC⟩ := Kd.R_reads hR
  have HC_w := Aside0.mk hCC
  have HL_w := Aside0.mk hcc
  have HA : Aside0 (Below w3.heap.size w3 w3) := ⟨Below.refl _ _⟩
  have HWA := Aside0.mk hCC
  have HWS : Aside0 (w.heap.size ≤ w3.heap.size) := ⟨HB.out.size⟩
  clear hb hR hCC hcc HC_p2 HC_p3 HRB_p2 HRB_p3 HL_p2 HL_p3 HT_p2 HT_p3
  go_wp2_with fail
  have HZ_x2 : Aside0 (w3.heap.size ≤ w3.heap.size) := ⟨HA.out.size⟩
  refine (laws_toByteS.calls 2000000 A2 c2 l2 l2 _ (Kd.C_below HR2.out HB.out) HC2.out E2.out).mono ?_
  rintro e w4 ⟨v, rfl, hR, hb⟩
  have HB : Aside0 (Below w.heap.size w w4) := ⟨below_then HB.out HB.out.size hb⟩
  have HA : Aside0 (Below w3.heap.size w3 w4) := ⟨below_then HA.out HA.out.size hb⟩
  have HC_w := Aside0.mk (Kd.C_below HC_w.out hb)
  have HRB_x2 := Aside0.mk (RB_of_R hR)
  obtain ⟨A_x2, c_x2, rfl, hcc, hCC⟩ := RB_reads HRB_x2.out (by have := HLZ.out; omega)
  have HC_x2 := Aside0.mk hCC
  have HL_x2 := Aside0.mk hcc
  have HT_x2 : Aside0 (l2 ≠ [] → ∀ g, (Value.slice A_x2 l2.length c_x2).ownBlock = some g → g < w4.heap.size) := ⟨RB_top HRB_x2.out⟩
  clear hb hR hCC hcc
  go_wp2_with fail
  have HZ_x3 : Aside0 (w3.heap.size ≤ w4.heap.size) := ⟨HA.out.size⟩
  refine (laws_toByteS.calls 2000000 A3 c3 l3 l3 _ (Kd.C_below HR3.out HB.out) HC3.out E3.out).mono ?_
  rintro e w5 ⟨v, rfl, hR, hb⟩
  have HB : Aside0 (Below w.heap.size w w5) := ⟨below_then HB.out HB.out.size hb⟩
  have HA : Aside0 (Below w3.heap.size w3 w5) := ⟨below_then HA.out HA.out.size hb⟩
  have HC_w := Aside0.mk (Kd.C_below HC_w.out hb)
  have HC_x2 := Aside0.mk (Kd.C_below HC_x2.out hb)
  have HRB_x2 := Aside0.mk (RB_below HRB_x2.out hb)
  have HRB_x3 := Aside0.mk (RB_of_R hR)
  obtain ⟨A_x3, c_x3, rfl, hcc, hCC⟩ := RB_reads HRB_x3.out (by have := HLZ.out; omega)
  have HC_x3 := Aside0.mk hCC
  have HL_x3 := Aside0.mk hcc
  have HT_x3 : Aside0 (l3 ≠ [] → ∀ g, (Value.slice A_x3 l3.length c_x3).ownBlock = some g → g < w5.heap.size) := ⟨RB_top HRB_x3.out⟩
  have HSIZE : Aside0 (w4.heap.size ≤ w5.heap.size) := ⟨hb.size⟩
  clear hb hR hCC hcc
  go_wp2_with fail
  have HZ_g : Aside0 (w3.heap.size ≤ w5.heap.size) := ⟨HA.out.size⟩
  refine (OpenBytes_in a0 a1 A_x2 c_x2 l2 A_x3 c_x3 l3 rl rc _ HC_x2.out HL_x2.out HC_x3.out HL_x3.out HU2.out HU3.out EX.out).mono ?_
  rintro e w6 ⟨v, rfl, hR, hb⟩
  have HB : Aside0 (Below w.heap.size w w6) := ⟨below_then HB.out HB.out.size hb⟩
  have HA : Aside0 (Below w3.heap.size w3 w6) := ⟨below_then HA.out HA.out.size hb⟩
  have HC_w := Aside0.mk (Kd.C_below HC_w.out hb)
  have HC_x2 := Aside0.mk (Kd.C_below HC_x2.out hb)
  have HC_x3 := Aside0.mk (Kd.C_below HC_x3.out hb)
  have HRB_x2 := Aside0.mk (RB_below HRB_x2.out hb)
  have HRB_x3 := Aside0.mk (RB_below HRB_x3.out hb)
  have HRB_g := Aside0.mk hR
  obtain ⟨A_g, c_g, rfl, hcc, hCC⟩ := RB_reads HRB_g.out (by have := HLZ.out; omega)
  have HC_g := Aside0.mk hCC
  have HL_g := Aside0.mk hcc
  have HT_g : Aside0 (rl ≠ [] → ∀ g, (Value.slice A_g rl.length c_g).ownBlock = some g → g < w6.heap.size) := ⟨RB_top HRB_g.out⟩
  clear hb hR hCC hcc
  go_wp2_with fail
  refine (laws_eqByteS.calls 2000000 A_g c_g rl A_w c_w rl true _ HC_g.out HL_g.out HC_w.out HL_w.out QR.out).mono ?_
  rintro e w7 ⟨rfl, hd⟩
  have hb := hd.below
  have HB : Aside0 (Below w.heap.size w w7) := ⟨below_then HB.out HB.out.size hb⟩
  have HA : Aside0 (Below w3.heap.size w3 w7) := ⟨below_then HA.out HA.out.size hb⟩
  have HC_w := Aside0.mk (Kd.C_below HC_w.out hb)
  have HC_x2 := Aside0.mk (Kd.C_below HC_x2.out hb)
  have HC_x3 := Aside0.mk (Kd.C_below HC_x3.out hb)
  have HC_g := Aside0.mk (Kd.C_below HC_g.out hb)
  have HRB_x2 := Aside0.mk (RB_below HRB_x2.out hb)
  have HRB_x3 := Aside0.mk (RB_below HRB_x3.out hb)
  have HRB_g := Aside0.mk (RB_below HRB_g.out hb)
  clear hb hd
  go_wp2_with fail
  have HZ_y2 : Aside0 (w3.heap.size ≤ w7.heap.size) := ⟨HA.out.size⟩
  refine (laws_toByteS.calls 2000000 A2 c2 l2 l2 _ (Kd.C_below HR2.out HB.out) HC2.out E2.out).mono ?_
  rintro e w8 ⟨v, rfl, hR, hb⟩
  have HB : Aside0 (Below w.heap.size w w8) := ⟨below_then HB.out HB.out.size hb⟩
  have HA : Aside0 (Below w3.heap.size w3 w8) := ⟨below_then HA.out HA.out.size hb⟩
  have HC_w := Aside0.mk (Kd.C_below HC_w.out hb)
  have HC_x2 := Aside0.mk (Kd.C_below HC_x2.out hb)
  have HC_x3 := Aside0.mk (Kd.C_below HC_x3.out hb)
  have HC_g := Aside0.mk (Kd.C_below HC_g.out hb)
  have HRB_x2 := Aside0.mk (RB_below HRB_x2.out hb)
  have HRB_x3 := Aside0.mk (RB_below HRB_x3.out hb)
  have HRB_g := Aside0.mk (RB_below HRB_g.out hb)
  have HRB_y2 := Aside0.mk (RB_of_R hR)
  obtain ⟨A_y2, c_y2, rfl, hcc, hCC⟩ := RB_reads HRB_y2.out (by have := HLZ.out; omega)
  have HC_y2 := Aside0.mk hCC
  have HL_y2 := Aside0.mk hcc
  have HT_y2 : Aside0 (l2 ≠ [] → ∀ g, (Value.slice A_y2 l2.length c_y2).ownBlock = some g → g < w8.heap.size) := ⟨RB_top HRB_y2.out⟩
  clear hb hR hCC hcc
  go_wp2_with fail
  refine (laws_eqByteS.calls 2000000 A_x2 c_x2 l2 A_y2 c_y2 l2 true _ HC_x2.out HL_x2.out HC_y2.out HL_y2.out Q2.out).mono ?_
  rintro e w9 ⟨rfl, hd⟩
  have hb := hd.below
  have HB : Aside0 (Below w.heap.size w w9) := ⟨below_then HB.out HB.out.size hb⟩
  have HA : Aside0 (Below w3.heap.size w3 w9) := ⟨below_then HA.out HA.out.size hb⟩
  have HC_w := Aside0.mk (Kd.C_below HC_w.out hb)
  have HC_x2 := Aside0.mk (Kd.C_below HC_x2.out hb)
  have HC_x3 := Aside0.mk (Kd.C_below HC_x3.out hb)
  have HC_g := Aside0.mk (Kd.C_below HC_g.out hb)
  have HC_y2 := Aside0.mk (Kd.C_below HC_y2.out hb)
  have HRB_x2 := Aside0.mk (RB_below HRB_x2.out hb)
  have HRB_x3 := Aside0.mk (RB_below HRB_x3.out hb)
  have HRB_g := Aside0.mk (RB_below HRB_g.out hb)
  have HRB_y2 := Aside0.mk (RB_below HRB_y2.out hb)
  clear hb hd
  clear HC_y2 HRB_y2 HL_y2 HT_y2
  go_wp2_with fail
  have HZ_y3 : Aside0 (w3.heap.size ≤ w9.heap.size) := ⟨HA.out.size⟩
  refine (laws_toByteS.calls 2000000 A3 c3 l3 l3 _ (Kd.C_below HR3.out HB.out) HC3.out E3.out).mono ?_
  rintro e w10 ⟨v, rfl, hR, hb⟩
  have HB : Aside0 (Below w.heap.size w w10) := ⟨below_then HB.out HB.out.size hb⟩
  have HA : Aside0 (Below w3.heap.size w3 w10) := ⟨below_then HA.out HA.out.size hb⟩
  have HC_w := Aside0.mk (Kd.C_below HC_w.out hb)
  have HC_x2 := Aside0.mk (Kd.C_below HC_x2.out hb)
  have HC_x3 := Aside0.mk (Kd.C_below HC_x3.out hb)
  have HC_g := Aside0.mk (Kd.C_below HC_g.out hb)
  have HRB_x2 := Aside0.mk (RB_below HRB_x2.out hb)
  have HRB_x3 := Aside0.mk (RB_below HRB_x3.out hb)
  have HRB_g := Aside0.mk (RB_below HRB_g.out hb)
  have HRB_y3 := Aside0.mk (RB_of_R hR)
  obtain ⟨A_y3, c_y3, rfl, hcc, hCC⟩ := RB_reads HRB_y3.out (by have := HLZ.out; omega)
  have HC_y3 := Aside0.mk hCC
  have HL_y3 := Aside0.mk hcc
  have HT_y3 : Aside0 (l3 ≠ [] → ∀ g, (Value.slice A_y3 l3.length c_y3).ownBlock = some g → g < w10.heap.size) := ⟨RB_top HRB_y3.out⟩
  clear hb hR hCC hcc
  go_wp2_with fail
  refine (laws_eqByteS.calls 2000000 A_x3 c_x3 l3 A_y3 c_y3 l3 true _ HC_x3.out HL_x3.out HC_y3.out HL_y3.out Q3.out).mono ?_
  rintro e w11 ⟨rfl, hd⟩
  have hb := hd.below
  have HB : Aside0 (Below w.heap.size w w11) := ⟨below_then HB.out HB.out.size hb⟩
  have HA : Aside0 (Below w3.heap.size w3 w11) := ⟨below_then HA.out HA.out.size hb⟩
  have HC_w := Aside0.mk (Kd.C_below HC_w.out hb)
  have HC_x2 := Aside0.mk (Kd.C_below HC_x2.out hb)
  have HC_x3 := Aside0.mk (Kd.C_below HC_x3.out hb)
  have HC_g := Aside0.mk (Kd.C_below HC_g.out hb)
  have HC_y3 := Aside0.mk (Kd.C_below HC_y3.out hb)
  have HRB_x2 := Aside0.mk (RB_below HRB_x2.out hb)
  have HRB_x3 := Aside0.mk (RB_below HRB_x3.out hb)
  have HRB_g := Aside0.mk (RB_below HRB_g.out hb)
  have HRB_y3 := Aside0.mk (RB_below HRB_y3.out hb)
  clear hb hd
  clear HC_y3 HRB_y3 HL_y3 HT_y3
  have HB3G : Aside0 (w4.heap.size ≤ w5.heap.size) := ⟨HSIZE.out⟩
  go_wp2_with fail
  refine (mark_RB 1 l2 A_x2 c_x2 w3.heap.size w4.heap.size _ HRB_x2.out HT_x2.out (by have := HLZ.out; omega)).mono ?_
  rintro e w12 ⟨rfl, hm1, hm2, hm4⟩
  obtain ⟨M_x2, hM⟩ : ∃ M : Nat, M = 1 + l2.length := ⟨_, rfl⟩
  rw [← hM]
  have HM_x2 := Aside0.mk hM
  clear hM
  have HB : Aside0 (Below w.heap.size w w12) := ⟨HB.out.trans (hm4.mono (by have h1 := HZ_x2.out; have h2 := HWS.out; omega))⟩
  have HA : Aside0 (Below w3.heap.size w3 w12) := ⟨HA.out.trans (hm4.mono HZ_x2.out)⟩
  have HRB_x3 := Aside0.mk (RB_same HRB_x3.out (fun k h1 _ => hm2 k (.inr (h1))))
  have HRB_g := Aside0.mk (RB_same HRB_g.out (fun k h1 _ => hm2 k (.inr (Nat.le_trans HB3G.out h1))))
  have HRB_x2 := Aside0.mk hm1
  have HC_w := Aside0.mk (Kd.C_below HWA.out HA.out)
  clear hm1 hm2 hm4
  clear HC_x2 HRB_x2 HL_x2 HT_x2
  go_wp2_with fail
  refine (mark_RB M_x2 l3 A_x3 c_x3 w4.heap.size w5.heap.size _ HRB_x3.out HT_x3.out (by have := HLZ.out; have := HM_x2.out; omega)).mono ?_
  rintro e w13 ⟨rfl, hm1, hm2, hm4⟩
  obtain ⟨M_x3, hM⟩ : ∃ M : Nat, M = M_x2 + l3.length := ⟨_, rfl⟩
  rw [← hM]
  have HM_x3 := Aside0.mk hM
  clear hM
  have HB : Aside0 (Below w.heap.size w w13) := ⟨HB.out.trans (hm4.mono (by have h1 := HZ_x3.out; have h2 := HWS.out; omega))⟩
  have HA : Aside0 (Below w3.heap.size w3 w13) := ⟨HA.out.trans (hm4.mono HZ_x3.out)⟩
  have HRB_g := Aside0.mk (RB_same HRB_g.out (fun k h1 _ => hm2 k (.inr (h1))))
  have HRB_x3 := Aside0.mk hm1
  have HC_w := Aside0.mk (Kd.C_below HWA.out HA.out)
  clear hm1 hm2 hm4
  clear HC_x3 HRB_x3 HL_x3 HT_x3
  have HC_g : Aside0 (Kd.C (Kd.int .u8) w13 A_g rl.length rl) := ⟨by obtain ⟨A', c', e', _, h'⟩ := RB_reads HRB_g.out (by have := HLZ.out; omega); injection e' with e1; rw [e1]; exact h'⟩
  have d8 : decide ((M_x3 : Int) < 0) = false := decide_eq_false (by omega)
  go_wp2_with fail
  refine (laws_eqByteS.calls 2000000 A_g c_g rl A_w c_w rl true _ HC_g.out HL_g.out HC_w.out HL_w.out QR.out).mono ?_
  rintro e w14 ⟨rfl, hd⟩
  have hb := hd.below
  have HB : Aside0 (Below w.heap.size w w14) := ⟨below_then HB.out HB.out.size hb⟩
  have HA : Aside0 (Below w3.heap.size w3 w14) := ⟨below_then HA.out HA.out.size hb⟩
  have HC_w := Aside0.mk (Kd.C_below HC_w.out hb)
  have HC_g := Aside0.mk (Kd.C_below HC_g.out hb)
  have HRB_g := Aside0.mk (RB_below HRB_g.out hb)
  clear hb hd
  clear d8
  go_wp2_with fail
  refine (mark_RB 1 rl A_g c_g w5.heap.size w6.heap.size _ HRB_g.out HT_g.out (by have := HLZ.out; omega)).mono ?_
  rintro e w15 ⟨rfl, hm1, hm2, hm4⟩
  obtain ⟨M_g, hM⟩ : ∃ M : Nat, M = 1 + rl.length := ⟨_, rfl⟩
  rw [← hM]
  have HM_g := Aside0.mk hM
  clear hM
  have HB : Aside0 (Below w.heap.size w w15) := ⟨HB.out.trans (hm4.mono (by have h1 := HZ_g.out; have h2 := HWS.out; omega))⟩
  have HA : Aside0 (Below w3.heap.size w3 w15) := ⟨HA.out.trans (hm4.mono HZ_g.out)⟩
  have HRB_g := Aside0.mk hm1
  have HC_w := Aside0.mk (Kd.C_below HWA.out HA.out)
  clear hm1 hm2 hm4
  obtain ⟨ML, hML⟩ : ∃ L, L = markTo 1 rl rl.length := ⟨_, rfl⟩
  have HDL : Aside0 (laws_heldByteS.f 2000000 ML 1 = some ((1 + rl.length : Nat) : Int)) := ⟨by rw [hML]; exact HD.out⟩
  have HMZ : Aside0 (ML.length = rl.length) := ⟨by rw [hML]; exact HLZ.out.2.2.2⟩
  rw [← hML] at HRB_g
  clear hML HD
  have HDM : Aside0 (laws_heldByteS.f 2000000 ML 1 = some (M_g : Int)) := ⟨by rw [HM_g.out]; exact HDL.out⟩
  have d9 : decide ((M_g : Int) < 0) = false := decide_eq_false (by omega)
  have d10 : ((M_g : Int) != (M_g : Int)) = false := bne_self_eq_false _
  have HC_g : Aside0 (Kd.C (Kd.int .u8) w15 A_g ML.length ML) := ⟨by obtain ⟨A', c', e', _, h'⟩ := RB_reads HRB_g.out (by have := HLZ.out; have := HMZ.out; omega); injection e' with e1; rw [e1]; exact h'⟩
  go_wp2_with fail
  have hh := laws_heldByteS.calls 2000000 A_g c_g ML 1 (M_g : Int) _ HC_g.out (by rw [HMZ.out]; exact HL_g.out) HDM.out
  rw [HMZ.out] at hh
  refine hh.mono ?_
  clear hh
  rintro e w16 ⟨rfl, hd⟩
  have hb := hd.below
  have HB : Aside0 (Below w.heap.size w w16) := ⟨below_then HB.out HB.out.size hb⟩
  have HA : Aside0 (Below w3.heap.size w3 w16) := ⟨below_then HA.out HA.out.size hb⟩
  have HC_w := Aside0.mk (Kd.C_below HC_w.out hb)
  have HRB_g := Aside0.mk (RB_below HRB_g.out hb)
  clear hb hd HC_g
  go_wp2_with fail
  have HZ_z2 : Aside0 (w3.heap.size ≤ w16.heap.size) := ⟨HA.out.size⟩
  refine (laws_toByteS.calls 2000000 A2 c2 l2 l2 _ (Kd.C_below HR2.out HB.out) HC2.out E2.out).mono ?_
  rintro e w17 ⟨v, rfl, hR, hb⟩
  have HB : Aside0 (Below w.heap.size w w17) := ⟨below_then HB.out HB.out.size hb⟩
  have HA : Aside0 (Below w3.heap.size w3 w17) := ⟨below_then HA.out HA.out.size hb⟩
  have HC_w := Aside0.mk (Kd.C_below HC_w.out hb)
  have HRB_g := Aside0.mk (RB_below HRB_g.out hb)
  have HRB_z2 := Aside0.mk (RB_of_R hR)
  obtain ⟨A_z2, c_z2, rfl, hcc, hCC⟩ := RB_reads HRB_z2.out (by have := HLZ.out; omega)
  have HC_z2 := Aside0.mk hCC
  have HL_z2 := Aside0.mk hcc
  have HT_z2 : Aside0 (l2 ≠ [] → ∀ g, (Value.slice A_z2 l2.length c_z2).ownBlock = some g → g < w17.heap.size) := ⟨RB_top HRB_z2.out⟩
  clear hb hR hCC hcc
  go_wp2_with fail
  have HZ_z3 : Aside0 (w3.heap.size ≤ w17.heap.size) := ⟨HA.out.size⟩
  refine (laws_toByteS.calls 2000000 A3 c3 l3 l3 _ (Kd.C_below HR3.out HB.out) HC3.out E3.out).mono ?_
  rintro e w18 ⟨v, rfl, hR, hb⟩
  have HB : Aside0 (Below w.heap.size w w18) := ⟨below_then HB.out HB.out.size hb⟩
  have HA : Aside0 (Below w3.heap.size w3 w18) := ⟨below_then HA.out HA.out.size hb⟩
  have HC_w := Aside0.mk (Kd.C_below HC_w.out hb)
  have HC_z2 := Aside0.mk (Kd.C_below HC_z2.out hb)
  have HRB_g := Aside0.mk (RB_below HRB_g.out hb)
  have HRB_z2 := Aside0.mk (RB_below HRB_z2.out hb)
  have HRB_z3 := Aside0.mk (RB_of_R hR)
  obtain ⟨A_z3, c_z3, rfl, hcc, hCC⟩ := RB_reads HRB_z3.out (by have := HLZ.out; omega)
  have HC_z3 := Aside0.mk hCC
  have HL_z3 := Aside0.mk hcc
  have HT_z3 : Aside0 (l3 ≠ [] → ∀ g, (Value.slice A_z3 l3.length c_z3).ownBlock = some g → g < w18.heap.size) := ⟨RB_top HRB_z3.out⟩
  clear hb hR hCC hcc
  go_wp2_with fail
  have HZ_h : Aside0 (w3.heap.size ≤ w18.heap.size) := ⟨HA.out.size⟩
  refine (OpenBytes_in a0 a1 A_z2 c_z2 l2 A_z3 c_z3 l3 rl rc _ HC_z2.out HL_z2.out HC_z3.out HL_z3.out HU2.out HU3.out EX.out).mono ?_
  rintro e w19 ⟨v, rfl, hR, hb⟩
  have HB : Aside0 (Below w.heap.size w w19) := ⟨below_then HB.out HB.out.size hb⟩
  have HA : Aside0 (Below w3.heap.size w3 w19) := ⟨below_then HA.out HA.out.size hb⟩
  have HC_w := Aside0.mk (Kd.C_below HC_w.out hb)
  have HC_z2 := Aside0.mk (Kd.C_below HC_z2.out hb)
  have HC_z3 := Aside0.mk (Kd.C_below HC_z3.out hb)
  have HRB_g := Aside0.mk (RB_below HRB_g.out hb)
  have HRB_z2 := Aside0.mk (RB_below HRB_z2.out hb)
  have HRB_z3 := Aside0.mk (RB_below HRB_z3.out hb)
  have HRB_h := Aside0.mk hR
  obtain ⟨A_h, c_h, rfl, hcc, hCC⟩ := RB_reads HRB_h.out (by have := HLZ.out; omega)
  have HC_h := Aside0.mk hCC
  have HL_h := Aside0.mk hcc
  have HT_h : Aside0 (rl ≠ [] → ∀ g, (Value.slice A_h rl.length c_h).ownBlock = some g → g < w19.heap.size) := ⟨RB_top HRB_h.out⟩
  clear hb hR hCC hcc
  clear HC_z2 HC_z3 HRB_z2 HRB_z3 HL_z2 HL_z3 HT_z2 HT_z3
  go_wp2_with fail
  refine (laws_eqByteS.calls 2000000 A_h c_h rl A_w c_w rl true _ HC_h.out HL_h.out HC_w.out HL_w.out QR.out).mono ?_
  rintro e w20 ⟨rfl, hd⟩
  have hb := hd.below
  have HB : Aside0 (Below w.heap.size w w20) := ⟨below_then HB.out HB.out.size hb⟩
  have HA : Aside0 (Below w3.heap.size w3 w20) := ⟨below_then HA.out HA.out.size hb⟩
  have HC_w := Aside0.mk (Kd.C_below HC_w.out hb)
  have HC_h := Aside0.mk (Kd.C_below HC_h.out hb)
  have HRB_g := Aside0.mk (RB_below HRB_g.out hb)
  have HRB_h := Aside0.mk (RB_below HRB_h.out hb)
  clear hb hd
  have HC_g : Aside0 (Kd.C (Kd.int .u8) w20 A_g ML.length ML) := ⟨by obtain ⟨A', c', e', _, h'⟩ := RB_reads HRB_g.out (by have := HLZ.out; have := HMZ.out; omega); injection e' with e1; rw [e1]; exact h'⟩
  go_wp2_with fail
  have hh := laws_heldByteS.calls 2000000 A_g c_g ML 1 (M_g : Int) _ HC_g.out (by rw [HMZ.out]; exact HL_g.out) HDM.out
  rw [HMZ.out] at hh
  refine hh.mono ?_
  clear hh
  rintro e w21 ⟨rfl, hd⟩
  have hb := hd.below
  have HB : Aside0 (Below w.heap.size w w21) := ⟨below_then HB.out HB.out.size hb⟩
  have HA : Aside0 (Below w3.heap.size w3 w21) := ⟨below_then HA.out HA.out.size hb⟩
  have HC_w := Aside0.mk (Kd.C_below HC_w.out hb)
  have HC_h := Aside0.mk (Kd.C_below HC_h.out hb)
  have HRB_g := Aside0.mk (RB_below HRB_g.out hb)
  have HRB_h := Aside0.mk (RB_below HRB_h.out hb)
  clear hb hd HC_g
  go_wp2
  go_ret
  exact ⟨rfl, HB.out⟩
set_option maxRecDepth 100000 in
theorem FnExactOpenBytes_walk (a0 : ByteArray) (a1 : ByteArray) (a2 : Option Addr) (len2 cap2 : Nat) (z2 : List Int) (a3 : Option Addr) (len3 cap3 : Nat) (z3 : List Int) (w : World) (w0 : a0.size ≤ 140737488351232) (w1 : a1.size ≤ 140737488351232) (w2 : (a2 = none ∧ len2 = 0 ∧ cap2 = 0 ∧ z2 = []) ∨ ∃ x, a2 = some x ∧ len2 ≤ cap2 ∧ cap2 ≤ maxLen ∧ z2.length = cap2 ∧ (∀ i, i < z2.length → w.cell? (x.add i) = some (.int .u8 (z2.getD i 0))) ∧ ∀ n ∈ z2, (Lit.int .u8 n).wf = true) (y2 : len2 * 1 ≤ 140737488351232) (w3 : (a3 = none ∧ len3 = 0 ∧ cap3 = 0 ∧ z3 = []) ∨ ∃ x, a3 = some x ∧ len3 ≤ cap3 ∧ cap3 ≤ maxLen ∧ z3.length = cap3 ∧ (∀ i, i < z3.length → w.cell? (x.add i) = some (.int .u8 (z3.getD i 0))) ∧ ∀ n ∈ z3, (Lit.int .u8 n).wf = true) (y3 : len3 * 1 ≤ 140737488351232) :
    Calls Try.prog 4 #[.string a0, .string a1, .slice a2 len2 cap2, .slice a3 len3 cap3] w fun e w' => e = .returned (.bool true) ∧ Below w.heap.size w w' := by
  obtain ⟨l2, rfl, hr2, hm2, hw2, hc2⟩ := ReadsInt.ofRowC w2
  obtain ⟨l3, rfl, hr3, hm3, hw3, hc3⟩ := ReadsInt.ofRowC w3
  by_cases b0 : 1048576 < a0.size
  · have d0 : decide (1048576 < (a0.size : Int)) = true := decide_eq_true (by omega)
    have f0 : decide (1048576 < a0.size) = true := decide_eq_true b0
    clear w0 w1 hr2 hm2 hw2 hc2 w2 y2 hr3 hm3 hw3 hc3 w3 y3 b0
    go_enter Try.func4, Try.ntmps4
    go_wp2
    go_ret
    exact ⟨rfl, Below.refl _ _⟩
  by_cases b1 : 1048576 < a1.size
  · have d1 : decide (1048576 < (a1.size : Int)) = true := decide_eq_true (by omega)
    have f1 : decide (1048576 < a1.size) = true := decide_eq_true b1
    have d0 : decide (1048576 < (a0.size : Int)) = false := decide_eq_false (by omega)
    have f0 : decide (1048576 < a0.size) = false := decide_eq_false b0
    clear w0 w1 hr2 hm2 hw2 hc2 w2 y2 hr3 hm3 hw3 hc3 w3 y3 b0 b1
    go_enter Try.func4, Try.ntmps4
    go_wp2
    go_ret
    exact ⟨rfl, Below.refl _ _⟩
  by_cases b2 : 1048576 < l2.length
  · have d2 : decide (1048576 < (l2.length : Int)) = true := decide_eq_true (by omega)
    have f2 : decide (1048576 < l2.length) = true := decide_eq_true b2
    have d0 : decide (1048576 < (a0.size : Int)) = false := decide_eq_false (by omega)
    have f0 : decide (1048576 < a0.size) = false := decide_eq_false b0
    have d1 : decide (1048576 < (a1.size : Int)) = false := decide_eq_false (by omega)
    have f1 : decide (1048576 < a1.size) = false := decide_eq_false b1
    clear w0 w1 hr2 hm2 hw2 hc2 w2 y2 hr3 hm3 hw3 hc3 w3 y3 b0 b1 b2
    go_enter Try.func4, Try.ntmps4
    go_wp2
    go_ret
    exact ⟨rfl, Below.refl _ _⟩
  by_cases b3 : 1048576 < l3.length
  · have d3 : decide (1048576 < (l3.length : Int)) = true := decide_eq_true (by omega)
    have f3 : decide (1048576 < l3.length) = true := decide_eq_true b3
    have d0 : decide (1048576 < (a0.size : Int)) = false := decide_eq_false (by omega)
    have f0 : decide (1048576 < a0.size) = false := decide_eq_false b0
    have d1 : decide (1048576 < (a1.size : Int)) = false := decide_eq_false (by omega)
    have f1 : decide (1048576 < a1.size) = false := decide_eq_false b1
    have d2 : decide (1048576 < (l2.length : Int)) = false := decide_eq_false (by omega)
    have f2 : decide (1048576 < l2.length) = false := decide_eq_false b2
    clear w0 w1 hr2 hm2 hw2 hc2 w2 y2 hr3 hm3 hw3 hc3 w3 y3 b0 b1 b2 b3
    go_enter Try.func4, Try.ntmps4
    go_wp2
    go_ret
    exact ⟨rfl, Below.refl _ _⟩
  exact FnExactOpenBytes_law a0 a1 _ _ l2 _ _ l3 w (Kd.C_of_reads (d := (0 : Int)) (h1 := fun _ => rfl) hr2) hc2 (Kd.C_of_reads (d := (0 : Int)) (h1 := fun _ => rfl) hr3) hc3 (isU8_of hw2) (isU8_of hw3) (by omega) (by omega) (by omega) (by omega)
end Go.Proofs.Ytlfpogbonmddmaa.Pg
namespace Go.Proofs.YtlfpogbonmddmaaW.PrintWords
open Go.ChangeShapes Go.WideShapes
theorem sized_ints {H : Type} {enc : TypeId × Value → H} {P : Program} {W : World} {base : Nat} {spare : Nat → Bool} {held : Bool} {t e : TypeId} {k : IntKind} {a : Option Addr} {len cap : Nat} {d : DataW H} {ps : List MemPlace} {ts : List TypeId} {ds : List (DataW H)} {j : Nat}
    (hsz : (DataW.weightsEach P ts ds).all (· ≤ reachBytes) = true) (ht : ts[j]? = some t) (hd : ds[j]? = some d) (hu : P.underlying t = some (.slice e)) (he : P.underlying e = some (.int k)) (hc : P.cellsOf e = 1) {B : Nat} (hB : P.bytesOf e = B)
    (h : DataW.Trod enc P W base spare held t (.slice a len cap) d ps) : len * B ≤ 140737488351232 := by
  obtain ⟨fuel, hf⟩ := h
  rcases open_ints hu he hc hf with ⟨hcs, _⟩ | ⟨x, l, c, zs, hcs, _, hl, _, hz, hx, _, _⟩
  · simp [Value.cells] at hcs
    obtain ⟨rfl, rfl, rfl⟩ := hcs
    simp
  · simp [Value.cells] at hcs
    obtain ⟨rfl, rfl, rfl⟩ := hcs
    obtain ⟨hx, _⟩ := Prod.mk.inj hx
    subst hx
    have z := sized_slice hsz ht hd hu
    rw [hB] at z
    have hl2 : len ≤ zs.length := by
      rw [hz]
      split
      · exact hl
      · exact Nat.le_refl _
    have h1 : (lits (H := H) k (zs.take len)).length + (lits (H := H) k (zs.drop len)).length = zs.length := by
      simp [lits]
      omega
    rw [h1] at z
    exact Nat.le_trans (Nat.mul_le_mul_right _ hl2) z
end Go.Proofs.YtlfpogbonmddmaaW.PrintWords

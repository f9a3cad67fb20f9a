/- Laid by a program of this session: of Pm20 what this law uses. -/
import Derived.Test.YtfbggdlidelliaaZMoM11
import Derived.Test.YtfbggdlidelliaaZMoPm2
import Derived.Test.YtfbggdlidelliaaZMoPm3
import Derived.Test.YtfbggdlidelliaaZMoPm6
import Derived.Test.YtfbggdlidelliaaZMoPm7
import Derived.Test.YtfbggdlidelliaaZMoPm8
import Derived.Test.YtfbggdlidelliaaZMoPm9
import Derived.Test.YtfbggdlidelliaaZMoPm10
import Derived.Test.YtfbggdlidelliaaZMoM22
import Derived.Test.YtfbggdlidelliaaZMoPm19
namespace Go.Proofs.Ytfbggdlidelliaa.P
open Go.RowKit Go.Proofs.YtfbggdlidelliaaW.PrintWords Go.Proofs.YtfbggdlidelliaaW.PrintLast Go.Proofs.YtfbggdlidelliaaW.PrintMore
attribute [local go_sem] min2_int min_two
set_option linter.unusedVariables false
set_option linter.unusedSimpArgs false
def impl_ctr.f (a0 a1 : ByteArray) (l2 : List Int) : Option (List Int) := if u8b l2 = true ∧ (a0.size = 16 ∨ a0.size = 32) ∧ a1.size = 12 ∧ l2.length ≤ 1048576 then some (Md.ctrL (Aes.keysL (bytesL a0)) (bytesL a1) l2) else none
set_option maxHeartbeats 8000000 in
set_option maxRecDepth 100000 in
theorem impl_ctr_in (a0 a1 : ByteArray) (n : Nat) (A2 : Option Addr) (c2 : Nat) (l2 : List Int) (w0 : World) (hr2 : Kd.C (Kd.int .u8) w0 A2 l2.length l2) (hc2 : l2.length ≤ c2) (hu2 : u8ok l2) (hl2 : l2.length ≤ 1048576) (hn : n = 4 ∨ n = 8) (hs0 : a0.size = 4 * n) (hs1 : a1.size = 12) :
    Calls Try.prog 65 #[.string a0, .string a1, .slice A2 l2.length c2] w0 fun e w' => ∃ v0_ : Value, e = .returned (v0_) ∧ Kd.R (Kd.int .u8) 5 w' w0.heap.size (fun _ => True) v0_ (Md.ctrL (Aes.keysL (bytesL a0)) (bytesL a1) l2) ∧ Below w0.heap.size w0 w' := by
  obtain ⟨keys, hkeys⟩ : ∃ K, K = Aes.keysL (bytesL a0) := ⟨_, rfl⟩
  obtain ⟨nonce, hnonce⟩ : ∃ K, K = bytesL a1 := ⟨_, rfl⟩
  obtain ⟨R, hR⟩ : ∃ R, R = Md.ctrL keys nonce l2 := ⟨_, rfl⟩
  have HKL : Aside0 (keys.length = n + 7) := ⟨by rw [hkeys, Aes.keysL_length, bytesL_length, hs0]; omega⟩
  have HKN : Aside0 (0 < keys.length ∧ keys.length ≤ 100) := ⟨by rw [HKL.out]; omega⟩
  have HRL : Aside0 (R.length = l2.length) := ⟨by rw [hR, Md.ctrL_length]⟩
  have HRA : Aside0 (∀ j, j < l2.length → R.getD j 0 = Aes.xr (l2.getD j 0) ((Md.ctrB keys nonce (j / 16)).getD (j % 16) 0)) := ⟨fun j hj => by rw [hR]; exact Md.ctrL_at keys nonce l2 j hj⟩
  have HN := Aside0.mk hn
  have HSN := Aside0.mk hs0
  have HKE := Aside0.mk hkeys
  have HNL : Aside0 (nonce.length = 12) := ⟨by rw [hnonce, bytesL_length, hs1]⟩
  have HNO : Aside0 (Aes.ok nonce) := ⟨by rw [hnonce]; exact u8ok_bytesL a1⟩
  have HNE : Aside0 (a1 = strOfNums nonce) := ⟨by rw [hnonce, str_bytesL]⟩
  have HR2 := Aside0.mk hr2
  have HC2 := Aside0.mk hc2
  have HU2 := Aside0.mk hu2
  have HL2 := Aside0.mk hl2
  have hs1' : a1.size = 12 := hs1
  rw [← hkeys, ← hnonce, ← hR]
  clear hR hkeys hnonce hn hs0 hr2 hc2 hu2 hl2 hs1
  go_enter Try.func65, Try.ntmps65
  go_wp2_with fail
  with_reducible refine (impl_cipherOf_in a0 n _ HN.out HSN.out).mono ?_
  rintro e w1 ⟨gc, rfl, hC, hb1⟩
  rw [← HKE.out] at hC
  have HC := Aside0.mk hC
  have HB1 := Aside0.mk hb1
  clear hC hb1
  go_wp2_with fail
  refine (bytes_Clone.calls A2 c2 l2 l2 w1 (Kd.C_below HR2.out HB1.out) HC2.out (by unfold bytes_Clone.f; rw [if_pos (by have := HL2.out; omega)])).mono ?_
  rintro e w2 ⟨v2, rfl, hr, hb2⟩
  have HRR := Aside0.mk hr
  have HB2 := Aside0.mk hb2
  have HLEN : Aside0 (∀ p, (R.take p ++ l2.drop p).length = l2.length) := ⟨fun p => by rw [List.length_append, List.length_take, List.length_drop, HRL.out]; omega⟩
  by_cases hnil : l2.length = 0
  · obtain ⟨A3, c3, hv3⟩ := Kd.R_slice hr
    subst hv3
    clear hr hb2
    have HNIL := Aside0.mk hnil
    have HRF : Aside0 (R = l2) := ⟨by
      have h1 : R = [] := List.eq_nil_of_length_eq_zero (by rw [HRL.out, hnil])
      rw [h1, List.eq_nil_of_length_eq_zero hnil]⟩
    rw [hnil] at HRR ⊢
    clear hnil
    go_wp2_with fail
    go_loopw [9] (fun vi wr => vi = .int .i64 0 ∧ wr = w2) (fun _ _ => 0)
    case atStart => exact ⟨rfl, rfl⟩
    case round =>
      obtain ⟨rfl, rfl⟩ := hrel
      go_wp2
      go_ret
      refine ⟨_, rfl, ?_, HB1.out.trans (HB2.out.mono HB1.out.size)⟩
      rw [HRF.out]
      exact Kd.R_lower HRR.out HB1.out.size
  · obtain ⟨g, cg, hv3, hgB, hgl, -⟩ := Kd.R_form hr (by omega)
    subst hv3
    have HGB := Aside0.mk hgB
    have HPOS : Aside0 (0 < l2.length) := ⟨by omega⟩
    clear hr hb2 hgB hgl hnil
    have HCB : Aside0 (∀ W, Below w1.heap.size w1 W → cipherAt W w0.heap.size gc keys) := ⟨fun W h => cipherAt_below HC.out HKN.out.1 h⟩
    have HR0 : Aside0 (Kd.R (Kd.int .u8) 5 w2 w1.heap.size (fun _ => True) (.slice (some ⟨g, 0, none⟩) (R.take 0 ++ l2.drop 0).length cg) (R.take 0 ++ l2.drop 0)) := ⟨HRR.out⟩
    clear HRR HC
    go_wp2_with fail
    go_loopw [9] (fun vi wr => ∃ q p : Nat, vi = .int .i64 (p : Int) ∧ p = 16 * q ∧ p ≤ l2.length + 15 ∧ Aside0 (Kd.R (Kd.int .u8) 5 wr w1.heap.size (fun _ => True) (.slice (some ⟨g, 0, none⟩) (R.take p ++ l2.drop p).length cg) (R.take p ++ l2.drop p)) ∧ Aside0 (Below w1.heap.size w1 wr)) (fun i _ => l2.length + 20 - (intOf i).toNat)
    case atStart => exact ⟨0, 0, rfl, rfl, Nat.zero_le _, HR0, HB2⟩
    case round =>
      clear HR0 HB2
      obtain ⟨q, p, rfl, hp, hpl, HR, HB⟩ := hrel
      obtain ⟨wR, rfl⟩ : ∃ W, W = wr := ⟨_, rfl⟩
      have HP := Aside0.mk hp
      by_cases hlt : p < l2.length
      · have HLT := Aside0.mk hlt
        have hd : decide (p < l2.length) = true := decide_eq_true hlt
        have hd2 : decide ((p : Int) < (l2.length : Int)) = true := decide_eq_true (by omega)
        have e1 : Int.tdiv (p : Int) 16 = (q : Int) := by rw [Int.tdiv_eq_ediv_of_nonneg (Int.natCast_nonneg _)]; omega
        have e1' : (p : Int) / 16 = (q : Int) := by omega
        have e2 : wrap64 (q : Int) = (q : Int) := by have := HL2.out; unfold wrap64; omega
        have e3 : wrap64 ((q : Int) + 1) = ((q + 1 : Nat) : Int) := by have := HL2.out; unfold wrap64; omega
        clear hp hpl hlt
        go_wp2_with fail
        refine (bo4_calls _ _).mono ?_
        rintro e w3 ⟨rfl, hb3⟩
        have HB3 := Aside0.mk (HB.out.trans (hb3.mono HB.out.size))
        have HR3 := Aside0.mk (Kd.R_below HR.out hb3)
        rw [e3]
        obtain ⟨sf, hsf⟩ : ∃ s, s = strOfNums (Sha.four ((q : Int) + 1)) := ⟨_, rfl⟩
        rw [← hsf]
        replace hsf : sf = strOfNums (Sha.four ((q + 1 : Nat) : Int)) := hsf
        have hsz4 : sf.size = 4 := by rw [hsf, str_size]; rfl
        have hcat : a1.size + sf.size ≤ 9223372036854775807 := by omega
        have hcat0 := eq_true hcat
        have hcat1 : decide (a1.size + sf.size ≤ 9223372036854775807) = true := decide_eq_true hcat
        have hcat2 : (9223372036854775807 < a1.size + sf.size) = False := eq_false (Nat.not_lt.2 hcat)
        have hszs : (a1 ++ sf).size = 16 := by rw [ByteArray.size_append]; omega
        obtain ⟨blk, hblk⟩ : ∃ l, l = nonce ++ Sha.four ((q + 1 : Nat) : Int) := ⟨_, rfl⟩
        have hbl : bytesL (a1 ++ sf) = blk := by
          rw [hsf, HNE.out, strOfNums_append, ← hblk]
          exact bytesL_str _ (by rw [hblk]; exact Aes.ok_append HNO.out (Md.four_by _))
        have HBE := Aside0.mk hblk
        have HBL : Aside0 (blk.length = 16) := ⟨by rw [hblk, List.length_append, HNL.out]; rfl⟩
        have HBO : Aside0 (Aes.ok blk) := ⟨by rw [hblk]; exact Aes.ok_append HNO.out (Md.four_by _)⟩
        have HNB : Aside0 ((nums IntKind.u8 blk).length = 16) := ⟨by simp [nums, HBL.out]⟩
        have kc := Lib.run_convert_string_bytes (P := Try.prog) w3 9 28 5 (a1 ++ sf) Try.underlying9 Try.underlying28 Try.underlying5
        have hrg := bytes_range w3 5 (a1 ++ sf)
        have hb4 : Below w3.heap.size w3 (Lib.bytesWorld w3 5 (a1 ++ sf)) := bytes_below (Below.refl _ _) (Nat.le_refl _) _ _
        rw [hszs] at kc
        rw [hbl] at hrg
        generalize Lib.bytesWorld w3 5 (a1 ++ sf) = w4 at kc hrg hb4
        generalize grownCap w3 16 0 5 = cb at kc
        have HB4 := Aside0.mk (HB3.out.trans (hb4.mono HB3.out.size))
        have HR4 := Aside0.mk (Kd.R_below HR3.out hb4)
        have HRG := Aside0.mk hrg
        generalize w3.heap.size = gb at kc HRG
        clear hblk hbl hszs hsf hb3 hb4 hrg e1 e1' e2 e3 HB3 HR3 HB HR
        have k16 := k16_at
        go_wp2_with (refine wpList_load_mid (by rfl) 52 (.tmp 30) (by rfl) gb 0 (by rfl) (nums .u8 blk) _ HRG.out Try.underlying52 rfl (key_size blk HNB.out) ?_)
        obtain ⟨E, hE⟩ : ∃ E, E = Aes.encL keys blk := ⟨_, rfl⟩
        have HE : Aside0 (E = Md.ctrB keys nonce q) := ⟨by rw [hE, HBE.out]; rfl⟩
        have HEL : Aside0 (E.length = 16) := ⟨by rw [hE]; exact Aes.encL_length _ _⟩
        have HEO : Aside0 (Aes.ok E) := ⟨by rw [hE]; exact Aes.encL_ok (cipherAt_ok (HCB.out w4 HB4.out)) HBO.out⟩
        have HES : Aside0 ((nums IntKind.u8 E).toArray.size = 16) := ⟨by simp [nums, HEL.out]⟩
        with_reducible refine (enc_u keys _ gc blk _ (HCB.out w4 HB4.out) HKN.out HBL.out HBO.out).mono ?_
        rintro e w5 ⟨rfl, hb5⟩
        rw [← hE]
        have HB5 := Aside0.mk (HB4.out.trans (hb5.mono HB4.out.size))
        have HR5 := Aside0.mk (Kd.R_below HR4.out hb5)
        clear hE hb5 HB4 HR4 HRG kc
        go_wp2_with (refine wpList_store_row (by rfl) 52 (.tmp 10) (.tmp 32) (by rfl) w5.heap.size (nums .u8 E).toArray (by rfl) (by rfl) 52 _ (blk_new w5 _) (by rw [HES.out]; kernel_rfl) (by rw [HES.out]; rfl) (nums_one _ _) ?_)
        show Code.wp _ _ _ _ ((w5.alloc (.cells (nums .u8 (List.replicate 16 0)).toArray 52)).setRow w5.heap.size (nums .u8 E).toArray)
        obtain ⟨gE, hgE⟩ : ∃ g, g = w5.heap.size := ⟨_, rfl⟩
        have hb6 : Below w5.heap.size w5 ((w5.alloc (.cells (nums .u8 (List.replicate 16 0)).toArray 52)).setRow w5.heap.size (nums .u8 E).toArray) := below_row (below_alloc (Below.refl _ _) _) (Nat.le_refl _) _
        have hG6 : ((w5.alloc (.cells (nums .u8 (List.replicate 16 0)).toArray 52)).setRow w5.heap.size (nums .u8 E).toArray).heap[w5.heap.size]? = some (.cells (nums .u8 E).toArray 52 (0, 0)) := setRow_heap _ _ _ _ _ _ (blk_new w5 _)
        have hgg : g < w5.heap.size := by obtain ⟨_, _, hh, _, hlt, _⟩ := Kd.R_form HR5.out (by rw [HLEN.out]; exact HPOS.out); injection hh with h1; injection h1 with h1; injection h1 with h1; rw [h1]; exact hlt
        have HNE2 : Aside0 (g ≠ gE) := ⟨by omega⟩
        obtain ⟨w6, hw6⟩ : ∃ w, w = (w5.alloc (.cells (nums .u8 (List.replicate 16 0)).toArray 52)).setRow w5.heap.size (nums .u8 E).toArray := ⟨_, rfl⟩
        rw [← hw6] at hb6 hG6 ⊢
        have HB6 := Aside0.mk (HB5.out.trans (hb6.mono HB5.out.size))
        have HR6 := Aside0.mk (Kd.R_below HR5.out hb6)
        rw [← hgE] at hG6 ⊢
        have HG6 := Aside0.mk hG6
        clear hw6 hgE hb6 hG6 hgg HB5 HR5
        obtain ⟨p16, hp16⟩ : ∃ x, x = p + 16 := ⟨_, rfl⟩
        obtain ⟨ed, hed⟩ : ∃ x, x = if l2.length < p16 then l2.length else p16 := ⟨_, rfl⟩
        have hmin1 : (if l2.length < p16 then (l2.length : Int) else (p16 : Int)) = (ed : Int) := by rw [hed]; split <;> rfl
        have hmin2 : (if (l2.length : Int) < (p16 : Int) then (l2.length : Int) else (p16 : Int)) = (ed : Int) := by rw [← hmin1]; simp only [Int.ofNat_lt]
        have e16 : wrap64 ((p : Int) + 16) = (p16 : Int) := by have := HL2.out; have := HLT.out; unfold wrap64; omega
        have HED : Aside0 (ed ≤ l2.length ∧ ed ≤ p + 16 ∧ p < ed ∧ (ed = l2.length ∨ ed = p + 16)) := ⟨by rw [hed]; have := HLT.out; split <;> omega⟩
        clear hed hp16
        go_loopw [11] (fun vk wr => ∃ k : Nat, vk = .int .i64 (k : Int) ∧ p ≤ k ∧ k ≤ ed ∧ Aside0 (Kd.R (Kd.int .u8) 5 wr w1.heap.size (fun _ => True) (.slice (some ⟨g, 0, none⟩) (R.take k ++ l2.drop k).length cg) (R.take k ++ l2.drop k)) ∧ Aside0 (Below w1.heap.size w1 wr) ∧ Aside0 (wr.heap[gE]? = some (.cells (nums .u8 E).toArray 52 (0, 0)))) (fun i _ => l2.length + 20 - (intOf i).toNat)
        case atStart => exact ⟨p, rfl, Nat.le_refl _, by have := HED.out; omega, HR6, HB6, HG6⟩
        case round =>
          clear HR6 HB6 HG6
          obtain ⟨k, rfl, hpk, hke, HR, HB, HG⟩ := hrel
          by_cases hlt : k < ed
          · have hdk : decide (k < ed) = true := decide_eq_true hlt
            have hdk2 : decide ((k : Int) < (ed : Int)) = true := decide_eq_true (by omega)
            have HLT2 := Aside0.mk hlt
            obtain ⟨i, hi⟩ : ∃ i, i = k - p := ⟨_, rfl⟩
            have hkl : k < l2.length := by have := HED.out; omega
            have hi16 : i < 16 := by have := HED.out; omega
            have hcell := Kd.R_cell (0 : Int) HR.out (k : Int) (Int.natCast_nonneg k) (by rw [HLEN.out]; omega)
            rw [Int.toNat_natCast] at hcell
            have hval : rdOf (0 : Int) (R.take k ++ l2.drop k) (k : Int) = l2.getD k 0 := by
              unfold rdOf
              rw [Int.toNat_natCast, List.getD_eq_getElem?_getD, td_at R l2 HRL.out k (by rw [HRL.out]; exact hkl)]; rfl
            rw [hval] at hcell
            obtain ⟨x, hx⟩ : ∃ x, x = l2.getD k 0 := ⟨_, rfl⟩
            obtain ⟨y, hy⟩ : ∃ y, y = E.getD i 0 := ⟨_, rfl⟩
            rw [← hx] at hcell
            have cA : wr.cell? ⟨g, k, none⟩ = some (.int .u8 x) := hcell.1
            have zA : wr.frozen? ⟨g, k, none⟩ = false := hcell.2
            have cE : wr.cell? ⟨gE, i, none⟩ = some (.int .u8 y) := by
              rw [blk_cell HG.out, hy]
              exact nums_at? _ _ _ _ (by rw [List.getD_eq_getElem?_getD, List.getElem?_eq_getElem (by rw [HEL.out]; exact hi16)]; rfl)
            have HV : Aside0 (R.getD k 0 = Go.bits .xor .u8 x y) := ⟨by
              rw [HRA.out k hkl, hx, hy, HE.out]
              have h1 : k / 16 = q := by have := HP.out; have := HED.out; omega
              have h2 : k % 16 = i := by have := HP.out; omega
              rw [h1, h2]; rfl⟩
            have ei : wrap64 ((k : Int) - (p : Int)) = (i : Int) := by have := HL2.out; unfold wrap64; omega
            have i0 : (0 : Int) ≤ (i : Int) := Int.natCast_nonneg i
            have i1 : (i : Int) < 16 := by omega
            have k0 : (0 : Int) ≤ (k : Int) := Int.natCast_nonneg k
            have k1 : (k : Int) < (l2.length : Int) := by omega
            have k2 : k < l2.length := hkl
            have i2 : i < 16 := hi16
            have HPK := Aside0.mk hpk
            clear hcell hval hx hy hi hlt hpk hke hkl hi16
            go_wp2
            go_region
            clear ei i0 i1 k0 k1 k2 i2 cA zA cE
            all_goals go_wp2
            have hw : wrap64 ((k : Int) + 1) = ((k + 1 : Nat) : Int) := by have := HLT2.out; have := HED.out; have := HL2.out; unfold wrap64; omega
            rw [hw]
            clear hw
            go_roundw
            case rel =>
              have hp2 := Kd.R_put HR.out (k : Int) (Go.bits .xor .u8 x y)
              rw [Int.toNat_natCast] at hp2
              have hset : (R.take k ++ l2.drop k).set k (Go.bits .xor .u8 x y) = R.take (k + 1) ++ l2.drop (k + 1) := by
                rw [← HV.out]
                exact td_set R l2 HRL.out k (by rw [HRL.out]; have := HLT2.out; have := HED.out; omega)
              have h1 := hp2.1
              have hl1 : (R.take k ++ l2.drop k).length = (R.take (k + 1) ++ l2.drop (k + 1)).length := by rw [HLEN.out, HLEN.out]
              rw [hset, hl1] at h1
              exact ⟨k + 1, rfl, by have := HPK.out; omega, HLT2.out, ⟨Kd.R_drew h1⟩, ⟨below_drew1 (below_set HB.out HGB.out)⟩, ⟨blk_drew (blk_far HG.out (Ne.symm HNE2.out) _)⟩⟩
            case measure => simp [intOf]; have := HLT2.out; have := HED.out; omega
          · have hdk : decide (k < ed) = false := decide_eq_false hlt
            have hdk2 : decide ((k : Int) < (ed : Int)) = false := decide_eq_false (by omega)
            obtain rfl : k = ed := by omega
            clear hmin1 hlt
            go_wp2
            have hw : wrap64 ((p : Int) + 16) = ((p + 16 : Nat) : Int) := by have := HL2.out; have := HLT.out; unfold wrap64; omega
            rw [hw]
            clear hw
            have hrow : R.take k ++ l2.drop k = R.take (p + 16) ++ l2.drop (p + 16) := by
              have h := HED.out
              rcases h.2.2.2 with e | e
              · rw [List.take_of_length_le (by rw [HRL.out]; omega), List.drop_eq_nil_of_le (by omega), List.take_of_length_le (by rw [HRL.out]; omega), List.drop_eq_nil_of_le (by omega)]
              · rw [e]
            rw [hrow] at HR
            exact ⟨⟨q + 1, p + 16, rfl, by have := HP.out; omega, by have := HLT.out; omega, HR, HB⟩, by simp [intOf]; have := HLT.out; omega⟩
      · have hd : decide (p < l2.length) = false := decide_eq_false hlt
        have hd2 : decide ((p : Int) < (l2.length : Int)) = false := decide_eq_false (by omega)
        have eR : R.take p ++ l2.drop p = R := by rw [List.take_of_length_le (by rw [HRL.out]; omega), List.drop_eq_nil_of_le (by omega), List.append_nil]
        rw [eR] at HR
        have HRL2 := HRL.out
        rw [HRL2] at HR
        clear eR hp hpl hlt HRL2
        go_wp2
        go_ret
        exact ⟨_, rfl, Kd.R_lower HR.out HB1.out.size, HB1.out.trans (HB.out.mono HB1.out.size)⟩
theorem impl_ctr.calls (a0 a1 : ByteArray) (A2 : Option Addr) (c2 : Nat) (l2 : List Int) (r : List Int) (w : World) (hr2 : Kd.C (Kd.int .u8) w A2 l2.length l2) (hc2 : l2.length ≤ c2) (h : impl_ctr.f a0 a1 l2 = some r) :
    Calls Try.prog 65 #[.string a0, .string a1, .slice A2 l2.length c2] w fun e w' => ∃ v0_ : Value, e = .returned (v0_) ∧ Kd.R (Kd.int .u8) 5 w' w.heap.size (fun _ => True) v0_ r ∧ Below w.heap.size w w' := by
  unfold impl_ctr.f at h
  split at h
  · rename_i h1
    obtain ⟨hu, hk, hn, hl⟩ := h1
    injection h with h
    subst h
    rcases hk with e | e
    · exact impl_ctr_in a0 a1 4 A2 c2 l2 w hr2 hc2 (u8b_ok hu) hl (.inl rfl) e hn
    · exact impl_ctr_in a0 a1 8 A2 c2 l2 w hr2 hc2 (u8b_ok hu) hl (.inr rfl) e hn
  · cases h
def impl_CtrXor.f (a0 a1 : ByteArray) (l2 : List Int) : Option (List Int × Int) := if u8b l2 = true then (if 65536 < a0.size ∨ 65536 < a1.size ∨ 65536 < l2.length then some ([], 2) else if (a0.size = 16 ∨ a0.size = 32) ∧ a1.size = 12 then some (Md.ctrL (Aes.keysL (bytesL a0)) (bytesL a1) l2, 0) else some ([], 1)) else none
theorem long2_f (a0 a1 : ByteArray) (b : Bool) (h : b = decide (65536 < a0.size ∨ 65536 < a1.size)) : impl_isLong_string.f [a0, a1] = some b := by
  subst h
  unfold impl_isLong_string.f
  congr 1
  simp only [List.any_cons, List.any_nil, Bool.or_false]
  rw [Bool.decide_or]
  congr 1
  · exact decide_eq_decide.2 (by omega)
  · exact decide_eq_decide.2 (by omega)
theorem longB_f (l : List Int) (b : Bool) (h : b = decide (65536 < l.length)) : impl_isLong_byte.f [l] = some b := by
  subst h
  unfold impl_isLong_byte.f
  congr 1
  simp only [List.any_cons, List.any_nil, Bool.or_false]
  exact decide_eq_decide.2 (by omega)
theorem isKey_f (s : ByteArray) (b : Bool) (h : b = decide (s.size = 16 ∨ s.size = 32)) : impl_isKey.f s = some b := by
  subst h
  unfold impl_isKey.f
  by_cases h : s.size = 16
  · rw [if_pos (by omega), decide_eq_true (.inl h)]
  · rw [if_neg (by omega)]
    congr 1
    by_cases h2 : s.size = 32
    · rw [decide_eq_true (.inr h2), h2]; rfl
    · rw [decide_eq_false (by omega), beq_eq_false_iff_ne]; omega
set_option maxHeartbeats 4000000 in
set_option maxRecDepth 100000 in
theorem impl_CtrXor.calls (a0 a1 : ByteArray) (A2 : Option Addr) (c2 : Nat) (l2 : List Int) (r1 : List Int) (r2 : Int) (w0 : World) (hr2 : Kd.C (Kd.int .u8) w0 A2 l2.length l2) (hc2 : l2.length ≤ c2) (h : impl_CtrXor.f a0 a1 l2 = some (r1, r2)) :
    Calls Try.prog 37 #[.string a0, .string a1, .slice A2 l2.length c2] w0 fun e w' => ∃ v0_ : Value, e = .returned (.tuple #[v0_, .int .i64 r2]) ∧ Kd.R (Kd.int .u8) 5 w' w0.heap.size (fun _ => True) v0_ r1 ∧ Below w0.heap.size w0 w' := by
  have HR2 := Aside0.mk hr2
  have HC2 := Aside0.mk hc2
  clear hr2 hc2
  unfold impl_CtrXor.f at h
  by_cases hu : u8b l2 = true
  · rw [if_pos hu] at h
    have HU := Aside0.mk (u8b_ok hu)
    by_cases h1 : 65536 < a0.size ∨ 65536 < a1.size
    · rw [if_pos (by omega)] at h
      obtain ⟨rfl, rfl⟩ : ([] : List Int) = r1 ∧ (2 : Int) = r2 := by simpa using h
      have HF := Aside0.mk (long2_f a0 a1 true (decide_eq_true h1).symm)
      clear h h1 hu
      go_enter Try.func37, Try.ntmps37
      go_wp2_with fail
      refine (impl_isLong_string.calls _ _ [a0, a1] true _ (C_two_string (g := w0.heap.size) (T := 9) (fr := (0, 0)) (blk_new w0 _)) (Nat.le_refl _) HF.out).mono ?_
      rintro e wa ⟨rfl, hd⟩
      have HBa := Aside0.mk (below_then (below_alloc (Below.refl _ _) _) (by simp) hd.below : Below w0.heap.size w0 wa)
      clear hd
      go_wp2
      go_ret2
      exact ⟨_, rfl, Kd.R_nil _ _ _ _ _, HBa.out⟩
    have HF := Aside0.mk (long2_f a0 a1 false (decide_eq_false h1).symm)
    by_cases h2 : 65536 < l2.length
    · rw [if_pos (by omega)] at h
      obtain ⟨rfl, rfl⟩ : ([] : List Int) = r1 ∧ (2 : Int) = r2 := by simpa using h
      have HF2 := Aside0.mk (longB_f l2 true (decide_eq_true h2).symm)
      clear h h1 h2 hu
      go_enter Try.func37, Try.ntmps37
      go_wp2_with fail
      refine (impl_isLong_string.calls _ _ [a0, a1] false _ (C_two_string (g := w0.heap.size) (T := 9) (fr := (0, 0)) (blk_new w0 _)) (Nat.le_refl _) HF.out).mono ?_
      rintro e wa ⟨rfl, hd⟩
      have HBa := Aside0.mk (below_then (below_alloc (Below.refl _ _) _) (by simp) hd.below : Below w0.heap.size w0 wa)
      clear hd
      go_wp2_with fail
      have hC := C_one_slice (c := c2) (xs := l2) (blk_new wa (Obj.cells #[Value.slice A2 l2.length c2] 28)) rfl HC2.out (Kd.C_alloc (Kd.C_below HR2.out HBa.out) _)
      refine (impl_isLong_byte.calls _ 1 [l2] _ _ hC (Nat.le_refl _) HF2.out).mono ?_
      rintro e wb ⟨rfl, hd⟩
      have HBb := Aside0.mk (below_then (below_alloc HBa.out _) (by have := HBa.out.size; simp; omega) hd.below : Below w0.heap.size w0 wb)
      clear hd hC HBa
      go_wp2
      go_ret2
      exact ⟨_, rfl, Kd.R_nil _ _ _ _ _, HBb.out⟩
    have HF2 := Aside0.mk (longB_f l2 false (decide_eq_false h2).symm)
    rw [if_neg (by omega)] at h
    by_cases h3 : a0.size = 16 ∨ a0.size = 32
    · have HK := Aside0.mk (isKey_f a0 true (decide_eq_true h3).symm)
      by_cases h4 : a1.size = 12
      · rw [if_pos ⟨h3, h4⟩] at h
        obtain ⟨rfl, rfl⟩ : Md.ctrL (Aes.keysL (bytesL a0)) (bytesL a1) l2 = r1 ∧ (0 : Int) = r2 := by simpa using h
        obtain ⟨R, hR⟩ : ∃ R, R = Md.ctrL (Aes.keysL (bytesL a0)) (bytesL a1) l2 := ⟨_, rfl⟩
        have HCT : Aside0 (impl_ctr.f a0 a1 l2 = some R) := ⟨by unfold impl_ctr.f; rw [if_pos ⟨hu, h3, h4, by omega⟩, hR]⟩
        have hn : ((a1.size : Int) != 12) = false := by rw [h4]; rfl
        have h4' : (a1.size : Int) = 12 := by omega
        rw [← hR]
        clear hR h h1 h2 hu h3 h4
        go_enter Try.func37, Try.ntmps37
        go_wp2_with fail
        refine (impl_isLong_string.calls _ _ [a0, a1] false _ (C_two_string (g := w0.heap.size) (T := 9) (fr := (0, 0)) (blk_new w0 _)) (Nat.le_refl _) HF.out).mono ?_
        rintro e wa ⟨rfl, hd⟩
        have HBa := Aside0.mk (below_then (below_alloc (Below.refl _ _) _) (by simp) hd.below : Below w0.heap.size w0 wa)
        clear hd
        go_wp2_with fail
        have hC := C_one_slice (c := c2) (xs := l2) (blk_new wa (Obj.cells #[Value.slice A2 l2.length c2] 28)) rfl HC2.out (Kd.C_alloc (Kd.C_below HR2.out HBa.out) _)
        refine (impl_isLong_byte.calls _ 1 [l2] _ _ hC (Nat.le_refl _) HF2.out).mono ?_
        rintro e wb ⟨rfl, hd⟩
        have HBb := Aside0.mk (below_then (below_alloc HBa.out _) (by have := HBa.out.size; simp; omega) hd.below : Below w0.heap.size w0 wb)
        clear hd hC HBa
        go_wp2_with fail
        refine (impl_isKey.calls a0 true _ HK.out).mono ?_
        rintro e wc ⟨rfl, ⟨nd, rfl⟩⟩
        have HBc : Aside0 (Below w0.heap.size w0 (wb.drewN nd)) := ⟨pw_below_drewN HBb.out nd⟩
        go_wp2_with fail
        refine (impl_ctr.calls a0 a1 A2 c2 l2 R _ (Kd.C_below HR2.out HBc.out) HC2.out HCT.out).mono ?_
        rintro e wd ⟨v, rfl, hv, hb⟩
        have HBd := Aside0.mk (HBc.out.trans (hb.mono HBc.out.size))
        have HV := Aside0.mk (Kd.R_lower hv HBc.out.size)
        clear hv hb
        go_wp2
        go_ret2
        exact ⟨_, rfl, HV.out, HBd.out⟩
      · rw [if_neg (fun h => h4 h.2)] at h
        obtain ⟨rfl, rfl⟩ : ([] : List Int) = r1 ∧ (1 : Int) = r2 := by simpa using h
        have hn : ((a1.size : Int) != 12) = true := by rw [bne_iff_ne]; omega
        clear h h1 h2 hu h3 h4
        go_enter Try.func37, Try.ntmps37
        go_wp2_with fail
        refine (impl_isLong_string.calls _ _ [a0, a1] false _ (C_two_string (g := w0.heap.size) (T := 9) (fr := (0, 0)) (blk_new w0 _)) (Nat.le_refl _) HF.out).mono ?_
        rintro e wa ⟨rfl, hd⟩
        have HBa := Aside0.mk (below_then (below_alloc (Below.refl _ _) _) (by simp) hd.below : Below w0.heap.size w0 wa)
        clear hd
        go_wp2_with fail
        have hC := C_one_slice (c := c2) (xs := l2) (blk_new wa (Obj.cells #[Value.slice A2 l2.length c2] 28)) rfl HC2.out (Kd.C_alloc (Kd.C_below HR2.out HBa.out) _)
        refine (impl_isLong_byte.calls _ 1 [l2] _ _ hC (Nat.le_refl _) HF2.out).mono ?_
        rintro e wb ⟨rfl, hd⟩
        have HBb := Aside0.mk (below_then (below_alloc HBa.out _) (by have := HBa.out.size; simp; omega) hd.below : Below w0.heap.size w0 wb)
        clear hd hC HBa
        go_wp2_with fail
        refine (impl_isKey.calls a0 true _ HK.out).mono ?_
        rintro e wc ⟨rfl, ⟨nd, rfl⟩⟩
        have HBc : Aside0 (Below w0.heap.size w0 (wb.drewN nd)) := ⟨pw_below_drewN HBb.out nd⟩
        go_wp2
        go_ret2
        exact ⟨_, rfl, Kd.R_nil _ _ _ _ _, HBc.out⟩
    · have HK := Aside0.mk (isKey_f a0 false (decide_eq_false h3).symm)
      rw [if_neg (fun h => h3 h.1)] at h
      obtain ⟨rfl, rfl⟩ : ([] : List Int) = r1 ∧ (1 : Int) = r2 := by simpa using h
      clear h h1 h2 hu h3
      go_enter Try.func37, Try.ntmps37
      go_wp2_with fail
      refine (impl_isLong_string.calls _ _ [a0, a1] false _ (C_two_string (g := w0.heap.size) (T := 9) (fr := (0, 0)) (blk_new w0 _)) (Nat.le_refl _) HF.out).mono ?_
      rintro e wa ⟨rfl, hd⟩
      have HBa := Aside0.mk (below_then (below_alloc (Below.refl _ _) _) (by simp) hd.below : Below w0.heap.size w0 wa)
      clear hd
      go_wp2_with fail
      have hC := C_one_slice (c := c2) (xs := l2) (blk_new wa (Obj.cells #[Value.slice A2 l2.length c2] 28)) rfl HC2.out (Kd.C_alloc (Kd.C_below HR2.out HBa.out) _)
      refine (impl_isLong_byte.calls _ 1 [l2] _ _ hC (Nat.le_refl _) HF2.out).mono ?_
      rintro e wb ⟨rfl, hd⟩
      have HBb := Aside0.mk (below_then (below_alloc HBa.out _) (by have := HBa.out.size; simp; omega) hd.below : Below w0.heap.size w0 wb)
      clear hd hC HBa
      go_wp2_with fail
      refine (impl_isKey.calls a0 false _ HK.out).mono ?_
      rintro e wc ⟨rfl, ⟨nd, rfl⟩⟩
      have HBc : Aside0 (Below w0.heap.size w0 (wb.drewN nd)) := ⟨pw_below_drewN HBb.out nd⟩
      go_wp2
      go_ret2
      exact ⟨_, rfl, Kd.R_nil _ _ _ _ _, HBc.out⟩
  · rw [if_neg hu] at h
    cases h
def spec_l02Four.f (a0 : Int) : Option (List Int) := some (([(a0 / 16777216) % 256, (a0 / 65536) % 256, (a0 / 256) % 256, (a0) % 256] : List Int))
set_option maxHeartbeats 8000000 in
set_option maxRecDepth 100000 in
theorem spec_l02Four.calls (a0 : Int) (r : List Int) (w : World) (h : spec_l02Four.f a0 = some r) :
    Calls Try.prog 97 #[.int .i64 a0] w fun e w' => ∃ v0_ : Value, e = .returned (v0_) ∧ Kd.R (Kd.int .u8) 5 w' w.heap.size (fun _ => True) v0_ r ∧ Below w.heap.size w w' := by
  have HB := Aside0.mk (Below.refl w.heap.size w)
  have H : (some (([(a0 / 16777216) % 256, (a0 / 65536) % 256, (a0 / 256) % 256, (a0) % 256] : List Int))) = some r := h
  clear h
  obtain ⟨y349, hy349⟩ : ∃ y_ : List Int, y_ = (([(a0 / 16777216) % 256, (a0 / 65536) % 256, (a0 / 256) % 256, (a0) % 256] : List Int)) := ⟨_, rfl⟩
  replace H : (some y349) = some r := by first | (rw [hy349]; with_reducible exact H) | (have H2_ := (Option.bind_some _ _).symm.trans H; rw [hy349]; with_reducible exact H2_) | (have H2_ := (Option.bind_some _ _).symm.trans H; with_reducible exact H2_) | with_reducible exact H | (rw [hy349]; exact H) | exact H
  have Ny349 := Aside0.mk hy349
  clear hy349
  obtain rfl := Option.some.inj H
  go_enter Try.func97, Try.ntmps97
  go_wp2_with (first | ((with_reducible refine gate_dst (N := 14) rfl ?_); refine Kd.R_lit (Kd.int .u8) _ 5 ?hg (N := 14) ?hd (xs := ([(a0 / 16777216) % 256, (a0 / 65536) % 256, (a0 / 256) % 256, (a0) % 256] : List Int)) (inner := [.int .u8 ((a0 / 16777216) % 256), .int .u8 ((a0 / 65536) % 256), .int .u8 ((a0 / 256) % 256), .int .u8 ((a0) % 256)]) (ok := fun _ => True) (okp := fun _ => True) ?hr ?hp (fun _ hk => hk) trivial (Below.refl _ _) (Nat.le_refl _) (by simp) ?_; (case hd => rfl); (case hg => rfl); (case hr => first | (go_simp; done) | (go_simp; rfl)); (case hp => exact (Reps.one (show Kd.M (Kd.int .u8) _ _ _ ((a0 / 16777216) % 256) [.int .u8 ((a0 / 16777216) % 256)] from rfl) (Reps.one (show Kd.M (Kd.int .u8) _ _ _ ((a0 / 65536) % 256) [.int .u8 ((a0 / 65536) % 256)] from rfl) (Reps.one (show Kd.M (Kd.int .u8) _ _ _ ((a0 / 256) % 256) [.int .u8 ((a0 / 256) % 256)] from rfl) (Reps.one (show Kd.M (Kd.int .u8) _ _ _ ((a0) % 256) [.int .u8 ((a0) % 256)] from rfl) (Reps.none _ _)))))); intro v350 w2 ho3 hb hg_ hnew_; clear hg_ hnew_; (first | rw [← Ny349.out] at ho3 | (simp only [Int.reduceToNat] at ho3; rw [← Ny349.out] at ho3)); have n0_ := Aside0.mk (Kd.R_lower ho3 (below_size (by repeat (first | (with_reducible first | exact HB.out | apply below_alloc | apply pw_below_drewN | apply below_drew1) | exact HB.out)))); have n1_ := Aside0.mk (below_step (by repeat (first | (with_reducible first | exact HB.out | apply below_alloc | apply pw_below_drewN | apply below_drew1) | exact HB.out)) hb); clear HB; have HO351 := n0_; have HB := n1_; clear n0_ n1_; clear hb ho3))
  go_ret
  exact ⟨_, by first | rfl | (simp [errW_none, errW_some] <;> rfl) | (simp [*, errW_none, errW_some] <;> rfl), by (with_reducible repeat (first | apply Kd.R_alloc | apply Kd.R_drewN | apply Kd.R_drew)); exact HO351.out, by repeat (first | (with_reducible first | exact HB.out | apply below_alloc | apply pw_below_drewN | apply below_drew1) | exact HB.out)⟩
mutual
def spec_l02Ctr.l0 : Nat → ByteArray → List Int → List ByteArray → List Int → Int → Option (List Int)
  | 0, _, _, _, _, _ => none
  | k + 1, x1, x7, x8, x9, x10 => if x10 < (x9.length : Int) then ((spec_l02Four.f (wrap64 (1 + (wrap64 (Int.tdiv x10 16))))).bind fun t364 => (if x1.size + (strOfNums t364).size ≤ 9223372036854775807 then ((spec_l01Encrypt.f k x8 x7 (x1 ++ (strOfNums t364))).bind fun t367 => (spec_l02Ctr.l1 k x1 x7 x8 x9 x10 t367 x10)) else (none))) else (some x9)
def spec_l02Ctr.l1 : Nat → ByteArray → List Int → List ByteArray → List Int → Int → ByteArray → Int → Option (List Int)
  | 0, _, _, _, _, _, _, _ => none
  | k + 1, x1, x7, x8, x9, x10, x11, x12 => if x12 < (x9.length : Int) then (if x12 < (wrap64 (x10 + 16)) then (if 0 ≤ x12 then (if 0 ≤ (wrap64 (x12 - x10)) then (if (wrap64 (x12 - x10)) < (x11.size : Int) then (spec_l02Ctr.l1 k x1 x7 x8 (x9.set (x12 : Int).toNat (Go.bits .xor .u8 (rd x9 x12) (bt x11 (wrap64 (x12 - x10))))) x10 x11 (wrap64 (x12 + 1))) else (none)) else (none)) else (none)) else (spec_l02Ctr.l0 k x1 x7 x8 x9 (wrap64 (x10 + 16)))) else (spec_l02Ctr.l0 k x1 x7 x8 x9 (wrap64 (x10 + 16)))
end
def spec_l02Ctr.f (k : Nat) (a0 : ByteArray) (a1 : ByteArray) (l2 : List Int) : Option (List Int) := (spec_l01Table.f k).bind fun t352 => ((spec_l01Keys.f a0 t352).bind fun t355 => ((some (([] : List Int) : List Int)).bind fun y358 => (if y358.length + l2.length < 140737488355328 then (spec_l02Ctr.l0 k a1 t352 t355 (y358 ++ l2) 0) else (none))))
def spec_l02Ctr.T11 : Bool × List (List Nat × List Nat) := (true, [([], []), ([], []), ([0, 1], [0, 1]), ([2], [2]), ([], []), ([], []), ([], []), ([5, 6], [5, 6]), ([4, 7], [4, 7]), ([3, 8], [3, 8]), ([0, 1, 0, 1, 2, 3, 4, 5, 6, 7, 8, 9], [0, 1]), ([10, 9, 0, 1, 2, 3, 4, 5, 6, 7, 8, 9], [9, 10])])
def spec_l02Ctr.B11 : List Nat := [0, 0, 3, 7, 0, 0, 0, 96, 240, 511, 1023, 2047]
theorem spec_l02Ctr.tab11 : rtab .any (opsOf Try.f66 11) = spec_l02Ctr.T11 := by kernel_rfl
theorem spec_l02Ctr.bits11 : waitsOk spec_l02Ctr.T11.2 spec_l02Ctr.B11 = true := by kernel_rfl
set_option maxHeartbeats 8000000 in
set_option maxRecDepth 100000 in
theorem spec_l02Ctr.calls (k : Nat) (a0 : ByteArray) (a1 : ByteArray) (A2 : Option Addr) (c2 : Nat) (l2 : List Int) (r : List Int) (w : World) (hr2 : Kd.C (Kd.int .u8) w A2 l2.length l2) (hc2 : l2.length ≤ c2) (h : spec_l02Ctr.f k a0 a1 l2 = some r) :
    Calls Try.prog 66 #[.string a0, .string a1, .slice A2 l2.length c2] w fun e w' => ∃ v0_ : Value, e = .returned (v0_) ∧ Kd.R (Kd.int .u8) 5 w' w.heap.size (fun _ => True) v0_ r ∧ Below w.heap.size w w' := by
  have HR2 := Aside0.mk hr2
  have HC2 := Aside0.mk hc2
  clear hr2 hc2
  have HB := Aside0.mk (Below.refl w.heap.size w)
  have H : ((spec_l01Table.f k).bind fun t352 => ((spec_l01Keys.f a0 t352).bind fun t355 => ((some (([] : List Int) : List Int)).bind fun y358 => (if y358.length + l2.length < 140737488355328 then (spec_l02Ctr.l0 k a1 t352 t355 (y358 ++ l2) 0) else (none))))) = some r := h
  clear h
  replace H := Option.bind_eq_some_iff.mp H
  obtain ⟨t352, A40, H⟩ := H
  replace H : ((spec_l01Keys.f a0 t352).bind fun t355 => ((some (([] : List Int) : List Int)).bind fun y358 => (if y358.length + l2.length < 140737488355328 then (spec_l02Ctr.l0 k a1 t352 t355 (y358 ++ l2) 0) else (none)))) = some r := H
  have A4 := Aside0.mk A40
  clear A40
  replace H := Option.bind_eq_some_iff.mp H
  obtain ⟨t355, A50, H⟩ := H
  replace H : ((some (([] : List Int) : List Int)).bind fun y358 => (if y358.length + l2.length < 140737488355328 then (spec_l02Ctr.l0 k a1 t352 t355 (y358 ++ l2) 0) else (none))) = some r := H
  have A5 := Aside0.mk A50
  clear A50
  obtain ⟨y358, hy358⟩ : ∃ y_ : List Int, y_ = (([] : List Int)) := ⟨_, rfl⟩
  replace H : (if y358.length + l2.length < 140737488355328 then (spec_l02Ctr.l0 k a1 t352 t355 (y358 ++ l2) 0) else (none)) = some r := by first | (rw [hy358]; with_reducible exact H) | (have H2_ := (Option.bind_some _ _).symm.trans H; rw [hy358]; with_reducible exact H2_) | (have H2_ := (Option.bind_some _ _).symm.trans H; with_reducible exact H2_) | with_reducible exact H | (rw [hy358]; exact H) | exact H
  have Ny358 := Aside0.mk hy358
  clear hy358
  by_cases c6 : y358.length + l2.length < 140737488355328
  · rw [if_pos c6] at H
    have LMc6 := Aside0.mk c6
    clear c6
    obtain ⟨y361, hy361⟩ : ∃ y_ : List Int, y_ = (y358 ++ l2) := ⟨_, rfl⟩
    replace H : (spec_l02Ctr.l0 k a1 t352 t355 y361 0) = some r := by first | (rw [hy361]; with_reducible exact H) | (have H2_ := (Option.bind_some _ _).symm.trans H; rw [hy361]; with_reducible exact H2_) | (have H2_ := (Option.bind_some _ _).symm.trans H; with_reducible exact H2_) | with_reducible exact H | (rw [hy361]; exact H) | exact H
    have Ny361 := Aside0.mk hy361
    clear hy361
    have H' := Aside0.mk H
    clear H
    go_enter Try.func66, Try.ntmps66
    go_wp2_with (first | ((with_reducible refine gate_callee (f := 41) rfl ?_); refine goesL_ (some 13) rfl rfl Try.func41 (by kernel_rfl) rfl #[] rfl (by (try simp only [List.map_toArray, List.map_cons, List.map_nil]); first | done | rfl | (simp only [List.length_drop, List.length_take]; rfl)) ?_; (with_reducible refine (spec_l01Table.calls k  t352 _ A4.out).mono ?_); rintro e w7 ⟨v353, rfl, ho0, hb⟩; refine ⟨_, rfl, ?_⟩; have n0_ := Aside0.mk (Kd.R_lower ho0 (below_size (by repeat (first | (with_reducible first | exact HB.out | apply below_alloc | apply pw_below_drewN | apply below_drew1) | exact HB.out)))); have n1_ := Aside0.mk (below_step (by repeat (first | (with_reducible first | exact HB.out | apply below_alloc | apply pw_below_drewN | apply below_drew1) | exact HB.out)) hb); clear HB; have HO354 := n0_; have HB := n1_; clear n0_ n1_; (try clear hb); (try clear hb2); (try clear hk); (try clear hi); (try clear ho0); obtain ⟨Ao8, co8, eo8⟩ := Kd.R_slice HO354.out; subst eo8) | ((with_reducible refine gate_callee (f := 40) rfl ?_); refine goesL_ (some 16) rfl rfl Try.func40 (by kernel_rfl) rfl #[.string a0, .slice Ao8 t352.length co8] rfl (by (try simp only [List.map_toArray, List.map_cons, List.map_nil]); first | done | rfl | (simp only [List.length_drop, List.length_take]; rfl)) ?_; (with_reducible refine (spec_l01Keys.calls a0 _ _ t352 t355 _ ?side1 ?side2 A5.out).mono ?_); (case side1 => repeat (first | exact (Kd.R_reads' HO354.out).2.2 | (with_reducible refine Kd.C_alloc ?_ _) | (with_reducible refine Kd.C_drewN ?_ _) | (with_reducible refine Kd.C_drew ?_))); (case side2 => exact (Kd.R_reads' HO354.out).2.1); rintro e w9 ⟨v356, rfl, ho0, hb⟩; refine ⟨_, rfl, ?_⟩; have n0_ := Aside0.mk (Kd.R_below (by (with_reducible repeat (first | apply Kd.R_alloc | apply Kd.R_drewN | apply Kd.R_drew)); exact HO354.out) hb); have n1_ := Aside0.mk (Kd.R_lower ho0 (below_size (by repeat (first | (with_reducible first | exact HB.out | apply below_alloc | apply pw_below_drewN | apply below_drew1) | exact HB.out)))); have n2_ := Aside0.mk (below_step (by repeat (first | (with_reducible first | exact HB.out | apply below_alloc | apply pw_below_drewN | apply below_drew1) | exact HB.out)) hb); clear HO354; clear HB; have HO354 := n0_; have HO357 := n1_; have HB := n2_; clear n0_ n1_ n2_; (try clear hb); (try clear hb2); (try clear hk); (try clear hi); (try clear ho0)) | ((with_reducible refine gate_dst (N := 17) rfl ?_); refine Kd.R_lit (Kd.int .u8) _ 5 ?hg (N := 17) ?hd (xs := ([] : List Int)) (inner := []) (ok := fun _ => True) (okp := fun _ => True) ?hr ?hp (fun _ hk => hk) trivial (Below.refl _ _) (Nat.le_refl _) (by simp) ?_; (case hd => rfl); (case hg => rfl); (case hr => first | (go_simp; done) | (go_simp; rfl)); (case hp => exact (Reps.none _ _)); intro v359 w10 ho11 hb hg_ hnew_; clear hg_ hnew_; (first | rw [← Ny358.out] at ho11 | (simp only [Int.reduceToNat] at ho11; rw [← Ny358.out] at ho11)); have n0_ := Aside0.mk (Kd.R_below (by (with_reducible repeat (first | apply Kd.R_alloc | apply Kd.R_drewN | apply Kd.R_drew)); exact HO354.out) hb); have n1_ := Aside0.mk (Kd.R_below (by (with_reducible repeat (first | apply Kd.R_alloc | apply Kd.R_drewN | apply Kd.R_drew)); exact HO357.out) hb); have n2_ := Aside0.mk (Kd.R_lower ho11 (below_size (by repeat (first | (with_reducible first | exact HB.out | apply below_alloc | apply pw_below_drewN | apply below_drew1) | exact HB.out)))); have n3_ := Aside0.mk (below_step (by repeat (first | (with_reducible first | exact HB.out | apply below_alloc | apply pw_below_drewN | apply below_drew1) | exact HB.out)) hb); clear HO354; clear HO357; clear HB; have HO354 := n0_; have HO357 := n1_; have HO360 := n2_; have HB := n3_; clear n0_ n1_ n2_ n3_; clear hb ho11) | ((with_reducible refine gate_builtin (b := .append) (xs := #[.tmp 17, .tmp 18]) rfl ?_); at_builtin; refine Kd.R_append_rows (Kd.int .u8) (w0 := w) w.heap.size rfl (.tmp 17) (.tmp 18) 28 5 (.int .u8 0) 1 rfl Try.underlying28 info5 rfl (by decide) (by omega) v359 y358 l2 _ _ _ (fun _ => True) (fun _ => False) rfl rfl ?aO ?aR (fun _ _ h => h) (fun _ h => h.elim) ?aF ?aB ?aS ?aL ?_; (case aR => repeat (first | exact (Kd.C_below HR2.out HB.out) | (with_reducible refine Kd.C_alloc ?_ _) | (with_reducible refine Kd.C_drewN ?_ _) | (with_reducible refine Kd.C_drew ?_))); (case aB => exact (by repeat (first | (with_reducible first | exact HB.out | apply below_alloc | apply pw_below_drewN | apply below_drew1) | exact HB.out))); (case aF => exact (fun _ _ => trivial)); (case aO => exact (by (with_reducible repeat (first | apply Kd.R_alloc | apply Kd.R_drewN | apply Kd.R_drew)); exact HO360.out)); (case aS => exact (below_size (by repeat (first | (with_reducible first | exact HB.out | apply below_alloc | apply pw_below_drewN | apply below_drew1) | exact HB.out)))); (case aL => have := LMc6.out; omega); intro v362 w12 ho hb hg hat; rw [← Ny361.out] at ho; have n0_ := Aside0.mk (Kd.R_over' (by (with_reducible repeat (first | apply Kd.R_alloc | apply Kd.R_drewN | apply Kd.R_drew)); exact HO354.out) (Kd.R_typed (by (with_reducible repeat (first | apply Kd.R_alloc | apply Kd.R_drewN | apply Kd.R_drew)); exact HO360.out)) (by decide) hg); have n1_ := Aside0.mk (Kd.R_over' (by (with_reducible repeat (first | apply Kd.R_alloc | apply Kd.R_drewN | apply Kd.R_drew)); exact HO357.out) (Kd.R_typed (by (with_reducible repeat (first | apply Kd.R_alloc | apply Kd.R_drewN | apply Kd.R_drew)); exact HO360.out)) (by decide) hg); have n2_ := Aside0.mk (hb); have n3_ := Aside0.mk (ho); clear HO354; clear HO357; clear HB; clear HO360; have HO354 := n0_; have HO357 := n1_; have HB := n2_; have HO363 := n3_; clear n0_ n1_ n2_ n3_; clear ho hb hg hat))
    go_loopg [10] k (fun kq v10 w' => ∃ (x9_1 : List Int) (x10_1 : Int), v10 = .int .i64 x10_1 ∧ Aside0 (spec_l02Ctr.l0 kq a1 t352 t355 x9_1 x10_1 = some r) ∧ Aside0 (kq ≤ k) ∧ Aside0 (Kd.R (Kd.int .i64) 3 w' w.heap.size (fun _ => True) (.slice Ao8 t352.length co8) t352) ∧ Aside0 (Kd.R Kd.string 9 w' w.heap.size (fun _ => True) v356 t355) ∧ Aside0 (Kd.R (Kd.int .u8) 5 w' w.heap.size (fun _ => True) v362 x9_1) ∧ Aside0 (Below w.heap.size w w'))
    case atStart => exact ⟨(y361), (0), (by first | rfl | (simp; done) | (simp [*]; done)), H', ⟨Nat.le_refl _⟩, ⟨by (with_reducible repeat (first | apply Kd.R_alloc | apply Kd.R_drewN | apply Kd.R_drew)); exact HO354.out⟩, ⟨by (with_reducible repeat (first | apply Kd.R_alloc | apply Kd.R_drewN | apply Kd.R_drew)); exact HO357.out⟩, ⟨by (with_reducible repeat (first | apply Kd.R_alloc | apply Kd.R_drewN | apply Kd.R_drew)); exact HO363.out⟩, ⟨by repeat (first | (with_reducible first | exact HB.out | apply below_alloc | apply pw_below_drewN | apply below_drew1) | exact HB.out)⟩⟩
    case round =>
      clear H'
      try clear c2
      try clear p2
      try clear c4
      try clear c6
      obtain ⟨x9_1, x10_1, rfl, HA, HK1, HO_7, HO_8, HO_9, HB⟩ := hrel
      cases gk with
      | zero => exact absurd HA.out (by simp [spec_l02Ctr.l0])
      | succ k1 =>
        have H := HA.out
        clear HA
        simp only [spec_l02Ctr.l0] at H
        by_cases c13 : x10_1 < (x9_1.length : Int)
        · rw [if_pos c13] at H
          have c13b0 : decide (x10_1 < (x9_1.length : Int)) = true := decide_eq_true c13
          clear c13
          replace H := Option.bind_eq_some_iff.mp H
          obtain ⟨t364, A140, H⟩ := H
          replace H : (if a1.size + (strOfNums t364).size ≤ 9223372036854775807 then ((spec_l01Encrypt.f k1 t355 t352 (a1 ++ (strOfNums t364))).bind fun t367 => (spec_l02Ctr.l1 k1 a1 t352 t355 x9_1 x10_1 t367 x10_1)) else (none)) = some r := H
          have A14 := Aside0.mk A140
          clear A140
          by_cases c15 : a1.size + (strOfNums t364).size ≤ 9223372036854775807
          · rw [if_pos c15] at H
            have c15b0 := eq_true c15
            have c15b1 : decide (a1.size + (strOfNums t364).size ≤ 9223372036854775807) = true := decide_eq_true c15
            try have c15b2 : (9223372036854775807 < a1.size + (strOfNums t364).size) = False := eq_false (Nat.not_lt.2 c15)
            replace H := Option.bind_eq_some_iff.mp H
            obtain ⟨t367, A160, H⟩ := H
            replace H : (spec_l02Ctr.l1 k1 a1 t352 t355 x9_1 x10_1 t367 x10_1) = some r := H
            have A16 := Aside0.mk A160
            clear A160
            have H' := Aside0.mk H
            clear H
            obtain ⟨Ao17, co17, eo17⟩ := Kd.R_slice HO_9.out
            subst eo17
            go_wp2_with (first | ((with_reducible refine gate_callee (f := 97) rfl ?_); refine goesL_ (some 32) rfl rfl Try.func97 (by kernel_rfl) rfl #[.int .i64 (wrap64 (1 + (wrap64 (Int.tdiv x10_1 16))))] rfl (by (try simp only [List.map_toArray, List.map_cons, List.map_nil]); first | done | rfl | (simp only [List.length_drop, List.length_take]; rfl)) ?_; (with_reducible refine (spec_l02Four.calls (wrap64 (1 + (wrap64 (Int.tdiv x10_1 16)))) t364 _ A14.out).mono ?_); rintro e w18 ⟨v365, rfl, ho0, hb⟩; refine ⟨_, rfl, ?_⟩; have n0_ := Aside0.mk (Kd.R_below (by (with_reducible repeat (first | apply Kd.R_alloc | apply Kd.R_drewN | apply Kd.R_drew)); exact HO_7.out) hb); have n1_ := Aside0.mk (Kd.R_below (by (with_reducible repeat (first | apply Kd.R_alloc | apply Kd.R_drewN | apply Kd.R_drew)); exact HO_8.out) hb); have n2_ := Aside0.mk (Kd.R_elder' (by (with_reducible repeat (first | apply Kd.R_alloc | apply Kd.R_drewN | apply Kd.R_drew)); exact HO_9.out) (Kd.R_base ho0) hb); have n3_ := Aside0.mk (Kd.R_lower (Kd.R_new' ho0 (Kd.R_lt (by (with_reducible repeat (first | apply Kd.R_alloc | apply Kd.R_drewN | apply Kd.R_drew)); exact HO_9.out))) (below_size (by repeat (first | (with_reducible first | exact HB.out | apply below_alloc | apply pw_below_drewN | apply below_drew1) | exact HB.out)))); have n4_ := Aside0.mk (below_step (by repeat (first | (with_reducible first | exact HB.out | apply below_alloc | apply pw_below_drewN | apply below_drew1) | exact HB.out)) hb); clear HO_7; clear HO_8; clear HO_9; clear HB; have HO_7 := n0_; have HO_8 := n1_; have HO_9 := n2_; have HO366 := n3_; have HB := n4_; clear n0_ n1_ n2_ n3_ n4_; (try clear hb); (try clear hb2); (try clear hk); (try clear hi); (try clear ho0); have hcv19 := own_string (P := Try.prog) Try.underlying28 Try.underlying5 Try.underlying9 (Kd.own_of_R HO366.out); obtain ⟨Ao20, co20, eo20⟩ := Kd.R_slice HO_8.out; subst eo20) | ((with_reducible refine gate_callee (f := 48) rfl ?_); refine goesL_ (some 35) rfl rfl Try.func48 (by kernel_rfl) rfl #[.slice Ao20 t355.length co20, .slice Ao8 t352.length co8, .string (a1 ++ (strOfNums t364))] rfl (by (try simp only [List.map_toArray, List.map_cons, List.map_nil]); first | done | rfl | (simp only [List.length_drop, List.length_take]; rfl)) ?_; (with_reducible refine (spec_l01Encrypt.calls k1 _ _ t355 _ _ t352 (a1 ++ (strOfNums t364)) t367 _ ?side1 ?side2 ?side3 ?side4 A16.out).mono ?_); (case side1 => repeat (first | exact (Kd.R_reads' HO_8.out).2.2 | (with_reducible refine Kd.C_alloc ?_ _) | (with_reducible refine Kd.C_drewN ?_ _) | (with_reducible refine Kd.C_drew ?_))); (case side2 => exact (Kd.R_reads' HO_8.out).2.1); (case side3 => repeat (first | exact (Kd.R_reads' HO_7.out).2.2 | (with_reducible refine Kd.C_alloc ?_ _) | (with_reducible refine Kd.C_drewN ?_ _) | (with_reducible refine Kd.C_drew ?_))); (case side4 => exact (Kd.R_reads' HO_7.out).2.1); rintro e w21 ⟨rfl, hb⟩; refine ⟨_, rfl, ?_⟩; have n0_ := Aside0.mk (Kd.R_below (by (with_reducible repeat (first | apply Kd.R_alloc | apply Kd.R_drewN | apply Kd.R_drew)); exact HO_7.out) hb); have n1_ := Aside0.mk (Kd.R_below (by (with_reducible repeat (first | apply Kd.R_alloc | apply Kd.R_drewN | apply Kd.R_drew)); exact HO_8.out) hb); have n2_ := Aside0.mk (Kd.R_below (by (with_reducible repeat (first | apply Kd.R_alloc | apply Kd.R_drewN | apply Kd.R_drew)); exact HO_9.out) hb); have n3_ := Aside0.mk (Kd.R_below (by (with_reducible repeat (first | apply Kd.R_alloc | apply Kd.R_drewN | apply Kd.R_drew)); exact HO366.out) hb); have n4_ := Aside0.mk (below_step (by repeat (first | (with_reducible first | exact HB.out | apply below_alloc | apply pw_below_drewN | apply below_drew1) | exact HB.out)) hb); clear HO_7; clear HO_8; clear HO_9; clear HO366; clear HB; have HO_7 := n0_; have HO_8 := n1_; have HO_9 := n2_; have HO366 := n3_; have HB := n4_; clear n0_ n1_ n2_ n3_ n4_; (try clear hb); (try clear hb2); (try clear hk); (try clear hi)))
            go_loopg [12] k1 (fun kq v12 w' => ∃ (x9_2 : List Int) (x12_2 : Int), v12 = .int .i64 x12_2 ∧ Aside0 (spec_l02Ctr.l1 kq a1 t352 t355 x9_2 x10_1 t367 x12_2 = some r) ∧ Aside0 (kq ≤ k1) ∧ Aside0 (Kd.R (Kd.int .i64) 3 w' w.heap.size (fun _ => True) (.slice Ao8 t352.length co8) t352) ∧ Aside0 (Kd.R Kd.string 9 w' w.heap.size (fun _ => True) (.slice Ao20 t355.length co20) t355) ∧ Aside0 (Kd.R (Kd.int .u8) 5 w' w.heap.size (fun _ => True) (.slice Ao17 x9_1.length co17) x9_2) ∧ Aside0 (Below w.heap.size w w'))
            case atStart => exact ⟨(x9_1), (x10_1), (by first | rfl | (simp; done) | (simp [*]; done)), H', ⟨Nat.le_refl _⟩, ⟨by (with_reducible repeat (first | apply Kd.R_alloc | apply Kd.R_drewN | apply Kd.R_drew)); exact HO_7.out⟩, ⟨by (with_reducible repeat (first | apply Kd.R_alloc | apply Kd.R_drewN | apply Kd.R_drew)); exact HO_8.out⟩, ⟨by (with_reducible repeat (first | apply Kd.R_alloc | apply Kd.R_drewN | apply Kd.R_drew)); exact Kd.R_mono HO_9.out (fun _ hk => trivial)⟩, ⟨by repeat (first | (with_reducible first | exact HB.out | apply below_alloc | apply pw_below_drewN | apply below_drew1) | exact HB.out)⟩⟩
            case round =>
              clear H'
              try clear c1
              try clear hcv1
              try clear c2
              try clear p2
              try clear c4
              try clear c6
              try clear p6
              try clear c9
              try clear c13
              try clear c13b0
              try clear c15
              try clear c15b0
              try clear c15b1
              try clear c15b2
              try clear hcv19
              try clear p2
              obtain ⟨x9_2, x12_2, rfl, HA, HK2, HO_7, HO_8, HO_9, HB⟩ := hrel
              have hl9_2 := (Kd.R_reads' HO_9.out).1
              rw [hl9_2] at HO_9
              (try simp only [hl9_2])
              (try simp only [hl9_2] at HO_7)
              (try simp only [hl9_2] at HO_8)
              cases gk with
              | zero => exact absurd HA.out (by simp [spec_l02Ctr.l1])
              | succ k2 =>
                have H := HA.out
                clear HA
                simp only [spec_l02Ctr.l1] at H
                by_cases c22 : x12_2 < (x9_2.length : Int)
                · rw [if_pos c22] at H
                  have c22b0 : decide (x12_2 < (x9_2.length : Int)) = true := decide_eq_true c22
                  clear c22
                  by_cases c23 : x12_2 < (wrap64 (x10_1 + 16))
                  · rw [if_pos c23] at H
                    have c23b0 : decide (x12_2 < (wrap64 (x10_1 + 16))) = true := decide_eq_true c23
                    clear c23
                    by_cases c24 : 0 ≤ x12_2
                    · rw [if_pos c24] at H
                      have c24b0 : decide (0 ≤ x12_2) = true := decide_eq_true c24
                      clear c24
                      obtain ⟨ji25, hji25⟩ : ∃ j_ : Int, (wrap64 (x12_2 - x10_1)) = j_ := ⟨_, rfl⟩
                      replace H : (if 0 ≤ (ji25) then (if (ji25) < (t367.size : Int) then (spec_l02Ctr.l1 k2 a1 t352 t355 (x9_2.set (x12_2 : Int).toNat (Go.bits .xor .u8 (rd x9_2 x12_2) (bt t367 (ji25)))) x10_1 t367 (wrap64 (x12_2 + 1))) else (none)) else (none)) = some r := by first | (rw [hji25] at H; exact H) | (simp only [hji25] at H ⊢; exact H)
                      have hji25w : (IntKind.i64.wrap (x12_2 - x10_1)) = ji25 := (i64_w _).trans hji25
                      by_cases c26 : 0 ≤ (ji25)
                      · rw [if_pos c26] at H
                        have c26b0 : decide (0 ≤ (ji25)) = true := decide_eq_true c26
                        clear c26
                        by_cases c27 : (ji25) < (t367.size : Int)
                        · rw [if_pos c27] at H
                          have c27b0 : decide ((ji25) < (t367.size : Int)) = true := decide_eq_true c27
                          clear c27
                          obtain ⟨y369, hy369⟩ : ∃ y_ : List Int, y_ = (x9_2.set (x12_2 : Int).toNat (Go.bits .xor .u8 (rd x9_2 x12_2) (bt t367 (ji25)))) := ⟨_, rfl⟩
                          replace H : (spec_l02Ctr.l1 k2 a1 t352 t355 y369 x10_1 t367 (wrap64 (x12_2 + 1))) = some r := by first | (rw [hy369]; with_reducible exact H) | (have H2_ := (Option.bind_some _ _).symm.trans H; rw [hy369]; with_reducible exact H2_) | (have H2_ := (Option.bind_some _ _).symm.trans H; with_reducible exact H2_) | with_reducible exact H | (rw [hy369]; exact H) | exact H
                          have Ny369 := Aside0.mk hy369
                          clear hy369
                          have H' := Aside0.mk H
                          clear H
                          try go_wp2
                          have n0_ := Aside0.mk (Kd.R_drew HO_7.out)
                          have n1_ := Aside0.mk (Kd.R_drew HO_8.out)
                          have n2_ := Aside0.mk (Kd.R_drew HO_9.out)
                          have n3_ := Aside0.mk (below_drew1 HB.out)
                          clear HO_7
                          clear HO_8
                          clear HO_9
                          clear HB
                          have HO_7 := n0_
                          have HO_8 := n1_
                          have HO_9 := n2_
                          have HB := n3_
                          clear n0_ n1_ n2_ n3_
                          have p368 : 0 ≤ (x12_2 : Int) := of_decide_eq_true (by first | (with_reducible assumption) | assumption)
                          have q368 : x12_2 < (x9_2.length : Int) := of_decide_eq_true (by first | (with_reducible assumption) | assumption)
                          obtain ⟨ad368, e368, hx368_0⟩ := Kd.at_int (Kd.R_reads' HO_9.out).2.2 x12_2 p368 q368
                          cases e368
                          replace p368 := eq_true p368
                          replace q368 := eq_true q368
                          have p28 : 0 ≤ ((ji25) : Int) := of_decide_eq_true (by first | (with_reducible assumption) | assumption)
                          have q28 : (ji25) < (t367.size : Int) := of_decide_eq_true (by first | (with_reducible assumption) | assumption)
                          have hx28 := bt_at t367 (ji25)
                          replace p28 := eq_true p28
                          replace q28 := eq_true q28
                          have p29 : 0 ≤ (x12_2 : Int) := of_decide_eq_true (by first | (with_reducible assumption) | assumption)
                          have q29 : (x12_2 : Int) < ((x9_2.length : Int) : Int) := of_decide_eq_true (by first | (with_reducible assumption) | assumption)
                          obtain ⟨go29, co29, eo29, gb29, gl29, cl29, HG29⟩ := Kd.R_form HO_9.out (by omega)
                          (first | cases eo29 | (injection eo29 with ea_ en_ ec_; (first | subst ea_ | (injection ea_ with ea_; subst ea_)); subst ec_; clear en_))
                          have GB29 := Aside0.mk gb29
                          have GG29 := Aside0.mk HG29
                          clear gb29 gl29 HG29
                          (first | simp only [add_plain] at hx368_0 | skip)
                          obtain ⟨hx29_0, hf29_0⟩ := Kd.R_celln 0 HO_9.out (x12_2 : Int) p29 q29
                          replace p29 := eq_true p29
                          replace q29 := eq_true q29
                          have HP31 := Kd.R_putn HO_9.out (x12_2 : Int) (Go.bits .xor .u8 (rd x9_2 x12_2) (bt t367 (ji25)))
                          rw [← Ny369.out] at HP31
                          have HQ31 := Aside0.mk HP31
                          clear HP31
                          refine start_ (n := 12) (S := fun w' => w'.cell? ⟨go29, (x12_2).toNat, none⟩ = some (.int .u8 (rd x9_2 x12_2))) (ds := [11]) #[false, false, false, false, false, false, false, false, false, false, false, false] (by kernel_rfl) rfl rfl (hx368_0) (fun hHeld => ?_); refine with_tabW spec_l02Ctr.tab11 spec_l02Ctr.bits11 (fun HT_ HW_ => ?_)
                          generalize wr.drew = w30 at HO_7 HO_8 HO_9 HB GG29 HQ31 hf29_0 hx29_0 hx368_0 hHeld ⊢
                          refine pure_ (i := 0) (N := some 49) (v := ?_) (a' := ?_) #[true, false, false, false, false, false, false, false, false, false, false, false] rfl rfl (any_of HT_.out (by kernel_rfl)) (fun _ _ _ h => h) (Or.inl ⟨by rfl, ?_⟩) ?_ ?_
                          rotate_left
                          · intro w'
                            go_simp
                            with_reducible rfl
                          rotate_left
                          · simp only [Act.put, List.setIfInBounds_toArray, List.set_cons_zero, List.set_cons_succ, i64_w, i32_w]
                            rfl
                          refine pure_ (i := 1) (N := some 50) (v := ?_) (a' := ?_) #[true, true, false, false, false, false, false, false, false, false, false, false] rfl rfl (any_of HT_.out (by kernel_rfl)) (fun _ _ _ h => h) (Or.inl ⟨by rfl, ?_⟩) ?_ ?_
                          rotate_left
                          · intro w'
                            go_simp
                            with_reducible rfl
                          rotate_left
                          · simp only [Act.put, List.setIfInBounds_toArray, List.set_cons_zero, List.set_cons_succ, i64_w, i32_w]
                            rfl
                          refine pure_ (i := 2) (N := some 51) (v := ?_) (a' := ?_) #[true, true, true, false, false, false, false, false, false, false, false, false] rfl rfl (any_of HT_.out (by kernel_rfl)) (fun _ _ _ h => h) (Or.inl ⟨by rfl, ?_⟩) ?_ ?_
                          rotate_left
                          · intro w'
                            go_simp
                            with_reducible rfl
                          rotate_left
                          · simp only [Act.put, List.setIfInBounds_toArray, List.set_cons_zero, List.set_cons_succ, i64_w, i32_w]
                            rfl
                          refine pure_ (i := 4) (N := some 53) (v := ?_) (a' := ?_) #[true, true, true, false, true, false, false, false, false, false, false, false] rfl rfl (any_of HT_.out (by kernel_rfl)) (fun _ _ _ h => h) (Or.inl ⟨by rfl, ?_⟩) ?_ ?_
                          rotate_left
                          · intro w'
                            go_simp
                            with_reducible rfl
                          rotate_left
                          · simp only [Act.put, List.setIfInBounds_toArray, List.set_cons_zero, List.set_cons_succ, i64_w, i32_w]
                            rfl
                          refine pure_ (i := 5) (N := some 54) (v := ?_) (a' := ?_) #[true, true, true, false, true, true, false, false, false, false, false, false] rfl rfl (any_of HT_.out (by kernel_rfl)) (fun _ _ _ h => h) (Or.inl ⟨by rfl, ?_⟩) ?_ ?_
                          rotate_left
                          · intro w'
                            go_simp
                            with_reducible rfl
                          rotate_left
                          · simp only [Act.put, List.setIfInBounds_toArray, List.set_cons_zero, List.set_cons_succ, i64_w, i32_w]
                            rfl
                          refine pure_ (i := 6) (N := some 55) (v := ?_) (a' := ?_) #[true, true, true, false, true, true, true, false, false, false, false, false] rfl rfl (any_of HT_.out (by kernel_rfl)) (fun _ _ _ h => h) (Or.inl ⟨by rfl, ?_⟩) ?_ ?_
                          rotate_left
                          · intro w'
                            go_simp
                            with_reducible rfl
                          rotate_left
                          · simp only [Act.put, List.setIfInBounds_toArray, List.set_cons_zero, List.set_cons_succ, i64_w, i32_w]
                            rfl
                          refine pure_ (i := 7) (N := some 56) (v := ?_) (a' := ?_) #[true, true, true, false, true, true, true, true, false, false, false, false] rfl rfl (any_of HT_.out (by kernel_rfl)) (fun _ _ _ h => h) (Or.inl ⟨by rfl, ?_⟩) ?_ ?_
                          rotate_left
                          · intro w'
                            go_simp
                            with_reducible rfl
                          rotate_left
                          · simp only [Act.put, List.setIfInBounds_toArray, List.set_cons_zero, List.set_cons_succ, i64_w, i32_w]
                            rfl
                          refine take_ (i := 3) (N := some 52) (v := ?_) (a' := ?_) #[true, true, true, true, true, true, true, true, false, false, false, false] rfl rfl (take_ofW HT_.out HW_.out (by kernel_rfl)) (fun _ _ _ h => h) (Or.inl ⟨by rfl, ?_⟩) hHeld ?_ ?_
                          rotate_left
                          · intro w' s0
                            go_simp
                            with_reducible rfl
                          rotate_left
                          · simp only [Act.put, List.setIfInBounds_toArray, List.set_cons_zero, List.set_cons_succ, i64_w, i32_w]
                            rfl
                          refine take_ (i := 8) (N := some 57) (v := ?_) (a' := ?_) #[true, true, true, true, true, true, true, true, true, false, false, false] rfl rfl (take_ofW HT_.out HW_.out (by kernel_rfl)) (fun _ _ _ h => h) (Or.inl ⟨by rfl, ?_⟩) hHeld ?_ ?_
                          rotate_left
                          · intro w' s0
                            go_simp
                            with_reducible rfl
                          rotate_left
                          · simp only [Act.put, List.setIfInBounds_toArray, List.set_cons_zero, List.set_cons_succ, i64_w, i32_w]
                            rfl
                          refine pure_ (i := 9) (N := some 58) (v := ?_) (a' := ?_) #[true, true, true, true, true, true, true, true, true, true, false, false] rfl rfl (any_of HT_.out (by kernel_rfl)) (fun _ _ _ h => h) (Or.inl ⟨by rfl, ?_⟩) ?_ ?_
                          rotate_left
                          · intro w'
                            go_simp
                            with_reducible rfl
                          rotate_left
                          · simp only [Act.put, List.setIfInBounds_toArray, List.set_cons_zero, List.set_cons_succ, i64_w, i32_w]
                            rfl
                          refine pure_ (i := 10) (N := some 59) (v := ?_) (a' := ?_) #[true, true, true, true, true, true, true, true, true, true, true, false] rfl rfl (any_of HT_.out (by kernel_rfl)) (fun _ _ _ h => h) (Or.inl ⟨by rfl, ?_⟩) ?_ ?_
                          rotate_left
                          · intro w'
                            go_simp
                            with_reducible rfl
                          rotate_left
                          · simp only [Act.put, List.setIfInBounds_toArray, List.set_cons_zero, List.set_cons_succ, i64_w, i32_w]
                            rfl
                          refine last_ (i := 11) (N := none) #[true, true, true, true, true, true, true, true, true, true, true, true] rfl rfl (one_of HT_.out (by kernel_rfl)) (by decide) (fun K hK => ?_)
                          refine skip_ (w1 := ?_) (by rfl) rfl ?_ ?_
                          rotate_left
                          · go_simp
                            rfl
                          refine hK.out _ _ ?_
                          clear hK K
                          refine done_ (done_of HT_.out (by kernel_rfl)) ?_
                          try go_wp2
                          (try simp only [← hl9_2])
                          go_roundg k2
                          case measure => have := HK1.out; have := HK2.out; omega
                          case rel => exact ⟨(y369), (wrap64 (x12_2 + 1)), (by first | rfl | (simp; done) | (simp [*]; done)), H', ⟨by have := HK1.out; have := HK2.out; omega⟩, ⟨by (try simp only [hl9_2]); (with_reducible repeat (first | apply Kd.R_alloc | apply Kd.R_drewN | apply Kd.R_drew)); exact Kd.R_mono (Kd.R_far (p := ⟨go29, (x12_2 : Int).toNat, none⟩) (Kd.R_types HO_7.out GG29.out (by decide)) (fun _ hk => hk.2) (.int .u8 (Go.bits .xor .u8 (rd x9_2 x12_2) (bt t367 (ji25))))) (fun _ hk => trivial)⟩, ⟨by (try simp only [hl9_2]); (with_reducible repeat (first | apply Kd.R_alloc | apply Kd.R_drewN | apply Kd.R_drew)); exact Kd.R_mono (Kd.R_far (p := ⟨go29, (x12_2 : Int).toNat, none⟩) (Kd.R_types HO_8.out GG29.out (by decide)) (fun _ hk => hk.2) (.int .u8 (Go.bits .xor .u8 (rd x9_2 x12_2) (bt t367 (ji25))))) (fun _ hk => trivial)⟩, ⟨by (try simp only [hl9_2]); (with_reducible repeat (first | apply Kd.R_alloc | apply Kd.R_drewN | apply Kd.R_drew)); exact HQ31.out⟩, ⟨by repeat (first | (with_reducible first | exact HB.out | apply below_alloc | apply pw_below_drewN | apply below_drew1 | refine below_set ?_ GB29.out) | exact HB.out)⟩⟩
                        · rw [if_neg c27] at H
                          exact absurd H (by simp)
                      · rw [if_neg c26] at H
                        exact absurd H (by simp)
                    · rw [if_neg c24] at H
                      exact absurd H (by simp)
                  · rw [if_neg c23] at H
                    have c23b0 : decide (x12_2 < (wrap64 (x10_1 + 16))) = false := decide_eq_false c23
                    clear c23
                    have H' := Aside0.mk H
                    clear H
                    go_wp2
                    (try simp only [← hl9_2])
                    go_roundg k2
                    case measure => have := HK1.out; have := HK2.out; omega
                    case rel => exact ⟨(x9_2), (wrap64 (x10_1 + 16)), (by first | rfl | (simp; done) | (simp [*]; done)), H', ⟨by have := HK1.out; have := HK2.out; omega⟩, ⟨by (try simp only [hl9_2]); (with_reducible repeat (first | apply Kd.R_alloc | apply Kd.R_drewN | apply Kd.R_drew)); exact HO_7.out⟩, ⟨by (try simp only [hl9_2]); (with_reducible repeat (first | apply Kd.R_alloc | apply Kd.R_drewN | apply Kd.R_drew)); exact HO_8.out⟩, ⟨by (try simp only [hl9_2]); (with_reducible repeat (first | apply Kd.R_alloc | apply Kd.R_drewN | apply Kd.R_drew)); exact HO_9.out⟩, ⟨by repeat (first | (with_reducible first | exact HB.out | apply below_alloc | apply pw_below_drewN | apply below_drew1) | exact HB.out)⟩⟩
                · rw [if_neg c22] at H
                  have c22b0 : decide (x12_2 < (x9_2.length : Int)) = false := decide_eq_false c22
                  clear c22
                  have H' := Aside0.mk H
                  clear H
                  go_wp2
                  (try simp only [← hl9_2])
                  go_roundg k2
                  case measure => have := HK1.out; have := HK2.out; omega
                  case rel => exact ⟨(x9_2), (wrap64 (x10_1 + 16)), (by first | rfl | (simp; done) | (simp [*]; done)), H', ⟨by have := HK1.out; have := HK2.out; omega⟩, ⟨by (try simp only [hl9_2]); (with_reducible repeat (first | apply Kd.R_alloc | apply Kd.R_drewN | apply Kd.R_drew)); exact HO_7.out⟩, ⟨by (try simp only [hl9_2]); (with_reducible repeat (first | apply Kd.R_alloc | apply Kd.R_drewN | apply Kd.R_drew)); exact HO_8.out⟩, ⟨by (try simp only [hl9_2]); (with_reducible repeat (first | apply Kd.R_alloc | apply Kd.R_drewN | apply Kd.R_drew)); exact HO_9.out⟩, ⟨by repeat (first | (with_reducible first | exact HB.out | apply below_alloc | apply pw_below_drewN | apply below_drew1) | exact HB.out)⟩⟩
          · rw [if_neg c15] at H
            exact absurd H (by simp)
        · rw [if_neg c13] at H
          have c13b0 : decide (x10_1 < (x9_1.length : Int)) = false := decide_eq_false c13
          clear c13
          obtain rfl := Option.some.inj H
          obtain ⟨Ao32, co32, eo32⟩ := Kd.R_slice HO_9.out
          subst eo32
          go_wp2
          go_ret
          exact ⟨_, by first | rfl | (simp [errW_none, errW_some] <;> rfl) | (simp [*, errW_none, errW_some] <;> rfl), by (with_reducible repeat (first | apply Kd.R_alloc | apply Kd.R_drewN | apply Kd.R_drew)); exact HO_9.out, by repeat (first | (with_reducible first | exact HB.out | apply below_alloc | apply pw_below_drewN | apply below_drew1) | exact HB.out)⟩
  · rw [if_neg c6] at H
    exact absurd H (by simp)
end Go.Proofs.Ytfbggdlidelliaa.P

/- Laid by a program of this session: of Pt15 what this law uses. -/
import Derived.Test.YtlfpogbonmddmaaZFsM11
import Derived.Test.YtlfpogbonmddmaaZFsPt9
import Derived.Test.YtlfpogbonmddmaaZFsM21
import Derived.Test.YtlfpogbonmddmaaZFsPt12
import Derived.Test.YtlfpogbonmddmaaZFsPt13
import Derived.Test.YtlfpogbonmddmaaZFsPt14
namespace Go.Proofs.Ytlfpogbonmddmaa.P
open Go.RowKit Go.Proofs.YtlfpogbonmddmaaW.PrintWords Go.Proofs.YtlfpogbonmddmaaW.PrintLast Go.Proofs.YtlfpogbonmddmaaW.PrintMore
attribute [local go_sem] min2_int min_two
set_option linter.unusedVariables false
set_option linter.unusedSimpArgs false
def impl_ctr.f (a0 a1 : ByteArray) (l2 : List Int) : Option (List Int) := if u8b l2 = true ∧ (a0.size = 16 ∨ a0.size = 32) ∧ a1.size = 12 ∧ l2.length ≤ 1048576 then some (Md.ctrL (Aes.keysL (bytesL a0)) (bytesL a1) l2) else none
set_option maxHeartbeats 8000000 in
set_option maxRecDepth 100000 in
theorem impl_ctr_in (a0 a1 : ByteArray) (n : Nat) (A2 : Option Addr) (c2 : Nat) (l2 : List Int) (w0 : World) (hr2 : Kd.C (Kd.int .u8) w0 A2 l2.length l2) (hc2 : l2.length ≤ c2) (hu2 : u8ok l2) (hl2 : l2.length ≤ 1048576) (hn : n = 4 ∨ n = 8) (hs0 : a0.size = 4 * n) (hs1 : a1.size = 12) :
   Calls Try.prog 82 #[.string a0, .string a1, .slice A2 l2.length c2] w0 fun e w' => ∃ v0_ : Value, e = .returned (v0_) ∧ Kd.R (Kd.int .u8) 5 w' w0.heap.size (fun _ => True) v0_ (Md.ctrL (Aes.keysL (bytesL a0)) (bytesL a1) l2) ∧ Below w0.heap.size w0 w' := by
 obtain ⟨keys, hkeys⟩ : ∃ K, K = Aes.keysL (bytesL a0) := ⟨_, rfl⟩
 obtain ⟨nonce, hnonce⟩ : ∃ K, K = bytesL a1 := ⟨_, rfl⟩
 obtain ⟨R, hR⟩ : ∃ R, R = Md.ctrL keys nonce l2 := ⟨_, rfl⟩
 have HKL : Aside0 (keys.length = n + 7) := ⟨by rw [hkeys, Aes.keysL_length, bytesL_length, hs0]; omega⟩
 have HKN : Aside0 (0 < keys.length ∧ keys.length ≤ 100) := ⟨by rw [HKL.out]; omega⟩
 have HRL : Aside0 (R.length = l2.length) := ⟨by rw [hR, Md.ctrL_length]⟩
 have HRA : Aside0 (∀ j, j < l2.length → R.getD j 0 = Aes.xr (l2.getD j 0) ((Md.ctrB keys nonce (j / 16)).getD (j % 16) 0)) := ⟨fun j hj => by rw [hR]; exact Md.ctrL_at keys nonce l2 j hj⟩
 have HN := Aside0.mk hn
 have HSN := Aside0.mk hs0
 have HKE := Aside0.mk hkeys
 have HNL : Aside0 (nonce.length = 12) := ⟨by rw [hnonce, bytesL_length, hs1]⟩
 have HNO : Aside0 (Aes.ok nonce) := ⟨by rw [hnonce]; exact u8ok_bytesL a1⟩
 have HNE : Aside0 (a1 = strOfNums nonce) := ⟨by rw [hnonce, str_bytesL]⟩
 have HR2 := Aside0.mk hr2
 have HC2 := Aside0.mk hc2
 have HU2 := Aside0.mk hu2
 have HL2 := Aside0.mk hl2
 have hs1' : a1.size = 12 := hs1
 rw [← hkeys, ← hnonce, ← hR]
 clear hR hkeys hnonce hn hs0 hr2 hc2 hu2 hl2 hs1
 go_enter Try.func82, Try.ntmps82
 go_wp2_with fail
 with_reducible refine (impl_cipherOf_in a0 n _ HN.out HSN.out).mono ?_
 rintro e w1 ⟨gc, rfl, hC, hb1⟩
 rw [← HKE.out] at hC
 have HC := Aside0.mk hC
 have HB1 := Aside0.mk hb1
 clear hC hb1
 go_wp2_with fail
 refine (bytes_Clone.calls A2 c2 l2 l2 w1 (Kd.C_below HR2.out HB1.out) HC2.out (by unfold bytes_Clone.f; rw [if_pos (by have := HL2.out; omega)])).mono ?_
 rintro e w2 ⟨v2, rfl, hr, hb2⟩
 have HRR := Aside0.mk hr
 have HB2 := Aside0.mk hb2
 have HLEN : Aside0 (∀ p, (R.take p ++ l2.drop p).length = l2.length) := ⟨fun p => by rw [List.length_append, List.length_take, List.length_drop, HRL.out]; omega⟩
 by_cases hnil : l2.length = 0
 · obtain ⟨A3, c3, hv3⟩ := Kd.R_slice hr
   subst hv3
   clear hr hb2
   have HNIL := Aside0.mk hnil
   have HRF : Aside0 (R = l2) := ⟨by
     have h1 : R = [] := List.eq_nil_of_length_eq_zero (by rw [HRL.out, hnil])
     rw [h1, List.eq_nil_of_length_eq_zero hnil]⟩
   rw [hnil] at HRR ⊢
   clear hnil
   go_wp2_with fail
   go_loopw [9] (fun vi wr => vi = .int .i64 0 ∧ wr = w2) (fun _ _ => 0)
   case atStart => exact ⟨rfl, rfl⟩
   case round =>
     obtain ⟨rfl, rfl⟩ := hrel
     go_wp2
     go_ret
     refine ⟨_, rfl, ?_, HB1.out.trans (HB2.out.mono HB1.out.size)⟩
     rw [HRF.out]
     exact Kd.R_lower HRR.out HB1.out.size
 · obtain ⟨g, cg, hv3, hgB, hgl, -⟩ := Kd.R_form hr (by omega)
   subst hv3
   have HGB := Aside0.mk hgB
   have HPOS : Aside0 (0 < l2.length) := ⟨by omega⟩
   clear hr hb2 hgB hgl hnil
   have HCB : Aside0 (∀ W, Below w1.heap.size w1 W → cipherAt W w0.heap.size gc keys) := ⟨fun W h => cipherAt_below HC.out HKN.out.1 h⟩
   have HR0 : Aside0 (Kd.R (Kd.int .u8) 5 w2 w1.heap.size (fun _ => True) (.slice (some ⟨g, 0, none⟩) (R.take 0 ++ l2.drop 0).length cg) (R.take 0 ++ l2.drop 0)) := ⟨HRR.out⟩
   clear HRR HC
   go_wp2_with fail
   go_loopw [9] (fun vi wr => ∃ q p : Nat, vi = .int .i64 (p : Int) ∧ p = 16 * q ∧ p ≤ l2.length + 15 ∧ Aside0 (Kd.R (Kd.int .u8) 5 wr w1.heap.size (fun _ => True) (.slice (some ⟨g, 0, none⟩) (R.take p ++ l2.drop p).length cg) (R.take p ++ l2.drop p)) ∧ Aside0 (Below w1.heap.size w1 wr)) (fun i _ => l2.length + 20 - (intOf i).toNat)
   case atStart => exact ⟨0, 0, rfl, rfl, Nat.zero_le _, HR0, HB2⟩
   case round =>
     clear HR0 HB2
     obtain ⟨q, p, rfl, hp, hpl, HR, HB⟩ := hrel
     obtain ⟨wR, rfl⟩ : ∃ W, W = wr := ⟨_, rfl⟩
     have HP := Aside0.mk hp
     by_cases hlt : p < l2.length
     · have HLT := Aside0.mk hlt
       have hd : decide (p < l2.length) = true := decide_eq_true hlt
       have hd2 : decide ((p : Int) < (l2.length : Int)) = true := decide_eq_true (by omega)
       have e1 : Int.tdiv (p : Int) 16 = (q : Int) := by rw [Int.tdiv_eq_ediv_of_nonneg (Int.natCast_nonneg _)]; omega
       have e1' : (p : Int) / 16 = (q : Int) := by omega
       have e2 : wrap64 (q : Int) = (q : Int) := by have := HL2.out; unfold wrap64; omega
       have e3 : wrap64 ((q : Int) + 1) = ((q + 1 : Nat) : Int) := by have := HL2.out; unfold wrap64; omega
       clear hp hpl hlt
       go_wp2_with fail
       refine (bo4_calls _ _).mono ?_
       rintro e w3 ⟨rfl, hb3⟩
       have HB3 := Aside0.mk (HB.out.trans (hb3.mono HB.out.size))
       have HR3 := Aside0.mk (Kd.R_below HR.out hb3)
       rw [e3]
       obtain ⟨sf, hsf⟩ : ∃ s, s = strOfNums (Sha.four ((q : Int) + 1)) := ⟨_, rfl⟩
       rw [← hsf]
       replace hsf : sf = strOfNums (Sha.four ((q + 1 : Nat) : Int)) := hsf
       have hsz4 : sf.size = 4 := by rw [hsf, str_size]; rfl
       have hcat : a1.size + sf.size ≤ 9223372036854775807 := by omega
       have hcat0 := eq_true hcat
       have hcat1 : decide (a1.size + sf.size ≤ 9223372036854775807) = true := decide_eq_true hcat
       have hcat2 : (9223372036854775807 < a1.size + sf.size) = False := eq_false (Nat.not_lt.2 hcat)
       have hszs : (a1 ++ sf).size = 16 := by rw [ByteArray.size_append]; omega
       obtain ⟨blk, hblk⟩ : ∃ l, l = nonce ++ Sha.four ((q + 1 : Nat) : Int) := ⟨_, rfl⟩
       have hbl : bytesL (a1 ++ sf) = blk := by
         rw [hsf, HNE.out, strOfNums_append, ← hblk]
         exact bytesL_str _ (by rw [hblk]; exact Aes.ok_append HNO.out (Md.four_by _))
       have HBE := Aside0.mk hblk
       have HBL : Aside0 (blk.length = 16) := ⟨by rw [hblk, List.length_append, HNL.out]; rfl⟩
       have HBO : Aside0 (Aes.ok blk) := ⟨by rw [hblk]; exact Aes.ok_append HNO.out (Md.four_by _)⟩
       have HNB : Aside0 ((nums IntKind.u8 blk).length = 16) := ⟨by simp [nums, HBL.out]⟩
       have kc := Lib.run_convert_string_bytes (P := Try.prog) w3 9 22 5 (a1 ++ sf) Try.underlying9 Try.underlying22 Try.underlying5
       have hrg := bytes_range w3 5 (a1 ++ sf)
       have hb4 : Below w3.heap.size w3 (Lib.bytesWorld w3 5 (a1 ++ sf)) := bytes_below (Below.refl _ _) (Nat.le_refl _) _ _
       rw [hszs] at kc
       rw [hbl] at hrg
       generalize Lib.bytesWorld w3 5 (a1 ++ sf) = w4 at kc hrg hb4
       generalize grownCap w3 16 0 5 = cb at kc
       have HB4 := Aside0.mk (HB3.out.trans (hb4.mono HB3.out.size))
       have HR4 := Aside0.mk (Kd.R_below HR3.out hb4)
       have HRG := Aside0.mk hrg
       generalize w3.heap.size = gb at kc HRG
       clear hblk hbl hszs hsf hb3 hb4 hrg e1 e1' e2 e3 HB3 HR3 HB HR
       have k16 := k16_at
       go_wp2_with (refine wpList_load_mid (by rfl) 110 (.tmp 30) (by rfl) gb 0 (by rfl) (nums .u8 blk) _ HRG.out Try.underlying110 rfl (key_size blk HNB.out) ?_)
       obtain ⟨E, hE⟩ : ∃ E, E = Aes.encL keys blk := ⟨_, rfl⟩
       have HE : Aside0 (E = Md.ctrB keys nonce q) := ⟨by rw [hE, HBE.out]; rfl⟩
       have HEL : Aside0 (E.length = 16) := ⟨by rw [hE]; exact Aes.encL_length _ _⟩
       have HEO : Aside0 (Aes.ok E) := ⟨by rw [hE]; exact Aes.encL_ok (cipherAt_ok (HCB.out w4 HB4.out)) HBO.out⟩
       have HES : Aside0 ((nums IntKind.u8 E).toArray.size = 16) := ⟨by simp [nums, HEL.out]⟩
       with_reducible refine (enc_u keys _ gc blk _ (HCB.out w4 HB4.out) HKN.out HBL.out HBO.out).mono ?_
       rintro e w5 ⟨rfl, hb5⟩
       rw [← hE]
       have HB5 := Aside0.mk (HB4.out.trans (hb5.mono HB4.out.size))
       have HR5 := Aside0.mk (Kd.R_below HR4.out hb5)
       clear hE hb5 HB4 HR4 HRG kc
       go_wp2_with (refine wpList_store_row (by rfl) 110 (.tmp 10) (.tmp 32) (by rfl) w5.heap.size (nums .u8 E).toArray (by rfl) (by rfl) 110 _ (blk_new w5 _) (by rw [HES.out]; kernel_rfl) (by rw [HES.out]; rfl) (nums_one _ _) ?_)
       show Code.wp _ _ _ _ ((w5.alloc (.cells (nums .u8 (List.replicate 16 0)).toArray 110)).setRow w5.heap.size (nums .u8 E).toArray)
       obtain ⟨gE, hgE⟩ : ∃ g, g = w5.heap.size := ⟨_, rfl⟩
       have hb6 : Below w5.heap.size w5 ((w5.alloc (.cells (nums .u8 (List.replicate 16 0)).toArray 110)).setRow w5.heap.size (nums .u8 E).toArray) := below_row (below_alloc (Below.refl _ _) _) (Nat.le_refl _) _
       have hG6 : ((w5.alloc (.cells (nums .u8 (List.replicate 16 0)).toArray 110)).setRow w5.heap.size (nums .u8 E).toArray).heap[w5.heap.size]? = some (.cells (nums .u8 E).toArray 110 (0, 0)) := setRow_heap _ _ _ _ _ _ (blk_new w5 _)
       have hgg : g < w5.heap.size := by obtain ⟨_, _, hh, _, hlt, _⟩ := Kd.R_form HR5.out (by rw [HLEN.out]; exact HPOS.out); injection hh with h1; injection h1 with h1; injection h1 with h1; rw [h1]; exact hlt
       have HNE2 : Aside0 (g ≠ gE) := ⟨by omega⟩
       obtain ⟨w6, hw6⟩ : ∃ w, w = (w5.alloc (.cells (nums .u8 (List.replicate 16 0)).toArray 110)).setRow w5.heap.size (nums .u8 E).toArray := ⟨_, rfl⟩
       rw [← hw6] at hb6 hG6 ⊢
       have HB6 := Aside0.mk (HB5.out.trans (hb6.mono HB5.out.size))
       have HR6 := Aside0.mk (Kd.R_below HR5.out hb6)
       rw [← hgE] at hG6 ⊢
       have HG6 := Aside0.mk hG6
       clear hw6 hgE hb6 hG6 hgg HB5 HR5
       obtain ⟨p16, hp16⟩ : ∃ x, x = p + 16 := ⟨_, rfl⟩
       obtain ⟨ed, hed⟩ : ∃ x, x = if l2.length < p16 then l2.length else p16 := ⟨_, rfl⟩
       have hmin1 : (if l2.length < p16 then (l2.length : Int) else (p16 : Int)) = (ed : Int) := by rw [hed]; split <;> rfl
       have hmin2 : (if (l2.length : Int) < (p16 : Int) then (l2.length : Int) else (p16 : Int)) = (ed : Int) := by rw [← hmin1]; simp only [Int.ofNat_lt]
       have e16 : wrap64 ((p : Int) + 16) = (p16 : Int) := by have := HL2.out; have := HLT.out; unfold wrap64; omega
       have HED : Aside0 (ed ≤ l2.length ∧ ed ≤ p + 16 ∧ p < ed ∧ (ed = l2.length ∨ ed = p + 16)) := ⟨by rw [hed]; have := HLT.out; split <;> omega⟩
       clear hed hp16
       go_loopw [11] (fun vk wr => ∃ k : Nat, vk = .int .i64 (k : Int) ∧ p ≤ k ∧ k ≤ ed ∧ Aside0 (Kd.R (Kd.int .u8) 5 wr w1.heap.size (fun _ => True) (.slice (some ⟨g, 0, none⟩) (R.take k ++ l2.drop k).length cg) (R.take k ++ l2.drop k)) ∧ Aside0 (Below w1.heap.size w1 wr) ∧ Aside0 (wr.heap[gE]? = some (.cells (nums .u8 E).toArray 110 (0, 0)))) (fun i _ => l2.length + 20 - (intOf i).toNat)
       case atStart => exact ⟨p, rfl, Nat.le_refl _, by have := HED.out; omega, HR6, HB6, HG6⟩
       case round =>
         clear HR6 HB6 HG6
         obtain ⟨k, rfl, hpk, hke, HR, HB, HG⟩ := hrel
         by_cases hlt : k < ed
         · have hdk : decide (k < ed) = true := decide_eq_true hlt
           have hdk2 : decide ((k : Int) < (ed : Int)) = true := decide_eq_true (by omega)
           have HLT2 := Aside0.mk hlt
           obtain ⟨i, hi⟩ : ∃ i, i = k - p := ⟨_, rfl⟩
           have hkl : k < l2.length := by have := HED.out; omega
           have hi16 : i < 16 := by have := HED.out; omega
           have hcell := Kd.R_cell (0 : Int) HR.out (k : Int) (Int.natCast_nonneg k) (by rw [HLEN.out]; omega)
           rw [Int.toNat_natCast] at hcell
           have hval : rdOf (0 : Int) (R.take k ++ l2.drop k) (k : Int) = l2.getD k 0 := by
             unfold rdOf
             rw [Int.toNat_natCast, List.getD_eq_getElem?_getD, td_at R l2 HRL.out k (by rw [HRL.out]; exact hkl)]; rfl
           rw [hval] at hcell
           obtain ⟨x, hx⟩ : ∃ x, x = l2.getD k 0 := ⟨_, rfl⟩
           obtain ⟨y, hy⟩ : ∃ y, y = E.getD i 0 := ⟨_, rfl⟩
           rw [← hx] at hcell
           have cA : wr.cell? ⟨g, k, none⟩ = some (.int .u8 x) := hcell.1
           have zA : wr.frozen? ⟨g, k, none⟩ = false := hcell.2
           have cE : wr.cell? ⟨gE, i, none⟩ = some (.int .u8 y) := by
             rw [blk_cell HG.out, hy]
             exact nums_at? _ _ _ _ (by rw [List.getD_eq_getElem?_getD, List.getElem?_eq_getElem (by rw [HEL.out]; exact hi16)]; rfl)
           have HV : Aside0 (R.getD k 0 = Go.bits .xor .u8 x y) := ⟨by
             rw [HRA.out k hkl, hx, hy, HE.out]
             have h1 : k / 16 = q := by have := HP.out; have := HED.out; omega
             have h2 : k % 16 = i := by have := HP.out; omega
             rw [h1, h2]; rfl⟩
           have ei : wrap64 ((k : Int) - (p : Int)) = (i : Int) := by have := HL2.out; unfold wrap64; omega
           have i0 : (0 : Int) ≤ (i : Int) := Int.natCast_nonneg i
           have i1 : (i : Int) < 16 := by omega
           have k0 : (0 : Int) ≤ (k : Int) := Int.natCast_nonneg k
           have k1 : (k : Int) < (l2.length : Int) := by omega
           have k2 : k < l2.length := hkl
           have i2 : i < 16 := hi16
           have HPK := Aside0.mk hpk
           clear hcell hval hx hy hi hlt hpk hke hkl hi16
           go_wp2
           go_region
           clear ei i0 i1 k0 k1 k2 i2 cA zA cE
           all_goals go_wp2
           have hw : wrap64 ((k : Int) + 1) = ((k + 1 : Nat) : Int) := by have := HLT2.out; have := HED.out; have := HL2.out; unfold wrap64; omega
           rw [hw]
           clear hw
           go_roundw
           case rel =>
             have hp2 := Kd.R_put HR.out (k : Int) (Go.bits .xor .u8 x y)
             rw [Int.toNat_natCast] at hp2
             have hset : (R.take k ++ l2.drop k).set k (Go.bits .xor .u8 x y) = R.take (k + 1) ++ l2.drop (k + 1) := by
               rw [← HV.out]
               exact td_set R l2 HRL.out k (by rw [HRL.out]; have := HLT2.out; have := HED.out; omega)
             have h1 := hp2.1
             have hl1 : (R.take k ++ l2.drop k).length = (R.take (k + 1) ++ l2.drop (k + 1)).length := by rw [HLEN.out, HLEN.out]
             rw [hset, hl1] at h1
             exact ⟨k + 1, rfl, by have := HPK.out; omega, HLT2.out, ⟨Kd.R_drew h1⟩, ⟨below_drew1 (below_set HB.out HGB.out)⟩, ⟨blk_drew (blk_far HG.out (Ne.symm HNE2.out) _)⟩⟩
           case measure => simp [intOf]; have := HLT2.out; have := HED.out; omega
         · have hdk : decide (k < ed) = false := decide_eq_false hlt
           have hdk2 : decide ((k : Int) < (ed : Int)) = false := decide_eq_false (by omega)
           obtain rfl : k = ed := by omega
           clear hmin1 hlt
           go_wp2
           have hw : wrap64 ((p : Int) + 16) = ((p + 16 : Nat) : Int) := by have := HL2.out; have := HLT.out; unfold wrap64; omega
           rw [hw]
           clear hw
           have hrow : R.take k ++ l2.drop k = R.take (p + 16) ++ l2.drop (p + 16) := by
             have h := HED.out
             rcases h.2.2.2 with e | e
             · rw [List.take_of_length_le (by rw [HRL.out]; omega), List.drop_eq_nil_of_le (by omega), List.take_of_length_le (by rw [HRL.out]; omega), List.drop_eq_nil_of_le (by omega)]
             · rw [e]
           rw [hrow] at HR
           exact ⟨⟨q + 1, p + 16, rfl, by have := HP.out; omega, by have := HLT.out; omega, HR, HB⟩, by simp [intOf]; have := HLT.out; omega⟩
     · have hd : decide (p < l2.length) = false := decide_eq_false hlt
       have hd2 : decide ((p : Int) < (l2.length : Int)) = false := decide_eq_false (by omega)
       have eR : R.take p ++ l2.drop p = R := by rw [List.take_of_length_le (by rw [HRL.out]; omega), List.drop_eq_nil_of_le (by omega), List.append_nil]
       rw [eR] at HR
       have HRL2 := HRL.out
       rw [HRL2] at HR
       clear eR hp hpl hlt HRL2
       go_wp2
       go_ret
       exact ⟨_, rfl, Kd.R_lower HR.out HB1.out.size, HB1.out.trans (HB.out.mono HB1.out.size)⟩
theorem impl_ctr.calls (a0 a1 : ByteArray) (A2 : Option Addr) (c2 : Nat) (l2 : List Int) (r : List Int) (w : World) (hr2 : Kd.C (Kd.int .u8) w A2 l2.length l2) (hc2 : l2.length ≤ c2) (h : impl_ctr.f a0 a1 l2 = some r) :
   Calls Try.prog 82 #[.string a0, .string a1, .slice A2 l2.length c2] w fun e w' => ∃ v0_ : Value, e = .returned (v0_) ∧ Kd.R (Kd.int .u8) 5 w' w.heap.size (fun _ => True) v0_ r ∧ Below w.heap.size w w' := by
 unfold impl_ctr.f at h
 split at h
 · rename_i h1
   obtain ⟨hu, hk, hn, hl⟩ := h1
   injection h with h
   subst h
   rcases hk with e | e
   · exact impl_ctr_in a0 a1 4 A2 c2 l2 w hr2 hc2 (u8b_ok hu) hl (.inl rfl) e hn
   · exact impl_ctr_in a0 a1 8 A2 c2 l2 w hr2 hc2 (u8b_ok hu) hl (.inr rfl) e hn
 · cases h
def impl_tag.f (k : Nat) (a0 : ByteArray) (a1 : ByteArray) (a2 : ByteArray) (a3 : ByteArray) : Option (ByteArray) := (impl_bytesOf.f k (a2.size : Int) 4).bind fun t235 => (if a1.size + t235.size ≤ 9223372036854775807 then (if (a1 ++ t235).size + a2.size ≤ 9223372036854775807 then (if ((a1 ++ t235) ++ a2).size + a3.size ≤ 9223372036854775807 then ((impl_hmac.f k a0 (((a1 ++ t235) ++ a2) ++ a3)).bind fun t236 => (if 0 ≤ 16 then (if 16 ≤ (t236.size : Int) then (some (t236.extract 0 16)) else (none)) else (none))) else (none)) else (none)) else (none))
set_option maxHeartbeats 8000000 in
set_option maxRecDepth 100000 in
theorem impl_tag.calls (k : Nat) (a0 : ByteArray) (a1 : ByteArray) (a2 : ByteArray) (a3 : ByteArray) (r : ByteArray) (w : World) (h : impl_tag.f k a0 a1 a2 a3 = some r) :
   Calls Try.prog 83 #[.string a0, .string a1, .string a2, .string a3] w fun e w' => e = .returned (.string r) ∧ Below w.heap.size w w' := by
 have HB := Aside0.mk (Below.refl w.heap.size w)
 have H : ((impl_bytesOf.f k (a2.size : Int) 4).bind fun t235 => (if a1.size + t235.size ≤ 9223372036854775807 then (if (a1 ++ t235).size + a2.size ≤ 9223372036854775807 then (if ((a1 ++ t235) ++ a2).size + a3.size ≤ 9223372036854775807 then ((impl_hmac.f k a0 (((a1 ++ t235) ++ a2) ++ a3)).bind fun t236 => (if 0 ≤ 16 then (if 16 ≤ (t236.size : Int) then (some (t236.extract 0 16)) else (none)) else (none))) else (none)) else (none)) else (none))) = some r := h
 clear h
 replace H := Option.bind_eq_some_iff.mp H
 obtain ⟨t235, A50, H⟩ := H
 replace H : (if a1.size + t235.size ≤ 9223372036854775807 then (if (a1 ++ t235).size + a2.size ≤ 9223372036854775807 then (if ((a1 ++ t235) ++ a2).size + a3.size ≤ 9223372036854775807 then ((impl_hmac.f k a0 (((a1 ++ t235) ++ a2) ++ a3)).bind fun t236 => (if 0 ≤ 16 then (if 16 ≤ (t236.size : Int) then (some (t236.extract 0 16)) else (none)) else (none))) else (none)) else (none)) else (none)) = some r := H
 have A5 := Aside0.mk A50
 clear A50
 by_cases c6 : a1.size + t235.size ≤ 9223372036854775807
 · rw [if_pos c6] at H
   have c6b0 := eq_true c6
   have c6b1 : decide (a1.size + t235.size ≤ 9223372036854775807) = true := decide_eq_true c6
   try have c6b2 : (9223372036854775807 < a1.size + t235.size) = False := eq_false (Nat.not_lt.2 c6)
   by_cases c7 : (a1 ++ t235).size + a2.size ≤ 9223372036854775807
   · rw [if_pos c7] at H
     have c7b0 := eq_true c7
     have c7b1 : decide ((a1 ++ t235).size + a2.size ≤ 9223372036854775807) = true := decide_eq_true c7
     try have c7b2 : (9223372036854775807 < (a1 ++ t235).size + a2.size) = False := eq_false (Nat.not_lt.2 c7)
     try (have c7b4 := Nat.not_lt.2 c7; simp only [ByteArray.size_append] at c7b4; replace c7b4 := eq_false c7b4)
     by_cases c8 : ((a1 ++ t235) ++ a2).size + a3.size ≤ 9223372036854775807
     · rw [if_pos c8] at H
       have c8b0 := eq_true c8
       have c8b1 : decide (((a1 ++ t235) ++ a2).size + a3.size ≤ 9223372036854775807) = true := decide_eq_true c8
       try have c8b2 : (9223372036854775807 < ((a1 ++ t235) ++ a2).size + a3.size) = False := eq_false (Nat.not_lt.2 c8)
       try (have c8b4 := Nat.not_lt.2 c8; simp only [ByteArray.size_append] at c8b4; replace c8b4 := eq_false c8b4)
       replace H := Option.bind_eq_some_iff.mp H
       obtain ⟨t236, A90, H⟩ := H
       replace H : (if 0 ≤ 16 then (if 16 ≤ (t236.size : Int) then (some (t236.extract 0 16)) else (none)) else (none)) = some r := H
       have A9 := Aside0.mk A90
       clear A90
       by_cases c10 : 0 ≤ 16
       · rw [if_pos c10] at H
         have c10b0 := eq_true c10
         have c10b1 : decide (0 ≤ 16) = true := decide_eq_true c10
         clear c10
         by_cases c11 : 16 ≤ (t236.size : Int)
         · rw [if_pos c11] at H
           have c11b0 := eq_true c11
           have c11b1 : decide (16 ≤ (t236.size : Int)) = true := decide_eq_true c11
           clear c11
           obtain rfl := Option.some.inj H
           go_enter Try.func83, Try.ntmps83
           go_wp2_with (first | ((with_reducible refine gate_callee (f := 85) rfl ?_); refine goesL_ (some 13) rfl rfl Try.func85 (by kernel_rfl) rfl #[.int .i64 (a2.size : Int), .int .i64 4] rfl (by (try simp only [List.map_toArray, List.map_cons, List.map_nil]); first | done | rfl | (simp only [List.length_drop, List.length_take]; rfl)) ?_; (with_reducible refine (impl_bytesOf.calls k (a2.size : Int) 4 t235 _ A5.out).mono ?_); rintro e w12 ⟨rfl, hb⟩; refine ⟨_, rfl, ?_⟩; have n0_ := Aside0.mk (below_step (by repeat (first | (with_reducible first | exact HB.out | apply below_alloc | apply pw_below_drewN | apply below_drew1) | exact HB.out)) hb); clear HB; have HB := n0_; clear n0_; (try clear hb); (try clear hb2); (try clear hk); (try clear hi)) | ((with_reducible refine gate_callee (f := 71) rfl ?_); refine goesL_ (some 19) rfl rfl Try.func71 (by kernel_rfl) rfl #[.string a0, .string (((a1 ++ t235) ++ a2) ++ a3)] rfl (by (try simp only [List.map_toArray, List.map_cons, List.map_nil]); first | done | rfl | (simp only [List.length_drop, List.length_take]; rfl)) ?_; (with_reducible refine (impl_hmac.calls k a0 (((a1 ++ t235) ++ a2) ++ a3) t236 _ A9.out).mono ?_); rintro e w13 ⟨rfl, hb⟩; refine ⟨_, rfl, ?_⟩; have n0_ := Aside0.mk (below_step (by repeat (first | (with_reducible first | exact HB.out | apply below_alloc | apply pw_below_drewN | apply below_drew1) | exact HB.out)) hb); clear HB; have HB := n0_; clear n0_; (try clear hb); (try clear hb2); (try clear hk); (try clear hi)))
           go_ret
           exact ⟨by first | rfl | (simp [errW_none, errW_some] <;> rfl) | (simp [*, errW_none, errW_some] <;> rfl), by repeat (first | (with_reducible first | exact HB.out | apply below_alloc | apply pw_below_drewN | apply below_drew1) | exact HB.out)⟩
         · rw [if_neg c11] at H
           exact absurd H (by simp)
       · rw [if_neg c10] at H
         exact absurd H (by simp)
     · rw [if_neg c8] at H
       exact absurd H (by simp)
   · rw [if_neg c7] at H
     exact absurd H (by simp)
 · rw [if_neg c6] at H
   exact absurd H (by simp)
def impl_seal.f (a0 a1 a2 a3 : ByteArray) : Option ByteArray :=
 (impl_sealKeys.f 300000 a0).bind fun p => (impl_ctr.f p.1 a1 (bytesL a3)).bind fun e => (impl_tag.f 300000 p.2 a1 a2 (strOfNums e)).bind fun g =>
   if e.length + g.size ≤ 4000000 then some (strOfNums e ++ g) else none
set_option maxHeartbeats 8000000 in
set_option maxRecDepth 100000 in
theorem impl_seal.calls (a0 a1 a2 a3 : ByteArray) (r : ByteArray) (w : World) (h : impl_seal.f a0 a1 a2 a3 = some r) :
   Calls Try.prog 50 #[.string a0, .string a1, .string a2, .string a3] w fun e w' => e = .returned (.string r) ∧ Below w.heap.size w w' := by
 unfold impl_seal.f at h
 obtain ⟨⟨k1, k2⟩, h1, h⟩ := Option.bind_eq_some_iff.mp h
 obtain ⟨e, h2, h⟩ := Option.bind_eq_some_iff.mp h
 obtain ⟨g, h3, h⟩ := Option.bind_eq_some_iff.mp h
 by_cases hs : e.length + g.size ≤ 4000000
 · rw [if_pos hs] at h
   obtain rfl := Option.some.inj h
   have H1 := Aside0.mk h1
   have H2 : Aside0 (impl_ctr.f k1 a1 (bytesL a3) = some e) := ⟨h2⟩
   have H3 : Aside0 (impl_tag.f 300000 k2 a1 a2 (strOfNums e) = some g) := ⟨h3⟩
   have HZ : Aside0 ((strOfNums e).size + g.size ≤ 4000000) := ⟨by rw [str_size]; exact hs⟩
   have HLN : Aside0 ((bytesL a3).length ≤ 1048576) := ⟨by
     unfold impl_ctr.f at h2
     split at h2
     · rename_i hc
       exact hc.2.2.2
     · cases h2⟩
   clear h h1 h2 h3 hs
   go_enter Try.func50, Try.ntmps50
   go_wp2_with fail
   refine (impl_sealKeys.calls 300000 a0 k1 k2 _ H1.out).mono ?_
   rintro e1 w1 ⟨rfl, hb1⟩
   have HB1 := Aside0.mk hb1
   have kc := Lib.run_convert_string_bytes (P := Try.prog) w1 9 22 5 a3 Try.underlying9 Try.underlying22 Try.underlying5
   have HRB := Aside0.mk (conv_rowB w1 w1.heap.size 5 a3 (Nat.le_refl _))
   have HBW : Aside0 (Below w.heap.size w (Lib.bytesWorld w1 5 a3)) := ⟨bytes_below hb1 hb1.size _ _⟩
   generalize Lib.bytesWorld w1 5 a3 = W1 at kc HRB HBW
   generalize grownCap w1 a3.size 0 5 = cK at kc HRB
   generalize w1.heap.size = gk at kc HRB
   clear hb1
   go_wp2_with fail
   have hq := impl_ctr.calls k1 a1 (some ⟨gk, 0, none⟩) cK (bytesL a3) e W1 (rowB_C (by have := HRB.out; rw [bytesL_length]; exact this) (by have := HLN.out; omega)) (by have := rowB_form' HRB.out; rw [bytesL_length]; exact this) H2.out
   rw [bytesL_length] at hq
   refine hq.mono ?_
   clear hq kc
   rintro e2 w2 ⟨v, rfl, hR, hb2⟩
   have HB2 := Aside0.mk (HBW.out.trans (hb2.mono HBW.out.size))
   obtain ⟨Ae, ce, rfl, hce, hCe⟩ := Kd.R_reads hR
   have ks := Kd.C_string (P := Try.prog) (dst := 9) (src := 22) (c := ce) Try.underlying22 Try.underlying5 Try.underlying9 hCe
   clear hR hb2 hCe hce
   go_wp2_with fail
   refine (impl_tag.calls 300000 k2 a1 a2 (strOfNums e) g _ H3.out).mono ?_
   rintro e3 w3 ⟨rfl, hb3⟩
   have HB3 := Aside0.mk (HB2.out.trans (hb3.mono HB2.out.size))
   have hz1 : (strOfNums e).size + g.size ≤ 9223372036854775807 := by have := HZ.out; omega
   have hz2 := Nat.not_lt.2 hz1
   clear hb3 ks
   go_wp2
   go_ret
   exact ⟨rfl, HB3.out⟩
 · rw [if_neg hs] at h
   cases h
end Go.Proofs.Ytlfpogbonmddmaa.P

/- Laid by a program of this session: of Pm7 what this law uses. -/
import Derived.Test.YtfbggdlidelliaaZCmbPm0
import Derived.Test.YtfbggdlidelliaaZCmbPm1
import Derived.Test.YtfbggdlidelliaaZCmbPm2
import Derived.Test.YtfbggdlidelliaaZCmbPm3
import Derived.Test.YtfbggdlidelliaaZCmbPm6
namespace Go.Proofs.Ytfbggdlidelliaa.P
open Go.RowKit Go.Proofs.YtfbggdlidelliaaW.PrintWords Go.Proofs.YtfbggdlidelliaaW.PrintLast Go.Proofs.YtfbggdlidelliaaW.PrintMore
attribute [local go_sem] max2_int min2_int max_two min_two
set_option linter.unusedVariables false
set_option linter.unusedSimpArgs false
def spec_l02Cmac.f (a0 : ByteArray) (l1 : List Int) : Option ByteArray := if u8b l1 = true ∧ (a0.size = 16 ∨ a0.size = 32) ∧ l1.length ≤ 65536 then some (strOfNums (Md.cmacL (Aes.keysL (bytesL a0)) l1)) else none
theorem fillB_is (r : List Int) (h : r.length < 16) : Md.fillB r = (r ++ [128]) ++ List.replicate (15 - r.length) 0 := by
  unfold Md.fillB
  rw [List.take_append, List.take_of_length_le (by omega), show 16 - r.length = (15 - r.length) + 1 from by omega, List.take_succ_cons, List.take_replicate, List.append_assoc]
  congr 3; omega
theorem fillB_full (r : List Int) (h : r.length = 16) : Md.fillB r = r := by
  unfold Md.fillB
  rw [List.take_append_of_le_length (by omega), List.take_of_length_le (by omega)]
set_option maxHeartbeats 8000000 in
set_option maxRecDepth 100000 in
theorem spec_l02Cmac_in (a0 : ByteArray) (A1 : Option Addr) (c1 : Nat) (l1 : List Int) (w0 : World) (hr1 : Kd.C (Kd.int .u8) w0 A1 l1.length l1) (hc1 : l1.length ≤ c1) (hu1 : u8ok l1) (hl1 : l1.length ≤ 65536) (hk : a0.size = 16 ∨ a0.size = 32) :
    Calls Try.prog 53 #[.string a0, .slice A1 l1.length c1] w0 fun e w' => e = .returned (.string (strOfNums (Md.cmacL (Aes.keysL (bytesL a0)) l1))) ∧ Below w0.heap.size w0 w' := by
  obtain ⟨keys, hkeys⟩ : ∃ K, K = Aes.keysL (bytesL a0) := ⟨_, rfl⟩
  obtain ⟨KS, hKS⟩ : ∃ K, K = keys.map strOfNums := ⟨_, rfl⟩
  obtain ⟨Z, hZ⟩ : ∃ Z, Z = Md.zero16 := ⟨_, rfl⟩
  have HZ := Aside0.mk hZ
  have HKEQ : Aside0 (spec_l01Keys.f a0 Aes.subs = some KS) := ⟨by unfold spec_l01Keys.f; rw [if_pos ⟨rfl, hk⟩, hKS, hkeys]⟩
  have HENC : Aside0 (∀ s : List Int, s.length = 16 → Aes.ok s → spec_l01Encrypt.f 1200 KS Aes.subs (strOfNums s) = some (strOfNums (Aes.encL keys s))) := ⟨fun s h1 h2 => by
    have e := enc_in0 1200 (Nat.le_refl _) a0 (strOfNums s) hk (by rw [str_size]; exact h1)
    rw [bytesL_str s h2, ← hkeys, ← hKS] at e
    exact e⟩
  have HKO : Aside0 (Aes.keysOk keys) := ⟨by rw [hkeys]; exact keysL_good a0⟩
  have HR1 := Aside0.mk hr1
  have HC1 := Aside0.mk hc1
  have HU1 := Aside0.mk hu1
  have HL1 := Aside0.mk hl1
  have HTW : Aside0 (∀ s : List Int, s.length = 16 → Aes.ok s → spec_l02Twice.f (strOfNums s) = some (strOfNums (Md.dbl s))) := ⟨fun s h1 h2 => by unfold spec_l02Twice.f; rw [if_pos (by rw [str_size]; exact h1), bytesL_str s h2]⟩
  have HBO : Aside0 (∀ s t : List Int, s.length = 16 → Aes.ok s → t.length = 16 → Aes.ok t → spec_l02Both.f (strOfNums s) t = some (strOfNums (Aes.xorS s t))) := ⟨fun s t h1 h2 h3 h4 => by unfold spec_l02Both.f; rw [if_pos ⟨u8b_of h4, by rw [str_size]; exact h1, h3⟩, bytesL_str s h2]⟩
  have kmk : ∀ V : World, (Instr.makeSlice 28 (.int .i64 16) (.int .i64 16)).run Try.prog V = .ok (.slice (some ⟨V.heap.size, 0, none⟩) 16 16) (V.alloc (.cells (nums .u8 Z).toArray 5)) := fun V => by rw [hZ]; exact run_make_nums (m := 16) Try.underlying28 (.inl (by kernel_rfl)) (by decide) V
  have HKMK := Aside0.mk kmk
  rw [← hkeys]
  clear hkeys hk hr1 hc1 hu1 hl1 kmk hKS hZ
  go_enter Try.func53, Try.ntmps53
  go_wp2_with fail
  refine (spec_l01Table.calls 600 _ w0 table_600).mono ?_
  rintro e w1 ⟨vt, rfl, ht, hb1⟩
  obtain ⟨At, ct, hvt, hct, hCt⟩ := Kd.R_reads ht
  subst hvt
  have HT := Aside0.mk hCt
  have HCT := Aside0.mk hct
  have HB1 := Aside0.mk hb1
  clear ht hct hCt hb1
  go_wp2_with fail
  refine (spec_l01Keys.calls a0 At ct Aes.subs _ w1 HT.out HCT.out HKEQ.out).mono ?_
  rintro e w2 ⟨vk, rfl, hk, hb2⟩
  obtain ⟨Ak, ck, hvk, hck, hCk⟩ := Kd.R_reads hk
  subst hvk
  have HKK := Aside0.mk hCk
  have HCK := Aside0.mk hck
  have HT2 := Aside0.mk (Kd.C_below HT.out hb2)
  have HB2 := Aside0.mk (HB1.out.trans (hb2.mono HB1.out.size))
  clear hk hck hCk hb2 HT HB1
  have kmk := HKMK.out
  have ks := Kd.C_string (P := Try.prog) (dst := 9) (src := 28) (c := 16) Try.underlying28 Try.underlying5 Try.underlying9 (C_row_int (l := Z) (blk_new w2 (.cells (nums .u8 Z).toArray 5)) (by rw [HZ.out]; decide))
  rw [show Z.length = 16 by rw [HZ.out]; rfl] at ks
  go_wp2_with fail
  have hba := below_alloc (Below.refl w2.heap.size w2) (.cells (nums .u8 Z).toArray 5)
  have HB3 := Aside0.mk (HB2.out.trans (hba.mono HB2.out.size))
  refine (spec_l01Encrypt.calls 1200 Ak ck _ At ct Aes.subs _ _ _ (Kd.C_below HKK.out hba) HCK.out (Kd.C_below HT2.out hba) HCT.out (HENC.out Z (by rw [HZ.out]; rfl) (by rw [HZ.out]; exact Md.zero16_ok))).mono ?_
  rintro e w4 ⟨rfl, hb4⟩
  have HB4 := Aside0.mk (HB3.out.trans (hb4.mono HB3.out.size))
  have HK4 : Aside0 (Kd.C Kd.string w4 Ak KS.length KS) := ⟨Kd.C_below (Kd.C_below HKK.out hba) hb4⟩
  have HT4 : Aside0 (Kd.C (Kd.int .i64) w4 At Aes.subs.length Aes.subs) := ⟨Kd.C_below (Kd.C_below HT2.out hba) hb4⟩
  obtain ⟨K0, hK0⟩ : ∃ K, K = Aes.encL keys Md.zero16 := ⟨_, rfl⟩
  have hZK : Aes.encL keys Z = K0 := by rw [hK0, HZ.out]
  obtain ⟨K1, hK1⟩ : ∃ K, K = Md.dbl K0 := ⟨_, rfl⟩
  have HK0 : Aside0 (K0.length = 16 ∧ Aes.ok K0) := ⟨by rw [hK0]; exact ⟨Aes.encL_length _ _, Aes.encL_ok HKO.out Md.zero16_ok⟩⟩
  have HK1 : Aside0 (K1.length = 16 ∧ Aes.ok K1) := ⟨by rw [hK1]; exact ⟨Md.dbl_length _, Md.dbl_ok HK0.out.2⟩⟩
  have HK0E := Aside0.mk hK0
  have HK1E := Aside0.mk hK1
  rw [hZK]
  clear hZK hb4 hba ks kmk HKK HT2 HB2 HB3 hK0 hK1
  go_wp2_with fail
  refine (spec_l02Twice.calls _ _ w4 (HTW.out K0 HK0.out.1 HK0.out.2)).mono ?_
  rintro e w5 ⟨rfl, hb5⟩
  rw [← HK1E.out]
  have HB5 := Aside0.mk (HB4.out.trans (hb5.mono HB4.out.size))
  have HK5 := Aside0.mk (Kd.C_below HK4.out hb5)
  have HT5 := Aside0.mk (Kd.C_below HT4.out hb5)
  clear hb5 HB4 HK4 HT4
  have kmk := HKMK.out
  have ks := Kd.C_string (P := Try.prog) (dst := 9) (src := 28) (c := 16) Try.underlying28 Try.underlying5 Try.underlying9 (C_row_int (l := Z) (blk_new w5 (.cells (nums .u8 Z).toArray 5)) (by rw [HZ.out]; decide))
  rw [show Z.length = 16 by rw [HZ.out]; rfl] at ks
  obtain ⟨m, hm⟩ : ∃ m, m = (l1.length - 1) / 16 := ⟨_, rfl⟩
  obtain ⟨wh, hwh⟩ : ∃ x, x = 16 * m := ⟨_, rfl⟩
  obtain ⟨t1, ht1⟩ : ∃ t, t = (l1.length + 15) / 16 := ⟨_, rfl⟩
  have HM := Aside0.mk hm
  have HWH := Aside0.mk hwh
  have hl := HL1.out
  have q1 : -1000000 ≤ (l1.length : Int) + 15 ∧ (l1.length : Int) + 15 ≤ 1000000000 := by omega
  have q2 : -1000000 ≤ (t1 : Int) ∧ (t1 : Int) ≤ 1000000000 := by omega
  have e2 : (if (1 : Int) < (t1 : Int) then (t1 : Int) else 1) = ((m + 1 : Nat) : Int) := by split <;> omega
  have e3' : ((l1.length : Int) + 15) / 16 = (t1 : Int) := by omega
  have e3 : Int.tdiv ((l1.length : Int) + 15) 16 = (t1 : Int) := (Int.tdiv_eq_ediv_of_nonneg (by omega)).trans e3'
  have e1 : wrap64 ((l1.length : Int) + 15) = (l1.length : Int) + 15 := w64s _ q1.1 q1.2
  have e4 : wrap64 (t1 : Int) = (t1 : Int) := w64s _ q2.1 q2.2
  clear q1 q2 hm hwh hl ht1
  go_wp2_with fail
  have hbz := below_alloc (Below.refl w5.heap.size w5) (.cells (nums .u8 Z).toArray 5)
  have HB6 := Aside0.mk (HB5.out.trans (hbz.mono HB5.out.size))
  have HK6 := Aside0.mk (Kd.C_below HK5.out hbz)
  have HT6 := Aside0.mk (Kd.C_below HT5.out hbz)
  generalize w5.alloc (.cells (nums .u8 Z).toArray 5) = w6 at HB6 HK6 HT6 ⊢
  have hmz : strOfNums Z = strOfNums (Md.macTo keys l1 0) := by rw [HZ.out]; rfl
  rw [hmz]
  have HKF : Aside0 (∀ V, Below w6.heap.size w6 V → Kd.C Kd.string V Ak KS.length KS ∧ Kd.C (Kd.int .i64) V At Aes.subs.length Aes.subs) := ⟨fun V h => ⟨Kd.C_below HK6.out h, Kd.C_below HT6.out h⟩⟩
  clear hmz hbz kmk ks e1 e2 e3 e3' e4 HB5 HK5 HT5 HK6 HT6
  have HMO : Aside0 (∀ i, (Md.macTo keys l1 i).length = 16 ∧ Aes.ok (Md.macTo keys l1 i)) := ⟨fun i => ⟨Md.macTo_length _ _ _, Md.macTo_ok HKO.out HU1.out i⟩⟩
  go_loopw [8, 10] (fun vs vi wr => ∃ i : Nat, vi = .int .i64 (i : Int) ∧ i ≤ m ∧ vs = .string (strOfNums (Md.macTo keys l1 i)) ∧ Aside0 (Below w6.heap.size w6 wr)) (fun _ i _ => m - (intOf i).toNat)
  case atStart => exact ⟨0, rfl, Nat.zero_le _, rfl, ⟨Below.refl _ _⟩⟩
  case round =>
    obtain ⟨i, rfl, him, rfl, HB⟩ := hrel
    have hml : (m : Int) ≤ 1000000 := by have := HM.out; have := HL1.out; omega
    have hml2 : (m : Int) ≤ 1000000000 := by omega
    have HEN : Aside0 (wrap64 ((m : Int) + 1 - 1) = (m : Int) ∧ wrap64 (m : Int) = (m : Int)) := ⟨by rw [show (m : Int) + 1 - 1 = (m : Int) by omega]; exact ⟨w64s _ (by omega) hml2, w64s _ (by omega) hml2⟩⟩
    clear hml2
    by_cases hlt : i < m
    · have hd : decide (i < m) = true := decide_eq_true hlt
      have hd2 : decide ((i : Int) < (m : Int)) = true := decide_eq_true (by omega)
      have HLT := Aside0.mk hlt
      obtain ⟨p, hp⟩ : ∃ p, p = 16 * i := ⟨_, rfl⟩
      obtain ⟨p2, hp2⟩ : ∃ p, p = 16 * i + 16 := ⟨_, rfl⟩
      have hpl : p2 ≤ l1.length := by have := HM.out; omega
      obtain ⟨ad, had, _⟩ := HR1.out.2.2 (by omega)
      subst had
      have hpc : p2 ≤ c1 := Nat.le_trans hpl HC1.out
      have q1 : 16 * (i : Int) = (p : Int) := by omega
      have q2 : (p : Int) + 16 = (p2 : Int) := by omega
      have b0 : (0 : Int) ≤ (p : Int) := Int.natCast_nonneg p
      have b1 : (p : Int) ≤ (p2 : Int) := by omega
      have b2 : (p2 : Int) ≤ (c1 : Int) := by omega
      have b3 : p ≤ p2 := by omega
      have b4 : p2 - p = 16 := by omega
      have b5 : ¬ c1 = p := by omega
      have q5 : -1000000 ≤ (p : Int) ∧ (p : Int) ≤ 1000000000 ∧ -1000000 ≤ (p2 : Int) ∧ (p2 : Int) ≤ 1000000000 := by have := HL1.out; omega
      have q3 : wrap64 (p : Int) = (p : Int) := w64s _ q5.1 q5.2.1
      have HP := Aside0.mk hp
      have HPL : Aside0 (16 * i + 16 ≤ l1.length) := ⟨by omega⟩
      have HPC := Aside0.mk hpc
      have e1 : wrap64 (16 * (i : Int)) = (p : Int) := by rw [q1]; exact q3
      have e2 : wrap64 ((p : Int) + 16) = (p2 : Int) := by rw [q2]; exact w64s _ q5.2.2.1 q5.2.2.2
      clear hp hp2 hpl q1 q2 q3 q5 hlt him hml
      have eN := HEN.out.1
      have eN2 := HEN.out.2
      go_wp2_with fail
      clear e1 e2 eN eN2
      have hbk := Md.blk_length l1 i HPL.out
      have hC : Kd.C (Kd.int .u8) wr (some (ad.add p)) (Md.blk l1 i).length (Md.blk l1 i) := by
        rw [HP.out]
        exact C_cut (Kd.C_below HR1.out (HB6.out.trans (HB.out.mono HB6.out.size))) rfl (by rw [hbk]; decide) (16 * i) (by rw [hbk]; exact HPL.out) (fun j hj => Md.blk_at l1 i j (by rw [hbk] at hj; exact hj))
      have hcall := spec_l02Both.calls (strOfNums (Md.macTo keys l1 i)) (some (ad.add p)) (c1 - p) (Md.blk l1 i) _ wr hC (by rw [hbk]; have := HPC.out; omega) (HBO.out _ _ (HMO.out i).1 (HMO.out i).2 hbk (Md.blk_ok HU1.out i))
      rw [hbk] at hcall
      refine hcall.mono ?_
      rintro e w7 ⟨rfl, hb7⟩
      have HB7 := Aside0.mk (HB.out.trans (hb7.mono HB.out.size))
      clear hcall hC hb7
      go_wp2_with fail
      refine (spec_l01Encrypt.calls 1200 Ak ck _ At ct Aes.subs _ _ w7 (HKF.out w7 HB7.out).1 HCK.out (HKF.out w7 HB7.out).2 HCT.out (HENC.out _ (Aes.xorS_length _ _) (Aes.xorS_ok (HMO.out i).2 (Md.blk_ok HU1.out i)))).mono ?_
      rintro e w8 ⟨rfl, hb8⟩
      have HB8 := Aside0.mk (HB7.out.trans (hb8.mono HB7.out.size))
      clear hb8
      go_wp2
      have hw : wrap64 ((i : Int) + 1) = ((i + 1 : Nat) : Int) := w64s _ (by omega) (by have := HLT.out; have := HM.out; have := HL1.out; omega)
      try rw [hw]
      clear hw
      go_roundw
      case rel => exact ⟨i + 1, by first | rfl | simp, HLT.out, rfl, HB8⟩
      case measure => simp [intOf]; have := HLT.out; omega
    · have hd : decide (i < m) = false := decide_eq_false hlt
      have hd2 : decide ((i : Int) < (m : Int)) = false := decide_eq_false (by omega)
      obtain rfl : i = m := by omega
      clear hd hd2 hlt him
      obtain ⟨M0, hM0⟩ : ∃ M, M = Md.macTo keys l1 i := ⟨_, rfl⟩
      have HM0L := HMO.out i
      rw [← hM0] at HM0L ⊢
      have HM0 := Aside0.mk hM0
      have HM0A := Aside0.mk HM0L
      obtain ⟨n1, hn1⟩ : ∃ n, n = l1.length - wh := ⟨_, rfl⟩
      have HN1 : Aside0 (n1 ≤ 16 ∧ n1 + wh = l1.length) := ⟨by have h1 := HWH.out; have h2 := HM.out; have h3 := HL1.out; omega⟩
      have q1 : 16 * (i : Int) = (wh : Int) := by have := HWH.out; omega
      have q6 : -1000000 ≤ (wh : Int) ∧ (wh : Int) ≤ 1000000000 := by have := HN1.out; have := HL1.out; omega
      have b0 : (0 : Int) ≤ (wh : Int) := Int.natCast_nonneg wh
      have b1 : (wh : Int) ≤ (l1.length : Int) := by have := HN1.out; omega
      have b2 : (l1.length : Int) ≤ (c1 : Int) := by have := HC1.out; omega
      obtain ⟨A3, hA3⟩ : ∃ A, A = (if c1 = wh then A1 else Option.map (fun x => x.add wh) A1) := ⟨_, rfl⟩
      have HNL : Aside0 ((l1.drop wh).length = n1) := ⟨by rw [List.length_drop]; omega⟩
      have HA3 : Aside0 (∀ V, Below w0.heap.size w0 V → Kd.C (Kd.int .u8) V A3 n1 (l1.drop wh)) := ⟨fun V hV => by
        rcases Nat.eq_zero_or_pos n1 with h | h
        · exact ⟨by rw [HNL.out], by omega, fun h2 => absurd h2 (by omega)⟩
        · have h1 := HN1.out
          have h2 := HC1.out
          obtain ⟨a0', e, _⟩ := HR1.out.2.2 (by omega)
          have hr := HR1.out
          rw [e] at hr
          rw [hA3, if_neg (by omega), e]
          have hcut := C_cut (b := l1.drop wh) (Kd.C_below hr hV) rfl (by rw [HNL.out]; omega) wh (by rw [HNL.out]; omega) (fun j hj => by simp only [List.getD_eq_getElem?_getD, List.getElem?_drop])
          rw [HNL.out] at hcut
          exact hcut⟩
      have hn1' : l1.length - wh = n1 := hn1.symm
      replace hA3 := hA3.symm
      have HBW := Aside0.mk (HB6.out.trans (HB.out.mono HB6.out.size))
      obtain ⟨R0, hR0⟩ : ∃ R, R = l1.drop wh := ⟨_, rfl⟩
      rw [← hR0] at HNL HA3
      have HR0E := Aside0.mk hR0
      have HFT : Aside0 (([] : List Int).length + R0.length ≤ 140737488355328) := ⟨by rw [HNL.out, List.length_nil]; have := HN1.out; omega⟩
      have z1 : w6.heap.size ≤ wr.heap.size := HB.out.size
      have e5 : wrap64 (16 * (i : Int)) = (wh : Int) := by rw [q1]; exact w64s _ q6.1 q6.2
      have eN := HEN.out.1
      have eN2 := HEN.out.2
      have e6 : 16 * (i : Int) = (wh : Int) := q1
      clear q1 q6 hM0 HM0L hn1 hR0
      have HZ1 := Aside0.mk z1
      clear z1
      have HU2 : Aside0 (Aes.ok R0) := ⟨fun x hx => HU1.out x (List.mem_of_mem_drop (by rw [← HR0E.out]; exact hx))⟩
      by_cases hlt : R0.length < 16
      · have hd : decide (R0.length < 16) = true := decide_eq_true hlt
        have hd2 : decide ((R0.length : Int) < 16) = true := decide_eq_true (by omega)
        have HLT := Aside0.mk hlt
        clear hlt
        go_wp2_with ((with_reducible refine gate_dst (N := 53) rfl ?_); refine wpList_append_rowB_C (by rfl) (.tmp 47) (.tmp 52) 28 5 (by rfl) Try.underlying28 info5 R0 (by rfl) (rowB_empty _ w6.heap.size _ 0 HZ1.out rfl) (below_alloc HB.out _) (Nat.le_trans HZ1.out (by simp)) A3 n1 _ (by rfl) (HA3.out _ (below_alloc HBW.out _)) HFT.out R0 (by rw [List.nil_append]) ?_; intro v8 w8 H1 H2 H3; obtain ⟨g8, c8, rfl, hc8⟩ := rowB_form H1.out)
        refine (spec_l02Twice.calls _ _ w8 (HTW.out K1 HK1.out.1 HK1.out.2)).mono ?_
        rintro e w9 ⟨rfl, hb9⟩
        obtain ⟨K2, hK2⟩ : ∃ K, K = Md.dbl K1 := ⟨_, rfl⟩
        rw [← hK2]
        have HK2 : Aside0 (K2.length = 16 ∧ Aes.ok K2) := ⟨by rw [hK2]; exact ⟨Md.dbl_length _, Md.dbl_ok HK1.out.2⟩⟩
        have HR9 := Aside0.mk (rowB_below H1.out hb9)
        have HB9 := Aside0.mk (H2.out.trans (hb9.mono H2.out.size))
        have HZ9 : Aside0 (w6.heap.size ≤ w9.heap.size) := ⟨HB9.out.size⟩
        obtain ⟨L1, hL1⟩ : ∃ L, L = R0 ++ [128] := ⟨_, rfl⟩
        obtain ⟨z, hz⟩ : ∃ z, z = 15 - R0.length := ⟨_, rfl⟩
        obtain ⟨L2, hL2⟩ : ∃ L, L = L1 ++ List.replicate z 0 := ⟨_, rfl⟩
        have HL1L : Aside0 (L1.length = R0.length + 1) := ⟨by rw [hL1, List.length_append]; rfl⟩
        have HF2 : Aside0 (L2 = Md.fillB R0) := ⟨by rw [hL2, hL1, hz]; exact (fillB_is R0 HLT.out).symm⟩
        have HZL : Aside0 (z ≤ 4096) := ⟨by omega⟩
        have HL2L : Aside0 (L2.length = 16) := ⟨by rw [HF2.out]; exact Md.fillB_length _⟩
        have HL2O : Aside0 (Aes.ok L2) := ⟨by rw [HF2.out]; exact Md.fillB_ok HU2.out⟩
        have HFIN : Aside0 (strOfNums (Aes.encL keys (Aes.xorS (Aes.xorS M0 L2) K2)) = strOfNums (Md.cmacL keys l1)) := ⟨by
          rw [Md.xorS_assoc HM0A.out.2 HL2O.out HK2.out.2, Md.cmacL, ← HM.out, ← HWH.out, ← HR0E.out, Md.macK, if_pos HLT.out, ← HK0E.out, ← HK1E.out, ← hK2, ← HF2.out, ← HM0.out]⟩
        have HFA : Aside0 (R0.length + [(128 : Int)].length ≤ 140737488355328) := ⟨by have := HLT.out; simp; omega⟩
        have HFZ : Aside0 (L1.length ≤ 140737488350000) := ⟨by have := HL1L.out; have := HLT.out; omega⟩
        have ez : 16 - (L1.length : Int) = (z : Int) := by have := HL1L.out; have := HLT.out; omega
        have HL1E := Aside0.mk hL1
        have HL2E := Aside0.mk hL2
        have HK2E := Aside0.mk hK2
        clear hb9 hz hL1 hL2 hK2 e5 e6 eN eN2
        have ez0 : (0 : Int) ≤ (z : Int) := Int.natCast_nonneg z
        have ez2 : (z : Int) ≤ 4096 := by have := HZL.out; omega
        go_wp2_with (first
          | ((with_reducible refine gate_dst (N := 61) rfl ?_); refine wpList_append_rowB (by rfl) (.tmp 59) (.tmp 60) 28 5 (by rfl) Try.underlying28 info5 [128] (by rfl) (rowB_below HR9.out (below_alloc (Below.refl _ _) _)) (below_alloc HB9.out _) (Nat.le_trans HZ9.out (by simp)) ⟨w9.heap.size, 0, none⟩ 1 1 (by rfl) rfl (cell_lit1 _ _ _ _) HFA.out L1 HL1E.out ?_; intro v10 w10 J1 J2 J3; obtain ⟨g10, c10, rfl, hc10⟩ := rowB_form J1.out)
          | ((with_reducible refine gate_dst (N := 66) rfl ?_); refine wpList_append_rowB_zeros (by rfl) (.tmp 62) (.tmp 65) 28 3 5 (by rfl) Try.underlying28 Try.underlying3 info5 z HZL.out (by rfl) J1.out J2.out J3.out (by rfl) HFZ.out L2 HL2E.out ?_; intro v11 w11 T1 T2 T3; obtain ⟨g11, c11, rfl, hc11⟩ := rowB_form T1.out))
        have hcb := spec_l02Both.calls (strOfNums M0) (some ⟨g11, 0, none⟩) c11 L2 _ w11 (rowB_C T1.out (by rw [HL2L.out]; decide)) (rowB_form' T1.out) (HBO.out M0 L2 HM0A.out.1 HM0A.out.2 HL2L.out HL2O.out)
        refine hcb.mono ?_
        rintro e w12 ⟨rfl, hb12⟩
        have HB12 := Aside0.mk (T2.out.trans (hb12.mono T2.out.size))
        have kc := Lib.run_convert_string_bytes (P := Try.prog) w12 9 28 5 (strOfNums K2) Try.underlying9 Try.underlying28 Try.underlying5
        have hrow := conv_rowB w12 w12.heap.size 5 (strOfNums K2) (Nat.le_refl _)
        have hbc : Below w12.heap.size w12 (Lib.bytesWorld w12 5 (strOfNums K2)) := bytes_below (Below.refl _ _) (Nat.le_refl _) _ _
        rw [str_size, HK2.out.1] at kc hrow
        rw [bytesL_str K2 HK2.out.2] at hrow
        generalize Lib.bytesWorld w12 5 (strOfNums K2) = w13 at kc hrow hbc
        generalize grownCap w12 16 0 5 = cb at kc hrow
        have HROW := Aside0.mk hrow
        have HB13 := Aside0.mk (HB12.out.trans (hbc.mono HB12.out.size))
        clear hb12 hbc hrow hcb
        go_wp2_with fail
        clear kc
        have hcall := spec_l02Both.calls (strOfNums (Aes.xorS M0 L2)) (some ⟨w12.heap.size, 0, none⟩) cb K2 _ w13 (rowB_C (by rw [HK2.out.1]; exact HROW.out) (by rw [HK2.out.1]; decide)) (by rw [HK2.out.1]; exact rowB_form' HROW.out) (HBO.out _ K2 (Aes.xorS_length _ _) (Aes.xorS_ok HM0A.out.2 HL2O.out) HK2.out.1 HK2.out.2)
        rw [HK2.out.1] at hcall
        refine hcall.mono ?_
        rintro e w14 ⟨rfl, hb14⟩
        have HB14 := Aside0.mk (HB13.out.trans (hb14.mono HB13.out.size))
        clear hb14 hcall
        go_wp2_with fail
        refine (spec_l01Encrypt.calls 1200 Ak ck _ At ct Aes.subs _ _ w14 (HKF.out w14 HB14.out).1 HCK.out (HKF.out w14 HB14.out).2 HCT.out (HENC.out _ (Aes.xorS_length _ _) (Aes.xorS_ok (Aes.xorS_ok HM0A.out.2 HL2O.out) HK2.out.2))).mono ?_
        rintro e w15 ⟨rfl, hb15⟩
        have HB15 := Aside0.mk (HB6.out.trans ((HB14.out.trans (hb15.mono HB14.out.size)).mono HB6.out.size))
        clear hb15
        go_wp2
        rw [HFIN.out]
        go_ret
        exact ⟨rfl, HB15.out⟩
      · have hd : decide (R0.length < 16) = false := decide_eq_false hlt
        have hd2 : decide ((R0.length : Int) < 16) = false := decide_eq_false (by omega)
        have h16 : R0.length = 16 := by have := HN1.out; have := HNL.out; omega
        have HK2 := HK1
        have HL2L := Aside0.mk h16
        have HL2O := HU2
        have HFIN : Aside0 (strOfNums (Aes.encL keys (Aes.xorS (Aes.xorS M0 R0) K1)) = strOfNums (Md.cmacL keys l1)) := ⟨by
          rw [Md.xorS_assoc HM0A.out.2 HL2O.out HK2.out.2, Md.cmacL, ← HM.out, ← HWH.out, ← HR0E.out, Md.macK, if_neg hlt, ← HK0E.out, ← HK1E.out, fillB_full R0 h16, ← HM0.out]⟩
        clear hlt
        go_wp2_with ((with_reducible refine gate_dst (N := 53) rfl ?_); refine wpList_append_rowB_C (by rfl) (.tmp 47) (.tmp 52) 28 5 (by rfl) Try.underlying28 info5 R0 (by rfl) (rowB_empty _ w6.heap.size _ 0 HZ1.out rfl) (below_alloc HB.out _) (Nat.le_trans HZ1.out (by simp)) A3 n1 _ (by rfl) (HA3.out _ (below_alloc HBW.out _)) HFT.out R0 (by rw [List.nil_append]) ?_; intro v8 w8 H1 H2 H3; obtain ⟨g8, c8, rfl, hc8⟩ := rowB_form H1.out)
        clear e5 e6 eN eN2
        have hcb := spec_l02Both.calls (strOfNums M0) (some ⟨g8, 0, none⟩) c8 R0 _ w8 (rowB_C H1.out (by rw [HL2L.out]; decide)) (rowB_form' H1.out) (HBO.out M0 R0 HM0A.out.1 HM0A.out.2 HL2L.out HL2O.out)
        rw [h16] at hcb
        refine hcb.mono ?_
        rintro e w12 ⟨rfl, hb12⟩
        have HB12 := Aside0.mk (H2.out.trans (hb12.mono H2.out.size))
        have kc := Lib.run_convert_string_bytes (P := Try.prog) w12 9 28 5 (strOfNums K1) Try.underlying9 Try.underlying28 Try.underlying5
        have hrow := conv_rowB w12 w12.heap.size 5 (strOfNums K1) (Nat.le_refl _)
        have hbc : Below w12.heap.size w12 (Lib.bytesWorld w12 5 (strOfNums K1)) := bytes_below (Below.refl _ _) (Nat.le_refl _) _ _
        rw [str_size, HK2.out.1] at kc hrow
        rw [bytesL_str K1 HK2.out.2] at hrow
        generalize Lib.bytesWorld w12 5 (strOfNums K1) = w13 at kc hrow hbc
        generalize grownCap w12 16 0 5 = cb at kc hrow
        have HROW := Aside0.mk hrow
        have HB13 := Aside0.mk (HB12.out.trans (hbc.mono HB12.out.size))
        clear hb12 hbc hrow hcb
        go_wp2_with fail
        clear kc
        have hcall := spec_l02Both.calls (strOfNums (Aes.xorS M0 R0)) (some ⟨w12.heap.size, 0, none⟩) cb K1 _ w13 (rowB_C (by rw [HK2.out.1]; exact HROW.out) (by rw [HK2.out.1]; decide)) (by rw [HK2.out.1]; exact rowB_form' HROW.out) (HBO.out _ K1 (Aes.xorS_length _ _) (Aes.xorS_ok HM0A.out.2 HL2O.out) HK2.out.1 HK2.out.2)
        rw [HK2.out.1] at hcall
        refine hcall.mono ?_
        rintro e w14 ⟨rfl, hb14⟩
        have HB14 := Aside0.mk (HB13.out.trans (hb14.mono HB13.out.size))
        clear hb14 hcall
        go_wp2_with fail
        refine (spec_l01Encrypt.calls 1200 Ak ck _ At ct Aes.subs _ _ w14 (HKF.out w14 HB14.out).1 HCK.out (HKF.out w14 HB14.out).2 HCT.out (HENC.out _ (Aes.xorS_length _ _) (Aes.xorS_ok (Aes.xorS_ok HM0A.out.2 HL2O.out) HK2.out.2))).mono ?_
        rintro e w15 ⟨rfl, hb15⟩
        have HB15 := Aside0.mk (HB6.out.trans ((HB14.out.trans (hb15.mono HB14.out.size)).mono HB6.out.size))
        clear hb15
        go_wp2
        rw [HFIN.out]
        go_ret
        exact ⟨rfl, HB15.out⟩
theorem spec_l02Cmac.calls (s0 : ByteArray) (A1 : Option Addr) (c1 : Nat) (l1 : List Int) (r : ByteArray) (w0 : World) (hr1 : Kd.C (Kd.int .u8) w0 A1 l1.length l1) (hc1 : l1.length ≤ c1) (h : spec_l02Cmac.f s0 l1 = some r) :
    Calls Try.prog 53 #[.string s0, .slice A1 l1.length c1] w0 fun e w' => e = .returned (.string r) ∧ Below w0.heap.size w0 w' := by
  unfold spec_l02Cmac.f at h
  by_cases hg : u8b l1 = true ∧ (s0.size = 16 ∨ s0.size = 32) ∧ l1.length ≤ 65536
  · rw [if_pos hg] at h
    injection h with h
    subst h
    exact spec_l02Cmac_in s0 A1 c1 l1 w0 hr1 hc1 (u8b_ok hg.1) hg.2.2 hg.2.1
  · rw [if_neg hg] at h
    cases h
def spec_Cmac.f (a0 : ByteArray) (l1 : List Int) : Option (ByteArray × Int) := if (a0.size : Int) > 65536 then (some ((⟨#[]⟩ : ByteArray), 2)) else (if (l1.length : Int) > 65536 then (some ((⟨#[]⟩ : ByteArray), 2)) else ((spec_l01Key.f a0).bind fun t166 => (if t166 = true then ((spec_l02Cmac.f a0 l1).bind fun t167 => (some (t167, 0))) else (some ((⟨#[]⟩ : ByteArray), 1)))))
set_option maxHeartbeats 8000000 in
set_option maxRecDepth 100000 in
theorem spec_Cmac.calls (a0 : ByteArray) (A1 : Option Addr) (c1 : Nat) (l1 : List Int) (r1 : ByteArray) (r2 : Int) (w : World) (hr1 : Kd.C (Kd.int .u8) w A1 l1.length l1) (hc1 : l1.length ≤ c1) (h : spec_Cmac.f a0 l1 = some (r1, r2)) :
    Calls Try.prog 26 #[.string a0, .slice A1 l1.length c1] w fun e w' => e = .returned (.tuple #[.string r1, .int .i64 r2]) ∧ Below w.heap.size w w' := by
  have HR1 := Aside0.mk hr1
  have HC1 := Aside0.mk hc1
  clear hr1 hc1
  have HB := Aside0.mk (Below.refl w.heap.size w)
  have H : (if (a0.size : Int) > 65536 then (some ((⟨#[]⟩ : ByteArray), 2)) else (if (l1.length : Int) > 65536 then (some ((⟨#[]⟩ : ByteArray), 2)) else ((spec_l01Key.f a0).bind fun t166 => (if t166 = true then ((spec_l02Cmac.f a0 l1).bind fun t167 => (some (t167, 0))) else (some ((⟨#[]⟩ : ByteArray), 1)))))) = some (r1, r2) := h
  clear h
  by_cases c3 : (a0.size : Int) > 65536
  · rw [if_pos c3] at H
    have c3b0 : decide (65536 < (a0.size : Int)) = true := decide_eq_true c3
    have c3b1 : decide (65536 < a0.size) = true := decide_eq_true (by omega)
    clear c3
    simp only [Option.some.injEq, Prod.mk.injEq] at H
    obtain ⟨rfl, rfl⟩ := H
    go_enter Try.func26, Try.ntmps26
    go_wp2
    go_ret2
    exact ⟨by first | rfl | (simp [errW_none, errW_some] <;> rfl) | (simp [*, errW_none, errW_some] <;> rfl), by repeat (first | (with_reducible first | exact HB.out | apply below_alloc | apply pw_below_drewN | apply below_drew1) | exact HB.out)⟩
  · rw [if_neg c3] at H
    have c3b0 : decide (65536 < (a0.size : Int)) = false := decide_eq_false c3
    have c3b1 : decide (65536 < a0.size) = false := decide_eq_false (by omega)
    clear c3
    by_cases c4 : (l1.length : Int) > 65536
    · rw [if_pos c4] at H
      have c4b0 : decide (65536 < (l1.length : Int)) = true := decide_eq_true c4
      have c4b1 : decide (65536 < l1.length) = true := decide_eq_true (by omega)
      clear c4
      simp only [Option.some.injEq, Prod.mk.injEq] at H
      obtain ⟨rfl, rfl⟩ := H
      go_enter Try.func26, Try.ntmps26
      go_wp2
      go_ret2
      exact ⟨by first | rfl | (simp [errW_none, errW_some] <;> rfl) | (simp [*, errW_none, errW_some] <;> rfl), by repeat (first | (with_reducible first | exact HB.out | apply below_alloc | apply pw_below_drewN | apply below_drew1) | exact HB.out)⟩
    · rw [if_neg c4] at H
      have c4b0 : decide (65536 < (l1.length : Int)) = false := decide_eq_false c4
      have c4b1 : decide (65536 < l1.length) = false := decide_eq_false (by omega)
      clear c4
      replace H := Option.bind_eq_some_iff.mp H
      obtain ⟨t166, A50, H⟩ := H
      replace H : (if t166 = true then ((spec_l02Cmac.f a0 l1).bind fun t167 => (some (t167, 0))) else (some ((⟨#[]⟩ : ByteArray), 1))) = some (r1, r2) := H
      have A5 := Aside0.mk A50
      clear A50
      by_cases c6 : t166 = true
      · subst c6
        have H1 : ((spec_l02Cmac.f a0 l1).bind fun t167 => (some (t167, 0))) = some (r1, r2) := by rw [if_pos rfl] at H; exact H
        clear H
        have H := H1
        clear H1
        replace H := Option.bind_eq_some_iff.mp H
        obtain ⟨t167, A70, H⟩ := H
        replace H : (some (t167, 0)) = some (r1, r2) := H
        have A7 := Aside0.mk A70
        clear A70
        simp only [Option.some.injEq, Prod.mk.injEq] at H
        obtain ⟨rfl, rfl⟩ := H
        go_enter Try.func26, Try.ntmps26
        go_wp2_with (first | ((with_reducible refine gate_callee (f := 39) rfl ?_); refine goesL_ (some 13) rfl rfl Try.func39 (by kernel_rfl) rfl #[.string a0] rfl (by (try simp only [List.map_toArray, List.map_cons, List.map_nil]); first | done | rfl | (simp only [List.length_drop, List.length_take]; rfl)) ?_; (with_reducible refine (spec_l01Key.calls a0 true _ A5.out).mono ?_); rintro e w' ⟨rfl, ⟨nd, rfl⟩⟩; refine ⟨_, rfl, ?_⟩) | ((with_reducible refine gate_callee (f := 53) rfl ?_); refine goesL_ (some 17) rfl rfl Try.func53 (by kernel_rfl) rfl #[.string a0, .slice A1 l1.length c1] rfl (by (try simp only [List.map_toArray, List.map_cons, List.map_nil]); first | done | rfl | (simp only [List.length_drop, List.length_take]; rfl)) ?_; (with_reducible refine (spec_l02Cmac.calls a0 _ _ l1 t167 _ ?side1 ?side2 A7.out).mono ?_); (case side1 => repeat (first | exact HR1.out | (with_reducible refine Kd.C_alloc ?_ _) | (with_reducible refine Kd.C_drewN ?_ _) | (with_reducible refine Kd.C_drew ?_))); (case side2 => exact HC1.out); rintro e w8 ⟨rfl, hb⟩; refine ⟨_, rfl, ?_⟩; have n0_ := Aside0.mk (below_step (by repeat (first | (with_reducible first | exact HB.out | apply below_alloc | apply pw_below_drewN | apply below_drew1) | exact HB.out)) hb); clear HB; have HB := n0_; clear n0_; (try clear hb); (try clear hb2); (try clear hk); (try clear hi)))
        go_ret2
        exact ⟨by first | rfl | (simp [errW_none, errW_some] <;> rfl) | (simp [*, errW_none, errW_some] <;> rfl), by repeat (first | (with_reducible first | exact HB.out | apply below_alloc | apply pw_below_drewN | apply below_drew1) | exact HB.out)⟩
      · replace c6 := Bool.eq_false_iff.mpr c6
        subst c6
        have H1 : (some ((⟨#[]⟩ : ByteArray), 1)) = some (r1, r2) := by rw [if_neg (show ¬ (false = true) by decide)] at H; exact H
        clear H
        have H := H1
        clear H1
        simp only [Option.some.injEq, Prod.mk.injEq] at H
        obtain ⟨rfl, rfl⟩ := H
        go_enter Try.func26, Try.ntmps26
        go_wp2_with (first | ((with_reducible refine gate_callee (f := 39) rfl ?_); refine goesL_ (some 13) rfl rfl Try.func39 (by kernel_rfl) rfl #[.string a0] rfl (by (try simp only [List.map_toArray, List.map_cons, List.map_nil]); first | done | rfl | (simp only [List.length_drop, List.length_take]; rfl)) ?_; (with_reducible refine (spec_l01Key.calls a0 false _ A5.out).mono ?_); rintro e w' ⟨rfl, ⟨nd, rfl⟩⟩; refine ⟨_, rfl, ?_⟩))
        go_ret2
        exact ⟨by first | rfl | (simp [errW_none, errW_some] <;> rfl) | (simp [*, errW_none, errW_some] <;> rfl), by repeat (first | (with_reducible first | exact HB.out | apply below_alloc | apply pw_below_drewN | apply below_drew1) | exact HB.out)⟩
def laws_toByteS.l0 : Nat → List Int → List Int → Int → Option (List Int)
  | 0, _, _, _ => none
  | k + 1, x0, x3, x4 => if x4 < (x0.length : Int) then (if 0 ≤ x4 then (if x4 < (x3.length : Int) then (laws_toByteS.l0 k x0 (x3.set (x4 : Int).toNat (rd x0 x4)) (wrap64 (x4 + 1))) else (none)) else (none)) else (some x3)
def laws_toByteS.f (k : Nat) (l0 : List Int) : Option (List Int) := if 0 ≤ (l0.length : Int) then (if ((l0.length : Int) : Int).toNat ≤ 281474976710656 then (laws_toByteS.l0 k l0 (List.replicate ((l0.length : Int) : Int).toNat 0) 0) else (none)) else (none)
set_option maxHeartbeats 8000000 in
set_option maxRecDepth 100000 in
theorem laws_toByteS.calls (k : Nat) (A0 : Option Addr) (c0 : Nat) (l0 : List Int) (r : List Int) (w : World) (hr0 : Kd.C (Kd.int .u8) w A0 l0.length l0) (hc0 : l0.length ≤ c0) (h : laws_toByteS.f k l0 = some r) :
    Calls Try.prog 27 #[.slice A0 l0.length c0] w fun e w' => ∃ v0_ : Value, e = .returned (v0_) ∧ Kd.R (Kd.int .u8) 5 w' w.heap.size (fun _ => True) v0_ r ∧ Below w.heap.size w w' := by
  have HR0 := Aside0.mk hr0
  have HC0 := Aside0.mk hc0
  clear hr0 hc0
  have HB := Aside0.mk (Below.refl w.heap.size w)
  have H : (if 0 ≤ (l0.length : Int) then (if ((l0.length : Int) : Int).toNat ≤ 281474976710656 then (laws_toByteS.l0 k l0 (List.replicate ((l0.length : Int) : Int).toNat 0) 0) else (none)) else (none)) = some r := h
  clear h
  by_cases c2 : 0 ≤ (l0.length : Int)
  · rw [if_pos c2] at H
    have c2b0 := eq_true c2
    have c2b1 : decide (0 ≤ (l0.length : Int)) = true := decide_eq_true c2
    clear c2
    by_cases c3 : ((l0.length : Int) : Int).toNat ≤ 281474976710656
    · rw [if_pos c3] at H
      have c3b0 := eq_true c3
      have c3b1 : decide (((l0.length : Int) : Int).toNat ≤ 281474976710656) = true := decide_eq_true c3
      clear c3
      obtain ⟨y168, hy168⟩ : ∃ y_ : List Int, y_ = (List.replicate ((l0.length : Int) : Int).toNat 0) := ⟨_, rfl⟩
      replace H : (laws_toByteS.l0 k l0 y168 0) = some r := by first | (rw [hy168]; with_reducible exact H) | (have H2_ := (Option.bind_some _ _).symm.trans H; rw [hy168]; with_reducible exact H2_) | (have H2_ := (Option.bind_some _ _).symm.trans H; with_reducible exact H2_) | with_reducible exact H | (rw [hy168]; exact H) | exact H
      have Ny168 := Aside0.mk hy168
      clear hy168
      have H' := Aside0.mk H
      clear H
      go_enter Try.func27, Try.ntmps27
      go_wp2_with (first | ((with_reducible refine gate_dst (N := 7) rfl ?_); refine Kd.R_make (Kd.int .u8) _ 5 rfl (N := 7) rfl 28 _ _ rfl (l0.length : Int) rfl rfl Try.underlying28 (.int .u8 0) 1 info5 rfl (by decide) (by omega) 0 (ok := fun _ => True) (okp := fun _ => True) rfl (fun _ hk => hk) trivial (of_decide_eq_true (by first | (with_reducible assumption) | assumption)) (Nat.le_trans (Nat.mul_le_mul_right _ (of_decide_eq_true (by first | (with_reducible assumption) | assumption) : (l0.length : Int).toNat ≤ 281474976710656)) (by omega)) (Below.refl _ _) (Nat.le_refl _) ?_; intro v169 w4 ho5 hb hg_ hnew_; clear hg_ hnew_; (first | rw [← Ny168.out] at ho5 | (simp only [Int.reduceToNat] at ho5; rw [← Ny168.out] at ho5)); have n0_ := Aside0.mk (Kd.R_lower ho5 (below_size (by repeat (first | (with_reducible first | exact HB.out | apply below_alloc | apply pw_below_drewN | apply below_drew1) | exact HB.out)))); have n1_ := Aside0.mk (below_step (by repeat (first | (with_reducible first | exact HB.out | apply below_alloc | apply pw_below_drewN | apply below_drew1) | exact HB.out)) hb); clear HB; have HO170 := n0_; have HB := n1_; clear n0_ n1_; clear hb ho5))
      go_loopg [4] k (fun kq v4 w' => ∃ (x3_1 : List Int) (x4_1 : Int), v4 = .int .i64 x4_1 ∧ Aside0 (laws_toByteS.l0 kq l0 x3_1 x4_1 = some r) ∧ Aside0 (kq ≤ k) ∧ Aside0 (Kd.R (Kd.int .u8) 5 w' w.heap.size (fun _ => True) v169 x3_1) ∧ Aside0 (Below w.heap.size w w'))
      case atStart => exact ⟨(y168), (0), (by first | rfl | (simp; done) | (simp [*]; done)), H', ⟨Nat.le_refl _⟩, ⟨by (with_reducible repeat (first | apply Kd.R_alloc | apply Kd.R_drewN | apply Kd.R_drew)); exact HO170.out⟩, ⟨by repeat (first | (with_reducible first | exact HB.out | apply below_alloc | apply pw_below_drewN | apply below_drew1) | exact HB.out)⟩⟩
      case round =>
        clear H'
        try clear c2
        try clear c2b0
        try clear c2b1
        try clear p2
        try clear c3
        try clear c3b0
        try clear c3b1
        obtain ⟨x3_1, x4_1, rfl, HA, HK1, HO_3, HB⟩ := hrel
        cases gk with
        | zero => exact absurd HA.out (by simp [laws_toByteS.l0])
        | succ k1 =>
          have H := HA.out
          clear HA
          simp only [laws_toByteS.l0] at H
          by_cases c6 : x4_1 < (l0.length : Int)
          · rw [if_pos c6] at H
            have c6b0 : decide (x4_1 < (l0.length : Int)) = true := decide_eq_true c6
            clear c6
            by_cases c7 : 0 ≤ x4_1
            · rw [if_pos c7] at H
              have c7b0 : decide (0 ≤ x4_1) = true := decide_eq_true c7
              clear c7
              by_cases c8 : x4_1 < (x3_1.length : Int)
              · rw [if_pos c8] at H
                have c8b0 : decide (x4_1 < (x3_1.length : Int)) = true := decide_eq_true c8
                clear c8
                obtain ⟨y172, hy172⟩ : ∃ y_ : List Int, y_ = (x3_1.set (x4_1 : Int).toNat (rd l0 x4_1)) := ⟨_, rfl⟩
                replace H : (laws_toByteS.l0 k1 l0 y172 (wrap64 (x4_1 + 1))) = some r := by first | (rw [hy172]; with_reducible exact H) | (have H2_ := (Option.bind_some _ _).symm.trans H; rw [hy172]; with_reducible exact H2_) | (have H2_ := (Option.bind_some _ _).symm.trans H; with_reducible exact H2_) | with_reducible exact H | (rw [hy172]; exact H) | exact H
                have Ny172 := Aside0.mk hy172
                clear hy172
                have H' := Aside0.mk H
                clear H
                have p171 : 0 ≤ (x4_1 : Int) := of_decide_eq_true (by first | (with_reducible assumption) | assumption)
                have q171 : x4_1 < (l0.length : Int) := of_decide_eq_true (by first | (with_reducible assumption) | assumption)
                obtain ⟨ad171, e171, hx171_0⟩ := Kd.at_int HR0.out x4_1 p171 q171
                cases e171
                replace hx171_0 := (HB.out.cell (World.block_lt_of_cell? w _ hx171_0)).trans hx171_0
                replace p171 := eq_true p171
                replace q171 := eq_true q171
                have p9 : 0 ≤ (x4_1 : Int) := of_decide_eq_true (by first | (with_reducible assumption) | assumption)
                have q9 : (x4_1 : Int) < ((x3_1.length : Int) : Int) := of_decide_eq_true (by first | (with_reducible assumption) | assumption)
                obtain ⟨go9, co9, eo9, gb9, gl9, cl9, HG9⟩ := Kd.R_form HO_3.out (by omega)
                (first | cases eo9 | (injection eo9 with ea_ en_ ec_; (first | subst ea_ | (injection ea_ with ea_; subst ea_)); subst ec_; clear en_))
                have GB9 := Aside0.mk gb9
                have GG9 := Aside0.mk HG9
                clear gb9 gl9 HG9
                obtain ⟨hx9_0, hf9_0⟩ := Kd.R_celln 0 HO_3.out (x4_1 : Int) p9 q9
                replace p9 := eq_true p9
                replace q9 := eq_true q9
                have HP10 := Kd.R_putg HO_3.out (x4_1 : Int) (rd l0 x4_1)
                go_wp2_with (first | ((with_reducible refine gate_store (t := 5) (p := 20) rfl ?_); refine store_event (t := 5) (p := 20) (v := ?vo_w11) (w1 := (wr.setCell ⟨go9, (x4_1 : Int).toNat, none⟩ (.int .u8 (rd l0 x4_1)))) ?hg ?ho ?hn ?hr ?_; (case ho => rfl); (case hg => rfl); (case hn => rfl); (case hr => first | (go_simp; done) | (go_simp; rfl)); intro w11 hw; have hg : wr.grownBy w11 (some go9) := (by rw [hw]; exact HP10.2); have hp_ : Kd.R (Kd.int .u8) 5 w11 w.heap.size (fun _ => True) (.slice (some ⟨go9, 0, none⟩) x3_1.length co9) y172 := (by rw [hw, Ny172.out]; exact HP10.1); clear HP10; have n0_ := Aside0.mk (hp_); have n1_ := Aside0.mk ((by rw [hw]; exact below_set (HB.out) GB9.out : Below w.heap.size w w11)); clear HO_3; clear HB; have HO_3 := n0_; have HB := n1_; clear n0_ n1_; clear hg hw hp_))
                go_roundg k1
                case measure => have := HK1.out; omega
                case rel => exact ⟨(y172), (wrap64 (x4_1 + 1)), (by first | rfl | (simp; done) | (simp [*]; done)), H', ⟨by have := HK1.out; omega⟩, ⟨by (with_reducible repeat (first | apply Kd.R_alloc | apply Kd.R_drewN | apply Kd.R_drew)); exact HO_3.out⟩, ⟨by repeat (first | (with_reducible first | exact HB.out | apply below_alloc | apply pw_below_drewN | apply below_drew1) | exact HB.out)⟩⟩
              · rw [if_neg c8] at H
                exact absurd H (by simp)
            · rw [if_neg c7] at H
              exact absurd H (by simp)
          · rw [if_neg c6] at H
            have c6b0 : decide (x4_1 < (l0.length : Int)) = false := decide_eq_false c6
            clear c6
            obtain rfl := Option.some.inj H
            go_wp2
            go_ret
            exact ⟨_, by first | rfl | (simp [errW_none, errW_some] <;> rfl) | (simp [*, errW_none, errW_some] <;> rfl), by (with_reducible repeat (first | apply Kd.R_alloc | apply Kd.R_drewN | apply Kd.R_drew)); exact HO_3.out, by repeat (first | (with_reducible first | exact HB.out | apply below_alloc | apply pw_below_drewN | apply below_drew1) | exact HB.out)⟩
    · rw [if_neg c3] at H
      exact absurd H (by simp)
  · rw [if_neg c2] at H
    exact absurd H (by simp)
theorem isLong_string_1.calls (s : ByteArray) (w : World) : Calls Try.prog 71 #[.string s] w fun e w' => e = .returned (.bool (decide (65536 < (s.size : Int)))) ∧ w = w' := by
  go_enter Try.func71, Try.ntmps71
  go_wp2
  go_ret
  exact ⟨rfl, rfl⟩
def isLong_string_idx (l0 : List ByteArray) (w : World) (e : Ending) (w' : World) : Prop :=
  ∃ i : Int, e = .returned (.int .i64 i) ∧ decide (0 ≤ i) = (l0.any fun t => decide (65536 < (t.size : Int))) ∧ w = w'
theorem isLong_string_at {w : World} {A0 : Option Addr} {l0 : List ByteArray} (hr0 : Kd.C Kd.string w A0 l0.length l0) (k : Nat) (hk : k < l0.length) :
    ∃ ad, A0 = some ad ∧ w.cell? (ad.add k) = some (.string l0[k]) := by
  obtain ⟨ad, c, rfl, _, hc, hw⟩ := Kd.C_get hr0 (ByteArray.empty) (k : Int) (by omega) (by omega)
  refine ⟨ad, rfl, ?_⟩
  have hc : c = [.string (l0.getD (k : Int).toNat ByteArray.empty)] := hc
  subst hc
  have := hw 0 _ rfl
  simpa [Kd.string, Kd.scalar, List.getD_eq_getElem?_getD, hk] using this
theorem IndexFunc_string.calls (A0 : Option Addr) (c0 : Nat) (l0 : List ByteArray) (w : World) (hr0 : Kd.C Kd.string w A0 l0.length l0) :
    Calls Try.prog 98 #[.slice A0 l0.length c0, .func (.func 71) #[] #[]] w (isLong_string_idx l0 w) := by
  have HR0 := Aside0.mk hr0
  clear hr0
  have hm : l0.length ≤ 9223372036854775807 := HR0.out.2.1
  go_enter Try.func98, Try.ntmps98
  go_wp2
  go_loop [8] (fun i => ∃ k : Nat, k ≤ l0.length ∧ i = .int .i64 k ∧ Aside0 (∀ j (hj : j < l0.length), j < k → ¬ 65536 < l0[j].size)) (fun i => l0.length - (intOf i).toNat)
  case atStart => exact ⟨0, Nat.zero_le _, rfl, ⟨fun _ _ h => absurd h (by omega)⟩⟩
  case round =>
    obtain ⟨k, hk, rfl, HA⟩ := hrel
    by_cases hlt : k < l0.length
    · obtain ⟨ad, had, hcell⟩ := isLong_string_at HR0.out k hlt
      subst had
      by_cases hbig : 65536 < l0[k].size
      · have HF : Aside0 (isLong_string_idx l0 w (.returned (.int .i64 (k : Int))) w) := ⟨⟨k, rfl, by
          rw [show decide ((0 : Int) ≤ (k : Int)) = true from decide_eq_true (by omega)]
          exact (List.any_eq_true.2 ⟨l0[k], List.getElem_mem hlt, by simp; omega⟩).symm, rfl⟩⟩
        have hd : decide (65536 < (l0[k].size : Int)) = true := decide_eq_true (by omega)
        go_wp2_with (go_at_call 71; refine (isLong_string_1.calls _ _).mono ?_; rintro e w' ⟨rfl, rfl⟩)
        go_ret
        exact HF.out
      · have hd : decide (65536 < (l0[k].size : Int)) = false := decide_eq_false (by omega)
        have HA1 : Aside0 (∀ j (hj : j < l0.length), j < k + 1 → ¬ 65536 < l0[j].size) := ⟨fun j hj hjk => by
          rcases Nat.lt_or_ge j k with h | h
          · exact HA.out j hj h
          · obtain rfl : j = k := by omega
            exact hbig⟩
        go_wp2_with (go_at_call 71; refine (isLong_string_1.calls _ _).mono ?_; rintro e w' ⟨rfl, rfl⟩)
        go_round
        case rel => exact ⟨k + 1, by omega, by go_num, HA1⟩
        case measure => simp [intOf]; omega
    · have HF : Aside0 (isLong_string_idx l0 w (.returned (.int .i64 (-1))) w) := ⟨⟨-1, rfl, by
        rw [show decide ((0 : Int) ≤ -1) = false from rfl]
        refine (List.any_eq_false.2 fun x hx => ?_).symm
        obtain ⟨j, hj, rfl⟩ := List.mem_iff_getElem.1 hx
        have := HA.out j hj (by omega)
        simp; omega, rfl⟩⟩
      go_wp2
      go_ret
      exact HF.out
theorem ContainsFunc_string.calls (A0 : Option Addr) (c0 : Nat) (l0 : List ByteArray) (w : World) (hr0 : Kd.C Kd.string w A0 l0.length l0) :
    Calls Try.prog 70 #[.slice A0 l0.length c0, .func (.func 71) #[] #[]] w fun e w' => e = .returned (.bool (l0.any fun t => decide (65536 < (t.size : Int)))) ∧ w = w' := by
  go_enter Try.func70, Try.ntmps70
  go_wp2_with (go_at_call 98; refine (IndexFunc_string.calls _ _ _ _ hr0).mono ?_; rintro e w' ⟨i, rfl, hi, rfl⟩)
  go_ret
  exact ⟨by rw [← hi]; simp, rfl⟩
def impl_isLong_string.f (l0 : List ByteArray) : Option (Bool) := some (l0.any fun t => decide (65536 < (t.size : Int)))
theorem impl_isLong_string.calls (A0 : Option Addr) (c0 : Nat) (l0 : List ByteArray) (r : Bool) (w : World) (hr0 : Kd.C Kd.string w A0 l0.length l0) (hc0 : l0.length ≤ c0) (h : impl_isLong_string.f l0 = some r) :
    Calls Try.prog 42 #[.slice A0 l0.length c0] w fun e w' => e = .returned (.bool r) ∧ Drawn0 w w' := by
  unfold impl_isLong_string.f at h
  injection h with h
  have H := Aside0.mk h
  clear h
  go_enter Try.func42, Try.ntmps42
  go_wp2_with (go_at_call 70; refine (ContainsFunc_string.calls _ _ _ _ hr0).mono ?_; rintro e w' ⟨rfl, rfl⟩)
  go_ret
  exact ⟨by rw [← H.out]; rfl, Drawn0.refl _⟩
def impl_isKey.f (a0 : ByteArray) : Option (Bool) := if (a0.size : Int) = 16 then (some true) else (some ((a0.size : Int) == 32))
set_option maxHeartbeats 8000000 in
set_option maxRecDepth 100000 in
theorem impl_isKey.calls (a0 : ByteArray) (r : Bool) (w : World) (h : impl_isKey.f a0 = some r) :
    Calls Try.prog 43 #[.string a0] w fun e w' => e = .returned (.bool r) ∧ Drawn0 w w' := by
  have H : (if (a0.size : Int) = 16 then (some true) else (some ((a0.size : Int) == 32))) = some r := h
  clear h
  by_cases c2 : (a0.size : Int) = 16
  · rw [if_pos c2] at H
    have c2b0 : ((a0.size : Int) == 16) = true := beq_iff_eq.mpr c2
    have c2b1 : ((a0.size : Int) != 16) = false := bne_eq_false_iff_eq.mpr c2
    clear c2
    obtain rfl := Option.some.inj H
    go_enter Try.func43, Try.ntmps43
    go_wp2
    go_ret
    exact ⟨by first | rfl | (simp; done) | (simp [*]; done), by repeat (first | exact Drawn0.refl _ | apply Drawn0.step)⟩
  · rw [if_neg c2] at H
    have c2b0 : ((a0.size : Int) == 16) = false := beq_eq_false_iff_ne.mpr c2
    have c2b1 : ((a0.size : Int) != 16) = true := bne_iff_ne.mpr c2
    obtain rfl := Option.some.inj H
    go_enter Try.func43, Try.ntmps43
    go_wp2
    go_ret
    exact ⟨by first | rfl | (simp; done) | (simp [*]; done), by repeat (first | exact Drawn0.refl _ | apply Drawn0.step)⟩
def impl_times.l0 : Nat → Int → Int → Int → Option (Int)
  | 0, _, _, _ => none
  | k + 1, x1, x5, x6 => if x1 > 0 then (if (Go.bits .and .u8 x1 1) = 1 then (if (wrap64 (x6 * 2)) > 255 then (impl_times.l0 k (x1 / 2) (Go.bits .xor .i64 x5 x6) (Go.bits .xor .i64 (wrap64 (x6 * 2)) 283)) else (impl_times.l0 k (x1 / 2) (Go.bits .xor .i64 x5 x6) (wrap64 (x6 * 2)))) else (if (wrap64 (x6 * 2)) > 255 then (impl_times.l0 k (x1 / 2) x5 (Go.bits .xor .i64 (wrap64 (x6 * 2)) 283)) else (impl_times.l0 k (x1 / 2) x5 (wrap64 (x6 * 2))))) else (some ((x5) % 256))
def impl_times.f (k : Nat) (a0 : Int) (a1 : Int) : Option (Int) := impl_times.l0 k a1 0 (wrap64 (a0))
set_option maxHeartbeats 8000000 in
set_option maxRecDepth 100000 in
theorem impl_times.calls (k : Nat) (a0 : Int) (a1 : Int) (r : Int) (w : World) (h : impl_times.f k a0 a1 = some r) :
    Calls Try.prog 73 #[.int .u8 a0, .int .u8 a1] w fun e w' => e = .returned (.int .u8 r) ∧ Drawn0 w w' := by
  have H : (impl_times.l0 k a1 0 (wrap64 (a0))) = some r := h
  clear h
  have H' := Aside0.mk H
  clear H
  go_enter Try.func73, Try.ntmps73
  go_wp2
  go_loopg [1, 5, 6] k (fun kq v1 v5 v6 w' => ∃ (x1_1 : Int) (x5_1 : Int) (x6_1 : Int), v1 = .int .u8 x1_1 ∧ v5 = .int .i64 x5_1 ∧ v6 = .int .i64 x6_1 ∧ Aside0 (impl_times.l0 kq x1_1 x5_1 x6_1 = some r) ∧ Aside0 (kq ≤ k) ∧ Drawn0 w w')
  case atStart => exact ⟨(a1), (0), (wrap64 (a0)), (by first | rfl | (simp; done) | (simp [*]; done)), (by first | rfl | (simp; done) | (simp [*]; done)), (by first | rfl | (simp; done) | (simp [*]; done)), H', ⟨Nat.le_refl _⟩, by repeat (first | exact Drawn0.refl _ | apply Drawn0.step)⟩
  case round =>
    clear H'
    try clear p2
    obtain ⟨x1_1, x5_1, x6_1, rfl, rfl, rfl, HA, HK1, ⟨m1, rfl⟩⟩ := hrel
    cases gk with
    | zero => exact absurd HA.out (by simp [impl_times.l0])
    | succ k1 =>
      have H := HA.out
      clear HA
      simp only [impl_times.l0] at H
      by_cases c3 : x1_1 > 0
      · rw [if_pos c3] at H
        have c3b0 : decide (0 < x1_1) = true := decide_eq_true c3
        clear c3
        by_cases c4 : (Go.bits .and .u8 x1_1 1) = 1
        · rw [if_pos c4] at H
          have c4b0 : ((Go.bits .and .u8 x1_1 1) == 1) = true := beq_iff_eq.mpr c4
          have c4b1 : ((Go.bits .and .u8 x1_1 1) != 1) = false := bne_eq_false_iff_eq.mpr c4
          clear c4
          by_cases c5 : (wrap64 (x6_1 * 2)) > 255
          · rw [if_pos c5] at H
            have c5b0 : decide (255 < (wrap64 (x6_1 * 2))) = true := decide_eq_true c5
            clear c5
            have H' := Aside0.mk H
            clear H
            go_wp2
            go_roundg k1
            case measure => have := HK1.out; omega
            case rel => exact ⟨(x1_1 / 2), (Go.bits .xor .i64 x5_1 x6_1), (Go.bits .xor .i64 (wrap64 (x6_1 * 2)) 283), (by first | rfl | (simp; done) | (simp [*]; done)), (by first | rfl | (simp; done) | (simp [*]; done)), (by first | rfl | (simp; done) | (simp [*]; done)), H', ⟨by have := HK1.out; omega⟩, by repeat (first | exact Drawn0.refl _ | apply Drawn0.step)⟩
          · rw [if_neg c5] at H
            have c5b0 : decide (255 < (wrap64 (x6_1 * 2))) = false := decide_eq_false c5
            clear c5
            have H' := Aside0.mk H
            clear H
            go_wp2
            go_roundg k1
            case measure => have := HK1.out; omega
            case rel => exact ⟨(x1_1 / 2), (Go.bits .xor .i64 x5_1 x6_1), (wrap64 (x6_1 * 2)), (by first | rfl | (simp; done) | (simp [*]; done)), (by first | rfl | (simp; done) | (simp [*]; done)), (by first | rfl | (simp; done) | (simp [*]; done)), H', ⟨by have := HK1.out; omega⟩, by repeat (first | exact Drawn0.refl _ | apply Drawn0.step)⟩
        · rw [if_neg c4] at H
          have c4b0 : ((Go.bits .and .u8 x1_1 1) == 1) = false := beq_eq_false_iff_ne.mpr c4
          have c4b1 : ((Go.bits .and .u8 x1_1 1) != 1) = true := bne_iff_ne.mpr c4
          by_cases c6 : (wrap64 (x6_1 * 2)) > 255
          · rw [if_pos c6] at H
            have c6b0 : decide (255 < (wrap64 (x6_1 * 2))) = true := decide_eq_true c6
            clear c6
            have H' := Aside0.mk H
            clear H
            go_wp2
            go_roundg k1
            case measure => have := HK1.out; omega
            case rel => exact ⟨(x1_1 / 2), (x5_1), (Go.bits .xor .i64 (wrap64 (x6_1 * 2)) 283), (by first | rfl | (simp; done) | (simp [*]; done)), (by first | rfl | (simp; done) | (simp [*]; done)), (by first | rfl | (simp; done) | (simp [*]; done)), H', ⟨by have := HK1.out; omega⟩, by repeat (first | exact Drawn0.refl _ | apply Drawn0.step)⟩
          · rw [if_neg c6] at H
            have c6b0 : decide (255 < (wrap64 (x6_1 * 2))) = false := decide_eq_false c6
            clear c6
            have H' := Aside0.mk H
            clear H
            go_wp2
            go_roundg k1
            case measure => have := HK1.out; omega
            case rel => exact ⟨(x1_1 / 2), (x5_1), (wrap64 (x6_1 * 2)), (by first | rfl | (simp; done) | (simp [*]; done)), (by first | rfl | (simp; done) | (simp [*]; done)), (by first | rfl | (simp; done) | (simp [*]; done)), H', ⟨by have := HK1.out; omega⟩, by repeat (first | exact Drawn0.refl _ | apply Drawn0.step)⟩
      · rw [if_neg c3] at H
        have c3b0 : decide (0 < x1_1) = false := decide_eq_false c3
        clear c3
        obtain rfl := Option.some.inj H
        go_wp2
        go_ret
        exact ⟨by first | rfl | (simp; done) | (simp [*]; done), by repeat (first | exact Drawn0.refl _ | apply Drawn0.step)⟩
end Go.Proofs.Ytfbggdlidelliaa.P

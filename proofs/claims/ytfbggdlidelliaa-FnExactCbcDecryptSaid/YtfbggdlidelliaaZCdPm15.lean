/- Laid by a program of this session: of Pm15 what this law uses. -/
import Derived.Test.YtfbggdlidelliaaZCdPm0
import Derived.Test.YtfbggdlidelliaaZCdPm1
import Derived.Test.YtfbggdlidelliaaZCdPm2
import Derived.Test.YtfbggdlidelliaaZCdPm3
import Derived.Test.YtfbggdlidelliaaZCdPm6
import Derived.Test.YtfbggdlidelliaaZCdPm7
import Derived.Test.YtfbggdlidelliaaZCdPm14
namespace Go.Proofs.Ytfbggdlidelliaa.P
open Go.RowKit Go.Proofs.YtfbggdlidelliaaW.PrintWords Go.Proofs.YtfbggdlidelliaaW.PrintLast Go.Proofs.YtfbggdlidelliaaW.PrintMore
attribute [local go_sem] min2_int min_two
set_option linter.unusedVariables false
set_option linter.unusedSimpArgs false
open Classical in
theorem unpad_scan (l : List Int) (q m : Nat) (hl : l.length < 1000000) (_ : m ≤ l.length) (d : Nat) : ∀ (k i : Nat), m ≤ i → i + d = l.length → d < k →
    spec_l02Unpad.l0 k l (q : Int) (i : Int) = if (∀ j, i ≤ j → j < l.length → wrap64 (rd l (j : Int)) = (q : Int)) then spec_l02Unpad.l0 1 l (q : Int) (l.length : Int) else some ([], false) := by
  induction d with
  | zero =>
    intro k i hi hd hk
    obtain ⟨k, rfl⟩ : ∃ m, k = m + 1 := ⟨k - 1, by omega⟩
    obtain rfl : i = l.length := by omega
    rw [if_pos (fun j h1 h2 => by omega)]
    simp only [spec_l02Unpad.l0]
    rw [if_neg (by omega), if_neg (by omega)]
  | succ d ih =>
    intro k i hi hd hk
    obtain ⟨k, rfl⟩ : ∃ m, k = m + 1 := ⟨k - 1, by omega⟩
    have e : spec_l02Unpad.l0 (k + 1) l (q : Int) (i : Int) = if wrap64 (rd l (i : Int)) = (q : Int) then spec_l02Unpad.l0 k l (q : Int) ((i + 1 : Nat) : Int) else some ([], false) := by
      simp only [spec_l02Unpad.l0]
      rw [if_pos (by omega), if_pos (by omega), suc_natW i (by omega)]
    rw [e]
    by_cases hq : wrap64 (rd l (i : Int)) = (q : Int)
    · rw [if_pos hq, ih k (i + 1) (by omega) (by omega) (by omega)]
      by_cases ha : ∀ j, i + 1 ≤ j → j < l.length → wrap64 (rd l (j : Int)) = (q : Int)
      · rw [if_pos ha, if_pos (fun j h1 h2 => by
          rcases Nat.eq_or_lt_of_le h1 with h3 | h3
          · subst h3; exact hq
          · exact ha j h3 h2)]
      · rw [if_neg ha, if_neg (fun hb => ha (fun j h1 h2 => hb j (by omega) h2))]
    · rw [if_neg hq, if_neg (fun hb => hq (hb i (Nat.le_refl _) (by omega)))]
theorem unpad_last (l : List Int) (q : Nat) (hl : l.length < 1000000) (hq : q ≤ l.length) : spec_l02Unpad.l0 1 l (q : Int) (l.length : Int) = some (l.take (l.length - q), true) := by
  have e : wrap64 ((l.length : Int) - (q : Int)) = ((l.length - q : Nat) : Int) := by unfold wrap64; omega
  show spec_l02Unpad.l0 (0 + 1) l (q : Int) (l.length : Int) = _
  simp only [spec_l02Unpad.l0]
  rw [if_neg (by omega), Option.bind_some, e, if_pos (by omega), if_pos (by omega), Int.toNat_natCast, List.nil_append, if_pos (by simp; omega)]
theorem spec_unpad (k : Nat) (l : List Int) (hu : Pg.isU8 l) (hl : l.length ≤ 65536) (hk : 70000 < k) : spec_l02Unpad.f k l = match unpadL l with | some r => some (r, true) | none => some ([], false) := by
  obtain ⟨k, rfl⟩ : ∃ m, k = m + 1 := ⟨k - 1, by omega⟩
  unfold spec_l02Unpad.f
  by_cases h0 : l.length = 0
  · rw [if_pos (by omega)]
    have : unpadL l = none := by unfold unpadL; rw [if_pos h0]
    rw [this]
    simp only [spec_l02Unpad.j0, if_true]
  · rw [if_neg (by omega)]
    have hr := rd_of_u8 hu ((l.length : Int) - 1)
    obtain ⟨q, hq⟩ : ∃ q : Nat, rd l ((l.length : Int) - 1) = (q : Int) := ⟨(rd l ((l.length : Int) - 1)).toNat, by omega⟩
    have hq2 : q ≤ 255 := by omega
    have hU : unpadL l = if l.length < q then none else if ((strOfNums (padL (l.take (l.length - q)))).toList == (strOfNums l).toList) = true then some (l.take (l.length - q)) else none := by
      unfold unpadL
      rw [if_neg h0, hq]
      rfl
    rw [Pg.strEq _ _ (padL_u8 (take_u8 hu _)) hu] at hU
    by_cases hm : l.length % 16 = 0
    · have hmb : (((l.length : Int) % 16) != 0) = false := by rw [bne_eq_false_iff_eq]; omega
      rw [hmb]
      simp only [spec_l02Unpad.j0, Bool.false_eq_true, if_false]
      have w1 : wrap64 ((l.length : Int) - 1) = (l.length : Int) - 1 := by unfold wrap64; omega
      have w2 : wrap64 (q : Int) = (q : Int) := by unfold wrap64; omega
      rw [w1, if_pos (by omega), if_pos (by omega), hq, w2]
      by_cases hin : 1 ≤ q ∧ q ≤ 16
      · have hi : spec_l01In.f (q : Int) 1 16 = some true := by
          unfold spec_l01In.f
          rw [if_pos (by omega)]
          simp; omega
        have hle : q ≤ l.length := by omega
        have w3 : wrap64 ((l.length : Int) - (q : Int)) = ((l.length - q : Nat) : Int) := by unfold wrap64; omega
        rw [hi, Option.bind_some, if_pos rfl, w3, unpad_scan l q 0 (by omega) (by omega) q k (l.length - q) (by omega) (by omega) (by omega), unpad_last l q (by omega) hle]
        rw [if_neg (by omega)] at hU
        have tl : (l.take (l.length - q)).length = l.length - q := by rw [List.length_take]; omega
        have hpad : padL (l.take (l.length - q)) = l.take (l.length - q) ++ List.replicate q (q : Int) := by
          unfold padL
          rw [tl]
          have e1 : 16 - (l.length - q) % 16 = q := by omega
          have e2 : 16 - ((l.length - q : Nat) : Int) % 16 = (q : Int) := by omega
          rw [e1, e2]
        have hiff : (∀ j, l.length - q ≤ j → j < l.length → wrap64 (rd l (j : Int)) = (q : Int)) ↔ padL (l.take (l.length - q)) = l := by
          rw [hpad]
          constructor
          · intro h
            apply List.ext_getElem
            · rw [List.length_append, tl, List.length_replicate]; omega
            · intro j h1 h2
              rcases Nat.lt_or_ge j (l.length - q) with h3 | h3
              · rw [List.getElem_append_left (by rw [tl]; exact h3)]
                simp
              · rw [List.getElem_append_right (by rw [tl]; exact h3), List.getElem_replicate]
                have := h j h3 h2
                rw [rd_natW l j h2] at this
                have hb := hu _ (List.getElem_mem h2)
                have w4 : wrap64 l[j] = l[j] := by unfold wrap64; omega
                rw [w4] at this
                exact this.symm
          · intro h j h1 h2
            rw [rd_natW l j h2]
            have hb := hu _ (List.getElem_mem h2)
            have w4 : wrap64 l[j] = l[j] := by unfold wrap64; omega
            rw [w4]
            have e3 : l[j]? = (l.take (l.length - q) ++ List.replicate q (q : Int))[j]? := by rw [h]
            rw [List.getElem?_append_right (by rw [tl]; exact h1), tl, List.getElem?_replicate, if_pos (by omega), List.getElem?_eq_getElem h2] at e3
            exact Option.some.inj e3
        by_cases hp : padL (l.take (l.length - q)) = l
        · rw [if_pos (hiff.2 hp), hU, if_pos (by simpa using hp)]
        · rw [if_neg (fun h => hp (hiff.1 h)), hU, if_neg (by simpa using hp)]
      · have hi : spec_l01In.f (q : Int) 1 16 = some false := by
          unfold spec_l01In.f
          by_cases h1 : (q : Int) ≥ 1
          · rw [if_pos h1]; simp; omega
          · rw [if_neg h1]
        have hno : unpadL l = none := by
          rw [hU]
          by_cases h1 : l.length < q
          · rw [if_pos h1]
          · rw [if_neg h1, if_neg]
            intro h2
            have h3 : padL (l.take (l.length - q)) = l := by simpa using h2
            have h4 := congrArg List.length h3
            rw [padL_len, List.length_take] at h4
            omega
        rw [hi, Option.bind_some, hno]
        simp
    · have hmb : (((l.length : Int) % 16) != 0) = true := by rw [bne_iff_ne]; omega
      rw [hmb]
      have hno : unpadL l = none := by
        rw [hU]
        by_cases h1 : l.length < q
        · rw [if_pos h1]
        · rw [if_neg h1, if_neg]
          intro h2
          have h3 : padL (l.take (l.length - q)) = l := by simpa using h2
          have h4 := congrArg List.length h3
          rw [padL_len, List.length_take] at h4
          omega
      rw [hno]
      simp only [spec_l02Unpad.j0, if_true]
def spec_CbcDecrypt.f (a0 a1 : ByteArray) (l2 : List Int) : Option (List Int × Int) :=
  if u8b l2 = true then
    (if 65536 < a0.size ∨ 65536 < a1.size ∨ 65536 < l2.length then some ([], 2)
     else if (a0.size = 16 ∨ a0.size = 32) ∧ a1.size = 16 then
       (if l2.length = 0 ∨ l2.length % 16 ≠ 0 then some ([], 3)
        else if ∀ i, i < l2.length / 16 → spec_l01Decrypt.f 1300 ((Aes.keysL (bytesL a0)).map strOfNums) Aes.subs (strOfNums (Md.blk l2 i)) = some (strOfNums (Aes.decL (Aes.keysL (bytesL a0)) (Md.blk l2 i))) then
          (match unpadL (Md.uncL (Aes.keysL (bytesL a0)) (bytesL a1) l2) with
           | some r => some (r, 0)
           | none => some ([], 3))
        else none)
     else some ([], 1))
  else none
theorem key_decW (s : ByteArray) (b : Bool) (h : b = decide (s.size = 16 ∨ s.size = 32)) : spec_l01Key.f s = some b := by
  subst h
  unfold spec_l01Key.f
  by_cases h : s.size = 16
  · rw [if_pos (by omega), decide_eq_true (.inl h)]
  · rw [if_neg (by omega)]
    congr 1
    by_cases h2 : s.size = 32
    · rw [decide_eq_true (.inr h2), h2]; rfl
    · rw [decide_eq_false (by omega), beq_eq_false_iff_ne]; omega
def cbcdPost (l2 r1 : List Int) (r2 : Int) (w0 : World) (e : Ending) (w' : World) : Prop :=
  ∃ v0_ : Value, e = .returned (.tuple #[v0_, .int .i64 r2]) ∧ Kd.R (Kd.int .u8) 5 w' w0.heap.size (fun _ => True) v0_ r1 ∧ Below w0.heap.size w0 w'
set_option maxHeartbeats 8000000 in
set_option maxRecDepth 100000 in
theorem spec_CbcDecrypt_in (a0 a1 : ByteArray) (A2 : Option Addr) (c2 : Nat) (l2 : List Int) (w0 : World) (r1 : List Int) (r2 : Int) (hr2 : Kd.C (Kd.int .u8) w0 A2 l2.length l2) (hc2 : l2.length ≤ c2) (hu2 : u8ok l2) (hl2 : l2.length ≤ 65536) (hk : a0.size = 16 ∨ a0.size = 32) (hn : a1.size = 16)
    (m : Nat) (hm : l2.length = 16 * m) (hm0 : 0 < m)
    (hdec : ∀ i, i < m → spec_l01Decrypt.f 1300 ((Aes.keysL (bytesL a0)).map strOfNums) Aes.subs (strOfNums (Md.blk l2 i)) = some (strOfNums (Aes.decL (Aes.keysL (bytesL a0)) (Md.blk l2 i))))
    (hres : (match unpadL (Md.uncL (Aes.keysL (bytesL a0)) (bytesL a1) l2) with | some r => some (r, (0 : Int)) | none => some ([], 3)) = some (r1, r2)) :
    Calls Try.prog 35 #[.string a0, .string a1, .slice A2 l2.length c2] w0 (cbcdPost l2 r1 r2 w0) := by
  unfold cbcdPost
  obtain ⟨keys, hkeys⟩ : ∃ K, K = Aes.keysL (bytesL a0) := ⟨_, rfl⟩
  obtain ⟨KS, hKS⟩ : ∃ K, K = keys.map strOfNums := ⟨_, rfl⟩
  obtain ⟨f, hf⟩ : ∃ f, f = bytesL a1 := ⟨_, rfl⟩
  have HKEQ : Aside0 (spec_l01Keys.f a0 Aes.subs = some KS) := ⟨by unfold spec_l01Keys.f; rw [if_pos ⟨rfl, hk⟩, hKS, hkeys]⟩
  have HKD := Aside0.mk (key_decW a0 true (decide_eq_true hk).symm)
  rw [← hkeys, ← hKS] at hdec
  rw [← hkeys, ← hf] at hres
  have HKO : Aside0 (Aes.keysOk keys) := ⟨by rw [hkeys]; exact keysL_good a0⟩
  have HDEC := Aside0.mk hdec
  have HRES := Aside0.mk hres
  have HR2 := Aside0.mk hr2
  have HC2 := Aside0.mk hc2
  have HL2 := Aside0.mk hl2
  have HU2 := Aside0.mk hu2
  have HM := Aside0.mk hm
  have HM0 := Aside0.mk hm0
  have HBO : Aside0 (∀ s t : List Int, s.length = 16 → Aes.ok s → t.length = 16 → Aes.ok t → spec_l02Both.f (strOfNums s) t = some (strOfNums (Aes.xorS s t))) := ⟨fun s t h1 h2 h3 h4 => by unfold spec_l02Both.f; rw [if_pos ⟨u8b_of h4, by rw [str_size]; exact h1, h3⟩, bytesL_str s h2]⟩
  have HFL : Aside0 (f.length = 16 ∧ Aes.ok f) := ⟨by rw [hf]; exact ⟨by rw [bytesL_length, hn], u8ok_bytesL a1⟩⟩
  have HFS : Aside0 (strOfNums f = a1) := ⟨by rw [hf]; exact str_bytesL a1⟩
  have d1 : decide (65536 < (a0.size : Int)) = false := decide_eq_false (by omega)
  have d2 : decide (65536 < (a1.size : Int)) = false := decide_eq_false (by omega)
  have d3 : decide (65536 < (l2.length : Int)) = false := decide_eq_false (by omega)
  have d1n : decide (65536 < a0.size) = false := decide_eq_false (by omega)
  have d2n : decide (65536 < a1.size) = false := decide_eq_false (by omega)
  have d3n : decide (65536 < l2.length) = false := decide_eq_false (by omega)
  have d4 : ((a1.size : Int) != 16) = false := by rw [hn]; rfl
  have d5 : ((l2.length : Int) == 0) = false := by rw [beq_eq_false_iff_ne]; omega
  have d6 : (l2.length : Int) % 16 = 0 := by omega
  have d7 : Int.tmod (l2.length : Int) 16 = 0 := by rw [Int.tmod_eq_emod_of_nonneg (Int.natCast_nonneg _)]; exact d6
  have d8 : (a1.size : Int) = 16 := by omega
  have d9 : ¬ l2 = [] := by intro h; rw [h] at hm; simp at hm; omega
  have d10 : ((l2.length : Int) = 0) = False := by simp; exact d9
  clear hkeys hk hr2 hc2 hu2 hl2 hKS hf hn hdec hres hm hm0
  go_enter Try.func35, Try.ntmps35
  go_wp2_with fail
  refine (spec_l01Key.calls a0 true w0 HKD.out).mono ?_
  rintro e wk ⟨rfl, hbk⟩
  have HBK : Aside0 (Below w0.heap.size w0 wk) := ⟨hbk.below⟩
  clear hbk
  go_wp2_with fail
  refine (spec_l01Table.calls 600 _ _ table_600).mono ?_
  rintro e w1 ⟨vt, rfl, ht, hb1⟩
  obtain ⟨At, ct, hvt, hct, hCt⟩ := Kd.R_reads ht
  subst hvt
  have HT := Aside0.mk hCt
  have HCT := Aside0.mk hct
  have HB1 := Aside0.mk (HBK.out.trans (hb1.mono HBK.out.size))
  clear ht hct hCt hb1 HBK
  go_wp2_with fail
  refine (spec_l01Keys.calls a0 At ct Aes.subs _ w1 HT.out HCT.out HKEQ.out).mono ?_
  rintro e w2 ⟨vk, rfl, hk, hb2⟩
  obtain ⟨Ak, ck, hvk, hck, hCk⟩ := Kd.R_reads hk
  subst hvk
  have HKK := Aside0.mk hCk
  have HCK := Aside0.mk hck
  have HT2 := Aside0.mk (Kd.C_below HT.out hb2)
  have HB2 := Aside0.mk (HB1.out.trans (hb2.mono HB1.out.size))
  have HKF : Aside0 (∀ V, Below w2.heap.size w2 V → Kd.C Kd.string V Ak KS.length KS ∧ Kd.C (Kd.int .i64) V At Aes.subs.length Aes.subs ∧ Kd.C (Kd.int .u8) V A2 l2.length l2) := ⟨fun V h => ⟨Kd.C_below hCk h, Kd.C_below HT2.out h, Kd.C_below HR2.out (HB2.out.trans (h.mono HB2.out.size))⟩⟩
  clear hk hck hCk hb2 HKK HT2 HT HB1
  go_wp2_with fail
  have hba := below_alloc (Below.refl w2.heap.size w2) (.cells (nums .u8 []).toArray 5)
  have HR0 : Aside0 (Kd.R (Kd.int .u8) 5 (w2.alloc (.cells (nums .u8 []).toArray 5)) w2.heap.size (fun _ => True) (.slice (some ⟨w2.heap.size, 0, none⟩) 0 0) ([] : List Int)) := ⟨Kd.R_of_own (own_lit w2 w2.heap.size 5 .u8 [] (Nat.le_refl _) (by decide)) (fun _ _ => trivial)⟩
  have HB4 := Aside0.mk hba
  go_loopw [10, 11, 12] (fun vo vl vi wr => ∃ q i : Nat, vi = .int .i64 (q : Int) ∧ q = 16 * i ∧ q ≤ l2.length ∧ vl = .string (strOfNums (Md.uncTo keys f l2 i).2) ∧ Aside0 (Kd.R (Kd.int .u8) 5 wr w2.heap.size (fun _ => True) vo (Md.uncTo keys f l2 i).1) ∧ Aside0 (Below w2.heap.size w2 wr)) (fun _ _ vi _ => l2.length - (intOf vi).toNat)
  case atStart => exact ⟨0, 0, rfl, rfl, Nat.zero_le _, by rw [← HFS.out]; rfl, HR0, HB4⟩
  case round =>
    obtain ⟨q, i, rfl, hq, hqp, rfl, HR, HB⟩ := hrel
    clear d1 d2 d3 d1n d2n d3n d4 d5 d6 d7 d8 d9 d10
    by_cases hlt : q < l2.length
    · have hd : decide (q < l2.length) = true := decide_eq_true hlt
      have hd2 : decide ((q : Int) < (l2.length : Int)) = true := decide_eq_true (by omega)
      have HLT := Aside0.mk hlt
      have HQ := Aside0.mk hq
      obtain ⟨p2, hp2⟩ : ∃ x, x = q + 16 := ⟨_, rfl⟩
      have hpl : p2 ≤ l2.length := by have := HM.out; omega
      have HIM : Aside0 (i < m) := ⟨by have := HM.out; omega⟩
      have hpc : p2 ≤ c2 := Nat.le_trans hpl HC2.out
      obtain ⟨ad, had, _⟩ := HR2.out.2.2 (by omega)
      subst had
      have q2 : (q : Int) + 16 = (p2 : Int) := by omega
      have b0 : (0 : Int) ≤ (q : Int) := Int.natCast_nonneg q
      have b1 : (q : Int) ≤ (p2 : Int) := by omega
      have b2 : (p2 : Int) ≤ (c2 : Int) := by omega
      have b3 : q ≤ p2 := by omega
      have b4 : p2 - q = 16 := by omega
      have b5 : ¬ c2 = q := by omega
      have q5 : -1000000 ≤ (p2 : Int) ∧ (p2 : Int) ≤ 1000000000 := by have := HL2.out; omega
      have HP2 := Aside0.mk hp2
      have HP2L := Aside0.mk hpl
      have HPLI : Aside0 (16 * i + 16 ≤ l2.length) := ⟨by omega⟩
      have HPC := Aside0.mk hpc
      have e2 : wrap64 ((q : Int) + 16) = (p2 : Int) := by rw [q2]; exact w64s _ q5.1 q5.2
      have HE2 := Aside0.mk e2
      clear hp2 hpl q2 q5 hlt hq hqp hpc
      have hbk := Md.blk_length l2 i HPLI.out
      have hC : ∀ V, Below w2.heap.size w2 V → Kd.C (Kd.int .u8) V (some (ad.add q)) 16 (Md.blk l2 i) := fun V hV => by
        rw [HQ.out]
        have := C_cut (b := Md.blk l2 i) (HKF.out V hV).2.2 rfl (by rw [hbk]; decide) (16 * i) (by rw [hbk]; exact HPLI.out) (fun j hj => Md.blk_at l2 i j (by rw [hbk] at hj; exact hj))
        rw [hbk] at this
        exact this
      have HCB := Aside0.mk hC
      have HBKL := Aside0.mk hbk
      have ks := Kd.C_string (P := Try.prog) (dst := 9) (src := 28) (c := c2 - q) Try.underlying28 Try.underlying5 Try.underlying9 (hC wr HB.out)
      clear hC hbk
      go_wp2_with fail
      clear ks
      obtain ⟨S, hS⟩ : ∃ S, S = Md.uncTo keys f l2 i := ⟨_, rfl⟩
      have HS := Aside0.mk hS
      rw [← hS] at HR ⊢
      have HSO : Aside0 (S.2.length = 16 ∧ Aes.ok S.2) := ⟨by rw [hS]; exact ⟨Md.uncTo_last keys HFL.out.1 i (by have := HPLI.out; omega), (Md.uncTo_ok HKO.out HFL.out.2 HU2.out i).2⟩⟩
      have HSL : Aside0 (S.1.length = 16 * i) := ⟨by rw [hS]; exact Md.uncTo_length _ _ _ _⟩
      refine (spec_l01Decrypt.calls 1300 Ak ck _ At ct Aes.subs _ _ wr (HKF.out wr HB.out).1 HCK.out (HKF.out wr HB.out).2.1 HCT.out (HDEC.out i HIM.out)).mono ?_
      rintro e w8 ⟨rfl, hb8⟩
      have HB8 := Aside0.mk (HB.out.trans (hb8.mono HB.out.size))
      have HR8 := Aside0.mk (Kd.R_below HR.out hb8)
      obtain ⟨DX, hDX⟩ : ∃ N, N = Aes.decL keys (Md.blk l2 i) := ⟨_, rfl⟩
      have HDO : Aside0 (DX.length = 16 ∧ Aes.ok DX) := ⟨by rw [hDX]; exact ⟨Aes.decL_length _ _, Aes.decL_ok HKO.out (Md.blk_ok HU2.out i)⟩⟩
      have HDE := Aside0.mk hDX
      rw [← hDX]
      have kc := Lib.run_convert_string_bytes (P := Try.prog) w8 9 28 5 (strOfNums DX) Try.underlying9 Try.underlying28 Try.underlying5
      have hrow := conv_rowB w8 w8.heap.size 5 (strOfNums DX) (Nat.le_refl _)
      have hbc : Below w8.heap.size w8 (Lib.bytesWorld w8 5 (strOfNums DX)) := bytes_below (Below.refl _ _) (Nat.le_refl _) _ _
      rw [str_size, HDO.out.1] at kc hrow
      rw [bytesL_str DX HDO.out.2] at hrow
      generalize Lib.bytesWorld w8 5 (strOfNums DX) = w9 at kc hrow hbc
      generalize grownCap w8 16 0 5 = cb at kc hrow
      have HROW := Aside0.mk hrow
      have HB9 := Aside0.mk (HB8.out.trans (hbc.mono HB8.out.size))
      have HR9 := Aside0.mk (Kd.R_below HR8.out hbc)
      clear hb8 hbc hrow hDX hS e2
      go_wp2_with fail
      clear kc
      have hcall := spec_l02Both.calls (strOfNums S.2) (some ⟨w8.heap.size, 0, none⟩) cb DX _ w9 (rowB_C (by rw [HDO.out.1]; exact HROW.out) (by rw [HDO.out.1]; decide)) (by rw [HDO.out.1]; exact rowB_form' HROW.out) (HBO.out _ _ HSO.out.1 HSO.out.2 HDO.out.1 HDO.out.2)
      rw [HDO.out.1] at hcall
      refine hcall.mono ?_
      rintro e w10 ⟨rfl, hb10⟩
      have HB10 := Aside0.mk (HB9.out.trans (hb10.mono HB9.out.size))
      have HR10 := Aside0.mk (Kd.R_below HR9.out hb10)
      obtain ⟨NX, hNX⟩ : ∃ N, N = Aes.xorS S.2 DX := ⟨_, rfl⟩
      have HNO : Aside0 (NX.length = 16 ∧ Aes.ok NX) := ⟨by rw [hNX]; exact ⟨Aes.xorS_length _ _, Aes.xorS_ok HSO.out.2 HDO.out.2⟩⟩
      have HTO : Aside0 ((Md.uncTo keys f l2 (i + 1)) = (S.1 ++ NX, Md.blk l2 i)) := ⟨by rw [hNX, HS.out, HDE.out]; rfl⟩
      rw [← hNX]
      have HFIT : Aside0 (S.1.length + (strOfNums NX).size ≤ 140737488355328) := ⟨by rw [str_size, HNO.out.1, HSL.out]; have := HPLI.out; have := HL2.out; omega⟩
      have HZ10 : Aside0 (w2.heap.size ≤ w10.heap.size) := ⟨HB10.out.size⟩
      have HLR : Aside0 (S.1 ++ NX = S.1 ++ bytesL (strOfNums NX)) := ⟨by rw [bytesL_str NX HNO.out.2]⟩
      clear hb10 hNX hcall
      have kss : ∀ V, Below w2.heap.size w2 V → (convert 28 9 (.slice (some (ad.add q)) 16 (c2 - q))).run Try.prog V = .ok (.string (strOfNums (Md.blk l2 i))) V := fun V hV => Kd.C_string (P := Try.prog) (dst := 9) (src := 28) (c := c2 - q) Try.underlying28 Try.underlying5 Try.underlying9 (HCB.out V hV)
      have HKSS := Aside0.mk kss
      clear kss
      have e2 := HE2.out
      go_upto_region 15 with ((with_reducible refine gate_dst (N := 72) rfl ?_); refine wpList_append_R_string (by rfl) (.tmp 59) (.tmp 71) 28 9 5 (by rfl) Try.underlying28 Try.underlying9 info5 (strOfNums NX) (by rfl) HR10.out HB10.out HZ10.out (by rfl) HFIT.out (S.1 ++ NX) HLR.out ?_; intro v11 w11 H1 H2 H3; have ks := HKSS.out w11 H2.out)
      clear e2 ks
      go_wp2
      try rw [HE2.out]
      go_roundw
      case rel => exact ⟨p2, i + 1, rfl, by rw [HP2.out, HQ.out]; omega, HP2L.out, by rw [HTO.out], ⟨by rw [HTO.out]; exact H1.out⟩, H2⟩
      case measure => simp [intOf]; have := HLT.out; have := HP2.out; have := HP2L.out; omega
    · have hd : decide (q < l2.length) = false := decide_eq_false hlt
      have hd2 : decide ((q : Int) < (l2.length : Int)) = false := decide_eq_false (by omega)
      obtain ⟨P, hP⟩ : ∃ P, P = (Md.uncTo keys f l2 i).1 := ⟨_, rfl⟩
      have HFIN : Aside0 (Md.uncL keys f l2 = P) := ⟨by rw [hP]; unfold Md.uncL; congr 2; have := HM.out; omega⟩
      have HPO : Aside0 (Aes.ok P) := ⟨by rw [hP]; exact (Md.uncTo_ok HKO.out HFL.out.2 HU2.out i).1⟩
      have HPL : Aside0 (P.length ≤ 65536) := ⟨by rw [hP, Md.uncTo_length]; have := HL2.out; omega⟩
      rw [← hP] at HR
      have hres := HRES.out
      rw [HFIN.out] at hres
      obtain ⟨Ap, cp, hvp, hcp, hCp⟩ := Kd.R_reads HR.out
      subst hvp
      have HCP := Aside0.mk hcp
      have HPC := Aside0.mk hCp
      have HBW := Aside0.mk (HB2.out.trans (HB.out.mono HB2.out.size))
      have hun := spec_unpad 70001 P HPO.out HPL.out (by decide)
      clear hlt hq hqp hcp hCp hP
      go_wp2_with fail
      cases hu : unpadL P with
      | none =>
        rw [hu] at hun hres
        obtain ⟨rfl, rfl⟩ : ([] : List Int) = r1 ∧ (3 : Int) = r2 := by simpa using hres
        refine (spec_l02Unpad.calls 70001 Ap cp P [] false wr HPC.out HCP.out hun).mono ?_
        rintro e w4 ⟨v, rfl, hv, hb⟩
        have HB4 := Aside0.mk (HBW.out.trans (hb.mono HBW.out.size))
        clear hun hres hu hv hb
        go_wp2
        go_ret2
        exact ⟨_, rfl, Kd.R_of_own (own_lit w4 w0.heap.size 5 .u8 [] HB4.out.size (by decide)) (fun _ _ => trivial), below_alloc HB4.out _⟩
      | some r =>
        rw [hu] at hun hres
        obtain ⟨rfl, rfl⟩ : r = r1 ∧ (0 : Int) = r2 := by simpa using hres
        refine (spec_l02Unpad.calls 70001 Ap cp P r true wr HPC.out HCP.out hun).mono ?_
        rintro e w4 ⟨v, rfl, hv, hb⟩
        have HB4 := Aside0.mk (HBW.out.trans (hb.mono HBW.out.size))
        have HV := Aside0.mk (Kd.R_lower hv HBW.out.size)
        clear hun hres hu hv hb
        go_wp2
        go_ret2
        exact ⟨_, rfl, HV.out, HB4.out⟩
set_option maxHeartbeats 8000000 in
set_option maxRecDepth 100000 in
theorem spec_CbcDecrypt.calls (a0 a1 : ByteArray) (A2 : Option Addr) (c2 : Nat) (l2 : List Int) (r1 : List Int) (r2 : Int) (w0 : World) (hr2 : Kd.C (Kd.int .u8) w0 A2 l2.length l2) (hc2 : l2.length ≤ c2) (h : spec_CbcDecrypt.f a0 a1 l2 = some (r1, r2)) :
    Calls Try.prog 35 #[.string a0, .string a1, .slice A2 l2.length c2] w0 fun e w' => ∃ v0_ : Value, e = .returned (.tuple #[v0_, .int .i64 r2]) ∧ Kd.R (Kd.int .u8) 5 w' w0.heap.size (fun _ => True) v0_ r1 ∧ Below w0.heap.size w0 w' := by
  unfold spec_CbcDecrypt.f at h
  by_cases hu : u8b l2 = true
  · rw [if_pos hu] at h
    have HBR := Aside0.mk (Below.refl w0.heap.size w0)
    by_cases h0 : 65536 < a0.size
    · rw [if_pos (.inl h0)] at h
      obtain ⟨rfl, rfl⟩ : ([] : List Int) = r1 ∧ (2 : Int) = r2 := by simpa using h
      have d1 : decide (65536 < (a0.size : Int)) = true := decide_eq_true (by omega)
      have d1n : decide (65536 < a0.size) = true := decide_eq_true (by omega)
      clear h hu h0
      go_enter Try.func35, Try.ntmps35
      go_wp2
      go_ret2
      exact ⟨_, rfl, Kd.R_of_own (own_lit w0 w0.heap.size 5 .u8 [] HBR.out.size (by decide)) (fun _ _ => trivial), below_alloc HBR.out _⟩
    by_cases h1 : 65536 < a1.size
    · rw [if_pos (.inr (.inl h1))] at h
      obtain ⟨rfl, rfl⟩ : ([] : List Int) = r1 ∧ (2 : Int) = r2 := by simpa using h
      have d1 : decide (65536 < (a0.size : Int)) = false := decide_eq_false (by omega)
      have d1n : decide (65536 < a0.size) = false := decide_eq_false (by omega)
      have d2 : decide (65536 < (a1.size : Int)) = true := decide_eq_true (by omega)
      have d2n : decide (65536 < a1.size) = true := decide_eq_true (by omega)
      clear h hu h0 h1
      go_enter Try.func35, Try.ntmps35
      go_wp2
      go_ret2
      exact ⟨_, rfl, Kd.R_of_own (own_lit w0 w0.heap.size 5 .u8 [] HBR.out.size (by decide)) (fun _ _ => trivial), below_alloc HBR.out _⟩
    by_cases h2 : 65536 < l2.length
    · rw [if_pos (.inr (.inr h2))] at h
      obtain ⟨rfl, rfl⟩ : ([] : List Int) = r1 ∧ (2 : Int) = r2 := by simpa using h
      have d1 : decide (65536 < (a0.size : Int)) = false := decide_eq_false (by omega)
      have d1n : decide (65536 < a0.size) = false := decide_eq_false (by omega)
      have d2 : decide (65536 < (a1.size : Int)) = false := decide_eq_false (by omega)
      have d2n : decide (65536 < a1.size) = false := decide_eq_false (by omega)
      have d3 : decide (65536 < (l2.length : Int)) = true := decide_eq_true (by omega)
      have d3n : decide (65536 < l2.length) = true := decide_eq_true (by omega)
      clear h hu h0 h1 h2
      go_enter Try.func35, Try.ntmps35
      go_wp2
      go_ret2
      exact ⟨_, rfl, Kd.R_of_own (own_lit w0 w0.heap.size 5 .u8 [] HBR.out.size (by decide)) (fun _ _ => trivial), below_alloc HBR.out _⟩
    rw [if_neg (show ¬ (65536 < a0.size ∨ 65536 < a1.size ∨ 65536 < l2.length) by omega)] at h
    by_cases h3 : ¬ (a0.size = 16 ∨ a0.size = 32)
    · rw [if_neg (fun h => h3 h.1)] at h
      obtain ⟨rfl, rfl⟩ : ([] : List Int) = r1 ∧ (1 : Int) = r2 := by simpa using h
      have d1 : decide (65536 < (a0.size : Int)) = false := decide_eq_false (by omega)
      have d1n : decide (65536 < a0.size) = false := decide_eq_false (by omega)
      have d2 : decide (65536 < (a1.size : Int)) = false := decide_eq_false (by omega)
      have d2n : decide (65536 < a1.size) = false := decide_eq_false (by omega)
      have d3 : decide (65536 < (l2.length : Int)) = false := decide_eq_false (by omega)
      have d3n : decide (65536 < l2.length) = false := decide_eq_false (by omega)
      have HKD := Aside0.mk (key_decW a0 false (decide_eq_false h3).symm)
      clear h hu h0 h1 h2 h3
      go_enter Try.func35, Try.ntmps35
      go_wp2_with fail
      refine (spec_l01Key.calls a0 false w0 HKD.out).mono ?_
      rintro e wk ⟨rfl, hbk⟩
      have HBK : Aside0 (Below w0.heap.size w0 wk) := ⟨hbk.below⟩
      clear hbk
      go_wp2
      go_ret2
      exact ⟨_, rfl, Kd.R_of_own (own_lit wk w0.heap.size 5 .u8 [] HBK.out.size (by decide)) (fun _ _ => trivial), below_alloc HBK.out _⟩
    have h3' : a0.size = 16 ∨ a0.size = 32 := by omega
    have HKD := Aside0.mk (key_decW a0 true (decide_eq_true h3').symm)
    by_cases h4 : ¬ a1.size = 16
    · rw [if_neg (fun h => h4 h.2)] at h
      obtain ⟨rfl, rfl⟩ : ([] : List Int) = r1 ∧ (1 : Int) = r2 := by simpa using h
      have d1 : decide (65536 < (a0.size : Int)) = false := decide_eq_false (by omega)
      have d1n : decide (65536 < a0.size) = false := decide_eq_false (by omega)
      have d2 : decide (65536 < (a1.size : Int)) = false := decide_eq_false (by omega)
      have d2n : decide (65536 < a1.size) = false := decide_eq_false (by omega)
      have d3 : decide (65536 < (l2.length : Int)) = false := decide_eq_false (by omega)
      have d3n : decide (65536 < l2.length) = false := decide_eq_false (by omega)
      have d4 : ((a1.size : Int) != 16) = true := by rw [bne_iff_ne]; omega
      have d5 : ¬ (a1.size : Int) = 16 := by omega
      have d6 : (decide ((a1.size : Int) = 16)) = false := decide_eq_false d5
      have d7 : (decide (a1.size = 16)) = false := decide_eq_false h4
      have d8 : ((a1.size : Int) == 16) = false := by rw [beq_eq_false_iff_ne]; exact d5
      clear h hu h0 h1 h2 h3 h3' h4
      go_enter Try.func35, Try.ntmps35
      go_wp2_with fail
      refine (spec_l01Key.calls a0 true w0 HKD.out).mono ?_
      rintro e wk ⟨rfl, hbk⟩
      have HBK : Aside0 (Below w0.heap.size w0 wk) := ⟨hbk.below⟩
      clear hbk
      go_wp2
      go_ret2
      exact ⟨_, rfl, Kd.R_of_own (own_lit wk w0.heap.size 5 .u8 [] HBK.out.size (by decide)) (fun _ _ => trivial), below_alloc HBK.out _⟩
    have h4' : a1.size = 16 := by omega
    rw [if_pos ⟨h3', h4'⟩] at h
    have e4 : ((a1.size : Int) != 16) = false := by rw [h4']; rfl
    have e8 : (a1.size : Int) = 16 := by omega
    by_cases h5 : l2.length = 0
    · rw [if_pos (.inl h5)] at h
      obtain ⟨rfl, rfl⟩ : ([] : List Int) = r1 ∧ (3 : Int) = r2 := by simpa using h
      have d1 : decide (65536 < (a0.size : Int)) = false := decide_eq_false (by omega)
      have d1n : decide (65536 < a0.size) = false := decide_eq_false (by omega)
      have d2 : decide (65536 < (a1.size : Int)) = false := decide_eq_false (by omega)
      have d2n : decide (65536 < a1.size) = false := decide_eq_false (by omega)
      have d3 : decide (65536 < (l2.length : Int)) = false := decide_eq_false (by omega)
      have d3n : decide (65536 < l2.length) = false := decide_eq_false (by omega)
      obtain rfl : l2 = [] := List.eq_nil_of_length_eq_zero h5
      clear h hu h0 h1 h2 h3 h3' h4 h4' h5
      go_enter Try.func35, Try.ntmps35
      go_wp2_with fail
      refine (spec_l01Key.calls a0 true w0 HKD.out).mono ?_
      rintro e wk ⟨rfl, hbk⟩
      have HBK : Aside0 (Below w0.heap.size w0 wk) := ⟨hbk.below⟩
      clear hbk
      go_wp2
      go_ret2
      exact ⟨_, rfl, Kd.R_of_own (own_lit wk w0.heap.size 5 .u8 [] HBK.out.size (by decide)) (fun _ _ => trivial), below_alloc HBK.out _⟩
    by_cases h6 : ¬ l2.length % 16 = 0
    · rw [if_pos (.inr h6)] at h
      obtain ⟨rfl, rfl⟩ : ([] : List Int) = r1 ∧ (3 : Int) = r2 := by simpa using h
      have d1 : decide (65536 < (a0.size : Int)) = false := decide_eq_false (by omega)
      have d1n : decide (65536 < a0.size) = false := decide_eq_false (by omega)
      have d2 : decide (65536 < (a1.size : Int)) = false := decide_eq_false (by omega)
      have d2n : decide (65536 < a1.size) = false := decide_eq_false (by omega)
      have d3 : decide (65536 < (l2.length : Int)) = false := decide_eq_false (by omega)
      have d3n : decide (65536 < l2.length) = false := decide_eq_false (by omega)
      have d5 : ((l2.length : Int) == 0) = false := by rw [beq_eq_false_iff_ne]; omega
      have d9 : ¬ l2 = [] := by intro h; rw [h] at h5; exact h5 rfl
      have d6 : ¬ (l2.length : Int) % 16 = 0 := by omega
      have d7 : Int.tmod (l2.length : Int) 16 = (l2.length : Int) % 16 := Int.tmod_eq_emod_of_nonneg (Int.natCast_nonneg _)
      have d8 : ((l2.length : Int) % 16 != 0) = true := by rw [bne_iff_ne]; exact d6
      have d10 : decide ((l2.length : Int) % 16 = 0) = false := decide_eq_false d6
      have d11 : ((l2.length : Int) % 16 == 0) = false := by rw [beq_eq_false_iff_ne]; exact d6
      clear h hu h0 h1 h2 h3 h3' h4 h4' h5 h6
      go_enter Try.func35, Try.ntmps35
      go_wp2_with fail
      refine (spec_l01Key.calls a0 true w0 HKD.out).mono ?_
      rintro e wk ⟨rfl, hbk⟩
      have HBK : Aside0 (Below w0.heap.size w0 wk) := ⟨hbk.below⟩
      clear hbk
      go_wp2
      go_ret2
      exact ⟨_, rfl, Kd.R_of_own (own_lit wk w0.heap.size 5 .u8 [] HBK.out.size (by decide)) (fun _ _ => trivial), below_alloc HBK.out _⟩
    rw [if_neg (show ¬ (l2.length = 0 ∨ l2.length % 16 ≠ 0) by omega)] at h
    split at h
    · rename_i hd
      obtain ⟨m, hm⟩ : ∃ m, m = l2.length / 16 := ⟨_, rfl⟩
      rw [← hm] at hd
      exact spec_CbcDecrypt_in a0 a1 A2 c2 l2 w0 r1 r2 hr2 hc2 (u8b_ok hu) (by omega) h3' h4' m (by omega) (by omega) hd h
    · cases h
  · rw [if_neg hu] at h
    cases h
def mpart (c f : List Int) (i : Nat) : Nat → Int
  | 0 => 0
  | k + 1 => Go.bits .xor .u8 (mpart c f i k) (tm (c.getD ((i + k) % 4) 0) (f.getD k 0))
def mixedL (c f : List Int) : List Int := [mpart c f 0 4, mpart c f 1 4, mpart c f 2 4, mpart c f 3 4]
def bytesOk (l : List Int) : Prop := ∀ x ∈ l, byteOk x
instance (x : Int) : Decidable (byteOk x) := by unfold byteOk; infer_instance
instance (l : List Int) : Decidable (bytesOk l) := by unfold bytesOk; infer_instance
theorem bytesOk_getD {l : List Int} (h : bytesOk l) (i : Nat) : byteOk (l.getD i 0) := by
  rcases Nat.lt_or_ge i l.length with hi | hi
  · rw [List.getD_eq_getElem?_getD, List.getElem?_eq_getElem hi]
    exact h _ (List.getElem_mem hi)
  · rw [List.getD_eq_getElem?_getD, List.getElem?_eq_none hi]
    exact ⟨by decide, by decide⟩
def mixedTo (c f : List Int) (i k : Nat) : List Int := (List.range 4).map fun j => if j < i then mpart c f j 4 else if j = i then mpart c f i k else 0
theorem mixedTo_length (c f : List Int) (i k : Nat) : (mixedTo c f i k).length = 4 := by simp [mixedTo]
theorem mixedTo_at (c f : List Int) (i k : Nat) (hi : i < 4) (h : i < (mixedTo c f i k).length) : (mixedTo c f i k)[i] = mpart c f i k := by
  simp [mixedTo]
theorem mixedTo_set (c f : List Int) (i k : Nat) (hi : i < 4) : (mixedTo c f i k).set i (mpart c f i (k + 1)) = mixedTo c f i (k + 1) := by
  apply List.ext_getElem
  · simp [mixedTo]
  · intro j h1 h2
    rw [List.getElem_set]
    have h4 : j < 4 := by simpa [mixedTo] using h2
    split
    · subst_vars; simp [mixedTo]
    · simp only [mixedTo, List.getElem_map, List.getElem_range]
      split
      · rfl
      · rw [if_neg (by omega), if_neg (by omega)]
theorem mixedTo_next (c f : List Int) (i : Nat) (hi : i < 4) : mixedTo c f i 4 = mixedTo c f (i + 1) 0 := by
  apply List.ext_getElem
  · simp [mixedTo]
  · intro j h1 h2
    simp only [mixedTo, List.getElem_map, List.getElem_range]
    by_cases e : j < i
    · rw [if_pos e, if_pos (by omega)]
    · by_cases e2 : j = i
      · subst e2; rw [if_neg (by omega), if_pos rfl, if_pos (by omega)]
      · rw [if_neg e, if_neg e2, if_neg (by omega)]
        split
        · subst_vars; rfl
        · rfl
theorem mix_info : (Try.prog.info? 74).map (·.size) = some 4 := by kernel_rfl
set_option maxHeartbeats 4000000 in
theorem impl_mixed_in (c f ml : List Int) (w : World) (hml : mixedL c f = ml) (hc : c.length = 4) (hf : f.length = 4) (oc : bytesOk c) (of : bytesOk f) :
    Calls Try.prog 104 #[arr8 c, arr8 f] w fun e w' => e = .returned (arr8 ml) ∧ Below w.heap.size w w' := by
  have HML := Aside0.mk hml
  have HLm : Aside0 ((nums IntKind.u8 ml).toArray.size = 4) := ⟨by rw [← hml]; rfl⟩
  clear hml
  have HC := Aside0.mk hc
  have HF := Aside0.mk hf
  have OC := Aside0.mk oc
  have OF := Aside0.mk of
  have HLc : Aside0 ((nums IntKind.u8 c).toArray.size = 4) := ⟨by simp [nums, hc]⟩
  have HLf : Aside0 ((nums IntKind.u8 f).toArray.size = 4) := ⟨by simp [nums, hf]⟩
  clear hc hf oc of
  unfold arr8
  go_enter Try.func104, Try.ntmps104
  go_wp2
  go_loopw [9] (fun i wr => ∃ k : Nat, k ≤ 4 ∧ i = .int .i64 k ∧ Aside0 (wr.heap[w.heap.size]? = some (.cells (nums .u8 c).toArray 74 (0, 0))) ∧ Aside0 (wr.heap[w.heap.size + 1]? = some (.cells (nums .u8 f).toArray 74 (0, 0)))
      ∧ Aside0 (wr.heap[w.heap.size + 1 + 1]? = some (.cells (nums .u8 [0, 0, 0, 0]).toArray 74 (0, 0))) ∧ Aside0 (wr.heap[w.heap.size + 1 + 1 + 1]? = some (.cells (nums .u8 (mixedTo c f k 0)).toArray 74 (0, 0))) ∧ Aside0 (Below w.heap.size w wr)) (fun i _ => 4 - (intOf i).toNat)
  case atStart => exact ⟨0, by omega, rfl, ⟨blk_alloc (blk_alloc (blk_alloc (blk_new w _) _) _) _⟩, ⟨blk_alloc (blk_alloc (blk_new2 w _ _) _) _⟩, ⟨blk_alloc (blk_new3 w _ _ _) _⟩, ⟨blk_new4 w _ _ _ _⟩, ⟨below_alloc (below_alloc (below_alloc (below_alloc (Below.refl w.heap.size w) _) _) _) _⟩⟩
  case round =>
    obtain ⟨i, hi, rfl, G1, G2, G3, G4, HB⟩ := hrel
    by_cases hlt : i < 4
    · have i0 : (0 : Int) ≤ (i : Int) := Int.natCast_nonneg i
      have i1 : (i : Int) < 4 := by omega
      have hd : decide ((i : Int) < 4) = true := decide_eq_true i1
      obtain ⟨wo, rfl⟩ : ∃ wo, wo = wr := ⟨_, rfl⟩
      go_wp2_with (refine wpList_load_row (by rfl) 74 (.tmp 3) (by rfl) _ (by rfl) 74 _ (0, 0) _ G2.out Try.underlying74 rfl (by rw [HLf.out]; exact mix_info) ?_)
      go_loopw [13] (fun j wr => ∃ k : Nat, k ≤ 4 ∧ j = .int .i64 k ∧ Aside0 (wr.heap[w.heap.size]? = some (.cells (nums .u8 c).toArray 74 (0, 0))) ∧ Aside0 (wr.heap[w.heap.size + 1]? = some (.cells (nums .u8 f).toArray 74 (0, 0)))
        ∧ Aside0 (wr.heap[w.heap.size + 1 + 1]? = some (.cells (nums .u8 [0, 0, 0, 0]).toArray 74 (0, 0))) ∧ Aside0 (wr.heap[w.heap.size + 1 + 1 + 1]? = some (.cells (nums .u8 (mixedTo c f i k)).toArray 74 (0, 0))) ∧ Aside0 (Below w.heap.size w wr)) (fun j _ => 4 - (intOf j).toNat)
      case atStart => exact ⟨0, by omega, rfl, G1, G2, G3, G4, HB⟩
      case round =>
        clear G1 G2 G3 G4 HB
        obtain ⟨k, hk, rfl, G1, G2, G3, G4, HB⟩ := hrel
        by_cases hlk : k < 4
        · have k0 : (0 : Int) ≤ (k : Int) := Int.natCast_nonneg k
          have k1 : (k : Int) < 4 := by omega
          have hdk : decide ((k : Int) < 4) = true := decide_eq_true k1
          have kx := run_index_agg (P := Try.prog) (xs := f) Try.underlying74 Try.underlying5 (by kernel_rfl) k hlk HF.out
          obtain ⟨m, hm⟩ : ∃ m, (i + k) % 4 = m := ⟨_, rfl⟩
          have hm4 : m < 4 := by omega
          have cO : wr.cell? ⟨w.heap.size + 1 + 1 + 1, i, none⟩ = some (.int .u8 (mpart c f i k)) := by
            rw [blk_cell G4.out i, nums_at (by rw [mixedTo_length]; exact hlt), mixedTo_at c f i k hlt]
          have zO := blk_frozen G4.out i
          have cA : wr.cell? ⟨w.heap.size, m, none⟩ = some (.int .u8 (c.getD m 0)) := by
            rw [blk_cell G1.out m, nums_at (by have := HC.out; omega)]
            simp [List.getD_eq_getElem?_getD, show m < c.length by have := HC.out; omega]
          have hmod : ((i : Int) + (k : Int)) % 4 = (m : Int) := by omega
          have m0 : (0 : Int) ≤ (m : Int) := Int.natCast_nonneg m
          have m1 : (m : Int) < 4 := by omega
          have HM := Aside0.mk hm
          clear hm
          go_wp2
          have htm : ((i : Int) + (k : Int)).tmod 4 = (m : Int) := by rw [Int.tmod_eq_emod_of_nonneg (by omega)]; exact hmod
          have hwm : IntKind.i64.wrap (m : Int) = (m : Int) := IntWalk.i64_in _ (by omega)
          have hws : IntKind.i64.wrap ((i : Int) + (k : Int)) = (i : Int) + (k : Int) := IntWalk.i64_in _ (by omega)
          go_region_with (go_at_call 73; refine (times_calls _ _ _ (bytesOk_getD OC.out m) (bytesOk_getD OF.out k)).mono ?_; rintro e w' ⟨rfl, ⟨⟨n, rfl⟩⟩⟩)
          all_goals
            clear htm hwm hws
            go_wp2
            go_roundw
            case rel =>
              refine ⟨k + 1, by omega, by go_num, ⟨blk_far (blk_drewN G1.out _) (by simp <;> omega) _⟩, ⟨blk_far (blk_drewN G2.out _) (by simp <;> omega) _⟩, ⟨blk_far (blk_drewN G3.out _) (by simp <;> omega) _⟩, ⟨?_⟩, ⟨below_set (pw_below_drewN HB.out _) (by omega)⟩⟩
              rw [← mixedTo_set c f i k hlt, ← nums_set]
              have e1 : mpart c f i (k + 1) = Go.bits .xor .u8 (mpart c f i k) (tm (c[m]?.getD 0) (f[k]?.getD 0)) := by
                simp only [mpart, HM.out, List.getD_eq_getElem?_getD]
              rw [e1]
              exact blk_set (blk_drewN G4.out _) i _
            case measure => simp [intOf]; omega
        · have hdk : decide ((k : Int) < 4) = false := decide_eq_false (by omega)
          have e4 : mixedTo c f i k = mixedTo c f (i + 1) 0 := by
            obtain rfl : k = 4 := by omega
            exact mixedTo_next c f i hlt
          rw [e4] at G4
          clear e4
          go_wp2
          go_roundw
          case rel => exact ⟨i + 1, by omega, by go_num, G1, G2, G3, G4, HB⟩
          case measure => simp [intOf]; omega
    · have hd : decide ((i : Int) < 4) = false := decide_eq_false (by omega)
      have e4 : mixedTo c f i 0 = ml := by
        obtain rfl : i = 4 := by omega
        exact HML.out
      rw [e4] at G4
      clear e4
      have GR := Aside0.mk (setRow_heap wr (w.heap.size + 1 + 1) _ (nums IntKind.u8 (ml)).toArray _ _ G3.out)
      go_wp2_with (first
        | (refine wpList_load_row (by rfl) 74 (.tmp 5) (by rfl) _ (by rfl) 74 _ (0, 0) _ G4.out Try.underlying74 rfl (by rw [HLm.out]; exact mix_info) ?_)
        | (refine wpList_store_row (by rfl) 74 (.tmp 4) (.tmp 32) (by rfl) (w.heap.size + 1 + 1) _ (by rfl) (by rfl) 74 _ G3.out (by rw [HLm.out]; exact mix_info) (by rw [HLm.out]; rfl) (nums_one _ _) ?_))
      refine bodyPost_ret (v := arr8 (ml)) ?_ rfl ?_
      · exact results_cell_row (fn := Try.f104) (p := 4) (ty := 74) Try.results104 _ _ _ 74 _ (0, 0) _ (by rfl) GR.out Try.underlying74 rfl (by rw [HLm.out]; exact mix_info)
      · exact ⟨rfl, below_row HB.out (by omega) _⟩
theorem impl_mixed.calls (c f : List Int) (w : World) (hc : c.length = 4) (hf : f.length = 4) (oc : bytesOk c) (of : bytesOk f) :
    Calls Try.prog 104 #[arr8 c, arr8 f] w fun e w' => e = .returned (arr8 (mixedL c f)) ∧ Below w.heap.size w w' := impl_mixed_in c f _ w rfl hc hf oc of
set_option maxHeartbeats 1000000 in
theorem impl_unmix.calls (c : List Int) (w : World) (hc : c.length = 4) (oc : bytesOk c) :
    Calls Try.prog 85 #[arr8 c] w fun e w' => e = .returned (arr8 (mixedL c [14, 11, 13, 9])) ∧ Below w.heap.size w w' := by
  have HC := Aside0.mk hc
  have HLc : Aside0 ((nums IntKind.u8 c).toArray.size = 4) := ⟨by simp [nums, hc]⟩
  have OC := Aside0.mk oc
  obtain ⟨ml, hml⟩ : ∃ ml, mixedL c [14, 11, 13, 9] = ml := ⟨_, rfl⟩
  have HLm : Aside0 ((nums IntKind.u8 ml).toArray.size = 4) := ⟨by rw [← hml]; rfl⟩
  rw [hml]
  have HML := Aside0.mk hml
  clear hc oc hml
  unfold arr8
  have G1 := Aside0.mk (blk_alloc (blk_new w (Obj.cells (nums .u8 c).toArray 74)) (Obj.cells (nums .u8 [0, 0, 0, 0]).toArray 74))
  have G2 := Aside0.mk (blk_new2 w (Obj.cells (nums .u8 c).toArray 74) (Obj.cells (nums .u8 [0, 0, 0, 0]).toArray 74))
  have HB0 := Aside0.mk (below_alloc (below_alloc (Below.refl w.heap.size w) (Obj.cells (nums .u8 c).toArray 74)) (Obj.cells (nums .u8 [0, 0, 0, 0]).toArray 74))
  have HZ : Aside0 (((w.alloc (Obj.cells (nums .u8 c).toArray 74)).alloc (Obj.cells (nums .u8 [0, 0, 0, 0]).toArray 74)).heap.size = w.heap.size + 2) := ⟨by simp⟩
  go_enter Try.func85, Try.ntmps85
  go_wp2_with (refine wpList_load_row (by rfl) 74 (.tmp 1) (by rfl) _ (by rfl) 74 _ (0, 0) _ G1.out Try.underlying74 rfl (by rw [HLc.out]; exact mix_info) ?_)
  refine (impl_mixed.calls c [14, 11, 13, 9] _ HC.out rfl OC.out (by decide)).mono ?_
  rw [HML.out]
  rintro e w' ⟨rfl, hb⟩
  unfold arr8
  have G3 := Aside0.mk (blk_below G2.out hb)
  have HB1 := Aside0.mk (below_then HB0.out HB0.out.size hb)
  have GR := Aside0.mk (setRow_heap w' (w.heap.size + 1) _ (nums IntKind.u8 ml).toArray _ _ G3.out)
  clear hb
  go_wp2_with (refine wpList_store_row (by rfl) 74 (.tmp 2) (.tmp 5) (by rfl) (w.heap.size + 1) _ (by rfl) (by rfl) 74 _ G3.out (by rw [HLm.out]; exact mix_info) (by rw [HLm.out]; rfl) (nums_one _ _) ?_)
  refine bodyPost_ret (v := arr8 ml) ?_ rfl ?_
  · exact results_cell_row (fn := Try.f85) (p := 2) (ty := 74) Try.results85 _ _ _ 74 _ (0, 0) _ (by rfl) GR.out Try.underlying74 rfl (by rw [HLm.out]; exact mix_info)
  · exact ⟨rfl, below_row HB1.out (by omega) _⟩
end Go.Proofs.Ytfbggdlidelliaa.P

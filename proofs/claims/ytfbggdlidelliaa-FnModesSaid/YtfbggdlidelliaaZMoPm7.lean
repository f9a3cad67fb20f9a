/- Laid by a program of this session: of Pm7 what this law uses. -/
import Derived.Test.YtfbggdlidelliaaZMoM11
import Derived.Test.YtfbggdlidelliaaZMoPm2
import Derived.Test.YtfbggdlidelliaaZMoPm3
import Derived.Test.YtfbggdlidelliaaZMoPm6
namespace Go.Proofs.Ytfbggdlidelliaa.P
open Go.RowKit Go.Proofs.YtfbggdlidelliaaW.PrintWords Go.Proofs.YtfbggdlidelliaaW.PrintLast Go.Proofs.YtfbggdlidelliaaW.PrintMore
attribute [local go_sem] min2_int min_two
set_option linter.unusedVariables false
set_option linter.unusedSimpArgs false
def spec_l02CbcEncrypt.f (a0 a1 : ByteArray) (l2 : List Int) : Option (List Int) := if u8b l2 = true ∧ (a0.size = 16 ∨ a0.size = 32) ∧ a1.size = 16 ∧ l2.length ≤ 65536 then some (Md.cbcL (Aes.keysL (bytesL a0)) (bytesL a1) (padL l2)) else none
set_option maxHeartbeats 8000000 in
set_option maxRecDepth 100000 in
theorem spec_l02CbcEncrypt_in (a0 a1 : ByteArray) (A2 : Option Addr) (c2 : Nat) (l2 : List Int) (w0 : World) (hr2 : Kd.C (Kd.int .u8) w0 A2 l2.length l2) (hc2 : l2.length ≤ c2) (hu2 : u8ok l2) (hl2 : l2.length ≤ 65536) (hk : a0.size = 16 ∨ a0.size = 32) (hn : a1.size = 16) :
    Calls Try.prog 59 #[.string a0, .string a1, .slice A2 l2.length c2] w0 fun e w' => ∃ v0_ : Value, e = .returned (v0_) ∧ Kd.R (Kd.int .u8) 5 w' w0.heap.size (fun _ => True) v0_ (Md.cbcL (Aes.keysL (bytesL a0)) (bytesL a1) (padL l2)) ∧ Below w0.heap.size w0 w' := by
  obtain ⟨keys, hkeys⟩ : ∃ K, K = Aes.keysL (bytesL a0) := ⟨_, rfl⟩
  obtain ⟨KS, hKS⟩ : ∃ K, K = keys.map strOfNums := ⟨_, rfl⟩
  obtain ⟨p, hp⟩ : ∃ p, p = padL l2 := ⟨_, rfl⟩
  obtain ⟨f, hf⟩ : ∃ f, f = bytesL a1 := ⟨_, rfl⟩
  have HKEQ : Aside0 (spec_l01Keys.f a0 Aes.subs = some KS) := ⟨by unfold spec_l01Keys.f; rw [if_pos ⟨rfl, hk⟩, hKS, hkeys]⟩
  have HENC : Aside0 (∀ s : List Int, s.length = 16 → Aes.ok s → spec_l01Encrypt.f 1200 KS Aes.subs (strOfNums s) = some (strOfNums (Aes.encL keys s))) := ⟨fun s h1 h2 => by
    have e := enc_in0 1200 (Nat.le_refl _) a0 (strOfNums s) hk (by rw [str_size]; exact h1)
    rw [bytesL_str s h2, ← hkeys, ← hKS] at e
    exact e⟩
  have HKO : Aside0 (Aes.keysOk keys) := ⟨by rw [hkeys]; exact keysL_good a0⟩
  have HR2 := Aside0.mk hr2
  have HC2 := Aside0.mk hc2
  have HL2 := Aside0.mk hl2
  have HBO : Aside0 (∀ s t : List Int, s.length = 16 → Aes.ok s → t.length = 16 → Aes.ok t → spec_l02Both.f (strOfNums s) t = some (strOfNums (Aes.xorS s t))) := ⟨fun s t h1 h2 h3 h4 => by unfold spec_l02Both.f; rw [if_pos ⟨u8b_of h4, by rw [str_size]; exact h1, h3⟩, bytesL_str s h2]⟩
  have HPAD : Aside0 (spec_l02Pad.f 30 l2 = some p) := ⟨by rw [hp]; exact spec_pad 30 l2 (by omega) (by decide)⟩
  have HPL : Aside0 (p.length = 16 * (l2.length / 16 + 1)) := ⟨by rw [hp]; exact padL_size l2⟩
  have HPO : Aside0 (Aes.ok p) := ⟨by rw [hp]; exact padL_ok hu2⟩
  have HFL : Aside0 (f.length = 16 ∧ Aes.ok f) := ⟨by rw [hf]; exact ⟨by rw [bytesL_length, hn], u8ok_bytesL a1⟩⟩
  have HFS : Aside0 (strOfNums f = a1) := ⟨by rw [hf]; exact str_bytesL a1⟩
  rw [← hkeys, ← hp, ← hf]
  clear hkeys hk hr2 hc2 hu2 hl2 hKS hp hf hn
  go_enter Try.func59, Try.ntmps59
  go_wp2_with fail
  refine (spec_l01Table.calls 600 _ w0 table_600).mono ?_
  rintro e w1 ⟨vt, rfl, ht, hb1⟩
  obtain ⟨At, ct, hvt, hct, hCt⟩ := Kd.R_reads ht
  subst hvt
  have HT := Aside0.mk hCt
  have HCT := Aside0.mk hct
  have HB1 := Aside0.mk hb1
  clear ht hct hCt hb1
  go_wp2_with fail
  refine (spec_l01Keys.calls a0 At ct Aes.subs _ w1 HT.out HCT.out HKEQ.out).mono ?_
  rintro e w2 ⟨vk, rfl, hk, hb2⟩
  obtain ⟨Ak, ck, hvk, hck, hCk⟩ := Kd.R_reads hk
  subst hvk
  have HKK := Aside0.mk hCk
  have HCK := Aside0.mk hck
  have HT2 := Aside0.mk (Kd.C_below HT.out hb2)
  have HB2 := Aside0.mk (HB1.out.trans (hb2.mono HB1.out.size))
  clear hk hck hCk hb2 HT HB1
  go_wp2_with fail
  refine (spec_l02Pad.calls 30 A2 c2 l2 _ w2 (Kd.C_below HR2.out HB2.out) HC2.out HPAD.out).mono ?_
  rintro e w3 ⟨vp, rfl, hp, hb3⟩
  obtain ⟨Ap, cp, hvp, hcp, hCp⟩ := Kd.R_reads hp
  subst hvp
  have HB3 := Aside0.mk (HB2.out.trans (hb3.mono HB2.out.size))
  have HP3 := Aside0.mk hCp
  have HCP := Aside0.mk hcp
  have HKF : Aside0 (∀ V, Below w3.heap.size w3 V → Kd.C Kd.string V Ak KS.length KS ∧ Kd.C (Kd.int .i64) V At Aes.subs.length Aes.subs ∧ Kd.C (Kd.int .u8) V Ap p.length p) := ⟨fun V h => ⟨Kd.C_below (Kd.C_below HKK.out hb3) h, Kd.C_below (Kd.C_below HT2.out hb3) h, Kd.C_below hCp h⟩⟩
  clear hp hcp hCp hb3 HKK HT2 HB2 HP3
  go_wp2_with fail
  have hba := below_alloc (Below.refl w3.heap.size w3) (.cells (nums .u8 []).toArray 5)
  have HR0 : Aside0 (Kd.R (Kd.int .u8) 5 (w3.alloc (.cells (nums .u8 []).toArray 5)) w3.heap.size (fun _ => True) (.slice (some ⟨w3.heap.size, 0, none⟩) 0 0) ([] : List Int)) := ⟨Kd.R_of_own (own_lit w3 w3.heap.size 5 .u8 [] (Nat.le_refl _) (by decide)) (fun _ _ => trivial)⟩
  have HB4 := Aside0.mk hba
  go_loopw [10, 11, 12] (fun vo vl vi wr => ∃ q i : Nat, vi = .int .i64 (q : Int) ∧ q = 16 * i ∧ q ≤ p.length ∧ vl = .string (strOfNums (Md.cbcTo keys f p i).2) ∧ Aside0 (Kd.R (Kd.int .u8) 5 wr w3.heap.size (fun _ => True) vo (Md.cbcTo keys f p i).1) ∧ Aside0 (Below w3.heap.size w3 wr)) (fun _ _ vi _ => p.length - (intOf vi).toNat)
  case atStart => exact ⟨0, 0, rfl, rfl, Nat.zero_le _, by rw [← HFS.out]; rfl, HR0, HB4⟩
  case round =>
    obtain ⟨q, i, rfl, hq, hqp, rfl, HR, HB⟩ := hrel
    by_cases hlt : q < p.length
    · have hd : decide (q < p.length) = true := decide_eq_true hlt
      have hd2 : decide ((q : Int) < (p.length : Int)) = true := decide_eq_true (by omega)
      have HLT := Aside0.mk hlt
      have HQ := Aside0.mk hq
      obtain ⟨p2, hp2⟩ : ∃ x, x = q + 16 := ⟨_, rfl⟩
      have hpl : p2 ≤ p.length := by have := HPL.out; omega
      have HPB : Aside0 (p.length ≤ 70000) := ⟨by have := HPL.out; have := HL2.out; omega⟩
      have hpc : p2 ≤ cp := Nat.le_trans hpl HCP.out
      obtain ⟨ad, had, _⟩ := (HKF.out w3 (Below.refl _ _)).2.2.2.2 (by omega)
      subst had
      have q2 : (q : Int) + 16 = (p2 : Int) := by omega
      have b0 : (0 : Int) ≤ (q : Int) := Int.natCast_nonneg q
      have b1 : (q : Int) ≤ (p2 : Int) := by omega
      have b2 : (p2 : Int) ≤ (cp : Int) := by omega
      have b3 : q ≤ p2 := by omega
      have b4 : p2 - q = 16 := by omega
      have b5 : ¬ cp = q := by omega
      have q5 : -1000000 ≤ (p2 : Int) ∧ (p2 : Int) ≤ 1000000000 := by have := HPB.out; omega
      have HP2 := Aside0.mk hp2
      have HP2L := Aside0.mk hpl
      have HPLI : Aside0 (16 * i + 16 ≤ p.length) := ⟨by omega⟩
      have HPC := Aside0.mk hpc
      have e2 : wrap64 ((q : Int) + 16) = (p2 : Int) := by rw [q2]; exact w64s _ q5.1 q5.2
      have HE2 := Aside0.mk e2
      clear hp2 hpl q2 q5 hlt hq hqp hpc
      go_wp2_with fail
      clear e2
      obtain ⟨S, hS⟩ : ∃ S, S = Md.cbcTo keys f p i := ⟨_, rfl⟩
      have HS := Aside0.mk hS
      rw [← hS] at HR ⊢
      have HSO : Aside0 (S.2.length = 16 ∧ Aes.ok S.2) := ⟨by rw [hS]; exact ⟨Md.cbcTo_last keys HFL.out.1 i, (Md.cbcTo_ok HKO.out HFL.out.2 HPO.out i).2⟩⟩
      have HSL : Aside0 (S.1.length = 16 * i) := ⟨by rw [hS]; exact Md.cbcTo_length _ _ _ _⟩
      have hbk := Md.blk_length p i HPLI.out
      have hC : Kd.C (Kd.int .u8) wr (some (ad.add q)) (Md.blk p i).length (Md.blk p i) := by
        rw [HQ.out]
        exact C_cut (HKF.out wr HB.out).2.2 rfl (by rw [hbk]; decide) (16 * i) (by rw [hbk]; exact HPLI.out) (fun j hj => Md.blk_at p i j (by rw [hbk] at hj; exact hj))
      have hcall := spec_l02Both.calls (strOfNums S.2) (some (ad.add q)) (cp - q) (Md.blk p i) _ wr hC (by rw [hbk]; have := HPC.out; have := HP2.out; omega) (HBO.out _ _ HSO.out.1 HSO.out.2 hbk (Md.blk_ok HPO.out i))
      rw [hbk] at hcall
      refine hcall.mono ?_
      rintro e w7 ⟨rfl, hb7⟩
      have HB7 := Aside0.mk (HB.out.trans (hb7.mono HB.out.size))
      have HR7 := Aside0.mk (Kd.R_below HR.out hb7)
      clear hcall hC hb7 hS
      go_wp2_with fail
      refine (spec_l01Encrypt.calls 1200 Ak ck _ At ct Aes.subs _ _ w7 (HKF.out w7 HB7.out).1 HCK.out (HKF.out w7 HB7.out).2.1 HCT.out (HENC.out _ (Aes.xorS_length _ _) (Aes.xorS_ok HSO.out.2 (Md.blk_ok HPO.out i)))).mono ?_
      rintro e w8 ⟨rfl, hb8⟩
      have HB8 := Aside0.mk (HB7.out.trans (hb8.mono HB7.out.size))
      have HR8 := Aside0.mk (Kd.R_below HR7.out hb8)
      obtain ⟨NX, hNX⟩ : ∃ N, N = Aes.encL keys (Aes.xorS S.2 (Md.blk p i)) := ⟨_, rfl⟩
      have HNO : Aside0 (NX.length = 16 ∧ Aes.ok NX) := ⟨by rw [hNX]; exact ⟨Aes.encL_length _ _, Aes.encL_ok HKO.out (Aes.xorS_ok HSO.out.2 (Md.blk_ok HPO.out i))⟩⟩
      have HTO : Aside0 ((Md.cbcTo keys f p (i + 1)) = (S.1 ++ NX, NX)) := ⟨by rw [hNX, HS.out]; rfl⟩
      rw [← hNX]
      have HFIT : Aside0 (S.1.length + (strOfNums NX).size ≤ 140737488355328) := ⟨by rw [str_size, HNO.out.1, HSL.out]; have := HPLI.out; have := HPB.out; omega⟩
      have HZ8 : Aside0 (w3.heap.size ≤ w8.heap.size) := ⟨HB8.out.size⟩
      have HLR : Aside0 (S.1 ++ NX = S.1 ++ bytesL (strOfNums NX)) := ⟨by rw [bytesL_str NX HNO.out.2]⟩
      clear hb8 hNX
      go_wp2_with ((with_reducible refine gate_dst (N := 39) rfl ?_); refine wpList_append_R_string (by rfl) (.tmp 37) (.tmp 38) 28 9 5 (by rfl) Try.underlying28 Try.underlying9 info5 (strOfNums NX) (by rfl) HR8.out HB8.out HZ8.out (by rfl) HFIT.out (S.1 ++ NX) HLR.out ?_; intro v9 w9 H1 H2 H3)
      try rw [HE2.out]
      go_roundw
      case rel => exact ⟨p2, i + 1, rfl, by rw [HP2.out, HQ.out]; omega, HP2L.out, by rw [HTO.out], ⟨by rw [HTO.out]; exact H1.out⟩, H2⟩
      case measure => simp [intOf]; have := HLT.out; have := HP2.out; have := HP2L.out; omega
    · have hd : decide (q < p.length) = false := decide_eq_false hlt
      have hd2 : decide ((q : Int) < (p.length : Int)) = false := decide_eq_false (by omega)
      have HFIN : Aside0 ((Md.cbcTo keys f p i).1 = Md.cbcL keys f p) := ⟨by unfold Md.cbcL; congr 2; have := HPL.out; omega⟩
      clear hlt hq hqp
      go_wp2
      go_ret
      exact ⟨_, rfl, by rw [← HFIN.out]; exact Kd.R_lower HR.out HB3.out.size, HB3.out.trans (HB.out.mono HB3.out.size)⟩
theorem spec_l02CbcEncrypt.calls (a0 a1 : ByteArray) (A2 : Option Addr) (c2 : Nat) (l2 : List Int) (r : List Int) (w : World) (hr2 : Kd.C (Kd.int .u8) w A2 l2.length l2) (hc2 : l2.length ≤ c2) (h : spec_l02CbcEncrypt.f a0 a1 l2 = some r) :
    Calls Try.prog 59 #[.string a0, .string a1, .slice A2 l2.length c2] w fun e w' => ∃ v0_ : Value, e = .returned (v0_) ∧ Kd.R (Kd.int .u8) 5 w' w.heap.size (fun _ => True) v0_ r ∧ Below w.heap.size w w' := by
  unfold spec_l02CbcEncrypt.f at h
  split at h
  · rename_i h1
    obtain ⟨hu, hk, hn, hl⟩ := h1
    injection h with h
    subst h
    exact spec_l02CbcEncrypt_in a0 a1 A2 c2 l2 w hr2 hc2 (u8b_ok hu) hl hk hn
  · cases h
def spec_CbcEncrypt.j0 : Nat → ByteArray → ByteArray → List Int → Bool → Option (List Int × Int)
  | 0, _, _, _, _ => none
  | k + 1, x0, x1, x2, x15 => if x15 = true then (some ((([] : List Int)), 2)) else (if (x2.length : Int) > 65520 then (some ((([] : List Int)), 2)) else ((spec_l01Key.f x0).bind fun t188 => (if t188 = true then (if (x1.size : Int) = 16 then ((spec_l02CbcEncrypt.f x0 x1 x2).bind fun t189 => (some (t189, 0))) else (some ((([] : List Int)), 1))) else (some ((([] : List Int)), 1)))))
def spec_CbcEncrypt.f (k : Nat) (a0 : ByteArray) (a1 : ByteArray) (l2 : List Int) : Option (List Int × Int) := if (a0.size : Int) > 65536 then (spec_CbcEncrypt.j0 k a0 a1 l2 true) else (spec_CbcEncrypt.j0 k a0 a1 l2 (decide ((a1.size : Int) > 65536)))
set_option maxHeartbeats 8000000 in
set_option maxRecDepth 100000 in
theorem spec_CbcEncrypt.calls (k : Nat) (a0 : ByteArray) (a1 : ByteArray) (A2 : Option Addr) (c2 : Nat) (l2 : List Int) (r1 : List Int) (r2 : Int) (w : World) (hr2 : Kd.C (Kd.int .u8) w A2 l2.length l2) (hc2 : l2.length ≤ c2) (h : spec_CbcEncrypt.f k a0 a1 l2 = some (r1, r2)) :
    Calls Try.prog 31 #[.string a0, .string a1, .slice A2 l2.length c2] w fun e w' => ∃ v0_ : Value, e = .returned (.tuple #[v0_, .int .i64 r2]) ∧ Kd.R (Kd.int .u8) 5 w' w.heap.size (fun _ => True) v0_ r1 ∧ Below w.heap.size w w' := by
  have HR2 := Aside0.mk hr2
  have HC2 := Aside0.mk hc2
  clear hr2 hc2
  have HB := Aside0.mk (Below.refl w.heap.size w)
  have H : (if (a0.size : Int) > 65536 then (spec_CbcEncrypt.j0 k a0 a1 l2 true) else (spec_CbcEncrypt.j0 k a0 a1 l2 (decide ((a1.size : Int) > 65536)))) = some (r1, r2) := h
  clear h
  have HC4 := Aside0.mk H
  clear H
  go_enter Try.func31, Try.ntmps31
  go_upto_region 1 with (fail)
  go_cut [15] (fun v15 wc => ∃ (kq : Nat) (x15_3 : Bool), v15 = .bool x15_3 ∧ Aside0 (spec_CbcEncrypt.j0 kq a0 a1 l2 x15_3 = some (r1, r2)) ∧ Aside0 (kq ≤ k) ∧ Aside0 (Below w.heap.size w wc))
  case first =>
    have H := HC4.out
    clear HC4
    by_cases c5 : (a0.size : Int) > 65536
    · rw [if_pos c5] at H
      have c5b0 : decide (65536 < (a0.size : Int)) = true := decide_eq_true c5
      have c5b1 : decide (65536 < a0.size) = true := decide_eq_true (by omega)
      clear c5
      (first | rw [c5b0] | (simp only [i64_w, i32_w]; rw [c5b0]) | skip)
      have H' := Aside0.mk H
      clear H
      go_wp2
      go_meet
      case rel => exact ⟨_, (true), (by first | rfl | (simp; done) | (simp [*]; done)), H', ⟨by first | omega | exact Nat.le_refl _⟩, ⟨by repeat (first | (with_reducible first | exact HB.out | apply below_alloc | apply pw_below_drewN | apply below_drew1) | exact HB.out)⟩⟩
    · rw [if_neg c5] at H
      have c5b0 : decide (65536 < (a0.size : Int)) = false := decide_eq_false c5
      have c5b1 : decide (65536 < a0.size) = false := decide_eq_false (by omega)
      clear c5
      (first | rw [c5b0] | (simp only [i64_w, i32_w]; rw [c5b0]) | skip)
      have H' := Aside0.mk H
      clear H
      go_wp2
      go_meet
      case rel => exact ⟨_, (decide ((a1.size : Int) > 65536)), (by first | rfl | (simp; done) | (simp [*]; done)), H', ⟨by first | omega | exact Nat.le_refl _⟩, ⟨by repeat (first | (with_reducible first | exact HB.out | apply below_alloc | apply pw_below_drewN | apply below_drew1) | exact HB.out)⟩⟩
  case rest =>
    clear HC4
    try clear c2
    try clear p2
    try clear c3
    try clear c5
    try clear c5b0
    try clear c5b1
    obtain ⟨kq, x15_3, rfl, HA, HJ3, HB⟩ := hcut
    cases kq with
    | zero => exact absurd HA.out (by simp [spec_CbcEncrypt.j0])
    | succ kj3 =>
      have H := HA.out
      clear HA
      simp only [spec_CbcEncrypt.j0] at H
      by_cases c6 : x15_3 = true
      · subst c6
        have H1 : (some ((([] : List Int)), 2)) = some (r1, r2) := by rw [if_pos rfl] at H; exact H
        clear H
        have H := H1
        clear H1
        obtain ⟨y182, hy182⟩ : ∃ y_ : List Int, y_ = (([] : List Int)) := ⟨_, rfl⟩
        replace H : (some (y182, 2)) = some (r1, r2) := by first | (rw [hy182]; with_reducible exact H) | (have H2_ := (Option.bind_some _ _).symm.trans H; rw [hy182]; with_reducible exact H2_) | (have H2_ := (Option.bind_some _ _).symm.trans H; with_reducible exact H2_) | with_reducible exact H | (rw [hy182]; exact H) | exact H
        have Ny182 := Aside0.mk hy182
        clear hy182
        simp only [Option.some.injEq, Prod.mk.injEq] at H
        obtain ⟨rfl, rfl⟩ := H
        go_wp2_with (first | ((with_reducible refine gate_dst (N := 16) rfl ?_); (try (refine gate_guard (by rfl) ?_; dsimp only)); refine Kd.R_lit (Kd.int .u8) _ 5 ?hg (N := 16) ?hd (xs := ([] : List Int)) (inner := []) (ok := fun _ => True) (okp := fun _ => True) ?hr ?hp (fun _ hk => hk) trivial (Below.refl _ _) (Nat.le_refl _) (by simp) ?_; (case hd => rfl); (case hg => rfl); (case hr => first | (go_simp; done) | (go_simp; rfl)); (case hp => exact (Reps.none _ _)); intro v183 w7 ho8 hb hg_ hnew_; clear hg_ hnew_; (first | rw [← Ny182.out] at ho8 | (simp only [Int.reduceToNat] at ho8; rw [← Ny182.out] at ho8)); have n0_ := Aside0.mk (Kd.R_lower ho8 (below_size (by repeat (first | (with_reducible first | exact HB.out | apply below_alloc | apply pw_below_drewN | apply below_drew1) | exact HB.out)))); have n1_ := Aside0.mk (below_step (by repeat (first | (with_reducible first | exact HB.out | apply below_alloc | apply pw_below_drewN | apply below_drew1) | exact HB.out)) hb); clear HB; have HO184 := n0_; have HB := n1_; clear n0_ n1_; clear hb ho8))
        go_ret2
        exact ⟨_, by first | rfl | (simp [errW_none, errW_some] <;> rfl) | (simp [*, errW_none, errW_some] <;> rfl), by (with_reducible repeat (first | apply Kd.R_alloc | apply Kd.R_drewN | apply Kd.R_drew)); exact HO184.out, by repeat (first | (with_reducible first | exact HB.out | apply below_alloc | apply pw_below_drewN | apply below_drew1) | exact HB.out)⟩
      · replace c6 := Bool.eq_false_iff.mpr c6
        subst c6
        have H1 : (if (l2.length : Int) > 65520 then (some ((([] : List Int)), 2)) else ((spec_l01Key.f a0).bind fun t188 => (if t188 = true then (if (a1.size : Int) = 16 then ((spec_l02CbcEncrypt.f a0 a1 l2).bind fun t189 => (some (t189, 0))) else (some ((([] : List Int)), 1))) else (some ((([] : List Int)), 1))))) = some (r1, r2) := by rw [if_neg (show ¬ (false = true) by decide)] at H; exact H
        clear H
        have H := H1
        clear H1
        by_cases c9 : (l2.length : Int) > 65520
        · rw [if_pos c9] at H
          have c9b0 : decide (65520 < (l2.length : Int)) = true := decide_eq_true c9
          have c9b1 : decide (65520 < l2.length) = true := decide_eq_true (by omega)
          clear c9
          obtain ⟨y185, hy185⟩ : ∃ y_ : List Int, y_ = (([] : List Int)) := ⟨_, rfl⟩
          replace H : (some (y185, 2)) = some (r1, r2) := by first | (rw [hy185]; with_reducible exact H) | (have H2_ := (Option.bind_some _ _).symm.trans H; rw [hy185]; with_reducible exact H2_) | (have H2_ := (Option.bind_some _ _).symm.trans H; with_reducible exact H2_) | with_reducible exact H | (rw [hy185]; exact H) | exact H
          have Ny185 := Aside0.mk hy185
          clear hy185
          simp only [Option.some.injEq, Prod.mk.injEq] at H
          obtain ⟨rfl, rfl⟩ := H
          go_wp2_with (first | ((with_reducible refine gate_dst (N := 20) rfl ?_); (try (refine gate_guard (by rfl) ?_; dsimp only)); refine Kd.R_lit (Kd.int .u8) _ 5 ?hg (N := 20) ?hd (xs := ([] : List Int)) (inner := []) (ok := fun _ => True) (okp := fun _ => True) ?hr ?hp (fun _ hk => hk) trivial (Below.refl _ _) (Nat.le_refl _) (by simp) ?_; (case hd => rfl); (case hg => rfl); (case hr => first | (go_simp; done) | (go_simp; rfl)); (case hp => exact (Reps.none _ _)); intro v186 w10 ho11 hb hg_ hnew_; clear hg_ hnew_; (first | rw [← Ny185.out] at ho11 | (simp only [Int.reduceToNat] at ho11; rw [← Ny185.out] at ho11)); have n0_ := Aside0.mk (Kd.R_lower ho11 (below_size (by repeat (first | (with_reducible first | exact HB.out | apply below_alloc | apply pw_below_drewN | apply below_drew1) | exact HB.out)))); have n1_ := Aside0.mk (below_step (by repeat (first | (with_reducible first | exact HB.out | apply below_alloc | apply pw_below_drewN | apply below_drew1) | exact HB.out)) hb); clear HB; have HO187 := n0_; have HB := n1_; clear n0_ n1_; clear hb ho11))
          go_ret2
          exact ⟨_, by first | rfl | (simp [errW_none, errW_some] <;> rfl) | (simp [*, errW_none, errW_some] <;> rfl), by (with_reducible repeat (first | apply Kd.R_alloc | apply Kd.R_drewN | apply Kd.R_drew)); exact HO187.out, by repeat (first | (with_reducible first | exact HB.out | apply below_alloc | apply pw_below_drewN | apply below_drew1) | exact HB.out)⟩
        · rw [if_neg c9] at H
          have c9b0 : decide (65520 < (l2.length : Int)) = false := decide_eq_false c9
          have c9b1 : decide (65520 < l2.length) = false := decide_eq_false (by omega)
          clear c9
          replace H := Option.bind_eq_some_iff.mp H
          obtain ⟨t188, A120, H⟩ := H
          replace H : (if t188 = true then (if (a1.size : Int) = 16 then ((spec_l02CbcEncrypt.f a0 a1 l2).bind fun t189 => (some (t189, 0))) else (some ((([] : List Int)), 1))) else (some ((([] : List Int)), 1))) = some (r1, r2) := H
          have A12 := Aside0.mk A120
          clear A120
          by_cases c13 : t188 = true
          · subst c13
            have H1 : (if (a1.size : Int) = 16 then ((spec_l02CbcEncrypt.f a0 a1 l2).bind fun t189 => (some (t189, 0))) else (some ((([] : List Int)), 1))) = some (r1, r2) := by rw [if_pos rfl] at H; exact H
            clear H
            have H := H1
            clear H1
            by_cases c14 : (a1.size : Int) = 16
            · rw [if_pos c14] at H
              have c14b0 : ((a1.size : Int) == 16) = true := beq_iff_eq.mpr c14
              have c14b1 : ((a1.size : Int) != 16) = false := bne_eq_false_iff_eq.mpr c14
              clear c14
              replace H := Option.bind_eq_some_iff.mp H
              obtain ⟨t189, A150, H⟩ := H
              replace H : (some (t189, 0)) = some (r1, r2) := H
              have A15 := Aside0.mk A150
              clear A150
              simp only [Option.some.injEq, Prod.mk.injEq] at H
              obtain ⟨rfl, rfl⟩ := H
              go_wp2_with (first | ((with_reducible refine gate_callee (f := 39) rfl ?_); refine goesL_ (some 22) rfl rfl Try.func39 (by kernel_rfl) rfl #[.string a0] rfl (by (try simp only [List.map_toArray, List.map_cons, List.map_nil]); first | done | rfl | (simp only [List.length_drop, List.length_take]; rfl)) ?_; (with_reducible refine (spec_l01Key.calls a0 true _ A12.out).mono ?_); rintro e w' ⟨rfl, ⟨nd, rfl⟩⟩; refine ⟨_, rfl, ?_⟩) | ((with_reducible refine gate_callee (f := 59) rfl ?_); refine goesL_ (some 33) rfl rfl Try.func59 (by kernel_rfl) rfl #[.string a0, .string a1, .slice A2 l2.length c2] rfl (by (try simp only [List.map_toArray, List.map_cons, List.map_nil]); first | done | rfl | (simp only [List.length_drop, List.length_take]; rfl)) ?_; (with_reducible refine (spec_l02CbcEncrypt.calls a0 a1 _ _ l2 t189 _ ?side1 ?side2 A15.out).mono ?_); (case side1 => repeat (first | exact (Kd.C_below HR2.out (by repeat (first | (with_reducible first | exact HB.out | apply below_alloc | apply pw_below_drewN | apply below_drew1) | exact HB.out))) | (with_reducible refine Kd.C_alloc ?_ _) | (with_reducible refine Kd.C_drewN ?_ _) | (with_reducible refine Kd.C_drew ?_))); (case side2 => exact HC2.out); rintro e w16 ⟨v190, rfl, ho0, hb⟩; refine ⟨_, rfl, ?_⟩; have n0_ := Aside0.mk (Kd.R_lower ho0 (below_size (by repeat (first | (with_reducible first | exact HB.out | apply below_alloc | apply pw_below_drewN | apply below_drew1) | exact HB.out)))); have n1_ := Aside0.mk (below_step (by repeat (first | (with_reducible first | exact HB.out | apply below_alloc | apply pw_below_drewN | apply below_drew1) | exact HB.out)) hb); clear HB; have HO191 := n0_; have HB := n1_; clear n0_ n1_; (try clear hb); (try clear hb2); (try clear hk); (try clear hi); (try clear ho0)))
              go_ret2
              exact ⟨_, by first | rfl | (simp [errW_none, errW_some] <;> rfl) | (simp [*, errW_none, errW_some] <;> rfl), by (with_reducible repeat (first | apply Kd.R_alloc | apply Kd.R_drewN | apply Kd.R_drew)); exact HO191.out, by repeat (first | (with_reducible first | exact HB.out | apply below_alloc | apply pw_below_drewN | apply below_drew1) | exact HB.out)⟩
            · rw [if_neg c14] at H
              have c14b0 : ((a1.size : Int) == 16) = false := beq_eq_false_iff_ne.mpr c14
              have c14b1 : ((a1.size : Int) != 16) = true := bne_iff_ne.mpr c14
              obtain ⟨y192, hy192⟩ : ∃ y_ : List Int, y_ = (([] : List Int)) := ⟨_, rfl⟩
              replace H : (some (y192, 1)) = some (r1, r2) := by first | (rw [hy192]; with_reducible exact H) | (have H2_ := (Option.bind_some _ _).symm.trans H; rw [hy192]; with_reducible exact H2_) | (have H2_ := (Option.bind_some _ _).symm.trans H; with_reducible exact H2_) | with_reducible exact H | (rw [hy192]; exact H) | exact H
              have Ny192 := Aside0.mk hy192
              clear hy192
              simp only [Option.some.injEq, Prod.mk.injEq] at H
              obtain ⟨rfl, rfl⟩ := H
              go_wp2_with (first | ((with_reducible refine gate_callee (f := 39) rfl ?_); refine goesL_ (some 22) rfl rfl Try.func39 (by kernel_rfl) rfl #[.string a0] rfl (by (try simp only [List.map_toArray, List.map_cons, List.map_nil]); first | done | rfl | (simp only [List.length_drop, List.length_take]; rfl)) ?_; (with_reducible refine (spec_l01Key.calls a0 true _ A12.out).mono ?_); rintro e w' ⟨rfl, ⟨nd, rfl⟩⟩; refine ⟨_, rfl, ?_⟩) | ((with_reducible refine gate_dst (N := 29) rfl ?_); (try (refine gate_guard (by rfl) ?_; dsimp only)); refine Kd.R_lit (Kd.int .u8) _ 5 ?hg (N := 29) ?hd (xs := ([] : List Int)) (inner := []) (ok := fun _ => True) (okp := fun _ => True) ?hr ?hp (fun _ hk => hk) trivial (Below.refl _ _) (Nat.le_refl _) (by simp) ?_; (case hd => rfl); (case hg => rfl); (case hr => first | (go_simp; done) | (go_simp; rfl)); (case hp => exact (Reps.none _ _)); intro v193 w17 ho18 hb hg_ hnew_; clear hg_ hnew_; (first | rw [← Ny192.out] at ho18 | (simp only [Int.reduceToNat] at ho18; rw [← Ny192.out] at ho18)); have n0_ := Aside0.mk (Kd.R_lower ho18 (below_size (by repeat (first | (with_reducible first | exact HB.out | apply below_alloc | apply pw_below_drewN | apply below_drew1) | exact HB.out)))); have n1_ := Aside0.mk (below_step (by repeat (first | (with_reducible first | exact HB.out | apply below_alloc | apply pw_below_drewN | apply below_drew1) | exact HB.out)) hb); clear HB; have HO194 := n0_; have HB := n1_; clear n0_ n1_; clear hb ho18))
              go_ret2
              exact ⟨_, by first | rfl | (simp [errW_none, errW_some] <;> rfl) | (simp [*, errW_none, errW_some] <;> rfl), by (with_reducible repeat (first | apply Kd.R_alloc | apply Kd.R_drewN | apply Kd.R_drew)); exact HO194.out, by repeat (first | (with_reducible first | exact HB.out | apply below_alloc | apply pw_below_drewN | apply below_drew1) | exact HB.out)⟩
          · replace c13 := Bool.eq_false_iff.mpr c13
            subst c13
            have H1 : (some ((([] : List Int)), 1)) = some (r1, r2) := by rw [if_neg (show ¬ (false = true) by decide)] at H; exact H
            clear H
            have H := H1
            clear H1
            obtain ⟨y195, hy195⟩ : ∃ y_ : List Int, y_ = (([] : List Int)) := ⟨_, rfl⟩
            replace H : (some (y195, 1)) = some (r1, r2) := by first | (rw [hy195]; with_reducible exact H) | (have H2_ := (Option.bind_some _ _).symm.trans H; rw [hy195]; with_reducible exact H2_) | (have H2_ := (Option.bind_some _ _).symm.trans H; with_reducible exact H2_) | with_reducible exact H | (rw [hy195]; exact H) | exact H
            have Ny195 := Aside0.mk hy195
            clear hy195
            simp only [Option.some.injEq, Prod.mk.injEq] at H
            obtain ⟨rfl, rfl⟩ := H
            go_wp2_with (first | ((with_reducible refine gate_callee (f := 39) rfl ?_); refine goesL_ (some 22) rfl rfl Try.func39 (by kernel_rfl) rfl #[.string a0] rfl (by (try simp only [List.map_toArray, List.map_cons, List.map_nil]); first | done | rfl | (simp only [List.length_drop, List.length_take]; rfl)) ?_; (with_reducible refine (spec_l01Key.calls a0 false _ A12.out).mono ?_); rintro e w' ⟨rfl, ⟨nd, rfl⟩⟩; refine ⟨_, rfl, ?_⟩) | ((with_reducible refine gate_dst (N := 29) rfl ?_); (try (refine gate_guard (by rfl) ?_; dsimp only)); refine Kd.R_lit (Kd.int .u8) _ 5 ?hg (N := 29) ?hd (xs := ([] : List Int)) (inner := []) (ok := fun _ => True) (okp := fun _ => True) ?hr ?hp (fun _ hk => hk) trivial (Below.refl _ _) (Nat.le_refl _) (by simp) ?_; (case hd => rfl); (case hg => rfl); (case hr => first | (go_simp; done) | (go_simp; rfl)); (case hp => exact (Reps.none _ _)); intro v196 w19 ho20 hb hg_ hnew_; clear hg_ hnew_; (first | rw [← Ny195.out] at ho20 | (simp only [Int.reduceToNat] at ho20; rw [← Ny195.out] at ho20)); have n0_ := Aside0.mk (Kd.R_lower ho20 (below_size (by repeat (first | (with_reducible first | exact HB.out | apply below_alloc | apply pw_below_drewN | apply below_drew1) | exact HB.out)))); have n1_ := Aside0.mk (below_step (by repeat (first | (with_reducible first | exact HB.out | apply below_alloc | apply pw_below_drewN | apply below_drew1) | exact HB.out)) hb); clear HB; have HO197 := n0_; have HB := n1_; clear n0_ n1_; clear hb ho20))
            go_ret2
            exact ⟨_, by first | rfl | (simp [errW_none, errW_some] <;> rfl) | (simp [*, errW_none, errW_some] <;> rfl), by (with_reducible repeat (first | apply Kd.R_alloc | apply Kd.R_drewN | apply Kd.R_drew)); exact HO197.out, by repeat (first | (with_reducible first | exact HB.out | apply below_alloc | apply pw_below_drewN | apply below_drew1) | exact HB.out)⟩
theorem isLong_string_1.calls (s : ByteArray) (w : World) : Calls Try.prog 71 #[.string s] w fun e w' => e = .returned (.bool (decide (65536 < (s.size : Int)))) ∧ w = w' := by
  go_enter Try.func71, Try.ntmps71
  go_wp2
  go_ret
  exact ⟨rfl, rfl⟩
def isLong_string_idx (l0 : List ByteArray) (w : World) (e : Ending) (w' : World) : Prop :=
  ∃ i : Int, e = .returned (.int .i64 i) ∧ decide (0 ≤ i) = (l0.any fun t => decide (65536 < (t.size : Int))) ∧ w = w'
theorem isLong_string_at {w : World} {A0 : Option Addr} {l0 : List ByteArray} (hr0 : Kd.C Kd.string w A0 l0.length l0) (k : Nat) (hk : k < l0.length) :
    ∃ ad, A0 = some ad ∧ w.cell? (ad.add k) = some (.string l0[k]) := by
  obtain ⟨ad, c, rfl, _, hc, hw⟩ := Kd.C_get hr0 (ByteArray.empty) (k : Int) (by omega) (by omega)
  refine ⟨ad, rfl, ?_⟩
  have hc : c = [.string (l0.getD (k : Int).toNat ByteArray.empty)] := hc
  subst hc
  have := hw 0 _ rfl
  simpa [Kd.string, Kd.scalar, List.getD_eq_getElem?_getD, hk] using this
theorem IndexFunc_string.calls (A0 : Option Addr) (c0 : Nat) (l0 : List ByteArray) (w : World) (hr0 : Kd.C Kd.string w A0 l0.length l0) :
    Calls Try.prog 98 #[.slice A0 l0.length c0, .func (.func 71) #[] #[]] w (isLong_string_idx l0 w) := by
  have HR0 := Aside0.mk hr0
  clear hr0
  have hm : l0.length ≤ 9223372036854775807 := HR0.out.2.1
  go_enter Try.func98, Try.ntmps98
  go_wp2
  go_loop [8] (fun i => ∃ k : Nat, k ≤ l0.length ∧ i = .int .i64 k ∧ Aside0 (∀ j (hj : j < l0.length), j < k → ¬ 65536 < l0[j].size)) (fun i => l0.length - (intOf i).toNat)
  case atStart => exact ⟨0, Nat.zero_le _, rfl, ⟨fun _ _ h => absurd h (by omega)⟩⟩
  case round =>
    obtain ⟨k, hk, rfl, HA⟩ := hrel
    by_cases hlt : k < l0.length
    · obtain ⟨ad, had, hcell⟩ := isLong_string_at HR0.out k hlt
      subst had
      by_cases hbig : 65536 < l0[k].size
      · have HF : Aside0 (isLong_string_idx l0 w (.returned (.int .i64 (k : Int))) w) := ⟨⟨k, rfl, by
          rw [show decide ((0 : Int) ≤ (k : Int)) = true from decide_eq_true (by omega)]
          exact (List.any_eq_true.2 ⟨l0[k], List.getElem_mem hlt, by simp; omega⟩).symm, rfl⟩⟩
        have hd : decide (65536 < (l0[k].size : Int)) = true := decide_eq_true (by omega)
        go_wp2_with (go_at_call 71; refine (isLong_string_1.calls _ _).mono ?_; rintro e w' ⟨rfl, rfl⟩)
        go_ret
        exact HF.out
      · have hd : decide (65536 < (l0[k].size : Int)) = false := decide_eq_false (by omega)
        have HA1 : Aside0 (∀ j (hj : j < l0.length), j < k + 1 → ¬ 65536 < l0[j].size) := ⟨fun j hj hjk => by
          rcases Nat.lt_or_ge j k with h | h
          · exact HA.out j hj h
          · obtain rfl : j = k := by omega
            exact hbig⟩
        go_wp2_with (go_at_call 71; refine (isLong_string_1.calls _ _).mono ?_; rintro e w' ⟨rfl, rfl⟩)
        go_round
        case rel => exact ⟨k + 1, by omega, by go_num, HA1⟩
        case measure => simp [intOf]; omega
    · have HF : Aside0 (isLong_string_idx l0 w (.returned (.int .i64 (-1))) w) := ⟨⟨-1, rfl, by
        rw [show decide ((0 : Int) ≤ -1) = false from rfl]
        refine (List.any_eq_false.2 fun x hx => ?_).symm
        obtain ⟨j, hj, rfl⟩ := List.mem_iff_getElem.1 hx
        have := HA.out j hj (by omega)
        simp; omega, rfl⟩⟩
      go_wp2
      go_ret
      exact HF.out
theorem ContainsFunc_string.calls (A0 : Option Addr) (c0 : Nat) (l0 : List ByteArray) (w : World) (hr0 : Kd.C Kd.string w A0 l0.length l0) :
    Calls Try.prog 70 #[.slice A0 l0.length c0, .func (.func 71) #[] #[]] w fun e w' => e = .returned (.bool (l0.any fun t => decide (65536 < (t.size : Int)))) ∧ w = w' := by
  go_enter Try.func70, Try.ntmps70
  go_wp2_with (go_at_call 98; refine (IndexFunc_string.calls _ _ _ _ hr0).mono ?_; rintro e w' ⟨i, rfl, hi, rfl⟩)
  go_ret
  exact ⟨by rw [← hi]; simp, rfl⟩
def impl_isLong_string.f (l0 : List ByteArray) : Option (Bool) := some (l0.any fun t => decide (65536 < (t.size : Int)))
theorem impl_isLong_string.calls (A0 : Option Addr) (c0 : Nat) (l0 : List ByteArray) (r : Bool) (w : World) (hr0 : Kd.C Kd.string w A0 l0.length l0) (hc0 : l0.length ≤ c0) (h : impl_isLong_string.f l0 = some r) :
    Calls Try.prog 42 #[.slice A0 l0.length c0] w fun e w' => e = .returned (.bool r) ∧ Drawn0 w w' := by
  unfold impl_isLong_string.f at h
  injection h with h
  have H := Aside0.mk h
  clear h
  go_enter Try.func42, Try.ntmps42
  go_wp2_with (go_at_call 70; refine (ContainsFunc_string.calls _ _ _ _ hr0).mono ?_; rintro e w' ⟨rfl, rfl⟩)
  go_ret
  exact ⟨by rw [← H.out]; rfl, Drawn0.refl _⟩
def impl_isKey.f (a0 : ByteArray) : Option (Bool) := if (a0.size : Int) = 16 then (some true) else (some ((a0.size : Int) == 32))
set_option maxHeartbeats 8000000 in
set_option maxRecDepth 100000 in
theorem impl_isKey.calls (a0 : ByteArray) (r : Bool) (w : World) (h : impl_isKey.f a0 = some r) :
    Calls Try.prog 43 #[.string a0] w fun e w' => e = .returned (.bool r) ∧ Drawn0 w w' := by
  have H : (if (a0.size : Int) = 16 then (some true) else (some ((a0.size : Int) == 32))) = some r := h
  clear h
  by_cases c2 : (a0.size : Int) = 16
  · rw [if_pos c2] at H
    have c2b0 : ((a0.size : Int) == 16) = true := beq_iff_eq.mpr c2
    have c2b1 : ((a0.size : Int) != 16) = false := bne_eq_false_iff_eq.mpr c2
    clear c2
    obtain rfl := Option.some.inj H
    go_enter Try.func43, Try.ntmps43
    go_wp2
    go_ret
    exact ⟨by first | rfl | (simp; done) | (simp [*]; done), by repeat (first | exact Drawn0.refl _ | apply Drawn0.step)⟩
  · rw [if_neg c2] at H
    have c2b0 : ((a0.size : Int) == 16) = false := beq_eq_false_iff_ne.mpr c2
    have c2b1 : ((a0.size : Int) != 16) = true := bne_iff_ne.mpr c2
    obtain rfl := Option.some.inj H
    go_enter Try.func43, Try.ntmps43
    go_wp2
    go_ret
    exact ⟨by first | rfl | (simp; done) | (simp [*]; done), by repeat (first | exact Drawn0.refl _ | apply Drawn0.step)⟩
def impl_times.l0 : Nat → Int → Int → Int → Option (Int)
  | 0, _, _, _ => none
  | k + 1, x1, x5, x6 => if x1 > 0 then (if (Go.bits .and .u8 x1 1) = 1 then (if (wrap64 (x6 * 2)) > 255 then (impl_times.l0 k (x1 / 2) (Go.bits .xor .i64 x5 x6) (Go.bits .xor .i64 (wrap64 (x6 * 2)) 283)) else (impl_times.l0 k (x1 / 2) (Go.bits .xor .i64 x5 x6) (wrap64 (x6 * 2)))) else (if (wrap64 (x6 * 2)) > 255 then (impl_times.l0 k (x1 / 2) x5 (Go.bits .xor .i64 (wrap64 (x6 * 2)) 283)) else (impl_times.l0 k (x1 / 2) x5 (wrap64 (x6 * 2))))) else (some ((x5) % 256))
def impl_times.f (k : Nat) (a0 : Int) (a1 : Int) : Option (Int) := impl_times.l0 k a1 0 (wrap64 (a0))
set_option maxHeartbeats 8000000 in
set_option maxRecDepth 100000 in
theorem impl_times.calls (k : Nat) (a0 : Int) (a1 : Int) (r : Int) (w : World) (h : impl_times.f k a0 a1 = some r) :
    Calls Try.prog 73 #[.int .u8 a0, .int .u8 a1] w fun e w' => e = .returned (.int .u8 r) ∧ Drawn0 w w' := by
  have H : (impl_times.l0 k a1 0 (wrap64 (a0))) = some r := h
  clear h
  have H' := Aside0.mk H
  clear H
  go_enter Try.func73, Try.ntmps73
  go_wp2
  go_loopg [1, 5, 6] k (fun kq v1 v5 v6 w' => ∃ (x1_1 : Int) (x5_1 : Int) (x6_1 : Int), v1 = .int .u8 x1_1 ∧ v5 = .int .i64 x5_1 ∧ v6 = .int .i64 x6_1 ∧ Aside0 (impl_times.l0 kq x1_1 x5_1 x6_1 = some r) ∧ Aside0 (kq ≤ k) ∧ Drawn0 w w')
  case atStart => exact ⟨(a1), (0), (wrap64 (a0)), (by first | rfl | (simp; done) | (simp [*]; done)), (by first | rfl | (simp; done) | (simp [*]; done)), (by first | rfl | (simp; done) | (simp [*]; done)), H', ⟨Nat.le_refl _⟩, by repeat (first | exact Drawn0.refl _ | apply Drawn0.step)⟩
  case round =>
    clear H'
    try clear p2
    obtain ⟨x1_1, x5_1, x6_1, rfl, rfl, rfl, HA, HK1, ⟨m1, rfl⟩⟩ := hrel
    cases gk with
    | zero => exact absurd HA.out (by simp [impl_times.l0])
    | succ k1 =>
      have H := HA.out
      clear HA
      simp only [impl_times.l0] at H
      by_cases c3 : x1_1 > 0
      · rw [if_pos c3] at H
        have c3b0 : decide (0 < x1_1) = true := decide_eq_true c3
        clear c3
        by_cases c4 : (Go.bits .and .u8 x1_1 1) = 1
        · rw [if_pos c4] at H
          have c4b0 : ((Go.bits .and .u8 x1_1 1) == 1) = true := beq_iff_eq.mpr c4
          have c4b1 : ((Go.bits .and .u8 x1_1 1) != 1) = false := bne_eq_false_iff_eq.mpr c4
          clear c4
          by_cases c5 : (wrap64 (x6_1 * 2)) > 255
          · rw [if_pos c5] at H
            have c5b0 : decide (255 < (wrap64 (x6_1 * 2))) = true := decide_eq_true c5
            clear c5
            have H' := Aside0.mk H
            clear H
            go_wp2
            go_roundg k1
            case measure => have := HK1.out; omega
            case rel => exact ⟨(x1_1 / 2), (Go.bits .xor .i64 x5_1 x6_1), (Go.bits .xor .i64 (wrap64 (x6_1 * 2)) 283), (by first | rfl | (simp; done) | (simp [*]; done)), (by first | rfl | (simp; done) | (simp [*]; done)), (by first | rfl | (simp; done) | (simp [*]; done)), H', ⟨by have := HK1.out; omega⟩, by repeat (first | exact Drawn0.refl _ | apply Drawn0.step)⟩
          · rw [if_neg c5] at H
            have c5b0 : decide (255 < (wrap64 (x6_1 * 2))) = false := decide_eq_false c5
            clear c5
            have H' := Aside0.mk H
            clear H
            go_wp2
            go_roundg k1
            case measure => have := HK1.out; omega
            case rel => exact ⟨(x1_1 / 2), (Go.bits .xor .i64 x5_1 x6_1), (wrap64 (x6_1 * 2)), (by first | rfl | (simp; done) | (simp [*]; done)), (by first | rfl | (simp; done) | (simp [*]; done)), (by first | rfl | (simp; done) | (simp [*]; done)), H', ⟨by have := HK1.out; omega⟩, by repeat (first | exact Drawn0.refl _ | apply Drawn0.step)⟩
        · rw [if_neg c4] at H
          have c4b0 : ((Go.bits .and .u8 x1_1 1) == 1) = false := beq_eq_false_iff_ne.mpr c4
          have c4b1 : ((Go.bits .and .u8 x1_1 1) != 1) = true := bne_iff_ne.mpr c4
          by_cases c6 : (wrap64 (x6_1 * 2)) > 255
          · rw [if_pos c6] at H
            have c6b0 : decide (255 < (wrap64 (x6_1 * 2))) = true := decide_eq_true c6
            clear c6
            have H' := Aside0.mk H
            clear H
            go_wp2
            go_roundg k1
            case measure => have := HK1.out; omega
            case rel => exact ⟨(x1_1 / 2), (x5_1), (Go.bits .xor .i64 (wrap64 (x6_1 * 2)) 283), (by first | rfl | (simp; done) | (simp [*]; done)), (by first | rfl | (simp; done) | (simp [*]; done)), (by first | rfl | (simp; done) | (simp [*]; done)), H', ⟨by have := HK1.out; omega⟩, by repeat (first | exact Drawn0.refl _ | apply Drawn0.step)⟩
          · rw [if_neg c6] at H
            have c6b0 : decide (255 < (wrap64 (x6_1 * 2))) = false := decide_eq_false c6
            clear c6
            have H' := Aside0.mk H
            clear H
            go_wp2
            go_roundg k1
            case measure => have := HK1.out; omega
            case rel => exact ⟨(x1_1 / 2), (x5_1), (wrap64 (x6_1 * 2)), (by first | rfl | (simp; done) | (simp [*]; done)), (by first | rfl | (simp; done) | (simp [*]; done)), (by first | rfl | (simp; done) | (simp [*]; done)), H', ⟨by have := HK1.out; omega⟩, by repeat (first | exact Drawn0.refl _ | apply Drawn0.step)⟩
      · rw [if_neg c3] at H
        have c3b0 : decide (0 < x1_1) = false := decide_eq_false c3
        clear c3
        obtain rfl := Option.some.inj H
        go_wp2
        go_ret
        exact ⟨by first | rfl | (simp; done) | (simp [*]; done), by repeat (first | exact Drawn0.refl _ | apply Drawn0.step)⟩
theorem times_wrap (n : Nat) (h : n < 9223372036854775808) : wrap64 (n : Int) = n := by unfold wrap64; omega
theorem impl_times_step (k b p x : Nat) (hb : b < 256) (hb0 : b ≠ 0) (hp : p < 256) (hx : x < 256) :
    impl_times.l0 (k + 1) b p x = impl_times.l0 k ((b / 2 : Nat) : Int) ((if b % 2 = 1 then p ^^^ x else p : Nat) : Int) ((Gf.xt x : Nat) : Int) := by
  have e1 : Go.bits .and .u8 (b : Int) 1 = ((b % 2 : Nat) : Int) := by
    rw [← Gf.and_one]; exact Gf.and_u8 b 1 hb (by decide)
  have e2 : wrap64 ((x : Int) * 2) = ((x * 2 : Nat) : Int) := by unfold wrap64; omega
  have e3 : Go.bits .xor .i64 ((x * 2 : Nat) : Int) 283 = ((x * 2 ^^^ 283 : Nat) : Int) := Gf.xor_i64 (x * 2) 283 (by omega) (by decide)
  have e4 : Go.bits .xor .i64 (p : Int) (x : Int) = ((p ^^^ x : Nat) : Int) := Gf.xor_i64 p x (by omega) (by omega)
  have e5 : (b : Int) / 2 = ((b / 2 : Nat) : Int) := by omega
  simp only [impl_times.l0]
  rw [if_pos (by omega), e1, e2, e3, e4, e5]
  by_cases h1 : b % 2 = 1 <;> by_cases h2 : x * 2 > 255
  · rw [if_pos (by omega), if_pos (by omega), if_pos h1, Gf.xt, if_pos h2]
  · rw [if_pos (by omega), if_neg (by omega), if_pos h1, Gf.xt, if_neg h2]
  · rw [if_neg (by omega), if_pos (by omega), if_neg h1, Gf.xt, if_pos h2]
  · rw [if_neg (by omega), if_neg (by omega), if_neg h1, Gf.xt, if_neg h2]
theorem impl_times_run (n : Nat) : ∀ (k b p x : Nat), b < 2 ^ n → b < 256 → p < 256 → x < 256 → n < k → impl_times.l0 k b p x = some ((Gf.mulc n b p x : Nat) : Int) := by
  have stop : ∀ (k p x : Nat), p < 256 → impl_times.l0 (k + 1) (0 : Nat) p x = some (p : Int) := by
    intro k p x hp
    simp only [impl_times.l0]
    rw [if_neg (by omega)]
    congr 1
    omega
  induction n with
  | zero =>
    intro k b p x hb _ hp _ hk
    obtain ⟨k, rfl⟩ : ∃ m, k = m + 1 := ⟨k - 1, by omega⟩
    obtain rfl : b = 0 := by omega
    exact stop k p x hp
  | succ n ih =>
    intro k b p x hb hb2 hp hx hk
    obtain ⟨k, rfl⟩ : ∃ m, k = m + 1 := ⟨k - 1, by omega⟩
    by_cases h0 : b = 0
    · subst h0
      rw [stop k p x hp, Gf.mulc_zero]
    · rw [impl_times_step k b p x hb2 h0 hp hx]
      refine ih k _ _ _ (by omega) (by omega) ?_ (Gf.xt_lt x hx) (by omega)
      split
      · exact Gf.xor_lt hp hx
      · exact hp
theorem impl_times_gm (a b : Nat) (ha : a < 256) (hb : b < 256) : impl_times.f 9 a b = some ((Gf.gm a b : Nat) : Int) := by
  unfold impl_times.f
  rw [times_wrap a (by omega)]
  exact impl_times_run 8 9 b 0 a hb hb (by decide) ha (by decide)
def tm (a b : Int) : Int := ((Gf.gm a.toNat b.toNat : Nat) : Int)
def byteOk (x : Int) : Prop := 0 ≤ x ∧ x ≤ 255
theorem times_calls (a b : Int) (w : World) (ha : byteOk a) (hb : byteOk b) :
    Calls Try.prog 73 #[.int .u8 a, .int .u8 b] w fun e w' => e = .returned (.int .u8 (tm a b)) ∧ Drawn0 w w' := by
  obtain ⟨m, rfl⟩ := Int.eq_ofNat_of_zero_le ha.1
  obtain ⟨n, rfl⟩ := Int.eq_ofNat_of_zero_le hb.1
  exact impl_times.calls 9 _ _ _ w (impl_times_gm m n (by have := ha.2; omega) (by have := hb.2; omega))
def impl_inverse.l0 : Nat → Int → Int → Int → Option (Int)
  | 0, _, _, _ => none
  | k + 1, x3, x4, x6 => if x6 < 7 then ((impl_times.f k x4 x4).bind fun t198 => ((impl_times.f k x3 t198).bind fun t199 => (impl_inverse.l0 k t199 t198 (wrap64 (x6 + 1))))) else (some x3)
def impl_inverse.f (k : Nat) (a0 : Int) : Option (Int) := impl_inverse.l0 k 1 a0 0
set_option maxHeartbeats 8000000 in
set_option maxRecDepth 100000 in
theorem impl_inverse.calls (k : Nat) (a0 : Int) (r : Int) (w : World) (h : impl_inverse.f k a0 = some r) :
    Calls Try.prog 99 #[.int .u8 a0] w fun e w' => e = .returned (.int .u8 r) ∧ Drawn0 w w' := by
  have H : (impl_inverse.l0 k 1 a0 0) = some r := h
  clear h
  have H' := Aside0.mk H
  clear H
  go_enter Try.func99, Try.ntmps99
  go_wp2
  go_loopg [3, 4, 6] k (fun kq v3 v4 v6 w' => ∃ (x3_1 : Int) (x4_1 : Int) (x6_1 : Int), v3 = .int .u8 x3_1 ∧ v4 = .int .u8 x4_1 ∧ v6 = .int .i64 x6_1 ∧ Aside0 (impl_inverse.l0 kq x3_1 x4_1 x6_1 = some r) ∧ Aside0 (kq ≤ k) ∧ Drawn0 w w')
  case atStart => exact ⟨(1), (a0), (0), (by first | rfl | (simp; done) | (simp [*]; done)), (by first | rfl | (simp; done) | (simp [*]; done)), (by first | rfl | (simp; done) | (simp [*]; done)), H', ⟨Nat.le_refl _⟩, by repeat (first | exact Drawn0.refl _ | apply Drawn0.step)⟩
  case round =>
    clear H'
    obtain ⟨x3_1, x4_1, x6_1, rfl, rfl, rfl, HA, HK1, ⟨m1, rfl⟩⟩ := hrel
    cases gk with
    | zero => exact absurd HA.out (by simp [impl_inverse.l0])
    | succ k1 =>
      have H := HA.out
      clear HA
      simp only [impl_inverse.l0] at H
      by_cases c2 : x6_1 < 7
      · rw [if_pos c2] at H
        have c2b0 : decide (x6_1 < 7) = true := decide_eq_true c2
        clear c2
        replace H := Option.bind_eq_some_iff.mp H
        obtain ⟨t198, A30, H⟩ := H
        replace H : ((impl_times.f k1 x3_1 t198).bind fun t199 => (impl_inverse.l0 k1 t199 t198 (wrap64 (x6_1 + 1)))) = some r := H
        have A3 := Aside0.mk A30
        clear A30
        replace H := Option.bind_eq_some_iff.mp H
        obtain ⟨t199, A40, H⟩ := H
        replace H : (impl_inverse.l0 k1 t199 t198 (wrap64 (x6_1 + 1))) = some r := H
        have A4 := Aside0.mk A40
        clear A40
        have H' := Aside0.mk H
        clear H
        go_wp2_with (first | ((with_reducible refine gate_callee (f := 73) rfl ?_); refine goesL_ (some 10) rfl rfl Try.func73 (by kernel_rfl) rfl #[.int .u8 x4_1, .int .u8 x4_1] rfl (by (try simp only [List.map_toArray, List.map_cons, List.map_nil]); first | done | rfl | (simp only [List.length_drop, List.length_take]; rfl)) ?_; (with_reducible refine (impl_times.calls k1 x4_1 x4_1 t198 _ A3.out).mono ?_); rintro e w' ⟨rfl, ⟨nd, rfl⟩⟩; refine ⟨_, rfl, ?_⟩) | ((with_reducible refine gate_callee (f := 73) rfl ?_); refine goesL_ (some 13) rfl rfl Try.func73 (by kernel_rfl) rfl #[.int .u8 x3_1, .int .u8 t198] rfl (by (try simp only [List.map_toArray, List.map_cons, List.map_nil]); first | done | rfl | (simp only [List.length_drop, List.length_take]; rfl)) ?_; (with_reducible refine (impl_times.calls k1 x3_1 t198 t199 _ A4.out).mono ?_); rintro e w' ⟨rfl, ⟨nd, rfl⟩⟩; refine ⟨_, rfl, ?_⟩))
        go_roundg k1
        case measure => have := HK1.out; omega
        case rel => exact ⟨(t199), (t198), (wrap64 (x6_1 + 1)), (by first | rfl | (simp; done) | (simp [*]; done)), (by first | rfl | (simp; done) | (simp [*]; done)), (by first | rfl | (simp; done) | (simp [*]; done)), H', ⟨by have := HK1.out; omega⟩, by repeat (first | exact Drawn0.refl _ | apply Drawn0.step)⟩
      · rw [if_neg c2] at H
        have c2b0 : decide (x6_1 < 7) = false := decide_eq_false c2
        clear c2
        obtain rfl := Option.some.inj H
        go_wp2
        go_ret
        exact ⟨by first | rfl | (simp; done) | (simp [*]; done), by repeat (first | exact Drawn0.refl _ | apply Drawn0.step)⟩
def bits_RotateLeft8.f (a0 : Int) (a1 : Int) : Option (Int) := if 0 ≤ (Go.bits .and .u64 (IntKind.u64.wrap (a1)) 7) then (if 0 ≤ (IntKind.u64.wrap (8 - (Go.bits .and .u64 (IntKind.u64.wrap (a1)) 7))) then (some (Go.bits .or .u8 (shl .u8 a0 (Go.bits .and .u64 (IntKind.u64.wrap (a1)) 7)) (shr .u8 a0 (IntKind.u64.wrap (8 - (Go.bits .and .u64 (IntKind.u64.wrap (a1)) 7)))))) else (none)) else (none)
set_option maxHeartbeats 8000000 in
set_option maxRecDepth 100000 in
theorem bits_RotateLeft8.calls (a0 : Int) (a1 : Int) (r : Int) (w : World) (h : bits_RotateLeft8.f a0 a1 = some r) :
    Calls Try.prog 100 #[.int .u8 a0, .int .i64 a1] w fun e w' => e = .returned (.int .u8 r) ∧ Drawn0 w w' := by
  have H : (if 0 ≤ (Go.bits .and .u64 (IntKind.u64.wrap (a1)) 7) then (if 0 ≤ (IntKind.u64.wrap (8 - (Go.bits .and .u64 (IntKind.u64.wrap (a1)) 7))) then (some (Go.bits .or .u8 (shl .u8 a0 (Go.bits .and .u64 (IntKind.u64.wrap (a1)) 7)) (shr .u8 a0 (IntKind.u64.wrap (8 - (Go.bits .and .u64 (IntKind.u64.wrap (a1)) 7)))))) else (none)) else (none)) = some r := h
  clear h
  obtain ⟨ji3, hji3⟩ : ∃ j_ : Int, (Go.bits .and .u64 (IntKind.u64.wrap (a1)) 7) = j_ := ⟨_, rfl⟩
  replace H : (if 0 ≤ (ji3) then (if 0 ≤ (IntKind.u64.wrap (8 - (ji3))) then (some (Go.bits .or .u8 (shl .u8 a0 (ji3)) (shr .u8 a0 (IntKind.u64.wrap (8 - (ji3)))))) else (none)) else (none)) = some r := by first | (rw [hji3] at H; exact H) | (simp only [hji3] at H ⊢; exact H)
  by_cases c4 : 0 ≤ (ji3)
  · rw [if_pos c4] at H
    have c4b0 := eq_true c4
    have c4b1 : decide (0 ≤ (ji3)) = true := decide_eq_true c4
    clear c4
    obtain ⟨ji5, hji5⟩ : ∃ j_ : Int, (shl .u8 a0 (ji3)) = j_ := ⟨_, rfl⟩
    replace H : (if 0 ≤ (IntKind.u64.wrap (8 - (ji3))) then (some (Go.bits .or .u8 (ji5) (shr .u8 a0 (IntKind.u64.wrap (8 - (ji3)))))) else (none)) = some r := by first | (rw [hji5] at H; exact H) | (simp only [hji5] at H ⊢; exact H)
    have hji5_ : (IntKind.u8.wrap (a0 * 2 ^ min (ji3).toNat 8)) = ji5 := hji5
    have hji5z : (ji3) ≤ 8 → (IntKind.u8.wrap (a0 * 2 ^ (ji3).toNat)) = ji5 := shl_small hji5
    obtain ⟨ji6, hji6⟩ : ∃ j_ : Int, (IntKind.u64.wrap (8 - (ji3))) = j_ := ⟨_, rfl⟩
    replace H : (if 0 ≤ (ji6) then (some (Go.bits .or .u8 (ji5) (shr .u8 a0 (ji6)))) else (none)) = some r := by first | (rw [hji6] at H; exact H) | (simp only [hji6] at H ⊢; exact H)
    by_cases c7 : 0 ≤ (ji6)
    · rw [if_pos c7] at H
      have c7b0 := eq_true c7
      have c7b1 : decide (0 ≤ (ji6)) = true := decide_eq_true c7
      clear c7
      obtain ⟨ji8, hji8⟩ : ∃ j_ : Int, (shr .u8 a0 (ji6)) = j_ := ⟨_, rfl⟩
      replace H : (some (Go.bits .or .u8 (ji5) (ji8))) = some r := by first | (rw [hji8] at H; exact H) | (simp only [hji8] at H ⊢; exact H)
      have hji8_ : (a0 / 2 ^ min (ji6).toNat 8) = ji8 := hji8
      have hji8z : (ji6) ≤ 8 → (a0 / 2 ^ (ji6).toNat) = ji8 := shr_small hji8
      obtain rfl := Option.some.inj H
      go_enter Try.func100, Try.ntmps100
      go_wp2
      go_ret
      exact ⟨by first | rfl | (simp; done) | (simp only [← hji3, ← hji5, ← hji6, ← hji8] <;> (first | rfl | simp)) | (simp [*]; done), by repeat (first | exact Drawn0.refl _ | apply Drawn0.step)⟩
    · rw [if_neg c7] at H
      exact absurd H (by simp)
  · rw [if_neg c4] at H
    exact absurd H (by simp)
def impl_substitute.f (k : Nat) (a0 : Int) : Option (Int) := (impl_inverse.f k a0).bind fun t200 => ((bits_RotateLeft8.f t200 1).bind fun t201 => ((bits_RotateLeft8.f t200 2).bind fun t202 => ((bits_RotateLeft8.f t200 3).bind fun t203 => ((bits_RotateLeft8.f t200 4).bind fun t204 => (some (Go.bits .xor .u8 (Go.bits .xor .u8 (Go.bits .xor .u8 (Go.bits .xor .u8 (Go.bits .xor .u8 t200 t201) t202) t203) t204) 99))))))
set_option maxHeartbeats 8000000 in
set_option maxRecDepth 100000 in
theorem impl_substitute.calls (k : Nat) (a0 : Int) (r : Int) (w : World) (h : impl_substitute.f k a0 = some r) :
    Calls Try.prog 72 #[.int .u8 a0] w fun e w' => e = .returned (.int .u8 r) ∧ Drawn0 w w' := by
  have H : ((impl_inverse.f k a0).bind fun t200 => ((bits_RotateLeft8.f t200 1).bind fun t201 => ((bits_RotateLeft8.f t200 2).bind fun t202 => ((bits_RotateLeft8.f t200 3).bind fun t203 => ((bits_RotateLeft8.f t200 4).bind fun t204 => (some (Go.bits .xor .u8 (Go.bits .xor .u8 (Go.bits .xor .u8 (Go.bits .xor .u8 (Go.bits .xor .u8 t200 t201) t202) t203) t204) 99))))))) = some r := h
  clear h
  replace H := Option.bind_eq_some_iff.mp H
  obtain ⟨t200, A20, H⟩ := H
  replace H : ((bits_RotateLeft8.f t200 1).bind fun t201 => ((bits_RotateLeft8.f t200 2).bind fun t202 => ((bits_RotateLeft8.f t200 3).bind fun t203 => ((bits_RotateLeft8.f t200 4).bind fun t204 => (some (Go.bits .xor .u8 (Go.bits .xor .u8 (Go.bits .xor .u8 (Go.bits .xor .u8 (Go.bits .xor .u8 t200 t201) t202) t203) t204) 99)))))) = some r := H
  have A2 := Aside0.mk A20
  clear A20
  replace H := Option.bind_eq_some_iff.mp H
  obtain ⟨t201, A30, H⟩ := H
  replace H : ((bits_RotateLeft8.f t200 2).bind fun t202 => ((bits_RotateLeft8.f t200 3).bind fun t203 => ((bits_RotateLeft8.f t200 4).bind fun t204 => (some (Go.bits .xor .u8 (Go.bits .xor .u8 (Go.bits .xor .u8 (Go.bits .xor .u8 (Go.bits .xor .u8 t200 t201) t202) t203) t204) 99))))) = some r := H
  have A3 := Aside0.mk A30
  clear A30
  replace H := Option.bind_eq_some_iff.mp H
  obtain ⟨t202, A40, H⟩ := H
  replace H : ((bits_RotateLeft8.f t200 3).bind fun t203 => ((bits_RotateLeft8.f t200 4).bind fun t204 => (some (Go.bits .xor .u8 (Go.bits .xor .u8 (Go.bits .xor .u8 (Go.bits .xor .u8 (Go.bits .xor .u8 t200 t201) t202) t203) t204) 99)))) = some r := H
  have A4 := Aside0.mk A40
  clear A40
  replace H := Option.bind_eq_some_iff.mp H
  obtain ⟨t203, A50, H⟩ := H
  replace H : ((bits_RotateLeft8.f t200 4).bind fun t204 => (some (Go.bits .xor .u8 (Go.bits .xor .u8 (Go.bits .xor .u8 (Go.bits .xor .u8 (Go.bits .xor .u8 t200 t201) t202) t203) t204) 99))) = some r := H
  have A5 := Aside0.mk A50
  clear A50
  replace H := Option.bind_eq_some_iff.mp H
  obtain ⟨t204, A60, H⟩ := H
  replace H : (some (Go.bits .xor .u8 (Go.bits .xor .u8 (Go.bits .xor .u8 (Go.bits .xor .u8 (Go.bits .xor .u8 t200 t201) t202) t203) t204) 99)) = some r := H
  have A6 := Aside0.mk A60
  clear A60
  obtain rfl := Option.some.inj H
  go_enter Try.func72, Try.ntmps72
  go_wp2_with (first | ((with_reducible refine gate_callee (f := 99) rfl ?_); refine goesL_ (some 5) rfl rfl Try.func99 (by kernel_rfl) rfl #[.int .u8 a0] rfl (by (try simp only [List.map_toArray, List.map_cons, List.map_nil]); first | done | rfl | (simp only [List.length_drop, List.length_take]; rfl)) ?_; (with_reducible refine (impl_inverse.calls k a0 t200 _ A2.out).mono ?_); rintro e w' ⟨rfl, ⟨nd, rfl⟩⟩; refine ⟨_, rfl, ?_⟩) | ((with_reducible refine gate_callee (f := 100) rfl ?_); refine goesL_ (some 8) rfl rfl Try.func100 (by kernel_rfl) rfl #[.int .u8 t200, .int .i64 1] rfl (by (try simp only [List.map_toArray, List.map_cons, List.map_nil]); first | done | rfl | (simp only [List.length_drop, List.length_take]; rfl)) ?_; (with_reducible refine (bits_RotateLeft8.calls t200 1 t201 _ A3.out).mono ?_); rintro e w' ⟨rfl, ⟨nd, rfl⟩⟩; refine ⟨_, rfl, ?_⟩) | ((with_reducible refine gate_callee (f := 100) rfl ?_); refine goesL_ (some 11) rfl rfl Try.func100 (by kernel_rfl) rfl #[.int .u8 t200, .int .i64 2] rfl (by (try simp only [List.map_toArray, List.map_cons, List.map_nil]); first | done | rfl | (simp only [List.length_drop, List.length_take]; rfl)) ?_; (with_reducible refine (bits_RotateLeft8.calls t200 2 t202 _ A4.out).mono ?_); rintro e w' ⟨rfl, ⟨nd, rfl⟩⟩; refine ⟨_, rfl, ?_⟩) | ((with_reducible refine gate_callee (f := 100) rfl ?_); refine goesL_ (some 14) rfl rfl Try.func100 (by kernel_rfl) rfl #[.int .u8 t200, .int .i64 3] rfl (by (try simp only [List.map_toArray, List.map_cons, List.map_nil]); first | done | rfl | (simp only [List.length_drop, List.length_take]; rfl)) ?_; (with_reducible refine (bits_RotateLeft8.calls t200 3 t203 _ A5.out).mono ?_); rintro e w' ⟨rfl, ⟨nd, rfl⟩⟩; refine ⟨_, rfl, ?_⟩) | ((with_reducible refine gate_callee (f := 100) rfl ?_); refine goesL_ (some 17) rfl rfl Try.func100 (by kernel_rfl) rfl #[.int .u8 t200, .int .i64 4] rfl (by (try simp only [List.map_toArray, List.map_cons, List.map_nil]); first | done | rfl | (simp only [List.length_drop, List.length_take]; rfl)) ?_; (with_reducible refine (bits_RotateLeft8.calls t200 4 t204 _ A6.out).mono ?_); rintro e w' ⟨rfl, ⟨nd, rfl⟩⟩; refine ⟨_, rfl, ?_⟩))
  go_ret
  exact ⟨by first | rfl | (simp; done) | (simp [*]; done), by repeat (first | exact Drawn0.refl _ | apply Drawn0.step)⟩
end Go.Proofs.Ytfbggdlidelliaa.P

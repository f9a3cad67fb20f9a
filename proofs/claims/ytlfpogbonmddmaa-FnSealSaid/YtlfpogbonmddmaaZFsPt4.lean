/- Laid by a program of this session: of Pt4 what this law uses. -/
import Derived.Test.YtlfpogbonmddmaaZFsM11
import Derived.Test.YtlfpogbonmddmaaZFsPt3
namespace Go.Proofs.Ytlfpogbonmddmaa.P
open Go.RowKit Go.Proofs.YtlfpogbonmddmaaW.PrintWords Go.Proofs.YtlfpogbonmddmaaW.PrintLast Go.Proofs.YtlfpogbonmddmaaW.PrintMore
attribute [local go_sem] min2_int min_two
set_option linter.unusedVariables false
set_option linter.unusedSimpArgs false
def spec_l01Keys.f (s0 : ByteArray) (l1 : List Int) : Option (List ByteArray) := if l1 = Aes.subs ∧ (s0.size = 16 ∨ s0.size = 32) then some ((Aes.keysL (bytesL s0)).map strOfNums) else none
theorem mul2 : ∀ p : Nat, p < 256 → spec_l01Mul.f 10 (p : Int) 2 = some ((Gf.xt p : Nat) : Int) := by decide +kernel
def skeys_T13 : Bool × List (List Nat × List Nat) := (true, [([], []), ([], []), ([1], [1]), ([2], [2]), ([0, 3], [0, 3]), ([4], [4]), ([5], [5]), ([], []), ([7], [7]), ([6, 8], [6, 8]), ([], []), ([], []), ([11], [11]), ([12], [12]), ([10, 13], [10, 13]), ([14], [14]), ([15], [15]), ([], []), ([], []), ([18], [18]), ([19], [19]), ([17, 20], [17, 20]), ([21], [21]), ([22], [22]), ([], []), ([], []), ([25], [25]), ([26], [26]), ([24, 27], [24, 27]), ([28], [28]), ([29], [29]), ([9, 16, 23, 30], [9, 16, 23, 30]), ([31, 0, 1, 2, 3, 4, 5, 6, 7, 8, 9, 10, 11, 12, 13, 14, 15, 16, 17, 18, 19, 20, 21, 22, 23, 24, 25, 26, 27, 28, 29, 30, 31], [1, 11, 18, 25, 31])])
def skeys_B13 : List Nat := [0, 0, 2, 6, 15, 31, 63, 0, 128, 511, 0, 0, 2048, 6144, 15360, 31744, 64512, 0, 0, 262144, 786432, 1966080, 4063232, 8257536, 0, 0, 33554432, 100663296, 251658240, 520093696, 1056964608, 2147483647, 4294967295]
theorem skeys_tab13 : rtab .any (opsOf Try.f95 13) = skeys_T13 := by kernel_rfl
theorem skeys_bits13 : waitsOk skeys_T13.2 skeys_B13 = true := by kernel_rfl
def skeys_T29 : Bool × List (List Nat × List Nat) := (true, [([], []), ([], []), ([], []), ([1, 2], [1, 2]), ([3], [3]), ([], []), ([], []), ([6], [6]), ([5, 7], [5, 7]), ([8], [8]), ([4, 9], [4, 9]), ([], []), ([], []), ([12], [12]), ([11, 13], [11, 13]), ([14], [14]), ([10, 15], [10, 15]), ([], []), ([], []), ([18], [18]), ([17, 19], [17, 19]), ([20], [20]), ([16, 21], [16, 21]), ([22], [22]), ([0, 23], [0, 23]), ([24, 24, 0, 1, 2, 3, 4, 5, 6, 7, 8, 9, 10, 11, 12, 13, 14, 15, 16, 17, 18, 19, 20, 21, 22, 23, 24], [0, 24])])
def skeys_B29 : List Nat := [0, 0, 0, 6, 14, 0, 0, 64, 224, 480, 1022, 0, 0, 4096, 14336, 30720, 65534, 0, 0, 262144, 917504, 1966080, 4194302, 8388606, 16777215, 33554431]
theorem skeys_tab29 : rtab .any (opsOf Try.f95 29) = skeys_T29 := by kernel_rfl
theorem skeys_bits29 : waitsOk skeys_T29.2 skeys_B29 = true := by kernel_rfl
set_option maxHeartbeats 8000000 in
set_option maxRecDepth 100000 in
theorem spec_l01Keys_in (s0 : ByteArray) (n : Nat) (A1 : Option Addr) (c1 : Nat) (w0 : World) (hr1 : Kd.C (Kd.int .i64) w0 A1 256 Aes.subs) (hc1 : 256 ≤ c1) (hn : n = 4 ∨ n = 8) (hs : s0.size = 4 * n) :
   Calls Try.prog 95 #[.string s0, .slice A1 256 c1] w0 fun e w' => ∃ v0_ : Value, e = .returned (v0_) ∧ Kd.R Kd.string 9 w' w0.heap.size (fun _ => True) v0_ ((Aes.keysL (bytesL s0)).map strOfNums) ∧ Below w0.heap.size w0 w' := by
 obtain ⟨K, hK⟩ : ∃ K, K = bytesL s0 := ⟨_, rfl⟩
 have HS := Aside0.mk hs
 have HN := Aside0.mk hn
 have HKL : Aside0 (K.length = 4 * n) := ⟨by rw [hK, bytesL_length, hs]⟩
 have HR1 := Aside0.mk hr1
 have HKO : Aside0 (Aes.ok K) := ⟨by rw [hK]; exact u8ok_bytesL s0⟩
 have HX : Aside0 (∀ i, i < n → s0.extract (4 * i) (4 * i + 4) = strOfNums (Aes.word0 K i)) := ⟨fun i hi => by rw [hK]; exact ext4 s0 i (by omega)⟩
 have hq : ((s0.size : Int)) / 4 = (n : Int) := by omega
 have hq2 : Int.tdiv ((s0.size : Int)) 4 = (n : Int) := by rw [Int.tdiv_eq_ediv_of_nonneg (by omega)]; omega
 have hwn : wrap64 (n : Int) = (n : Int) := by unfold wrap64; omega
 have HB := Aside0.mk (Below.refl w0.heap.size w0)
 rw [← hK]
 clear hK hr1 hn hs
 go_enter Try.func95, Try.ntmps95
 go_wp2_with ((with_reducible refine gate_dst (N := 18) rfl ?_); refine Kd.R_lit Kd.string _ 9 ?hg (N := 18) ?hd (xs := ([] : List ByteArray)) (inner := []) (ok := fun _ => True) (okp := fun _ => True) ?hr ?hp (fun _ hk => hk) trivial (Below.refl _ _) (Nat.le_refl _) (by simp) ?_; (case hd => rfl); (case hg => rfl); (case hr => first | (go_simp; done) | (go_simp; rfl)); (case hp => exact (Reps.none _ _)); intro v1 w1 ho1 hb hg_ hnew_; clear hg_ hnew_; have HO := Aside0.mk ho1; have HB1 := Aside0.mk hb; clear ho1 hb)
 go_loopw [6, 7] (fun vw vi wr => ∃ i : Nat, vi = .int .i64 (i : Int) ∧ i ≤ n ∧ Aside0 (Kd.R Kd.string 9 wr w0.heap.size (fun _ => True) vw ((List.range i).map fun q => strOfNums (Aes.word0 K q))) ∧ Aside0 (Below w0.heap.size w0 wr)) (fun _ i _ => n - (intOf i).toNat)
 case atStart => exact ⟨0, rfl, Nat.zero_le _, HO, HB1⟩
 case round =>
   clear HO HB1 HB
   obtain ⟨i, rfl, hi, HO, HB⟩ := hrel
   by_cases hlt : i < n
   · have hd : decide (i < n) = true := decide_eq_true hlt
     have hn8 : n ≤ 8 := by have := HN.out; omega
     obtain ⟨p, hp⟩ : ∃ p, p = 4 * i := ⟨_, rfl⟩
     obtain ⟨q, hq4⟩ : ∃ q, q = p + 4 := ⟨_, rfl⟩
     have e1 : wrap64 (4 * (i : Int)) = (p : Int) := by unfold wrap64; omega
     have e2 : wrap64 ((p : Int) + 4) = (q : Int) := by unfold wrap64; omega
     have e3 : s0.extract p q = strOfNums (Aes.word0 K i) := by rw [hq4, hp]; exact HX.out i hlt
     have b0 : (0 : Int) ≤ (p : Int) := Int.natCast_nonneg p
     have b1 : (p : Int) ≤ (q : Int) := by omega
     have b2 : (q : Int) ≤ (s0.size : Int) := by have := HS.out; omega
     have HLT := Aside0.mk hlt
     have HN8 := Aside0.mk hn8
     clear hp hq4 hlt hn8 hi
     go_wp2_with ((with_reducible refine gate_builtin (b := .append) (xs := #[.tmp 24, .tmp 32]) rfl ?_); at_builtin; refine Kd.R_append Kd.string (w0 := w0) w0.heap.size rfl (.tmp 24) (.tmp 32) 82 9 (.string ⟨#[]⟩) 16 rfl Try.underlying82 info9 rfl (by decide) (by omega) u6 ((List.range i).map fun q => strOfNums (Aes.word0 K q)) (strOfNums (Aes.word0 K i)) [.string (strOfNums (Aes.word0 K i))] (fun _ => True) (fun _ => False) rfl rfl ?aP (fun _ hk => hk.elim) ?aF ?aO ?aB ?aS ?aL ?_; (case aP => exact rfl); (case aB => exact HB.out); (case aF => exact (fun _ _ => trivial)); (case aO => exact HO.out); (case aS => exact HB.out.size); (case aL => simp; have := HLT.out; have := HN8.out; omega); intro v2 w2 ho2 hb2 hg hat; have HO2 := Aside0.mk ho2; have HB2 := Aside0.mk hb2; clear ho2 hb2 hg hat)
     clear e1 e2 e3 b0 b1 b2 hd
     have hw : wrap64 ((i : Int) + 1) = ((i + 1 : Nat) : Int) := by have := HLT.out; have := HN8.out; unfold wrap64; omega
     go_wp2
     rw [hw]
     clear hw
     go_roundw
     case rel => exact ⟨i + 1, rfl, HLT.out, ⟨by rw [List.range_succ, List.map_append]; exact HO2.out⟩, HB2⟩
     case measure => simp [intOf]; have := HLT.out; omega
   · have hd : decide (i < n) = false := decide_eq_false hlt
     have HW : Aside0 (Kd.R Kd.string 9 wr w0.heap.size (fun _ => True) u6 ((Aes.kw K n 0).1.map strOfNums)) := ⟨by
       have e : i = n := by omega
       rw [e] at HO
       have := HO.out
       simpa [Aes.kw, Function.comp_def] using this⟩
     clear HO hlt hi
     have hn8 : n ≤ 8 := by have := HN.out; omega
     have hn4 : 4 ≤ n := by have := HN.out; omega
     obtain ⟨m7, hm7⟩ : ∃ m, m = n + 7 := ⟨_, rfl⟩
     obtain ⟨lim, hlim⟩ : ∃ m, m = 4 * m7 := ⟨_, rfl⟩
     have e7 : wrap64 ((n : Int) + 7) = (m7 : Int) := by unfold wrap64; omega
     have e8 : wrap64 (4 * (m7 : Int)) = (lim : Int) := by unfold wrap64; omega
     have HLIM : Aside0 (lim = 4 * (n + 7)) := ⟨by omega⟩
     have HN48 : Aside0 (4 ≤ n ∧ n ≤ 8) := ⟨hn4, hn8⟩
     clear hm7 hlim hn8 hn4
     go_wp2_with fail
     go_loopw [6, 8, 9] (fun vw vf vi wr => ∃ (j f i : Nat), vf = .int .i64 (f : Int) ∧ vi = .int .i64 (i : Int) ∧ i = n + j ∧ i ≤ lim ∧ f = (Aes.kw K n j).2 ∧ Aside0 (Kd.R Kd.string 9 wr w0.heap.size (fun _ => True) vw ((Aes.kw K n j).1.map strOfNums)) ∧ Aside0 (Below w0.heap.size w0 wr)) (fun _ _ i _ => 64 - (intOf i).toNat)
     case atStart => exact ⟨0, 1, n, rfl, rfl, rfl, by have := HLIM.out; omega, rfl, HW, HB⟩
     case round =>
       clear HW HB
       obtain ⟨j, f, i, rfl, rfl, hi, hil, hf, HO, HB⟩ := hrel
       obtain ⟨wB, rfl⟩ : ∃ W, W = wr := ⟨_, rfl⟩
       by_cases hlt : i < lim
       · have hd : decide (i < lim) = true := decide_eq_true hlt
         obtain ⟨L, hL⟩ : ∃ L, L = (Aes.kw K n j).1.map strOfNums := ⟨_, rfl⟩
         rw [← hL] at HO
         have hLl : L.length = i := by rw [hL, List.length_map, Aes.kw_length, hi]
         obtain ⟨Aw, cw, hv, hcw, HCw⟩ := Kd.R_reads HO.out
         rw [hLl] at hv hcw HCw
         subst hv
         obtain ⟨i1, hi1⟩ : ∃ q, q + 1 = i := ⟨i - 1, by have := HN48.out; omega⟩
         have e1 : wrap64 ((i : Int) - 1) = (i1 : Int) := by unfold wrap64; have := HLIM.out; have := HN48.out; omega
         obtain ⟨ad, rfl, cA⟩ := C_str_cell HCw i1 (by omega)
         obtain ⟨sP, hsP⟩ : ∃ s, s = L.getD i1 ⟨#[]⟩ := ⟨_, rfl⟩
         rw [← hsP] at cA
         obtain ⟨Wd, hWd⟩ : ∃ W, W = (Aes.kw K n j).1.getD i1 [] := ⟨_, rfl⟩
         have hwok : Aes.wordOk Wd := by rw [hWd]; exact Aes.getD_word (Aes.kw_ok HKO.out n j) i1 (by rw [Aes.kw_length]; omega)
         have hsW : sP = strOfNums Wd := by
           rw [hsP, hL, hWd, List.getD_eq_getElem?_getD, List.getD_eq_getElem?_getD, List.getElem?_map, List.getElem?_eq_getElem (by rw [Aes.kw_length]; omega)]; rfl
         have kc := Lib.run_convert_string_bytes (P := Try.prog) wB 9 22 5 sP Try.underlying9 Try.underlying22 Try.underlying5
         have HRB := Aside0.mk (conv_rowB wB wB.heap.size 5 sP (Nat.le_refl _))
         have HBW : Aside0 (Below wB.heap.size wB (Lib.bytesWorld wB 5 sP)) := ⟨bytes_below (Below.refl _ _) (Nat.le_refl _) _ _⟩
         generalize hWa : Lib.bytesWorld wB 5 sP = Wa at *
         obtain ⟨cK, hcK⟩ : ∃ c, c = grownCap wB sP.size 0 5 := ⟨_, rfl⟩
         rw [← hcK] at kc HRB
         have hsz : sP.size = 4 := by rw [hsW, str_size, hwok.1]
         rw [hsz] at kc HRB
         have hbl : bytesL sP = Wd := by rw [hsW, bytesL_str _ hwok.2]
         rw [hbl] at HRB
         clear hWa hcK hsz hbl hsP
         have HWOK := Aside0.mk hwok
         have HKW : Aside0 (Aes.ok K) := HKO
         have HHI := Aside0.mk hi
         have HLT := Aside0.mk hlt
         have HI1 := Aside0.mk hi1
         have HF := Aside0.mk hf
         have HL := Aside0.mk hL
         have HLL := Aside0.mk hLl
         have HWD := Aside0.mk hWd
         have HCW := Aside0.mk HCw
         have HCWL := Aside0.mk hcw
         have d1 : decide (i1 < i) = true := decide_eq_true (by omega)
         have d1q : (i1 : Int) < (i : Int) := by omega
         have d1n : i1 < i := by omega
         have d0 : (0 : Int) ≤ (i1 : Int) := by omega
         clear hwok hi hlt hi1 hf hL hLl hWd HCw hcw hil hsW
         have hnz : ((n : Int) = 0) = False := eq_false (by have := HN48.out; omega)
         have hnz1 : (n = 0) = False := eq_false (by have := HN48.out; omega)
         go_upto_if 51 with (fail)
         go_cut [8, 10] from 35 to 131 (fun vf vw wc => ∃ (f1 g c : Nat) (L1 : List Int), vf = .int .i64 (f1 : Int) ∧ vw = .slice (some ⟨g, 0, none⟩) 4 c ∧ Aside0 (Aes.wordOk L1) ∧ Aside0 (Aes.kw K n (j + 1) = ((Aes.kw K n j).1 ++ [Aes.xor4 L1 ((Aes.kw K n j).1.getD j [])], f1)) ∧ Aside0 (rowB wc wB.heap.size (.slice (some ⟨g, 0, none⟩) 4 c) L1) ∧ Aside0 (Below wB.heap.size wB wc))
         case first =>
           have HK1 := HKW.out
           clear kc
           obtain ⟨at1, rfl⟩ : ∃ ad, A1 = some ad := by obtain ⟨ad, e, _⟩ := HR1.out.2.2 (by decide); exact ⟨ad, e⟩
           have CT : ∀ x : Int, Aes.by_ x → Wa.cell? (at1.add x.toNat) = some (.int .i64 (Aes.sb x)) := fun x hx => by
             obtain ⟨a2, e, h⟩ := C_int_cell (Kd.C_below (Kd.C_below HR1.out HB.out) HBW.out) x.toNat (by rw [Aes.subs_length]; have := hx.1; have := hx.2; omega)
             injection e with e
             subst e
             rw [h, Aes.subs_at hx]
           by_cases hm : i % n = 0
           · have hmb : ((i : Int) % (n : Int) == 0) = true := by rw [beq_iff_eq]; omega
             obtain ⟨x0, hx0⟩ : ∃ x, x = Wd.getD 0 0 := ⟨_, rfl⟩
             obtain ⟨x1, hx1⟩ : ∃ x, x = Wd.getD 1 0 := ⟨_, rfl⟩
             obtain ⟨x2, hx2⟩ : ∃ x, x = Wd.getD 2 0 := ⟨_, rfl⟩
             obtain ⟨x3, hx3⟩ : ∃ x, x = Wd.getD 3 0 := ⟨_, rfl⟩
             have hl4 := HWOK.out.1
             have b0 : Aes.by_ x0 := by rw [hx0]; exact Aes.at_by HWOK.out.2 _
             have b1 : Aes.by_ x1 := by rw [hx1]; exact Aes.at_by HWOK.out.2 _
             have b2 : Aes.by_ x2 := by rw [hx2]; exact Aes.at_by HWOK.out.2 _
             have b3 : Aes.by_ x3 := by rw [hx3]; exact Aes.at_by HWOK.out.2 _
             have c0 : Wa.cell? ⟨wB.heap.size, 0, none⟩ = some (.int .u8 x0) := by rw [hx0]; exact rowB_cell HRB.out 0 (by omega)
             have c1' : Wa.cell? ⟨wB.heap.size, 1, none⟩ = some (.int .u8 x1) := by rw [hx1]; exact rowB_cell HRB.out 1 (by omega)
             have c2 : Wa.cell? ⟨wB.heap.size, 2, none⟩ = some (.int .u8 x2) := by rw [hx2]; exact rowB_cell HRB.out 2 (by omega)
             have c3 : Wa.cell? ⟨wB.heap.size, 3, none⟩ = some (.int .u8 x3) := by rw [hx3]; exact rowB_cell HRB.out 3 (by omega)
             have t0 := CT x0 b0
             have t1 := CT x1 b1
             have t2 := CT x2 b2
             have t3 := CT x3 b3
             have s0' := Aes.sb_by b0
             have s1' := Aes.sb_by b1
             have s2' := Aes.sb_by b2
             have s3' := Aes.sb_by b3
             obtain ⟨y0, hy0⟩ : ∃ y, y = Aes.sb x0 := ⟨_, rfl⟩
             obtain ⟨y1, hy1⟩ : ∃ y, y = Aes.sb x1 := ⟨_, rfl⟩
             obtain ⟨y2, hy2⟩ : ∃ y, y = Aes.sb x2 := ⟨_, rfl⟩
             obtain ⟨y3, hy3⟩ : ∃ y, y = Aes.sb x3 := ⟨_, rfl⟩
             rw [← hy0] at t0 s0'
             rw [← hy1] at t1 s1'
             rw [← hy2] at t2 s2'
             rw [← hy3] at t3 s3'
             have m0 : y0 % 256 = y0 := by have := s0'.1; have := s0'.2; omega
             have m1 : y1 % 256 = y1 := by have := s1'.1; have := s1'.2; omega
             have m2 : y2 % 256 = y2 := by have := s2'.1; have := s2'.2; omega
             have m3 : y3 % 256 = y3 := by have := s3'.1; have := s3'.2; omega
             have hf8 : f < 256 := by rw [HF.out]; exact Aes.kw_p K n j
             have mf : (f : Int) % 256 = (f : Int) := by omega
             obtain ⟨p0, q0⟩ := b0
             obtain ⟨p1, q1⟩ := b1
             obtain ⟨p2, q2⟩ := b2
             obtain ⟨p3, q3⟩ := b3
             have r0 : x0 < 256 := by omega
             have r1 : x1 < 256 := by omega
             have r2 : x2 < 256 := by omega
             have r3 : x3 < 256 := by omega
             have HX0 := Aside0.mk hx0; have HX1 := Aside0.mk hx1; have HX2 := Aside0.mk hx2; have HX3 := Aside0.mk hx3
             have HY0 := Aside0.mk hy0; have HY1 := Aside0.mk hy1; have HY2 := Aside0.mk hy2; have HY3 := Aside0.mk hy3
             clear hx0 hx1 hx2 hx3 hy0 hy1 hy2 hy3
             have HFF := Aside0.mk hf8
             have S0 := Aside0.mk s0'; have S1 := Aside0.mk s1'; have S2 := Aside0.mk s2'; have S3 := Aside0.mk s3'
             have HM := Aside0.mk hm
             clear q0 q1 q2 q3 s0' s1' s2' s3' hl4 hf8 CT e1 e7 e8 hwn hq hq2 hnz hnz1 d1 d1q d1n d0 cA hd
             go_wp2
             refine start_ (n := 33) (S := fun w' => w'.cell? ⟨wB.heap.size, 0, none⟩ = some (.int .u8 x0) ∧ w'.cell? ⟨wB.heap.size, 1, none⟩ = some (.int .u8 x1) ∧ w'.cell? ⟨wB.heap.size, 2, none⟩ = some (.int .u8 x2) ∧ w'.cell? ⟨wB.heap.size, 3, none⟩ = some (.int .u8 x3) ∧ w'.cell? (at1.add x0.toNat) = some (.int .i64 y0) ∧ w'.cell? (at1.add x1.toNat) = some (.int .i64 y1) ∧ w'.cell? (at1.add x2.toNat) = some (.int .i64 y2) ∧ w'.cell? (at1.add x3.toNat) = some (.int .i64 y3)) (ds := []) #[false, false, false, false, false, false, false, false, false, false, false, false, false, false, false, false, false, false, false, false, false, false, false, false, false, false, false, false, false, false, false, false, false] (by kernel_rfl) rfl rfl ⟨(show Wa.drew.cell? ⟨wB.heap.size, 0, none⟩ = some (.int .u8 x0) from c0), (show Wa.drew.cell? ⟨wB.heap.size, 1, none⟩ = some (.int .u8 x1) from c1'), (show Wa.drew.cell? ⟨wB.heap.size, 2, none⟩ = some (.int .u8 x2) from c2), (show Wa.drew.cell? ⟨wB.heap.size, 3, none⟩ = some (.int .u8 x3) from c3), (show Wa.drew.cell? (at1.add x0.toNat) = some (.int .i64 y0) from t0), (show Wa.drew.cell? (at1.add x1.toNat) = some (.int .i64 y1) from t1), (show Wa.drew.cell? (at1.add x2.toNat) = some (.int .i64 y2) from t2), (show Wa.drew.cell? (at1.add x3.toNat) = some (.int .i64 y3) from t3)⟩ (fun hHeld => ?_)
             refine with_tabW skeys_tab13 skeys_bits13 (fun HT_ HW_ => ?_)
             refine pure_ (i := 0) (N := some 52) (v := ?_) (a' := ?_) #[true, false, false, false, false, false, false, false, false, false, false, false, false, false, false, false, false, false, false, false, false, false, false, false, false, false, false, false, false, false, false, false, false] rfl rfl (any_of HT_.out (by kernel_rfl)) (fun _ _ _ h => h) (Or.inl ⟨by rfl, ?_⟩) ?_ ?_
             rotate_left
             · intro w'
               go_simp
               with_reducible rfl
             rotate_left
             · simp only [Act.put, sA_, s0_, s1_, i64_w, i32_w]
               rfl
             refine pure_ (i := 1) (N := some 53) (v := ?_) (a' := ?_) #[true, true, false, false, false, false, false, false, false, false, false, false, false, false, false, false, false, false, false, false, false, false, false, false, false, false, false, false, false, false, false, false, false] rfl rfl (any_of HT_.out (by kernel_rfl)) (fun _ _ _ h => h) (Or.inl ⟨by rfl, ?_⟩) ?_ ?_
             rotate_left
             · intro w'
               go_simp
               with_reducible rfl
             rotate_left
             · simp only [Act.put, sA_, s0_, s1_, i64_w, i32_w]
               rfl
             refine pure_ (i := 2) (N := some 54) (v := ?_) (a' := ?_) #[true, true, true, false, false, false, false, false, false, false, false, false, false, false, false, false, false, false, false, false, false, false, false, false, false, false, false, false, false, false, false, false, false] rfl rfl (any_of HT_.out (by kernel_rfl)) (fun _ _ _ h => h) (Or.inl ⟨by rfl, ?_⟩) ?_ ?_
             rotate_left
             · intro w'
               go_simp
               with_reducible rfl
             rotate_left
             · simp only [Act.put, sA_, s0_, s1_, i64_w, i32_w]
               rfl
             refine pure_ (i := 7) (N := some 59) (v := ?_) (a' := ?_) #[true, true, true, false, false, false, false, true, false, false, false, false, false, false, false, false, false, false, false, false, false, false, false, false, false, false, false, false, false, false, false, false, false] rfl rfl (any_of HT_.out (by kernel_rfl)) (fun _ _ _ h => h) (Or.inl ⟨by rfl, ?_⟩) ?_ ?_
             rotate_left
             · intro w'
               go_simp
               with_reducible rfl
             rotate_left
             · simp only [Act.put, sA_, s0_, s1_, i64_w, i32_w]
               rfl
             refine pure_ (i := 8) (N := some 60) (v := ?_) (a' := ?_) #[true, true, true, false, false, false, false, true, true, false, false, false, false, false, false, false, false, false, false, false, false, false, false, false, false, false, false, false, false, false, false, false, false] rfl rfl (any_of HT_.out (by kernel_rfl)) (fun _ _ _ h => h) (Or.inl ⟨by rfl, ?_⟩) ?_ ?_
             rotate_left
             · intro w'
               go_simp
               with_reducible rfl
             rotate_left
             · simp only [Act.put, sA_, s0_, s1_, i64_w, i32_w]
               rfl
             refine pure_ (i := 10) (N := some 62) (v := ?_) (a' := ?_) #[true, true, true, false, false, false, false, true, true, false, true, false, false, false, false, false, false, false, false, false, false, false, false, false, false, false, false, false, false, false, false, false, false] rfl rfl (any_of HT_.out (by kernel_rfl)) (fun _ _ _ h => h) (Or.inl ⟨by rfl, ?_⟩) ?_ ?_
             rotate_left
             · intro w'
               go_simp
               with_reducible rfl
             rotate_left
             · simp only [Act.put, sA_, s0_, s1_, i64_w, i32_w]
               rfl
             refine pure_ (i := 11) (N := some 63) (v := ?_) (a' := ?_) #[true, true, true, false, false, false, false, true, true, false, true, true, false, false, false, false, false, false, false, false, false, false, false, false, false, false, false, false, false, false, false, false, false] rfl rfl (any_of HT_.out (by kernel_rfl)) (fun _ _ _ h => h) (Or.inl ⟨by rfl, ?_⟩) ?_ ?_
             rotate_left
             · intro w'
               go_simp
               with_reducible rfl
             rotate_left
             · simp only [Act.put, sA_, s0_, s1_, i64_w, i32_w]
               rfl
             refine pure_ (i := 12) (N := some 64) (v := ?_) (a' := ?_) #[true, true, true, false, false, false, false, true, true, false, true, true, true, false, false, false, false, false, false, false, false, false, false, false, false, false, false, false, false, false, false, false, false] rfl rfl (any_of HT_.out (by kernel_rfl)) (fun _ _ _ h => h) (Or.inl ⟨by rfl, ?_⟩) ?_ ?_
             rotate_left
             · intro w'
               go_simp
               with_reducible rfl
             rotate_left
             · simp only [Act.put, sA_, s0_, s1_, i64_w, i32_w]
               rfl
             refine pure_ (i := 17) (N := some 69) (v := ?_) (a' := ?_) #[true, true, true, false, false, false, false, true, true, false, true, true, true, false, false, false, false, true, false, false, false, false, false, false, false, false, false, false, false, false, false, false, false] rfl rfl (any_of HT_.out (by kernel_rfl)) (fun _ _ _ h => h) (Or.inl ⟨by rfl, ?_⟩) ?_ ?_
             rotate_left
             · intro w'
               go_simp
               with_reducible rfl
             rotate_left
             · simp only [Act.put, sA_, s0_, s1_, i64_w, i32_w]
               rfl
             refine pure_ (i := 18) (N := some 70) (v := ?_) (a' := ?_) #[true, true, true, false, false, false, false, true, true, false, true, true, true, false, false, false, false, true, true, false, false, false, false, false, false, false, false, false, false, false, false, false, false] rfl rfl (any_of HT_.out (by kernel_rfl)) (fun _ _ _ h => h) (Or.inl ⟨by rfl, ?_⟩) ?_ ?_
             rotate_left
             · intro w'
               go_simp
               with_reducible rfl
             rotate_left
             · simp only [Act.put, sA_, s0_, s1_, i64_w, i32_w]
               rfl
             refine pure_ (i := 19) (N := some 71) (v := ?_) (a' := ?_) #[true, true, true, false, false, false, false, true, true, false, true, true, true, false, false, false, false, true, true, true, false, false, false, false, false, false, false, false, false, false, false, false, false] rfl rfl (any_of HT_.out (by kernel_rfl)) (fun _ _ _ h => h) (Or.inl ⟨by rfl, ?_⟩) ?_ ?_
             rotate_left
             · intro w'
               go_simp
               with_reducible rfl
             rotate_left
             · simp only [Act.put, sA_, s0_, s1_, i64_w, i32_w]
               rfl
             refine pure_ (i := 24) (N := some 76) (v := ?_) (a' := ?_) #[true, true, true, false, false, false, false, true, true, false, true, true, true, false, false, false, false, true, true, true, false, false, false, false, true, false, false, false, false, false, false, false, false] rfl rfl (any_of HT_.out (by kernel_rfl)) (fun _ _ _ h => h) (Or.inl ⟨by rfl, ?_⟩) ?_ ?_
             rotate_left
             · intro w'
               go_simp
               with_reducible rfl
             rotate_left
             · simp only [Act.put, sA_, s0_, s1_, i64_w, i32_w]
               rfl
             refine pure_ (i := 25) (N := some 77) (v := ?_) (a' := ?_) #[true, true, true, false, false, false, false, true, true, false, true, true, true, false, false, false, false, true, true, true, false, false, false, false, true, true, false, false, false, false, false, false, false] rfl rfl (any_of HT_.out (by kernel_rfl)) (fun _ _ _ h => h) (Or.inl ⟨by rfl, ?_⟩) ?_ ?_
             rotate_left
             · intro w'
               go_simp
               with_reducible rfl
             rotate_left
             · simp only [Act.put, sA_, s0_, s1_, i64_w, i32_w]
               rfl
             refine pure_ (i := 26) (N := some 78) (v := ?_) (a' := ?_) #[true, true, true, false, false, false, false, true, true, false, true, true, true, false, false, false, false, true, true, true, false, false, false, false, true, true, true, false, false, false, false, false, false] rfl rfl (any_of HT_.out (by kernel_rfl)) (fun _ _ _ h => h) (Or.inl ⟨by rfl, ?_⟩) ?_ ?_
             rotate_left
             · intro w'
               go_simp
               with_reducible rfl
             rotate_left
             · simp only [Act.put, sA_, s0_, s1_, i64_w, i32_w]
               rfl
             refine take_ (i := 3) (N := some 55) (v := ?_) (a' := ?_) #[true, true, true, true, false, false, false, true, true, false, true, true, true, false, false, false, false, true, true, true, false, false, false, false, true, true, true, false, false, false, false, false, false] rfl rfl (take_ofW HT_.out HW_.out (by kernel_rfl)) (fun _ _ _ h => h) (Or.inl ⟨by rfl, ?_⟩) hHeld ?_ ?_
             rotate_left
             · rintro w' ⟨s0, s1, s2, s3, s4, s5, s6, s7⟩
               go_simp
               with_reducible rfl
             rotate_left
             · simp only [Act.put, sA_, s0_, s1_, i64_w, i32_w]
               rfl
             refine pure_ (i := 4) (N := some 56) (v := ?_) (a' := ?_) #[true, true, true, true, true, false, false, true, true, false, true, true, true, false, false, false, false, true, true, true, false, false, false, false, true, true, true, false, false, false, false, false, false] rfl rfl (any_of HT_.out (by kernel_rfl)) (fun _ _ _ h => h) (Or.inl ⟨by rfl, ?_⟩) ?_ ?_
             rotate_left
             · intro w'
               go_simp
               with_reducible rfl
             rotate_left
             · simp only [Act.put, sA_, s0_, s1_, i64_w, i32_w]
               rfl
             refine take_ (i := 5) (N := some 57) (v := ?_) (a' := ?_) #[true, true, true, true, true, true, false, true, true, false, true, true, true, false, false, false, false, true, true, true, false, false, false, false, true, true, true, false, false, false, false, false, false] rfl rfl (take_ofW HT_.out HW_.out (by kernel_rfl)) (fun _ _ _ h => h) (Or.inl ⟨by rfl, ?_⟩) hHeld ?_ ?_
             rotate_left
             · rintro w' ⟨s0, s1, s2, s3, s4, s5, s6, s7⟩
               go_simp
               with_reducible rfl
             rotate_left
             · simp only [Act.put, sA_, s0_, s1_, i64_w, i32_w]
               rfl
             refine pure_ (i := 6) (N := some 58) (v := ?_) (a' := ?_) #[true, true, true, true, true, true, true, true, true, false, true, true, true, false, false, false, false, true, true, true, false, false, false, false, true, true, true, false, false, false, false, false, false] rfl rfl (any_of HT_.out (by kernel_rfl)) (fun _ _ _ h => h) (Or.inl ⟨by rfl, ?_⟩) ?_ ?_
             rotate_left
             · intro w'
               go_simp
               with_reducible rfl
             rotate_left
             · simp only [Act.put, sA_, s0_, s1_, i64_w, i32_w]
               rfl
             refine pure_ (i := 9) (N := some 61) (v := ?_) (a' := ?_) #[true, true, true, true, true, true, true, true, true, true, true, true, true, false, false, false, false, true, true, true, false, false, false, false, true, true, true, false, false, false, false, false, false] rfl rfl (any_of HT_.out (by kernel_rfl)) (fun _ _ _ h => h) (Or.inl ⟨by rfl, ?_⟩) ?_ ?_
             rotate_left
             · intro w'
               go_simp
               with_reducible rfl
             rotate_left
             · simp only [Act.put, sA_, s0_, s1_, i64_w, i32_w]
               rfl
             refine take_ (i := 13) (N := some 65) (v := ?_) (a' := ?_) #[true, true, true, true, true, true, true, true, true, true, true, true, true, true, false, false, false, true, true, true, false, false, false, false, true, true, true, false, false, false, false, false, false] rfl rfl (take_ofW HT_.out HW_.out (by kernel_rfl)) (fun _ _ _ h => h) (Or.inl ⟨by rfl, ?_⟩) hHeld ?_ ?_
             rotate_left
             · rintro w' ⟨s0, s1, s2, s3, s4, s5, s6, s7⟩
               go_simp
               with_reducible rfl
             rotate_left
             · simp only [Act.put, sA_, s0_, s1_, i64_w, i32_w]
               rfl
             refine pure_ (i := 14) (N := some 66) (v := ?_) (a' := ?_) #[true, true, true, true, true, true, true, true, true, true, true, true, true, true, true, false, false, true, true, true, false, false, false, false, true, true, true, false, false, false, false, false, false] rfl rfl (any_of HT_.out (by kernel_rfl)) (fun _ _ _ h => h) (Or.inl ⟨by rfl, ?_⟩) ?_ ?_
             rotate_left
             · intro w'
               go_simp
               with_reducible rfl
             rotate_left
             · simp only [Act.put, sA_, s0_, s1_, i64_w, i32_w]
               rfl
             refine take_ (i := 15) (N := some 67) (v := ?_) (a' := ?_) #[true, true, true, true, true, true, true, true, true, true, true, true, true, true, true, true, false, true, true, true, false, false, false, false, true, true, true, false, false, false, false, false, false] rfl rfl (take_ofW HT_.out HW_.out (by kernel_rfl)) (fun _ _ _ h => h) (Or.inl ⟨by rfl, ?_⟩) hHeld ?_ ?_
             rotate_left
             · rintro w' ⟨s0, s1, s2, s3, s4, s5, s6, s7⟩
               go_simp
               with_reducible rfl
             rotate_left
             · simp only [Act.put, sA_, s0_, s1_, i64_w, i32_w]
               rfl
             refine pure_ (i := 16) (N := some 68) (v := ?_) (a' := ?_) #[true, true, true, true, true, true, true, true, true, true, true, true, true, true, true, true, true, true, true, true, false, false, false, false, true, true, true, false, false, false, false, false, false] rfl rfl (any_of HT_.out (by kernel_rfl)) (fun _ _ _ h => h) (Or.inl ⟨by rfl, ?_⟩) ?_ ?_
             rotate_left
             · intro w'
               go_simp
               with_reducible rfl
             rotate_left
             · simp only [Act.put, sA_, s0_, s1_, i64_w, i32_w]
               rfl
             refine take_ (i := 20) (N := some 72) (v := ?_) (a' := ?_) #[true, true, true, true, true, true, true, true, true, true, true, true, true, true, true, true, true, true, true, true, true, false, false, false, true, true, true, false, false, false, false, false, false] rfl rfl (take_ofW HT_.out HW_.out (by kernel_rfl)) (fun _ _ _ h => h) (Or.inl ⟨by rfl, ?_⟩) hHeld ?_ ?_
             rotate_left
             · rintro w' ⟨s0, s1, s2, s3, s4, s5, s6, s7⟩
               go_simp
               with_reducible rfl
             rotate_left
             · simp only [Act.put, sA_, s0_, s1_, i64_w, i32_w]
               rfl
             refine pure_ (i := 21) (N := some 73) (v := ?_) (a' := ?_) #[true, true, true, true, true, true, true, true, true, true, true, true, true, true, true, true, true, true, true, true, true, true, false, false, true, true, true, false, false, false, false, false, false] rfl rfl (any_of HT_.out (by kernel_rfl)) (fun _ _ _ h => h) (Or.inl ⟨by rfl, ?_⟩) ?_ ?_
             rotate_left
             · intro w'
               go_simp
               with_reducible rfl
             rotate_left
             · simp only [Act.put, sA_, s0_, s1_, i64_w, i32_w]
               rfl
             refine take_ (i := 22) (N := some 74) (v := ?_) (a' := ?_) #[true, true, true, true, true, true, true, true, true, true, true, true, true, true, true, true, true, true, true, true, true, true, true, false, true, true, true, false, false, false, false, false, false] rfl rfl (take_ofW HT_.out HW_.out (by kernel_rfl)) (fun _ _ _ h => h) (Or.inl ⟨by rfl, ?_⟩) hHeld ?_ ?_
             rotate_left
             · rintro w' ⟨s0, s1, s2, s3, s4, s5, s6, s7⟩
               go_simp
               with_reducible rfl
             rotate_left
             · simp only [Act.put, sA_, s0_, s1_, i64_w, i32_w]
               rfl
             refine pure_ (i := 23) (N := some 75) (v := ?_) (a' := ?_) #[true, true, true, true, true, true, true, true, true, true, true, true, true, true, true, true, true, true, true, true, true, true, true, true, true, true, true, false, false, false, false, false, false] rfl rfl (any_of HT_.out (by kernel_rfl)) (fun _ _ _ h => h) (Or.inl ⟨by rfl, ?_⟩) ?_ ?_
             rotate_left
             · intro w'
               go_simp
               with_reducible rfl
             rotate_left
             · simp only [Act.put, sA_, s0_, s1_, i64_w, i32_w]
               rfl
             refine take_ (i := 27) (N := some 79) (v := ?_) (a' := ?_) #[true, true, true, true, true, true, true, true, true, true, true, true, true, true, true, true, true, true, true, true, true, true, true, true, true, true, true, true, false, false, false, false, false] rfl rfl (take_ofW HT_.out HW_.out (by kernel_rfl)) (fun _ _ _ h => h) (Or.inl ⟨by rfl, ?_⟩) hHeld ?_ ?_
             rotate_left
             · rintro w' ⟨s0, s1, s2, s3, s4, s5, s6, s7⟩
               go_simp
               with_reducible rfl
             rotate_left
             · simp only [Act.put, sA_, s0_, s1_, i64_w, i32_w]
               rfl
             refine pure_ (i := 28) (N := some 80) (v := ?_) (a' := ?_) #[true, true, true, true, true, true, true, true, true, true, true, true, true, true, true, true, true, true, true, true, true, true, true, true, true, true, true, true, true, false, false, false, false] rfl rfl (any_of HT_.out (by kernel_rfl)) (fun _ _ _ h => h) (Or.inl ⟨by rfl, ?_⟩) ?_ ?_
             rotate_left
             · intro w'
               go_simp
               with_reducible rfl
             rotate_left
             · simp only [Act.put, sA_, s0_, s1_, i64_w, i32_w]
               rfl
             refine take_ (i := 29) (N := some 81) (v := ?_) (a' := ?_) #[true, true, true, true, true, true, true, true, true, true, true, true, true, true, true, true, true, true, true, true, true, true, true, true, true, true, true, true, true, true, false, false, false] rfl rfl (take_ofW HT_.out HW_.out (by kernel_rfl)) (fun _ _ _ h => h) (Or.inl ⟨by rfl, ?_⟩) hHeld ?_ ?_
             rotate_left
             · rintro w' ⟨s0, s1, s2, s3, s4, s5, s6, s7⟩
               go_simp
               with_reducible rfl
             rotate_left
             · simp only [Act.put, sA_, s0_, s1_, i64_w, i32_w]
               rfl
             refine pure_ (i := 30) (N := some 82) (v := ?_) (a' := ?_) #[true, true, true, true, true, true, true, true, true, true, true, true, true, true, true, true, true, true, true, true, true, true, true, true, true, true, true, true, true, true, true, false, false] rfl rfl (any_of HT_.out (by kernel_rfl)) (fun _ _ _ h => h) (Or.inl ⟨by rfl, ?_⟩) ?_ ?_
             rotate_left
             · intro w'
               go_simp
               with_reducible rfl
             rotate_left
             · simp only [Act.put, sA_, s0_, s1_, i64_w, i32_w]
               rfl
             refine one_ (i := 31) (N := some 83) #[true, true, true, true, true, true, true, true, true, true, true, true, true, true, true, true, true, true, true, true, true, true, true, true, true, true, true, true, true, true, true, true, false] rfl rfl (one_of HT_.out (by kernel_rfl)) (by decide) (fun K hK => ?_)
             go_simp
             refine hK.out _ _ ⟨cell_alloc_keep hHeld.1 _, cell_alloc_keep hHeld.2.1 _, cell_alloc_keep hHeld.2.2.1 _, cell_alloc_keep hHeld.2.2.2.1 _, cell_alloc_keep hHeld.2.2.2.2.1 _, cell_alloc_keep hHeld.2.2.2.2.2.1 _, cell_alloc_keep hHeld.2.2.2.2.2.2.1 _, cell_alloc_keep hHeld.2.2.2.2.2.2.2 _⟩ (fun hHeld => ?_)
             clear hK K
             refine pure_ (i := 32) (N := some 10) (v := ?_) (a' := ?_) #[true, true, true, true, true, true, true, true, true, true, true, true, true, true, true, true, true, true, true, true, true, true, true, true, true, true, true, true, true, true, true, true, true] rfl rfl (any_of HT_.out (by kernel_rfl)) (fun _ _ _ h => h) (Or.inl ⟨by rfl, ?_⟩) ?_ ?_
             rotate_left
             · intro w'
               go_simp
               with_reducible rfl
             rotate_left
             · simp only [Act.put, sA_, s0_, s1_, i64_w, i32_w]
               rfl
             refine done_ (done_of HT_.out (by kernel_rfl)) ?_
             have kf : spec_l01Mul.f 10 (f : Int) 2 = some ((Gf.xt f : Nat) : Int) := mul2 f HFF.out
             have w8 : ∀ y : Int, Aes.by_ y → IntKind.u8.wrap y = y := fun y hy => by
               obtain ⟨m, hm, rfl⟩ := Aes.by_nat hy
               exact Gf.wrap_u .u8 rfl m hm
             have e8' : [Go.bits .xor .u8 (IntKind.u8.wrap y1) (IntKind.u8.wrap (f : Int)), IntKind.u8.wrap y2, IntKind.u8.wrap y3, IntKind.u8.wrap y0] = Aes.turned Wd (f : Int) := by
               rw [w8 _ S1.out, w8 _ S2.out, w8 _ S3.out, w8 _ S0.out, w8 _ (Aes.nat_by HFF.out)]
               show [Aes.xr y1 (f : Int), y2, y3, y0] = [Aes.xr (Aes.sb (Wd.getD 1 0)) (f : Int), Aes.sb (Wd.getD 2 0), Aes.sb (Wd.getD 3 0), Aes.sb (Wd.getD 0 0)]
               rw [HY0.out, HY1.out, HY2.out, HY3.out, HX0.out, HX1.out, HX2.out, HX3.out]
             have HRN : Aside0 (rowB (Wa.alloc (.cells #[.int .u8 (Go.bits .xor .u8 (IntKind.u8.wrap y1) (IntKind.u8.wrap (f : Int))), .int .u8 (IntKind.u8.wrap y2), .int .u8 (IntKind.u8.wrap y3), .int .u8 (IntKind.u8.wrap y0)] 5)) wB.heap.size (.slice (some ⟨Wa.heap.size, 0, none⟩) 4 4) (Aes.turned Wd (f : Int))) := ⟨by
               rw [← e8']
               exact rowB_blk (l := [_, _, _, _]) (blk_new Wa _) HBW.out.size⟩
             have HBN : Aside0 (Below wB.heap.size wB (Wa.alloc (.cells #[.int .u8 (Go.bits .xor .u8 (IntKind.u8.wrap y1) (IntKind.u8.wrap (f : Int))), .int .u8 (IntKind.u8.wrap y2), .int .u8 (IntKind.u8.wrap y3), .int .u8 (IntKind.u8.wrap y0)] 5))) := ⟨HBW.out.alloc HBW.out.size _⟩
             generalize Wa.alloc (.cells #[.int .u8 (Go.bits .xor .u8 (IntKind.u8.wrap y1) (IntKind.u8.wrap (f : Int))), .int .u8 (IntKind.u8.wrap y2), .int .u8 (IntKind.u8.wrap y3), .int .u8 (IntKind.u8.wrap y0)] 5) = Wn at HRN HBN ⊢
             have HKF := Aside0.mk kf
             clear e8' w8 kf c0 c1' c2 c3 t0 t1 t2 t3 p0 p1 p2 p3 r0 r1 r2 r3 hHeld
             go_wp2_with (go_at_call 108; refine (spec_l01Mul.calls 10 (f : Int) 2 _ _ HKF.out).mono ?_; rintro e w' ⟨rfl, ⟨nd, rfl⟩⟩)
             go_meet
             case rel => exact ⟨Gf.xt f, _, 4, Aes.turned Wd (f : Int), rfl, rfl, ⟨Aes.turned_ok HWOK.out.2 HFF.out⟩, ⟨by
               have hm' : (n + j) % n = 0 := by rw [← HHI.out]; exact HM.out
               have hd' : n + j - 1 = i1 := by have := HHI.out; have := HI1.out; omega
               simp only [Aes.kw, if_pos hm']
               rw [hd', ← HWD.out, ← HF.out]⟩, ⟨HRN.out⟩, ⟨pw_below_drewN HBN.out _⟩⟩
           · have hmb : ((i : Int) % (n : Int) == 0) = false := by rw [beq_eq_false_iff_ne]; omega
             have HM := Aside0.mk hm
             by_cases h84 : n = 8 ∧ i % n = 4
             · obtain ⟨h8, h4⟩ := h84
               have hb8 : ((n : Int) == 8) = true := by rw [beq_iff_eq]; omega
               have hb4 : ((i : Int) % (n : Int) == 4) = true := by rw [beq_iff_eq]; omega
               have H84 : Aside0 (n = 8 ∧ (i % n = 4)) := ⟨h8, h4⟩
               have HSW : Aside0 (∀ q, q < 4 → (Aes.swapped Wd).getD q 0 = Aes.sb (Wd.getD q 0)) := ⟨fun q hq => by
                 match q, hq with
                 | 0, _ => rfl
                 | 1, _ => rfl
                 | 2, _ => rfl
                 | 3, _ => rfl⟩
               have HSK := Aes.swapped_ok HWOK.out.2
               obtain ⟨Sw, hSw⟩ : ∃ S, S = Aes.swapped Wd := ⟨_, rfl⟩
               rw [← hSw] at HSW HSK
               have HSK := Aside0.mk HSK
               have HSWE := Aside0.mk hSw
               have HCT := Aside0.mk CT
               clear h8 h4 hm hSw e1 e7 e8 hwn hq hq2 d1 d1q d1n d0 cA hd CT
               go_wp2_with fail
               clear hb8 hb4 hmb hnz hnz1
               go_loopw [11] (fun v wr => ∃ q : Nat, q ≤ 4 ∧ v = .int .i64 (q : Int) ∧ Aside0 (rowB wr wB.heap.size (.slice (some ⟨wB.heap.size, 0, none⟩) 4 cK) (Sw.take q ++ Wd.drop q)) ∧ Aside0 (Below Wa.heap.size Wa wr ∨ True) ∧ Aside0 (Below wB.heap.size wB wr)) (fun v _ => 4 - (intOf v).toNat)
               case atStart => exact ⟨0, by omega, rfl, ⟨by simpa using HRB.out⟩, ⟨.inr trivial⟩, HBW⟩
               case round =>
                 obtain ⟨q, hq4, rfl, G1, _, G2⟩ := hrel
                 by_cases hlt4 : q < 4
                 · have hdq : decide (q < 4) = true := decide_eq_true hlt4
                   have hlw := HWOK.out.1
                   have hls := HSK.out.1
                   obtain ⟨x, hx⟩ : ∃ x, x = Wd.getD q 0 := ⟨_, rfl⟩
                   have bx : Aes.by_ x := by rw [hx]; exact Aes.at_by HWOK.out.2 _
                   have hget : (Sw.take q ++ Wd.drop q).getD q 0 = x := by
                     rw [hx, List.getD_eq_getElem?_getD, td_at Sw Wd (by omega) q (by omega)]; rfl
                   have cX : wr.cell? ⟨wB.heap.size, q, none⟩ = some (.int .u8 x) := by
                     rw [← hget]; exact rowB_cell G1.out q (by simp; omega)
                   have zX : wr.frozen? ⟨wB.heap.size, q, none⟩ = false := rowB_free G1.out q (by simp; omega)
                   have tX : wr.cell? (at1.add x.toNat) = some (.int .i64 (Aes.sb x)) := by
                     obtain ⟨a2, e, h⟩ := C_int_cell (Kd.C_below (Kd.C_below HR1.out HB.out) G2.out) x.toNat (by rw [Aes.subs_length]; have := bx.1; have := bx.2; omega)
                     injection e with e
                     subst e
                     rw [h, Aes.subs_at bx]
                   have by1 := Aes.sb_by bx
                   obtain ⟨y, hy⟩ : ∃ y, y = Aes.sb x := ⟨_, rfl⟩
                   rw [← hy] at tX by1
                   have TS := Aside0.mk (td_set Sw Wd (by omega) q (by omega))
                   have HYY : Aside0 (Sw.getD q 0 = y) := ⟨by rw [HSW.out q hlt4, ← hx, hy]⟩
                   have RS := fun v => Aside0.mk (rowB_set G1.out q (by simp; omega) v)
                   have HY8 : Aside0 (y % 256 = y) := ⟨by have := by1.1; have := by1.2; omega⟩
                   have p0 : 0 ≤ x := bx.1
                   have p1 : x < 256 := by have := bx.2; omega
                   have q0 : (0 : Int) ≤ (q : Int) := by omega
                   have q1 : (q : Int) < 4 := by omega
                   have hwq : wrap64 ((q : Int) + 1) = ((q + 1 : Nat) : Int) := by unfold wrap64; omega
                   clear hx hy bx by1 hget hlw hls
                   go_wp2
                   go_roundw
                   case rel =>
                     refine ⟨q + 1, by omega, by go_num, ⟨?_⟩, ⟨.inr trivial⟩, ⟨below_set G2.out (Nat.le_refl _)⟩⟩
                     rw [HY8.out, ← TS.out, HYY.out]
                     exact (RS y).out
                   case measure => simp [intOf]; omega
                 · have hdq : decide (q < 4) = false := decide_eq_false hlt4
                   have hdq2 : decide ((q : Int) < 4) = false := decide_eq_false (by omega)
                   have GF : Aside0 (rowB wr wB.heap.size (.slice (some ⟨wB.heap.size, 0, none⟩) 4 cK) Sw) := ⟨by
                     have := G1.out
                     have e : q = 4 := by omega
                     rw [e, List.take_of_length_le (by have := HSK.out.1; omega), List.drop_eq_nil_of_le (by have := HWOK.out.1; omega), List.append_nil] at this
                     exact this⟩
                   clear G1
                   go_wp2
                   go_meet
                   case rel => exact ⟨f, wB.heap.size, cK, Sw, rfl, rfl, HSK, ⟨by
                     have hm' : ¬ (n + j) % n = 0 := by rw [← HHI.out]; exact HM.out
                     have h84' : n = 8 ∧ (n + j) % n = 4 := by rw [← HHI.out]; exact H84.out
                     have hd' : n + j - 1 = i1 := by have := HHI.out; have := HI1.out; omega
                     simp only [Aes.kw, if_neg hm', if_pos h84']
                     rw [hd', ← HWD.out, ← HF.out, HSWE.out]⟩, GF, G2⟩
             · have HNX : Aside0 (Aes.kw K n (j + 1) = ((Aes.kw K n j).1 ++ [Aes.xor4 Wd ((Aes.kw K n j).1.getD j [])], f)) := ⟨by
                 have hm' : ¬ (n + j) % n = 0 := by rw [← HHI.out]; exact HM.out
                 have h84' : ¬ (n = 8 ∧ (n + j) % n = 4) := by rw [← HHI.out]; exact h84
                 have hd' : n + j - 1 = i1 := by have := HHI.out; have := HI1.out; omega
                 simp only [Aes.kw, if_neg hm', if_neg h84']
                 rw [hd', ← HWD.out, ← HF.out]⟩
               by_cases h8 : n = 8
               · have h4 : ¬ i % n = 4 := fun h => h84 ⟨h8, h⟩
                 have hb8 : ((n : Int) == 8) = true := by rw [beq_iff_eq]; omega
                 have hb4 : ((i : Int) % (n : Int) == 4) = false := by rw [beq_eq_false_iff_ne]; omega
                 clear h8 h4 hm h84 e1 e7 e8 hwn hq hq2 d1 d1q d1n d0 cA hd CT
                 go_wp2
                 go_meet
                 case rel => exact ⟨f, wB.heap.size, cK, Wd, rfl, rfl, HWOK, HNX, HRB, HBW⟩
               · have hb8 : ((n : Int) == 8) = false := by rw [beq_eq_false_iff_ne]; omega
                 clear h8 hm h84 e1 e7 e8 hwn hq hq2 d1 d1q d1n d0 cA hd CT
                 go_wp2
                 go_meet
                 case rel => exact ⟨f, wB.heap.size, cK, Wd, rfl, rfl, HWOK, HNX, HRB, HBW⟩
         case rest =>
           obtain ⟨f1, g, c, L1, rfl, rfl, HLK, HNX, HRW, HBC⟩ := hcut
           clear kc HRB
           obtain ⟨P, hP⟩ : ∃ P, P = (Aes.kw K n j).1.getD j [] := ⟨_, rfl⟩
           have hpok : Aes.wordOk P := by rw [hP]; exact Aes.getD_word (Aes.kw_ok HKO.out n j) j (by rw [Aes.kw_length]; have := HN48.out; omega)
           rw [← hP] at HNX
           obtain ⟨sJ, hsJ⟩ : ∃ s, s = L.getD j ⟨#[]⟩ := ⟨_, rfl⟩
           have hsW : sJ = strOfNums P := by
             rw [hsJ, HL.out, hP, List.getD_eq_getElem?_getD, List.getD_eq_getElem?_getD, List.getElem?_map, List.getElem?_eq_getElem (by rw [Aes.kw_length]; have := HN48.out; omega)]; rfl
           have HSJ : Aside0 (sJ.size = 4) := ⟨by rw [hsW, str_size, hpok.1]⟩
           have HSB : Aside0 (∀ q : Nat, q < 4 → bt sJ (q : Int) = P.getD q 0) := ⟨fun q hq => by
             rw [← bytesL_getD sJ q (by have := HSJ.out; omega), hsW, bytesL_str _ hpok.2]⟩
           have CJ : ∀ W, Below wB.heap.size wB W → W.cell? (ad.add j) = some (.string sJ) := fun W hW => by
             obtain ⟨a2, e, h⟩ := C_str_cell (Kd.C_below HCW.out hW) j (by have := HLL.out; have := HHI.out; have := HN48.out; omega)
             injection e with e
             subst e
             rw [h, hsJ]
           have HCJ := Aside0.mk CJ
           have HPOK := Aside0.mk hpok
           obtain ⟨X4, hX4⟩ : ∃ X, X = Aes.xor4 L1 P := ⟨_, rfl⟩
           have HXL : Aside0 (X4.length = 4) := ⟨by rw [hX4]; rfl⟩
           have HXK : Aside0 (Aes.wordOk X4) := ⟨by rw [hX4]; exact Aes.xor4_ok HLK.out.2 hpok.2⟩
           have HXA : Aside0 (∀ q, q < 4 → X4.getD q 0 = Go.bits .xor .u8 (L1.getD q 0) (P.getD q 0)) := ⟨fun q hq => by
             rw [hX4]
             match q, hq with
             | 0, _ => rfl
             | 1, _ => rfl
             | 2, _ => rfl
             | 3, _ => rfl⟩
           rw [← hX4] at HNX
           have hwj : wrap64 ((i : Int) - (n : Int)) = (j : Int) := by unfold wrap64; have := HHI.out; have := HLT.out; have := HLIM.out; have := HN48.out; omega
           have HWJ := Aside0.mk hwj
           clear hP hpok hsJ hsW CJ hX4 hwj e1 e7 e8 hwn hq hq2 d1 d1q d1n d0 cA hd hnz hnz1
           go_wp2_with fail
           go_loopw [12] (fun v wr => ∃ q : Nat, q ≤ 4 ∧ v = .int .i64 (q : Int) ∧ Aside0 (rowB wr wB.heap.size (.slice (some ⟨g, 0, none⟩) 4 c) (X4.take q ++ L1.drop q)) ∧ Aside0 (Below wB.heap.size wB wr)) (fun v _ => 4 - (intOf v).toNat)
           case atStart => exact ⟨0, by omega, rfl, ⟨by simpa using HRW.out⟩, HBC⟩
           case round =>
             clear HRW HBC
             obtain ⟨q, hq4, rfl, G1, G2⟩ := hrel
             by_cases hlt4 : q < 4
             · have hdq : decide (q < 4) = true := decide_eq_true hlt4
               have hlw := HLK.out.1
               have hls := HXL.out
               obtain ⟨x, hx⟩ : ∃ x, x = L1.getD q 0 := ⟨_, rfl⟩
               have hget : (X4.take q ++ L1.drop q).getD q 0 = x := by
                 rw [hx, List.getD_eq_getElem?_getD, td_at X4 L1 (by omega) q (by omega)]; rfl
               have cX : wr.cell? ⟨g, q, none⟩ = some (.int .u8 x) := by
                 rw [← hget]; exact rowB_cell G1.out q (by simp; omega)
               have zX : wr.frozen? ⟨g, q, none⟩ = false := rowB_free G1.out q (by simp; omega)
               have cS := HCJ.out wr G2.out
               have TS := Aside0.mk (td_set X4 L1 (by omega) q (by omega))
               have hbt := HSB.out q hlt4
               have HYY : Aside0 (X4.getD q 0 = Go.bits .xor .u8 x (bt sJ (q : Int))) := ⟨by rw [HXA.out q hlt4, ← hx, hbt]⟩
               have RS := fun v => Aside0.mk (rowB_set G1.out q (by simp; omega) v)
               have hx7 := bt_at sJ (q : Int)
               have hgb : wB.heap.size ≤ g := by
                 obtain ⟨g2, cap2, e, hg, _⟩ := G1.out
                 injection e with e1 e2 e3
                 injection e1 with e1
                 injection e1 with e1
                 omega
               have HGB := Aside0.mk hgb
               have hsz := HSJ.out
               have q0 : (0 : Int) ≤ (q : Int) := by omega
               have q1 : (q : Int) < 4 := by omega
               have q2 : q < 4 := hlt4
               have qs1 : ((q : Int) < (sJ.size : Int)) = True := eq_true (by omega)
               have qs2 : (q < sJ.size) = True := eq_true (by omega)
               have j0 : (0 : Int) ≤ (j : Int) := by omega
               have j1 : (j : Int) < (i : Int) := by have := HHI.out; have := HN48.out; omega
               have j2 : j < i := by have := HHI.out; have := HN48.out; omega
               have hwj := HWJ.out
               clear hx hget hlw hls hbt hgb hsz
               have hq4s : q < sJ.size := by have := HSJ.out; omega
               have ebt : (((sJ[q]'hq4s).toNat : Nat) : Int) = bt sJ (q : Int) := bt_at sJ (q : Int) hq4s
               have HEB := Aside0.mk ebt
               clear ebt
               go_wp2
               go_region
               rw [HEB.out]
               clear HEB qs1 qs2 hq4s hwj j0 j1 j2 hx7
               have hwq : wrap64 ((q : Int) + 1) = ((q + 1 : Nat) : Int) := by unfold wrap64; omega
               go_wp2
               go_roundw
               case rel =>
                 refine ⟨q + 1, by omega, by go_num, ⟨?_⟩, ⟨below_drew1 (below_set G2.out HGB.out)⟩⟩
                 rw [← TS.out, HYY.out]
                 exact (RS _).out
               case measure => simp [intOf]; omega
             · have hdq : decide (q < 4) = false := decide_eq_false hlt4
               have hdq2 : decide ((q : Int) < 4) = false := decide_eq_false (by omega)
               have GF : Aside0 (rowB wr wB.heap.size (.slice (some ⟨g, 0, none⟩) 4 c) X4) := ⟨by
                 have := G1.out
                 have e : q = 4 := by omega
                 rw [e, List.take_of_length_le (by have := HXL.out; omega), List.drop_eq_nil_of_le (by have := HLK.out.1; omega), List.append_nil] at this
                 exact this⟩
               have ks := Kd.C_string (P := Try.prog) (dst := 9) (src := 22) (c := c) Try.underlying22 Try.underlying5 Try.underlying9 (rowB_C (by have h := GF.out; rw [← HXL.out] at h; exact h) (by rw [HXL.out]; decide))
               rw [HXL.out] at ks
               obtain ⟨sN, hsN⟩ : ∃ s, s = strOfNums X4 := ⟨_, rfl⟩
               rw [← hsN] at ks
               have HSN := Aside0.mk hsN
               clear G1 hsN hlt4 hq4
               go_wp2_with ((with_reducible refine gate_builtin (b := .append) (xs := #[.tmp 127, .tmp 130]) rfl ?_); at_builtin; refine Kd.R_append Kd.string (w0 := w0) w0.heap.size rfl (.tmp 127) (.tmp 130) 82 9 (.string ⟨#[]⟩) 16 rfl Try.underlying82 info9 rfl (by decide) (by omega) (.slice (some ad) i cw) L sN [.string sN] (fun _ => True) (fun _ => False) rfl rfl ?aP (fun _ hk => hk.elim) ?aF ?aO ?aB ?aS ?aL ?_; (case aP => exact rfl); (case aB => exact HB.out.trans (G2.out.mono HB.out.size)); (case aF => exact (fun _ _ => trivial)); (case aO => exact Kd.R_below HO.out G2.out); (case aS => exact Nat.le_trans HB.out.size G2.out.size); (case aL => have := HLL.out; have := HLT.out; have := HLIM.out; have := HN48.out; omega); intro v2 w2 ho2 hb2 hg hat; have HO2 := Aside0.mk ho2; have HB2 := Aside0.mk hb2; clear ho2 hb2 hg hat)
               clear ks
               have hw : wrap64 ((i : Int) + 1) = ((i + 1 : Nat) : Int) := by have := HLT.out; have := HLIM.out; have := HN48.out; unfold wrap64; omega
               rw [hw]
               clear hw
               go_roundw
               case rel => exact ⟨j + 1, f1, i + 1, rfl, rfl, by have := HHI.out; omega, by have := HLT.out; omega, by rw [HNX.out], ⟨by rw [HNX.out, List.map_append, ← HL.out]; have := HO2.out; rw [HSN.out] at this; exact this⟩, HB2⟩
               case measure => simp [intOf]; have := HLT.out; have := HLIM.out; have := HN48.out; omega
       · have hd : decide (i < lim) = false := decide_eq_false hlt
         obtain ⟨L, hL⟩ : ∃ L, L = Aes.allWords K := ⟨_, rfl⟩
         have hnn : K.length / 4 = n := by have := HKL.out; omega
         have hLK : (Aes.kw K n j).1 = L := by
           rw [hL, Aes.allWords, hnn]
           congr 2
           have := HLIM.out; omega
         have hLok : ∀ w ∈ L, Aes.wordOk w := by rw [hL, Aes.allWords]; exact Aes.kw_ok HKO.out _ _
         have hLlen : L.length = lim := by rw [hL, Aes.allWords_length, hnn]; have := HLIM.out; omega
         have HKEYS : Aside0 (Aes.keysL K = (List.range (n + 7)).map (Aes.fourOf L)) := ⟨by rw [Aes.keysL, hnn, hL]⟩
         have HO1 := HO.out
         rw [hLK] at HO1
         obtain ⟨Aw, cw, hv, hcw, HCw⟩ := Kd.R_reads HO1
         rw [List.length_map, hLlen] at hv hcw HCw
         subst hv
         have HLOK := Aside0.mk hLok
         have HLLEN := Aside0.mk hLlen
         have HCW := Aside0.mk HCw
         clear hf hi hil hlt hL hnn hLK hLok hLlen HO1 HCw hcw HO
         go_wp2_with ((with_reducible refine gate_dst (N := 132) rfl ?_); refine Kd.R_lit Kd.string _ 9 ?hg (N := 132) ?hd (xs := ([] : List ByteArray)) (inner := []) (ok := fun _ => True) (okp := fun _ => True) ?hr ?hp (fun _ hk => hk) trivial (Below.refl _ _) (Nat.le_refl _) (by simp) ?_; (case hd => rfl); (case hg => rfl); (case hr => first | (go_simp; done) | (go_simp; rfl)); (case hp => exact (Reps.none _ _)); intro v1 w1 ho1 hb hg_ hnew_; clear hg_ hnew_; have HO := Aside0.mk ho1; have HB1 := Aside0.mk hb; clear ho1 hb)
         go_loopw [13, 14] (fun vo vi wr => ∃ (k p : Nat), vi = .int .i64 (p : Int) ∧ p = 4 * k ∧ k ≤ n + 7 ∧ Aside0 (Kd.R Kd.string 9 wr wB.heap.size (fun _ => True) vo (((List.range k).map (Aes.fourOf L)).map strOfNums)) ∧ Aside0 (Below wB.heap.size wB wr)) (fun _ i _ => lim - (intOf i).toNat)
         case atStart => exact ⟨0, 0, rfl, rfl, Nat.zero_le _, HO, HB1⟩
         case round =>
           clear HO HB1
           obtain ⟨k, p, rfl, hp, hk, HO, HBO⟩ := hrel
           by_cases hlt : p < lim
           · have hd : decide (p < lim) = true := decide_eq_true hlt
             have hkn : k < n + 7 := by have := HLIM.out; omega
             have hp3 : p + 3 < lim := by have := HLIM.out; omega
             obtain ⟨p1, hp1⟩ : ∃ q, q = p + 1 := ⟨_, rfl⟩
             obtain ⟨p2, hp2⟩ : ∃ q, q = p + 2 := ⟨_, rfl⟩
             obtain ⟨p3, hp3'⟩ : ∃ q, q = p + 3 := ⟨_, rfl⟩
             have hl60 : lim ≤ 60 := by have := HLIM.out; have := HN48.out; omega
             have CS : ∀ q, q < lim → ∃ s, wr.cell? ((Aw.getD ⟨0, 0, none⟩).add q) = some (.string s) ∧ s = strOfNums (L.getD q []) ∧ s.size = 4 := fun q hq => by
               obtain ⟨a2, e, h⟩ := C_str_cell (Kd.C_below HCW.out HBO.out) q (by rw [List.length_map, HLLEN.out]; exact hq)
               refine ⟨_, by rw [e]; exact h, ?_, ?_⟩
               · rw [List.getD_eq_getElem?_getD, List.getElem?_map, List.getElem?_eq_getElem (by rw [HLLEN.out]; exact hq), List.getD_eq_getElem?_getD, List.getElem?_eq_getElem (by rw [HLLEN.out]; exact hq)]; rfl
               · rw [List.getD_eq_getElem?_getD, List.getElem?_map, List.getElem?_eq_getElem (by rw [HLLEN.out]; exact hq)]
                 show (strOfNums _).size = 4
                 rw [str_size]
                 exact (HLOK.out _ (List.getElem_mem _)).1
             obtain ⟨aw, rfl⟩ : ∃ ad, Aw = some ad := by obtain ⟨ad, e, _⟩ := HCW.out.2.2 (by omega); exact ⟨ad, e⟩
             obtain ⟨s0, c0, h0, z0⟩ := CS p (by omega)
             obtain ⟨s1, c1, h1, z1⟩ := CS p1 (by omega)
             obtain ⟨s2, c2, h2, z2⟩ := CS p2 (by omega)
             obtain ⟨s3, c3, h3, z3⟩ := CS p3 (by omega)
             have c0 : wr.cell? (aw.add p) = some (.string s0) := c0
             have c1 : wr.cell? (aw.add p1) = some (.string s1) := c1
             have c2 : wr.cell? (aw.add p2) = some (.string s2) := c2
             have c3 : wr.cell? (aw.add p3) = some (.string s3) := c3
             have HF4 : Aside0 (((s0 ++ s1) ++ s2) ++ s3 = strOfNums (Aes.fourOf L k)) := ⟨by
               rw [h0, h1, h2, h3, strOfNums_append, strOfNums_append, strOfNums_append, hp1, hp2, hp3', hp]; rfl⟩
             have e1 : wrap64 ((p : Int) + 1) = (p1 : Int) := by unfold wrap64; omega
             have e2 : wrap64 ((p : Int) + 2) = (p2 : Int) := by unfold wrap64; omega
             have e3 : wrap64 ((p : Int) + 3) = (p3 : Int) := by unfold wrap64; omega
             have g0 : (0 : Int) ≤ (p : Int) := by omega
             have g1 : (0 : Int) ≤ (p1 : Int) := by omega
             have g2 : (0 : Int) ≤ (p2 : Int) := by omega
             have g3 : (0 : Int) ≤ (p3 : Int) := by omega
             have f0 : p < lim := by omega
             have f1 : p1 < lim := by omega
             have f2 : p2 < lim := by omega
             have f3 : p3 < lim := by omega
             have a1 : s0.size + s1.size ≤ 9223372036854775807 := by omega
             have a2 : (s0 ++ s1).size + s2.size ≤ 9223372036854775807 := by rw [ByteArray.size_append]; omega
             have a3 : ((s0 ++ s1) ++ s2).size + s3.size ≤ 9223372036854775807 := by rw [ByteArray.size_append, ByteArray.size_append]; omega
             have A1t := eq_true a1
             have A1n : (9223372036854775807 < s0.size + s1.size) = False := eq_false (Nat.not_lt.2 a1)
             have A2t := eq_true a2
             have A2n : (9223372036854775807 < s0.size + s1.size + s2.size) = False := eq_false (by omega)
             have A3t := eq_true a3
             have A3n : (9223372036854775807 < s0.size + s1.size + s2.size + s3.size) = False := eq_false (by omega)
             have HP := Aside0.mk hp
             have HKN := Aside0.mk hkn
             have HL60 := Aside0.mk hl60
             have HLTP := Aside0.mk hlt
             have HOD := Aside0.mk (Kd.R_drew HO.out)
             have HBD := Aside0.mk (below_drew1 HBO.out)
             clear hp1 hp2 hp3' hp3 hp hk hkn hl60 hlt h0 h1 h2 h3 z0 z1 z2 z3 CS a1 a2 a3
             go_wp2
             refine start_ (n := 26) (S := fun w' => w'.cell? (aw.add p) = some (.string s0) ∧ w'.cell? (aw.add p1) = some (.string s1) ∧ w'.cell? (aw.add p2) = some (.string s2) ∧ w'.cell? (aw.add p3) = some (.string s3)) (ds := [24]) #[false, false, false, false, false, false, false, false, false, false, false, false, false, false, false, false, false, false, false, false, false, false, false, false, false, false] (by kernel_rfl) rfl rfl ⟨(show wr.drew.cell? (aw.add p) = some (.string s0) from c0), (show wr.drew.cell? (aw.add p1) = some (.string s1) from c1), (show wr.drew.cell? (aw.add p2) = some (.string s2) from c2), (show wr.drew.cell? (aw.add p3) = some (.string s3) from c3)⟩ (fun hHeld => ?_)
             refine with_tabW skeys_tab29 skeys_bits29 (fun HT_ HW_ => ?_)
             generalize wr.drew = wD at hHeld HOD HBD ⊢
             refine pure_ (i := 0) (N := some 139) (v := ?_) (a' := ?_) #[true, false, false, false, false, false, false, false, false, false, false, false, false, false, false, false, false, false, false, false, false, false, false, false, false, false] rfl rfl (any_of HT_.out (by kernel_rfl)) (fun _ _ _ h => h) (Or.inl ⟨by rfl, ?_⟩) ?_ ?_
             rotate_left
             · intro w'
               go_simp
               with_reducible rfl
             rotate_left
             · simp only [Act.put, sA_, s0_, s1_, i64_w, i32_w]
               rfl
             refine pure_ (i := 1) (N := some 140) (v := ?_) (a' := ?_) #[true, true, false, false, false, false, false, false, false, false, false, false, false, false, false, false, false, false, false, false, false, false, false, false, false, false] rfl rfl (any_of HT_.out (by kernel_rfl)) (fun _ _ _ h => h) (Or.inl ⟨by rfl, ?_⟩) ?_ ?_
             rotate_left
             · intro w'
               go_simp
               with_reducible rfl
             rotate_left
             · simp only [Act.put, sA_, s0_, s1_, i64_w, i32_w]
               rfl
             refine pure_ (i := 2) (N := some 141) (v := ?_) (a' := ?_) #[true, true, true, false, false, false, false, false, false, false, false, false, false, false, false, false, false, false, false, false, false, false, false, false, false, false] rfl rfl (any_of HT_.out (by kernel_rfl)) (fun _ _ _ h => h) (Or.inl ⟨by rfl, ?_⟩) ?_ ?_
             rotate_left
             · intro w'
               go_simp
               with_reducible rfl
             rotate_left
             · simp only [Act.put, sA_, s0_, s1_, i64_w, i32_w]
               rfl
             refine pure_ (i := 3) (N := some 142) (v := ?_) (a' := ?_) #[true, true, true, true, false, false, false, false, false, false, false, false, false, false, false, false, false, false, false, false, false, false, false, false, false, false] rfl rfl (any_of HT_.out (by kernel_rfl)) (fun _ _ _ h => h) (Or.inl ⟨by rfl, ?_⟩) ?_ ?_
             rotate_left
             · intro w'
               go_simp
               with_reducible rfl
             rotate_left
             · simp only [Act.put, sA_, s0_, s1_, i64_w, i32_w]
               rfl
             refine pure_ (i := 5) (N := some 144) (v := ?_) (a' := ?_) #[true, true, true, true, false, true, false, false, false, false, false, false, false, false, false, false, false, false, false, false, false, false, false, false, false, false] rfl rfl (any_of HT_.out (by kernel_rfl)) (fun _ _ _ h => h) (Or.inl ⟨by rfl, ?_⟩) ?_ ?_
             rotate_left
             · intro w'
               go_simp
               with_reducible rfl
             rotate_left
             · simp only [Act.put, sA_, s0_, s1_, i64_w, i32_w]
               rfl
             refine pure_ (i := 6) (N := some 145) (v := ?_) (a' := ?_) #[true, true, true, true, false, true, true, false, false, false, false, false, false, false, false, false, false, false, false, false, false, false, false, false, false, false] rfl rfl (any_of HT_.out (by kernel_rfl)) (fun _ _ _ h => h) (Or.inl ⟨by rfl, ?_⟩) ?_ ?_
             rotate_left
             · intro w'
               go_simp
               with_reducible rfl
             rotate_left
             · simp only [Act.put, sA_, s0_, s1_, i64_w, i32_w]
               rfl
             refine pure_ (i := 7) (N := some 146) (v := ?_) (a' := ?_) #[true, true, true, true, false, true, true, true, false, false, false, false, false, false, false, false, false, false, false, false, false, false, false, false, false, false] rfl rfl (any_of HT_.out (by kernel_rfl)) (fun _ _ _ h => h) (Or.inl ⟨by rfl, ?_⟩) ?_ ?_
             rotate_left
             · intro w'
               go_simp
               with_reducible rfl
             rotate_left
             · simp only [Act.put, sA_, s0_, s1_, i64_w, i32_w]
               rfl
             refine pure_ (i := 8) (N := some 147) (v := ?_) (a' := ?_) #[true, true, true, true, false, true, true, true, true, false, false, false, false, false, false, false, false, false, false, false, false, false, false, false, false, false] rfl rfl (any_of HT_.out (by kernel_rfl)) (fun _ _ _ h => h) (Or.inl ⟨by rfl, ?_⟩) ?_ ?_
             rotate_left
             · intro w'
               go_simp
               with_reducible rfl
             rotate_left
             · simp only [Act.put, sA_, s0_, s1_, i64_w, i32_w]
               rfl
             refine pure_ (i := 11) (N := some 150) (v := ?_) (a' := ?_) #[true, true, true, true, false, true, true, true, true, false, false, true, false, false, false, false, false, false, false, false, false, false, false, false, false, false] rfl rfl (any_of HT_.out (by kernel_rfl)) (fun _ _ _ h => h) (Or.inl ⟨by rfl, ?_⟩) ?_ ?_
             rotate_left
             · intro w'
               go_simp
               with_reducible rfl
             rotate_left
             · simp only [Act.put, sA_, s0_, s1_, i64_w, i32_w]
               rfl
             refine pure_ (i := 12) (N := some 151) (v := ?_) (a' := ?_) #[true, true, true, true, false, true, true, true, true, false, false, true, true, false, false, false, false, false, false, false, false, false, false, false, false, false] rfl rfl (any_of HT_.out (by kernel_rfl)) (fun _ _ _ h => h) (Or.inl ⟨by rfl, ?_⟩) ?_ ?_
             rotate_left
             · intro w'
               go_simp
               with_reducible rfl
             rotate_left
             · simp only [Act.put, sA_, s0_, s1_, i64_w, i32_w]
               rfl
             refine pure_ (i := 13) (N := some 152) (v := ?_) (a' := ?_) #[true, true, true, true, false, true, true, true, true, false, false, true, true, true, false, false, false, false, false, false, false, false, false, false, false, false] rfl rfl (any_of HT_.out (by kernel_rfl)) (fun _ _ _ h => h) (Or.inl ⟨by rfl, ?_⟩) ?_ ?_
             rotate_left
             · intro w'
               go_simp
               with_reducible rfl
             rotate_left
             · simp only [Act.put, sA_, s0_, s1_, i64_w, i32_w]
               rfl
             refine pure_ (i := 14) (N := some 153) (v := ?_) (a' := ?_) #[true, true, true, true, false, true, true, true, true, false, false, true, true, true, true, false, false, false, false, false, false, false, false, false, false, false] rfl rfl (any_of HT_.out (by kernel_rfl)) (fun _ _ _ h => h) (Or.inl ⟨by rfl, ?_⟩) ?_ ?_
             rotate_left
             · intro w'
               go_simp
               with_reducible rfl
             rotate_left
             · simp only [Act.put, sA_, s0_, s1_, i64_w, i32_w]
               rfl
             refine pure_ (i := 17) (N := some 156) (v := ?_) (a' := ?_) #[true, true, true, true, false, true, true, true, true, false, false, true, true, true, true, false, false, true, false, false, false, false, false, false, false, false] rfl rfl (any_of HT_.out (by kernel_rfl)) (fun _ _ _ h => h) (Or.inl ⟨by rfl, ?_⟩) ?_ ?_
             rotate_left
             · intro w'
               go_simp
               with_reducible rfl
             rotate_left
             · simp only [Act.put, sA_, s0_, s1_, i64_w, i32_w]
               rfl
             refine pure_ (i := 18) (N := some 157) (v := ?_) (a' := ?_) #[true, true, true, true, false, true, true, true, true, false, false, true, true, true, true, false, false, true, true, false, false, false, false, false, false, false] rfl rfl (any_of HT_.out (by kernel_rfl)) (fun _ _ _ h => h) (Or.inl ⟨by rfl, ?_⟩) ?_ ?_
             rotate_left
             · intro w'
               go_simp
               with_reducible rfl
             rotate_left
             · simp only [Act.put, sA_, s0_, s1_, i64_w, i32_w]
               rfl
             refine pure_ (i := 19) (N := some 158) (v := ?_) (a' := ?_) #[true, true, true, true, false, true, true, true, true, false, false, true, true, true, true, false, false, true, true, true, false, false, false, false, false, false] rfl rfl (any_of HT_.out (by kernel_rfl)) (fun _ _ _ h => h) (Or.inl ⟨by rfl, ?_⟩) ?_ ?_
             rotate_left
             · intro w'
               go_simp
               with_reducible rfl
             rotate_left
             · simp only [Act.put, sA_, s0_, s1_, i64_w, i32_w]
               rfl
             refine pure_ (i := 20) (N := some 159) (v := ?_) (a' := ?_) #[true, true, true, true, false, true, true, true, true, false, false, true, true, true, true, false, false, true, true, true, true, false, false, false, false, false] rfl rfl (any_of HT_.out (by kernel_rfl)) (fun _ _ _ h => h) (Or.inl ⟨by rfl, ?_⟩) ?_ ?_
             rotate_left
             · intro w'
               go_simp
               with_reducible rfl
             rotate_left
             · simp only [Act.put, sA_, s0_, s1_, i64_w, i32_w]
               rfl
             refine take_ (i := 4) (N := some 143) (v := ?_) (a' := ?_) #[true, true, true, true, true, true, true, true, true, false, false, true, true, true, true, false, false, true, true, true, true, false, false, false, false, false] rfl rfl (take_ofW HT_.out HW_.out (by kernel_rfl)) (fun _ _ _ h => h) (Or.inl ⟨by rfl, ?_⟩) hHeld ?_ ?_
             rotate_left
             · rintro w' ⟨s0, s1, s2, s3⟩
               go_simp
               with_reducible rfl
             rotate_left
             · simp only [Act.put, sA_, s0_, s1_, i64_w, i32_w]
               rfl
             refine take_ (i := 9) (N := some 148) (v := ?_) (a' := ?_) #[true, true, true, true, true, true, true, true, true, true, false, true, true, true, true, false, false, true, true, true, true, false, false, false, false, false] rfl rfl (take_ofW HT_.out HW_.out (by kernel_rfl)) (fun _ _ _ h => h) (Or.inl ⟨by rfl, ?_⟩) hHeld ?_ ?_
             rotate_left
             · rintro w' ⟨s0, s1, s2, s3⟩
               go_simp
               with_reducible rfl
             rotate_left
             · simp only [Act.put, sA_, s0_, s1_, i64_w, i32_w]
               rfl
             refine pure_ (i := 10) (N := some 149) (v := ?_) (a' := ?_) #[true, true, true, true, true, true, true, true, true, true, true, true, true, true, true, false, false, true, true, true, true, false, false, false, false, false] rfl rfl (any_of HT_.out (by kernel_rfl)) (fun _ _ _ h => h) (Or.inl ⟨by rfl, ?_⟩) ?_ ?_
             rotate_left
             · intro w'
               go_simp
               with_reducible rfl
             rotate_left
             · simp only [Act.put, sA_, s0_, s1_, i64_w, i32_w]
               rfl
             refine take_ (i := 15) (N := some 154) (v := ?_) (a' := ?_) #[true, true, true, true, true, true, true, true, true, true, true, true, true, true, true, true, false, true, true, true, true, false, false, false, false, false] rfl rfl (take_ofW HT_.out HW_.out (by kernel_rfl)) (fun _ _ _ h => h) (Or.inl ⟨by rfl, ?_⟩) hHeld ?_ ?_
             rotate_left
             · rintro w' ⟨s0, s1, s2, s3⟩
               go_simp
               with_reducible rfl
             rotate_left
             · simp only [Act.put, sA_, s0_, s1_, i64_w, i32_w]
               rfl
             refine pure_ (i := 16) (N := some 155) (v := ?_) (a' := ?_) #[true, true, true, true, true, true, true, true, true, true, true, true, true, true, true, true, true, true, true, true, true, false, false, false, false, false] rfl rfl (any_of HT_.out (by kernel_rfl)) (fun _ _ _ h => h) (Or.inl ⟨by rfl, ?_⟩) ?_ ?_
             rotate_left
             · intro w'
               go_simp
               with_reducible rfl
             rotate_left
             · simp only [Act.put, sA_, s0_, s1_, i64_w, i32_w]
               rfl
             refine take_ (i := 21) (N := some 160) (v := ?_) (a' := ?_) #[true, true, true, true, true, true, true, true, true, true, true, true, true, true, true, true, true, true, true, true, true, true, false, false, false, false] rfl rfl (take_ofW HT_.out HW_.out (by kernel_rfl)) (fun _ _ _ h => h) (Or.inl ⟨by rfl, ?_⟩) hHeld ?_ ?_
             rotate_left
             · rintro w' ⟨s0, s1, s2, s3⟩
               go_simp
               with_reducible rfl
             rotate_left
             · simp only [Act.put, sA_, s0_, s1_, i64_w, i32_w]
               rfl
             refine pure_ (i := 22) (N := some 161) (v := ?_) (a' := ?_) #[true, true, true, true, true, true, true, true, true, true, true, true, true, true, true, true, true, true, true, true, true, true, true, false, false, false] rfl rfl (any_of HT_.out (by kernel_rfl)) (fun _ _ _ h => h) (Or.inl ⟨by rfl, ?_⟩) ?_ ?_
             rotate_left
             · intro w'
               go_simp
               with_reducible rfl
             rotate_left
             · simp only [Act.put, sA_, s0_, s1_, i64_w, i32_w]
               rfl
             refine one_ (i := 23) (N := some 162) #[true, true, true, true, true, true, true, true, true, true, true, true, true, true, true, true, true, true, true, true, true, true, true, true, false, false] rfl rfl (one_of HT_.out (by kernel_rfl)) (by decide) (fun K hK => ?_)
             go_simp
             refine hK.out _ _ ⟨cell_alloc_keep hHeld.1 _, cell_alloc_keep hHeld.2.1 _, cell_alloc_keep hHeld.2.2.1 _, cell_alloc_keep hHeld.2.2.2 _⟩ (fun hHeld => ?_)
             clear hK K
             refine last_ (i := 24) (N := some 163) #[true, true, true, true, true, true, true, true, true, true, true, true, true, true, true, true, true, true, true, true, true, true, true, true, true, false] rfl rfl (one_of HT_.out (by kernel_rfl)) (by decide) (fun K hK => ?_)
             refine Kd.R_append_step Kd.string (w0 := wB) wB.heap.size (by rfl) (.tmp 139) (.tmp 162) 82 9 (.string ⟨#[]⟩) 16 (by rfl) Try.underlying82 info9 rfl (by decide) (by omega) u13 (((List.range k).map (Aes.fourOf L)).map strOfNums) (((s0 ++ s1) ++ s2) ++ s3) [.string (((s0 ++ s1) ++ s2) ++ s3)] (fun _ => True) (fun _ => False) (by rfl) (by rfl) rfl (fun _ hk => hk.elim) (fun _ _ => trivial) HOD.out HBD.out HBD.out.size (by have := HKN.out; have := HN48.out; simp; omega) ?_
             intro v2 w2 ho2 hb2 hg hat
             refine hK.out _ _ ?_
             clear hK K
             refine norm_ (a' := ?_) ?_ ?_
             rotate_left
             · show Act.put _ (some 163) _ = _
               simp only [Act.put, sA_, s0_, s1_, i64_w, i32_w]
               rfl
             refine pure_ (i := 25) (N := some 13) (v := ?_) (a' := ?_) #[true, true, true, true, true, true, true, true, true, true, true, true, true, true, true, true, true, true, true, true, true, true, true, true, true, true] rfl rfl (any_of HT_.out (by kernel_rfl)) (fun _ _ _ h => h) (Or.inl ⟨by rfl, ?_⟩) ?_ ?_
             rotate_left
             · intro w'
               go_simp
               with_reducible rfl
             rotate_left
             · simp only [Act.put, sA_, s0_, s1_, i64_w, i32_w]
               rfl
             refine done_ (done_of HT_.out (by kernel_rfl)) ?_
             clear A1t A1n A2t A2n A3t A3n e1 e2 e3 g0 g1 g2 g3 f0 f1 f2 f3 hHeld
             go_wp2
             have hw : wrap64 ((p : Int) + 4) = ((p + 4 : Nat) : Int) := by have := HLTP.out; have := HL60.out; unfold wrap64; omega
             rw [hw]
             clear hw
             go_roundw
             case rel => exact ⟨k + 1, p + 4, rfl, by have := HP.out; omega, HKN.out, ⟨by rw [List.range_succ, List.map_append, List.map_append]; rw [HF4.out] at ho2; exact ho2⟩, ⟨hb2⟩⟩
             case measure => simp [intOf]; have := HLTP.out; omega
           · have hd : decide (p < lim) = false := decide_eq_false hlt
             have HFI : Aside0 (((List.range k).map (Aes.fourOf L)).map strOfNums = (Aes.keysL K).map strOfNums) := ⟨by
               rw [HKEYS.out]
               congr 3
               have := HLIM.out; omega⟩
             clear hp hk hlt
             go_wp2
             go_ret
             exact ⟨_, rfl, by rw [← HFI.out]; exact Kd.R_lower HO.out HB.out.size, HB.out.trans (HBO.out.mono HB.out.size)⟩
theorem spec_l01Keys.calls (s0 : ByteArray) (A1 : Option Addr) (c1 : Nat) (l1 : List Int) (r : List ByteArray) (w : World) (hr1 : Kd.C (Kd.int .i64) w A1 l1.length l1) (hc1 : l1.length ≤ c1) (h : spec_l01Keys.f s0 l1 = some r) :
   Calls Try.prog 95 #[.string s0, .slice A1 l1.length c1] w fun e w' => ∃ v0_ : Value, e = .returned (v0_) ∧ Kd.R Kd.string 9 w' w.heap.size (fun _ => True) v0_ r ∧ Below w.heap.size w w' := by
 unfold spec_l01Keys.f at h
 split at h
 · rename_i h1
   obtain ⟨rfl, hs⟩ := h1
   injection h with h
   subst h
   rw [Aes.subs_length] at hr1 hc1 ⊢
   rcases hs with hs | hs
   · exact spec_l01Keys_in s0 4 A1 c1 w hr1 hc1 (.inl rfl) hs
   · exact spec_l01Keys_in s0 8 A1 c1 w hr1 hc1 (.inr rfl) hs
 · cases h
end Go.Proofs.Ytlfpogbonmddmaa.P

/- Laid by a program of this session: of PhkdfwH, WSized what this law uses. -/
import Derived.Test.YtlfpogbonmddmaaZHkPh1
import Derived.Test.YtlfpogbonmddmaaZHkPh3
import Derived.Test.YtlfpogbonmddmaaZHkPh2
import Derived.Test.YtlfpogbonmddmaaZHkPh4
import Derived.Test.YtlfpogbonmddmaaZHkPh5
import Derived.Test.YtlfpogbonmddmaaZHkM15
import Derived.Test.YtlfpogbonmddmaaZHkWLast
import Derived.Lib.SlBytesConst
import Derived.Test.YtlfpogbonmddmaaZHkWMore
import Derived.RegionTactic
import Derived.BigRegion
import Derived.SizedLaws
import Derived.ChangeSlices
namespace Go.Proofs.Ytlfpogbonmddmaa.Pg
open Go.RowKit Go.Proofs.Ytlfpogbonmddmaa.P Go.Proofs.YtlfpogbonmddmaaW.PrintWords Go.Proofs.YtlfpogbonmddmaaW.PrintLast Go.Proofs.YtlfpogbonmddmaaW.PrintMore
set_option linter.unusedVariables false
set_option linter.unusedSimpArgs false
def hkI : List Int := [105, 110, 102, 111]
theorem hkI_ok : u8ok hkI := fun x hx => by simp only [hkI, List.mem_cons, List.not_mem_nil, or_false] at hx; omega
theorem hk_expand (K : List Int) (n m : Nat) (h : n ≤ m) : (Sha.expandL K hkI m).take n = Sha.expandL K hkI n := by
  rw [exp_take K hkI m (m / 32 + 1) (by omega) (by omega), exp_take K hkI n (n / 32 + 1) (by omega) (by omega)]
  obtain ⟨r, hr⟩ := exp_more K hkI (n / 32 + 1) (m / 32 - n / 32)
  rw [show n / 32 + 1 + (m / 32 - n / 32) = m / 32 + 1 from by omega] at hr
  rw [hr, List.take_take, Nat.min_eq_left h, List.take_append_of_le_length (by rw [exp_len]; omega)]
theorem hk_expand_len (K : List Int) (n : Nat) : (Sha.expandL K hkI n).length = n := by
  rw [exp_take K hkI n (n / 32 + 1) (by omega) (by omega), List.length_take, exp_len]; omega
theorem hk_x (k : Nat) (K : List Int) (n : Nat) (uK : u8ok K) (lK : K.length = 32) (hn : n ≤ 100) : impl_HkdfExpand.f (k + 265) (strOfNums K) hkI (n : Int) = some (strOfNums (Sha.expandL K hkI n), 0) := by
  have hz : (strOfNums K).size = 32 := by rw [size_strOfNums, lK]
  have hi : hkI.length = 4 := rfl
  have e2 := expand_eq k K hkI n uK (by omega) hkI_ok (by decide) (by omega)
  unfold impl_HkdfExpand.f impl_isLong_string.f impl_isLong_byte.f
  simp only [impl_HkdfExpand.j0]
  unfold impl_within.f
  rw [Option.bind_some, if_neg (by simp [hz]), Option.bind_some, if_neg (by simp [hi]), if_pos (by omega), Option.bind_some, if_pos (by simp; omega), e2, Option.bind_some]
theorem hk_sum (n d m : Nat) (h : m = n + d) (hb : m ≤ 100000) : wrap64 ((n : Int) + (d : Int)) = (m : Int) := by unfold wrap64; omega
theorem hk_vals (S E : List Int) (n m : Nat) (uS : u8ok S) (uE : u8ok E) (bS : S.length ≤ 40) (bE : E.length ≤ 40) (hn : n ≤ 100) (hm : n ≤ m) (hm2 : m ≤ 160) :
    ∃ (a b key h t : ByteArray), impl_Hkdf.f 1000 S E hkI (n : Int) = some (a, 0) ∧ impl_Hkdf.f 1000 S E hkI (m : Int) = some (b, 0) ∧ spec_Hkdf.f 1000 S E hkI (n : Int) = some (a, 0) ∧
      impl_HkdfExtract.f 1000 S E = some (key, 0) ∧ impl_HkdfExpand.f 1000 key hkI (n : Int) = some (a, 0) ∧ impl_Hash.f S = some h ∧ spec_Hash.f S = some h ∧ impl_HexText.f h = some (t, 0) ∧ spec_HexText.f 100000 h = some (t, 0) ∧
      impl_Hmac.f 1000 S E = some (key, 0) ∧ b.size = m ∧ b.extract 0 n = a := by
  have q1 := Hkdf_in 735 S E hkI n uS uE hkI_ok (by omega) (by omega) (by decide) (by omega)
  have q2 := Hkdf_in 735 S E hkI m uS uE hkI_ok (by omega) (by omega) (by decide) (by omega)
  have hK : u8ok (Sha.hmacL S E) := u8ok_hmacL _ _
  have hKl := hmacL_length S E
  have e3 := hmac_eq 999 S E uS (by omega) uE (by omega)
  have hmc : impl_Hmac.f 1000 S E = some (strOfNums (Sha.hmacL S E), 0) := by
    unfold impl_Hmac.f impl_isLong_byte.f
    rw [Option.bind_some, if_neg (by simp; omega), e3, Option.bind_some]
  have hz : (strOfNums (Sha.shaL S)).size = 32 := by rw [size_strOfNums, shaL_length]
  refine ⟨strOfNums (Sha.expandL (Sha.hmacL S E) hkI n), strOfNums (Sha.expandL (Sha.hmacL S E) hkI m), strOfNums (Sha.hmacL S E), strOfNums (Sha.shaL S), strOfNums (hexTo (strOfNums (Sha.shaL S)) 32), q1.2, q2.2, q1.1, ?_, ?_, ?_, ?_, ?_, ?_, hmc, ?_, ?_⟩
  · unfold impl_HkdfExtract.f
    rw [hmc, Option.bind_some]
  · exact hk_x 735 _ n hK hKl hn
  · unfold impl_Hash.f impl_isLong_byte.f
    rw [Option.bind_some, if_neg (by simp; omega), hash_strOfNums S uS (by omega), Option.bind_some]
  · unfold spec_Hash.f
    rw [if_neg (by omega)]
    unfold spec_l03Hash.f
    rw [if_pos (u8b_of uS), if_pos (by omega), Option.bind_some]
  · rw [impl_hex, hexAns, if_neg (by omega), hz]
  · rw [spec_hex _ _ (by decide), hexAns, if_neg (by omega), hz]
  · rw [size_strOfNums, hk_expand_len]
  · rw [str_extract, hk_expand _ _ _ hm]
theorem blk_newF (w : World) (c : Array Value) (t : TypeId) (f : Nat × Nat) : (w.alloc (.cells c t f)).heap[w.heap.size]? = some (.cells c t f) := by
  show (w.heap.push (.cells c t f))[w.heap.size]? = _
  simp
theorem info_C (w : World) : Kd.C (Kd.int .u8) (w.alloc (.cells #[.int .u8 105, .int .u8 110, .int .u8 102, .int .u8 111] 5 (4, 5))) (some ⟨w.heap.size, 0, none⟩) 4 hkI :=
  C_row_int (k := .u8) (l := hkI) (blk_newF w _ _ _) (by decide)
set_option maxHeartbeats 8000000 in
set_option maxRecDepth 100000 in
theorem hkdf_in (A0 : Option Addr) (c0 : Nat) (l0 : List Int) (A1 : Option Addr) (c1 : Nat) (l1 : List Int) (w : World) (hr0 : Kd.C (Kd.int .u8) w A0 l0.length l0) (hc0 : l0.length ≤ c0) (hr1 : Kd.C (Kd.int .u8) w A1 l1.length l1) (hc1 : l1.length ≤ c1) (h0 : isU8 l0) (h1 : isU8 l1) (b0 : l0.length ≤ 1048576) (b1 : l1.length ≤ 1048576) (w1 : ∀ x ∈ l1, (Lit.int .u8 x).wf = true) :
    Calls Try.prog 13 #[.slice A0 l0.length c0, .slice A1 l1.length c1] w fun e w' => e = .returned (.bool true) ∧ Below w.heap.size w w' := by
  obtain ⟨S, eS, uS, lS⟩ := bytesOf_some h0 40 (by omega)
  obtain ⟨E, eE, uE, lE⟩ := bytesOf_some h1 40 (by omega)
  obtain ⟨n, hn, en⟩ := at_some l1 b1 w1 0 100 (by decide) (by decide)
  obtain ⟨d, hd, ed⟩ := at_some l1 b1 w1 1 60 (by decide) (by decide)
  obtain ⟨m, hm⟩ : ∃ m, m = n + d := ⟨_, rfl⟩
  obtain ⟨a, b, key, h, t, v1, v2, v3, v4, v5, v6, v7, v8, v9, v10, v11, v12⟩ := hk_vals S E n m uS uE lS lE (by omega) (by omega) (by omega)
  have ES : Aside0 (spec_BytesOf.f 1000 l0 40 = some S) := ⟨eS 1000 (by decide)⟩
  have EE : Aside0 (spec_BytesOf.f 1000 l1 40 = some E) := ⟨eE 1000 (by decide)⟩
  have EN : Aside0 (laws_at.f l1 0 100 = some (n : Int)) := ⟨en⟩
  have ED : Aside0 (laws_at.f l1 1 60 = some (d : Int)) := ⟨ed⟩
  have HNM : Aside0 (n ≤ m ∧ m ≤ 160) := ⟨by omega, by omega⟩
  have hsum2 : (n : Int) + (d : Int) = (m : Int) := by omega
  have HSUM := Aside0.mk (hk_sum n d m hm (by omega))
  have V1 := Aside0.mk v1
  have V2 := Aside0.mk v2
  have V3 := Aside0.mk v3
  have V4 := Aside0.mk v4
  have V5 := Aside0.mk v5
  have V6 := Aside0.mk v6
  have V7 := Aside0.mk v7
  have V8 := Aside0.mk v8
  have V9 := Aside0.mk v9
  have V10 := Aside0.mk v10
  have V11 := Aside0.mk v11
  have V12 := Aside0.mk v12
  have HR0 := Aside0.mk hr0
  have HC0 := Aside0.mk hc0
  have HR1 := Aside0.mk hr1
  have HC1 := Aside0.mk hc1
  have d0 : decide (1048576 < (l0.length : Int)) = false := decide_eq_false (by omega)
  have d1 : decide (1048576 < (l1.length : Int)) = false := decide_eq_false (by omega)
  have d2 : decide (1048576 < l0.length) = false := decide_eq_false (by omega)
  have d3 : decide (1048576 < l1.length) = false := decide_eq_false (by omega)
  have HB : Aside0 (Below w.heap.size w w) := ⟨Below.refl _ _⟩
  have HSUM2 := Aside0.mk hsum2
  clear eS eE en ed v1 v2 v3 v4 v5 v6 v7 v8 v9 v10 v11 v12 uS uE lS lE hr0 hc0 hr1 hc1 h0 h1 b0 b1 w1 hn hd hm hsum2
  go_enter Try.func13, Try.ntmps13
  go_wp2_with fail
  refine (spec_BytesOf.calls 1000 A0 c0 l0 40 S _ HR0.out HC0.out ES.out).mono ?_
  rintro e w1 ⟨v, rfl, hR, hb⟩
  have HB : Aside0 (Below w.heap.size w w1) := ⟨below_then HB.out HB.out.size hb⟩
  obtain ⟨A_S, c_S, rfl, hcc, hCC⟩ := Kd.R_reads hR
  have HR_S := Aside0.mk hCC
  have HL_S := Aside0.mk hcc
  clear hb hR hcc hCC
  go_wp2_with fail
  refine (spec_BytesOf.calls 1000 A1 c1 l1 40 E _ (Kd.C_below HR1.out HB.out) HC1.out EE.out).mono ?_
  rintro e w2 ⟨v, rfl, hR, hb⟩
  have HB : Aside0 (Below w.heap.size w w2) := ⟨below_then HB.out HB.out.size hb⟩
  have HR_S := Aside0.mk (Kd.C_below HR_S.out hb)
  obtain ⟨A_E, c_E, rfl, hcc, hCC⟩ := Kd.R_reads hR
  have HR_E := Aside0.mk hCC
  have HL_E := Aside0.mk hcc
  clear hb hR hcc hCC
  go_wp2_with fail
  refine (laws_at.calls A1 c1 l1 0 100 (n : Int) _ (Kd.C_below HR1.out HB.out) HC1.out EN.out).mono ?_
  rintro e w3 ⟨rfl, hdd⟩
  have hb := hdd.below
  have HB : Aside0 (Below w.heap.size w w3) := ⟨below_then HB.out HB.out.size hb⟩
  have HR_S := Aside0.mk (Kd.C_below HR_S.out hb)
  have HR_E := Aside0.mk (Kd.C_below HR_E.out hb)
  clear hb hdd
  go_wp2_with fail
  refine (laws_at.calls A1 c1 l1 1 60 (d : Int) _ (Kd.C_below HR1.out HB.out) HC1.out ED.out).mono ?_
  rintro e w4 ⟨rfl, hdd⟩
  have hb := hdd.below
  have HB : Aside0 (Below w.heap.size w w4) := ⟨below_then HB.out HB.out.size hb⟩
  have HR_S := Aside0.mk (Kd.C_below HR_S.out hb)
  have HR_E := Aside0.mk (Kd.C_below HR_E.out hb)
  clear hb hdd
  have hsum := HSUM.out
  obtain ⟨w5, hW⟩ : ∃ W, W = w4.alloc (Obj.cells #[Value.int .u8 105, Value.int .u8 110, Value.int .u8 102, Value.int .u8 111] 5 (4, 5)) := ⟨_, rfl⟩
  have kcv := Lib.run_convert_bytes_const (P := Try.prog) w4 22 5 #[Value.int .u8 105, Value.int .u8 110, Value.int .u8 102, Value.int .u8 111] 4 4 Try.underlying22 Try.underlying5
  rw [show (Obj.cells #[Value.int .u8 105, Value.int .u8 110, Value.int .u8 102, Value.int .u8 111] 5 (#[Value.int .u8 105, Value.int .u8 110, Value.int .u8 102, Value.int .u8 111].size, #[Value.int .u8 105, Value.int .u8 110, Value.int .u8 102, Value.int .u8 111].size + 1)) = Obj.cells #[Value.int .u8 105, Value.int .u8 110, Value.int .u8 102, Value.int .u8 111] 5 (4, 5) from rfl, ← hW] at kcv
  have HCI : Aside0 (Kd.C (Kd.int .u8) w5 (some ⟨w4.heap.size, 0, none⟩) 4 hkI) := ⟨by rw [hW]; exact info_C w4⟩
  have hb : Below w4.heap.size w4 w5 := by rw [hW]; exact below_alloc (Below.refl _ _) _
  clear hW
  have HB : Aside0 (Below w.heap.size w w5) := ⟨below_then HB.out HB.out.size hb⟩
  have HR_S := Aside0.mk (Kd.C_below HR_S.out hb)
  have HR_E := Aside0.mk (Kd.C_below HR_E.out hb)
  clear hb
  go_wp2_with fail
  clear kcv
  refine (impl_Hkdf.calls 1000 _ A_S c_S S _ A_E c_E E _ _ 4 hkI (n : Int) a 0 _ (Kd.V_mk HL_S.out (Kd.C_F (Kd.heap_int .u8) HR_S.out)) (Kd.V_mk HL_E.out (Kd.C_F (Kd.heap_int .u8) HR_E.out)) (Kd.V_mk (show hkI.length ≤ 4 by decide) (Kd.C_F (Kd.heap_int .u8) HCI.out)) V1.out).mono ?_
  rintro e w6 ⟨rfl, hb⟩
  have HB : Aside0 (Below w.heap.size w w6) := ⟨below_then HB.out HB.out.size hb⟩
  have HR_S := Aside0.mk (Kd.C_below HR_S.out hb)
  have HR_E := Aside0.mk (Kd.C_below HR_E.out hb)
  clear hb
  obtain ⟨w7, hW⟩ : ∃ W, W = w6.alloc (Obj.cells #[Value.int .u8 105, Value.int .u8 110, Value.int .u8 102, Value.int .u8 111] 5 (4, 5)) := ⟨_, rfl⟩
  have kcv := Lib.run_convert_bytes_const (P := Try.prog) w6 22 5 #[Value.int .u8 105, Value.int .u8 110, Value.int .u8 102, Value.int .u8 111] 4 4 Try.underlying22 Try.underlying5
  rw [show (Obj.cells #[Value.int .u8 105, Value.int .u8 110, Value.int .u8 102, Value.int .u8 111] 5 (#[Value.int .u8 105, Value.int .u8 110, Value.int .u8 102, Value.int .u8 111].size, #[Value.int .u8 105, Value.int .u8 110, Value.int .u8 102, Value.int .u8 111].size + 1)) = Obj.cells #[Value.int .u8 105, Value.int .u8 110, Value.int .u8 102, Value.int .u8 111] 5 (4, 5) from rfl, ← hW] at kcv
  have HCI : Aside0 (Kd.C (Kd.int .u8) w7 (some ⟨w6.heap.size, 0, none⟩) 4 hkI) := ⟨by rw [hW]; exact info_C w6⟩
  have hb : Below w6.heap.size w6 w7 := by rw [hW]; exact below_alloc (Below.refl _ _) _
  clear hW
  have HB : Aside0 (Below w.heap.size w w7) := ⟨below_then HB.out HB.out.size hb⟩
  have HR_S := Aside0.mk (Kd.C_below HR_S.out hb)
  have HR_E := Aside0.mk (Kd.C_below HR_E.out hb)
  clear hb
  go_wp2_with fail
  clear kcv
  refine (impl_Hkdf.calls 1000 _ A_S c_S S _ A_E c_E E _ _ 4 hkI (m : Int) b 0 _ (Kd.V_mk HL_S.out (Kd.C_F (Kd.heap_int .u8) HR_S.out)) (Kd.V_mk HL_E.out (Kd.C_F (Kd.heap_int .u8) HR_E.out)) (Kd.V_mk (show hkI.length ≤ 4 by decide) (Kd.C_F (Kd.heap_int .u8) HCI.out)) V2.out).mono ?_
  rintro e w8 ⟨rfl, hb⟩
  have HB : Aside0 (Below w.heap.size w w8) := ⟨below_then HB.out HB.out.size hb⟩
  have HR_S := Aside0.mk (Kd.C_below HR_S.out hb)
  have HR_E := Aside0.mk (Kd.C_below HR_E.out hb)
  clear hb
  obtain ⟨w9, hW⟩ : ∃ W, W = w8.alloc (Obj.cells #[Value.int .u8 105, Value.int .u8 110, Value.int .u8 102, Value.int .u8 111] 5 (4, 5)) := ⟨_, rfl⟩
  have kcv := Lib.run_convert_bytes_const (P := Try.prog) w8 22 5 #[Value.int .u8 105, Value.int .u8 110, Value.int .u8 102, Value.int .u8 111] 4 4 Try.underlying22 Try.underlying5
  rw [show (Obj.cells #[Value.int .u8 105, Value.int .u8 110, Value.int .u8 102, Value.int .u8 111] 5 (#[Value.int .u8 105, Value.int .u8 110, Value.int .u8 102, Value.int .u8 111].size, #[Value.int .u8 105, Value.int .u8 110, Value.int .u8 102, Value.int .u8 111].size + 1)) = Obj.cells #[Value.int .u8 105, Value.int .u8 110, Value.int .u8 102, Value.int .u8 111] 5 (4, 5) from rfl, ← hW] at kcv
  have HCI : Aside0 (Kd.C (Kd.int .u8) w9 (some ⟨w8.heap.size, 0, none⟩) 4 hkI) := ⟨by rw [hW]; exact info_C w8⟩
  have hb : Below w8.heap.size w8 w9 := by rw [hW]; exact below_alloc (Below.refl _ _) _
  clear hW
  have HB : Aside0 (Below w.heap.size w w9) := ⟨below_then HB.out HB.out.size hb⟩
  have HR_S := Aside0.mk (Kd.C_below HR_S.out hb)
  have HR_E := Aside0.mk (Kd.C_below HR_E.out hb)
  clear hb
  go_wp2_with fail
  clear kcv
  refine (spec_Hkdf.calls 1000 A_S c_S S A_E c_E E _ 4 hkI (n : Int) a 0 _ HR_S.out HL_S.out HR_E.out HL_E.out HCI.out (show hkI.length ≤ 4 by decide) V3.out).mono ?_
  rintro e w10 ⟨rfl, hb⟩
  have HB : Aside0 (Below w.heap.size w w10) := ⟨below_then HB.out HB.out.size hb⟩
  have HR_S := Aside0.mk (Kd.C_below HR_S.out hb)
  have HR_E := Aside0.mk (Kd.C_below HR_E.out hb)
  clear hb
  go_wp2_with fail
  refine (impl_HkdfExtract.calls 1000 A_S c_S S A_E c_E E key 0 _ HR_S.out HL_S.out HR_E.out HL_E.out V4.out).mono ?_
  rintro e w11 ⟨rfl, hb⟩
  have HB : Aside0 (Below w.heap.size w w11) := ⟨below_then HB.out HB.out.size hb⟩
  have HR_S := Aside0.mk (Kd.C_below HR_S.out hb)
  have HR_E := Aside0.mk (Kd.C_below HR_E.out hb)
  clear hb
  obtain ⟨w12, hW⟩ : ∃ W, W = w11.alloc (Obj.cells #[Value.int .u8 105, Value.int .u8 110, Value.int .u8 102, Value.int .u8 111] 5 (4, 5)) := ⟨_, rfl⟩
  have kcv := Lib.run_convert_bytes_const (P := Try.prog) w11 22 5 #[Value.int .u8 105, Value.int .u8 110, Value.int .u8 102, Value.int .u8 111] 4 4 Try.underlying22 Try.underlying5
  rw [show (Obj.cells #[Value.int .u8 105, Value.int .u8 110, Value.int .u8 102, Value.int .u8 111] 5 (#[Value.int .u8 105, Value.int .u8 110, Value.int .u8 102, Value.int .u8 111].size, #[Value.int .u8 105, Value.int .u8 110, Value.int .u8 102, Value.int .u8 111].size + 1)) = Obj.cells #[Value.int .u8 105, Value.int .u8 110, Value.int .u8 102, Value.int .u8 111] 5 (4, 5) from rfl, ← hW] at kcv
  have HCI : Aside0 (Kd.C (Kd.int .u8) w12 (some ⟨w11.heap.size, 0, none⟩) 4 hkI) := ⟨by rw [hW]; exact info_C w11⟩
  have hb : Below w11.heap.size w11 w12 := by rw [hW]; exact below_alloc (Below.refl _ _) _
  clear hW
  have HB : Aside0 (Below w.heap.size w w12) := ⟨below_then HB.out HB.out.size hb⟩
  have HR_S := Aside0.mk (Kd.C_below HR_S.out hb)
  have HR_E := Aside0.mk (Kd.C_below HR_E.out hb)
  clear hb
  go_wp2_with fail
  clear kcv
  refine (impl_HkdfExpand.calls 1000 key _ _ 4 hkI (n : Int) a 0 _ (Kd.V_mk (show hkI.length ≤ 4 by decide) (Kd.C_F (Kd.heap_int .u8) HCI.out)) V5.out).mono ?_
  rintro e w13 ⟨rfl, hb⟩
  have HB : Aside0 (Below w.heap.size w w13) := ⟨below_then HB.out HB.out.size hb⟩
  have HR_S := Aside0.mk (Kd.C_below HR_S.out hb)
  have HR_E := Aside0.mk (Kd.C_below HR_E.out hb)
  clear hb
  go_wp2_with fail
  refine (impl_Hash.calls _ A_S c_S S h _ (Kd.V_mk HL_S.out (Kd.C_F (Kd.heap_int .u8) HR_S.out)) V6.out).mono ?_
  rintro e w14 ⟨rfl, hb⟩
  have HB : Aside0 (Below w.heap.size w w14) := ⟨below_then HB.out HB.out.size hb⟩
  have HR_S := Aside0.mk (Kd.C_below HR_S.out hb)
  have HR_E := Aside0.mk (Kd.C_below HR_E.out hb)
  clear hb
  go_wp2_with fail
  refine (impl_HexText.calls h t 0 _ V8.out).mono ?_
  rintro e w15 ⟨rfl, hb⟩
  have HB : Aside0 (Below w.heap.size w w15) := ⟨below_then HB.out HB.out.size hb⟩
  have HR_S := Aside0.mk (Kd.C_below HR_S.out hb)
  have HR_E := Aside0.mk (Kd.C_below HR_E.out hb)
  clear hb
  go_wp2_with fail
  refine (spec_Hash.calls A_S c_S S h _ HR_S.out HL_S.out V7.out).mono ?_
  rintro e w16 ⟨rfl, hb⟩
  have HB : Aside0 (Below w.heap.size w w16) := ⟨below_then HB.out HB.out.size hb⟩
  have HR_S := Aside0.mk (Kd.C_below HR_S.out hb)
  have HR_E := Aside0.mk (Kd.C_below HR_E.out hb)
  clear hb
  go_wp2_with fail
  refine (spec_HexText.calls 100000 h t 0 _ V9.out).mono ?_
  rintro e w17 ⟨rfl, hb⟩
  have HB : Aside0 (Below w.heap.size w w17) := ⟨below_then HB.out HB.out.size hb⟩
  have HR_S := Aside0.mk (Kd.C_below HR_S.out hb)
  have HR_E := Aside0.mk (Kd.C_below HR_E.out hb)
  clear hb
  go_wp2_with fail
  refine (impl_Hmac.calls 1000 _ A_S c_S S _ A_E c_E E key 0 _ (Kd.V_mk HL_S.out (Kd.C_F (Kd.heap_int .u8) HR_S.out)) (Kd.V_mk HL_E.out (Kd.C_F (Kd.heap_int .u8) HR_E.out)) V10.out).mono ?_
  rintro e w18 ⟨rfl, hb⟩
  have HB : Aside0 (Below w.heap.size w w18) := ⟨below_then HB.out HB.out.size hb⟩
  have HR_S := Aside0.mk (Kd.C_below HR_S.out hb)
  have HR_E := Aside0.mk (Kd.C_below HR_E.out hb)
  clear hb
  have hbs : b.size = m := V11.out
  have hbe : b.extract 0 n = a := V12.out
  have q0 : (0 : Int) ≤ (n : Int) := Int.natCast_nonneg n
  have q1 : (n : Int) ≤ (m : Int) := by clear hsum; have := HNM.out; omega
  go_wp2
  go_ret
  exact ⟨rfl, HB.out⟩
theorem FnHkdf_walk (a0 : Option Addr) (len0 cap0 : Nat) (z0 : List Int) (a1 : Option Addr) (len1 cap1 : Nat) (z1 : List Int) (w : World) (w0 : (a0 = none ∧ len0 = 0 ∧ cap0 = 0 ∧ z0 = []) ∨ ∃ x, a0 = some x ∧ len0 ≤ cap0 ∧ cap0 ≤ maxLen ∧ z0.length = cap0 ∧ (∀ i, i < z0.length → w.cell? (x.add i) = some (.int .u8 (z0.getD i 0))) ∧ ∀ n ∈ z0, (Lit.int .u8 n).wf = true) (y0 : len0 * 1 ≤ 140737488351232) (w1 : (a1 = none ∧ len1 = 0 ∧ cap1 = 0 ∧ z1 = []) ∨ ∃ x, a1 = some x ∧ len1 ≤ cap1 ∧ cap1 ≤ maxLen ∧ z1.length = cap1 ∧ (∀ i, i < z1.length → w.cell? (x.add i) = some (.int .u8 (z1.getD i 0))) ∧ ∀ n ∈ z1, (Lit.int .u8 n).wf = true) (y1 : len1 * 1 ≤ 140737488351232) :
    Calls Try.prog 13 #[.slice a0 len0 cap0, .slice a1 len1 cap1] w fun e w' => e = .returned (.bool true) ∧ Below w.heap.size w w' := by
  obtain ⟨l0, rfl, hr0, hm0, hw0, hc0⟩ := ReadsInt.ofRowC w0
  obtain ⟨l1, rfl, hr1, hm1, hw1, hc1⟩ := ReadsInt.ofRowC w1
  by_cases b0 : 1048576 < l0.length
  · have d0 : decide (1048576 < (l0.length : Int)) = true := decide_eq_true (by omega)
    have d2 : decide (1048576 < l0.length) = true := decide_eq_true b0
    clear hr0 hr1 hc0 hc1 hm0 hm1 hw0 hw1 w0 w1 b0 y0 y1
    go_enter Try.func13, Try.ntmps13
    go_wp2
    go_ret
    exact ⟨rfl, Below.refl _ _⟩
  by_cases b1 : 1048576 < l1.length
  · have d0 : decide (1048576 < (l0.length : Int)) = false := decide_eq_false (by omega)
    have d2 : decide (1048576 < l0.length) = false := decide_eq_false b0
    have d1 : decide (1048576 < (l1.length : Int)) = true := decide_eq_true (by omega)
    have d3 : decide (1048576 < l1.length) = true := decide_eq_true b1
    clear hr0 hr1 hc0 hc1 hm0 hm1 hw0 hw1 w0 w1 b0 b1 y0 y1
    go_enter Try.func13, Try.ntmps13
    go_wp2
    go_ret
    exact ⟨rfl, Below.refl _ _⟩
  exact hkdf_in _ _ l0 _ _ l1 w (Kd.C_of_reads (d := (0 : Int)) (h1 := fun _ => rfl) hr0) hc0 (Kd.C_of_reads (d := (0 : Int)) (h1 := fun _ => rfl) hr1) hc1 (isU8_of hw0) (isU8_of hw1) (by omega) (by omega) hw1
end Go.Proofs.Ytlfpogbonmddmaa.Pg
namespace Go.Proofs.YtlfpogbonmddmaaW.PrintWords
open Go.ChangeShapes Go.WideShapes
theorem sized_ints {H : Type} {enc : TypeId × Value → H} {P : Program} {W : World} {base : Nat} {spare : Nat → Bool} {held : Bool} {t e : TypeId} {k : IntKind} {a : Option Addr} {len cap : Nat} {d : DataW H} {ps : List MemPlace} {ts : List TypeId} {ds : List (DataW H)} {j : Nat}
    (hsz : (DataW.weightsEach P ts ds).all (· ≤ reachBytes) = true) (ht : ts[j]? = some t) (hd : ds[j]? = some d) (hu : P.underlying t = some (.slice e)) (he : P.underlying e = some (.int k)) (hc : P.cellsOf e = 1) {B : Nat} (hB : P.bytesOf e = B)
    (h : DataW.Trod enc P W base spare held t (.slice a len cap) d ps) : len * B ≤ 140737488351232 := by
  obtain ⟨fuel, hf⟩ := h
  rcases open_ints hu he hc hf with ⟨hcs, _⟩ | ⟨x, l, c, zs, hcs, _, hl, _, hz, hx, _, _⟩
  · simp [Value.cells] at hcs
    obtain ⟨rfl, rfl, rfl⟩ := hcs
    simp
  · simp [Value.cells] at hcs
    obtain ⟨rfl, rfl, rfl⟩ := hcs
    obtain ⟨hx, _⟩ := Prod.mk.inj hx
    subst hx
    have z := sized_slice hsz ht hd hu
    rw [hB] at z
    have hl2 : len ≤ zs.length := by
      rw [hz]
      split
      · exact hl
      · exact Nat.le_refl _
    have h1 : (lits (H := H) k (zs.take len)).length + (lits (H := H) k (zs.drop len)).length = zs.length := by
      simp [lits]
      omega
    rw [h1] at z
    exact Nat.le_trans (Nat.mul_le_mul_right _ hl2) z
end Go.Proofs.YtlfpogbonmddmaaW.PrintWords

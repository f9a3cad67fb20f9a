/- Laid by a program of this session: of Psealx, Rl, Psealb, Psealw, PlawSeal, WSized what this law uses. -/
import Derived.Test.YtlfpogbonmddmaaZSbM23
import Derived.Test.YtlfpogbonmddmaaZSbM9
import Derived.Test.YtlfpogbonmddmaaZSbPt1
import Derived.Test.YtlfpogbonmddmaaZSbPt3
import Derived.Test.YtlfpogbonmddmaaZSbPt8
import Derived.Test.YtlfpogbonmddmaaZSbM19
import Derived.Deep.MidRow
import Derived.Great.BuildSlice
import Derived.Test.YtlfpogbonmddmaaProg
import Derived.RegionTactic
import Derived.BigRegion
import Derived.Test.YtlfpogbonmddmaaZSbPt9
import Derived.SizedLaws
import Derived.ChangeSlices
namespace Go.Proofs.Ytlfpogbonmddmaa.Pg
open Go.RowKit Go.Proofs.Ytlfpogbonmddmaa.P Go.Proofs.YtlfpogbonmddmaaW.PrintWords Go.Proofs.YtlfpogbonmddmaaW.PrintLast Go.Proofs.YtlfpogbonmddmaaW.PrintMore
set_option linter.unusedVariables false
set_option linter.unusedSimpArgs false
theorem sx_bytesOf4 (k : Nat) (n : Int) (hk : 5 < k) : impl_bytesOf.f k n 4 = some (strOfNums (Sha.four n)) := by
  obtain ⟨k, rfl⟩ : ∃ m, k = m + 6 := ⟨k - 6, by omega⟩
  have w3 : wrap64 3 = 3 := by unfold wrap64; omega
  have w2 : wrap64 2 = 2 := by unfold wrap64; omega
  have w1 : wrap64 1 = 1 := by unfold wrap64; omega
  have w0 : wrap64 0 = 0 := by unfold wrap64; omega
  have wm : wrap64 (-1) = -1 := by unfold wrap64; omega
  have e : n / 65536 / 256 = n / 16777216 := by omega
  have e2 : n / 256 / 256 = n / 65536 := by omega
  simp [impl_bytesOf.f, impl_bytesOf.l0, w3, w2, w1, w0, wm, Sha.four, List.replicate, e, e2]
def kE (key : ByteArray) : List Int := (keysK key).take 32
def kM (key : ByteArray) : List Int := (keysK key).drop 32
theorem u8ok_keysK (s : ByteArray) : u8ok (keysK s) := fun x hx => by
  rw [keysK, exp_take _ _ 64 2 (by decide) (by decide)] at hx
  exact (exp_u8 _ _ _).1 x (List.mem_of_mem_take hx)
theorem kE_ok (key : ByteArray) : u8ok (kE key) ∧ (kE key).length = 32 := ⟨fun x hx => u8ok_keysK key x (List.mem_of_mem_take hx), by rw [kE, List.length_take, keysK_length]; rfl⟩
theorem kM_ok (key : ByteArray) : u8ok (kM key) ∧ (kM key).length = 32 := ⟨fun x hx => u8ok_keysK key x (List.mem_of_mem_drop hx), by rw [kM, List.length_drop, keysK_length]⟩
def sealE (key nonce : ByteArray) (b : List Int) : List Int := Md.ctrL (Aes.keysL (kE key)) (bytesL nonce) b
def sealT (key nonce : ByteArray) (x e : List Int) : List Int := (Sha.hmacL (kM key) (tagAll nonce x e)).take 16
def sealL (key nonce : ByteArray) (x b : List Int) : List Int := sealE key nonce b ++ sealT key nonce x (sealE key nonce b)
theorem sealE_length (key nonce : ByteArray) (b : List Int) : (sealE key nonce b).length = b.length := Md.ctrL_length _ _ _
theorem sealE_ok (key nonce : ByteArray) {b : List Int} (h : u8ok b) : u8ok (sealE key nonce b) := Md.ctrL_ok (Aes.keysL_ok (kE_ok key).1) (u8ok_bytesL nonce) h
theorem sealT_length (key nonce : ByteArray) (x e : List Int) : (sealT key nonce x e).length = 16 := by rw [sealT, List.length_take, hmacL_length]; rfl
theorem sealT_ok (key nonce : ByteArray) (x e : List Int) : u8ok (sealT key nonce x e) := fun y hy => u8ok_hmacL _ _ y (List.mem_of_mem_take hy)
theorem sealL_length (key nonce : ByteArray) (x b : List Int) : (sealL key nonce x b).length = b.length + 16 := by rw [sealL, List.length_append, sealE_length, sealT_length]
theorem sealL_ok (key nonce : ByteArray) (x : List Int) {b : List Int} (h : u8ok b) : u8ok (sealL key nonce x b) := u8ok_append (sealE_ok key nonce h) (sealT_ok _ _ _ _)
theorem tag_eq (k : Nat) (n : ByteArray) (m x e : List Int) (um : u8ok m) (ux : u8ok x) (ue : u8ok e) (hm : m.length = 32) (hn : n.size ≤ 1048576) (hx : x.length ≤ 1048576) (he : e.length ≤ 1048576) (hk : 10 ≤ k) :
    impl_tag.f k (strOfNums m) n (strOfNums x) (strOfNums e) = some (strOfNums ((Sha.hmacL m (tagAll n x e)).take 16)) := by
  obtain ⟨k, rfl⟩ : ∃ j, k = j + 1 := ⟨k - 1, by omega⟩
  have hF : (Sha.four (x.length : Int)).length = 4 := rfl
  have en : n = strOfNums (bytesL n) := (str_bytesL n).symm
  have hall : tagAll n x e = ((bytesL n ++ Sha.four (x.length : Int)) ++ x) ++ e := rfl
  have hlen : (tagAll n x e).length ≤ 4000000 := by rw [hall]; simp only [List.length_append, bytesL_length, hF]; omega
  have hu : u8ok (tagAll n x e) := u8ok_append (u8ok_append (u8ok_append (u8ok_bytesL n) (u8ok_four _)) ux) ue
  unfold impl_tag.f
  rw [size_strOfNums, sx_bytesOf4 _ _ (by omega), Option.bind_some]
  have e1 : n ++ strOfNums (Sha.four (x.length : Int)) = strOfNums (bytesL n ++ Sha.four (x.length : Int)) := by
    rw [← str_app, str_bytesL]
  rw [e1, str_app, str_app, ← hall, size_strOfNums, size_strOfNums, size_strOfNums, size_strOfNums]
  simp only [List.length_append, bytesL_length, hF]
  rw [if_pos (by omega), if_pos (by omega), if_pos (by omega), hmac_eq k m (tagAll n x e) um (by omega) hu (by omega), Option.bind_some, if_pos (by decide), if_pos (by rw [size_strOfNums, hmacL_length]; decide), str_extract]
theorem ctr32 (key nonce : ByteArray) (b : List Int) (ub : u8ok b) (hn : nonce.size = 12) (hb : b.length ≤ 65536) : impl_ctr.f (strOfNums (kE key)) nonce b = some (sealE key nonce b) := by
  rw [ictr_eq _ _ _ ub (.inr (by rw [size_strOfNums]; exact (kE_ok key).2)) hn (by omega), bytesL_str _ (kE_ok key).1]
  rfl
theorem sctr32 (k : Nat) (key nonce : ByteArray) (b : List Int) (ub : u8ok b) (hn : nonce.size = 12) (hb : b.length ≤ 65536) (hk : 200000 ≤ k) : spec_l02Ctr.f k (strOfNums (kE key)) nonce b = some (sealE key nonce b) := by
  rw [sctr_eq k _ _ _ ub (.inr (by rw [size_strOfNums]; exact (kE_ok key).2)) hn (by omega) (by omega), bytesL_str _ (kE_ok key).1]
  rfl
theorem iseal_eq (key nonce : ByteArray) (x b : List Int) (ux : u8ok x) (ub : u8ok b) (hk : key.size = 32) (hn : nonce.size = 12) (hx : x.length ≤ 65536) (hb : b.length ≤ 65536) :
    impl_seal.f key nonce (strOfNums x) (strOfNums b) = some (strOfNums (sealL key nonce x b)) := by
  unfold impl_seal.f
  have e1 := sealKeys_eq (300000 - 264) key (by omega)
  rw [show 300000 - 264 + 264 = 300000 from rfl] at e1
  rw [e1, Option.bind_some]
  show (impl_ctr.f (strOfNums (kE key)) nonce (bytesL (strOfNums b))).bind _ = _
  rw [bytesL_str b ub, ctr32 key nonce b ub hn hb, Option.bind_some]
  show (impl_tag.f 300000 (strOfNums (kM key)) nonce (strOfNums x) (strOfNums (sealE key nonce b))).bind _ = _
  rw [tag_eq _ _ _ _ _ (kM_ok key).1 ux (sealE_ok key nonce ub) (kM_ok key).2 (by omega) (by omega) (by rw [sealE_length]; omega) (by decide), Option.bind_some]
  show (if (sealE key nonce b).length + (strOfNums (sealT key nonce x (sealE key nonce b))).size ≤ 4000000 then some (strOfNums (sealE key nonce b) ++ strOfNums (sealT key nonce x (sealE key nonce b))) else none) = _
  rw [if_pos (by rw [size_strOfNums, sealT_length, sealE_length]; omega), str_app]
  rfl
theorem sseal_eq (k : Nat) (key nonce : ByteArray) (x b : List Int) (ux : u8ok x) (ub : u8ok b) (hk : key.size = 32) (hn : nonce.size = 12) (hx : x.length ≤ 65536) (hb : b.length ≤ 65536) (hkk : 200000 ≤ k) :
    spec_l04Seal.f k key nonce x b = some (sealL key nonce x b) := by
  unfold spec_l04Seal.f
  rw [spec_sealKeys_eq key (by omega), Option.bind_some]
  show (spec_l02Ctr.f k (strOfNums (kE key)) nonce b).bind _ = _
  rw [sctr32 k key nonce b ub hn hb hkk, Option.bind_some]
  show (spec_l04Tag.f (strOfNums (kM key)) nonce x (sealE key nonce b)).bind _ = _
  unfold spec_l04Tag.f
  rw [if_pos ⟨u8b_of ux, u8b_of (sealE_ok key nonce ub), by rw [size_strOfNums, (kM_ok key).2]; decide, by omega, by omega, by rw [sealE_length]; omega⟩, bytesL_str _ (kM_ok key).1, Option.bind_some]
  show (if (sealE key nonce b).length + (strOfNums (sealT key nonce x (sealE key nonce b))).size < 140737488355328 then some (sealE key nonce b ++ bytesOf (strOfNums (sealT key nonce x (sealE key nonce b)))) else none) = _
  rw [if_pos (by rw [size_strOfNums, sealT_length, sealE_length]; omega)]
  rw [show bytesOf (strOfNums (sealT key nonce x (sealE key nonce b))) = sealT key nonce x (sealE key nonce b) from bytesL_str _ (sealT_ok _ _ _ _)]
  rfl
end Go.Proofs.Ytlfpogbonmddmaa.Pg
namespace Go.Proofs.Ytlfpogbonmddmaa.P
open Go.RowKit Go.Proofs.YtlfpogbonmddmaaW.PrintWords Go.Proofs.YtlfpogbonmddmaaW.PrintLast Go.Proofs.YtlfpogbonmddmaaW.PrintMore
set_option linter.unusedVariables false
set_option linter.unusedSimpArgs false
def RB (W : World) (B : Nat) (v : Value) (l : List Int) : Prop := (v = .slice none 0 0 ∧ l = []) ∨ rowB W B v l
theorem RB_nil (W : World) (B : Nat) : RB W B (.slice none 0 0) [] := .inl ⟨rfl, rfl⟩
theorem RB_below {W W' : World} {B : Nat} {v : Value} {l : List Int} (h : RB W B v l) (hb : Below W.heap.size W W') : RB W' B v l := h.imp id fun h => rowB_below h hb
theorem RB_reads {W : World} {B : Nat} {v : Value} {l : List Int} (h : RB W B v l) (hm : l.length ≤ 140737488355328) : ∃ A c, v = .slice A l.length c ∧ l.length ≤ c ∧ Kd.C (Kd.int .u8) W A l.length l := by
  rcases h with ⟨rfl, rfl⟩ | h
  · exact Kd.R_reads (Kd.R_nil (Kd.int .u8) 0 W 0 (fun _ => True))
  · obtain ⟨g, cap, rfl, hl⟩ := rowB_form h
    exact ⟨_, cap, rfl, hl, rowB_C h hm⟩
theorem rowB_setL {W : World} {B g cap : Nat} {l : List Int} (h : rowB W B (.slice (some ⟨g, 0, none⟩) l.length cap) l) (i : Nat) (hi : i < l.length) (x : Int) :
    rowB (W.setCell ⟨g, i, none⟩ (.int .u8 x)) B (.slice (some ⟨g, 0, none⟩) l.length cap) (l.set i x) := by
  obtain ⟨g2, cap2, e, hg, hl, hc, hv⟩ := h
  injection e with e1 e2 e3
  injection e1 with e1
  injection e1 with e1
  subst e1 e3
  have hw : W.setCell ⟨g, i, none⟩ (.int .u8 x) = W.setCells g i [.int .u8 x] := rfl
  have hin : (W.setCells g i [.int .u8 x]).cell? ⟨g, i, none⟩ = some (.int .u8 x) := by
    have := World.cell?_setCells_in g [.int .u8 x] i W (fun j hj => (hc _ (by simp at hj; omega)).1) 0 (by simp)
    simpa using this
  have hout : ∀ j, j ≠ i → (W.setCells g i [.int .u8 x]).cell? ⟨g, j, none⟩ = W.cell? ⟨g, j, none⟩ := fun j hj => World.cell?_setCells_out g _ _ W _ (fun _ _ => by simp only [List.length_cons, List.length_nil]; omega)
  rw [hw]
  refine ⟨g, cap, by rw [List.length_set], hg, by rw [List.length_set]; exact hl, fun j hj => ⟨?_, ?_⟩, fun j hj => ?_⟩
  · by_cases hji : j = i
    · subst hji; rw [hin]; rfl
    · rw [hout j hji]; exact (hc j hj).1
  · rw [World.frozen?_setCells]; exact (hc j hj).2
  · rw [List.length_set] at hj
    by_cases hji : j = i
    · subst hji
      rw [hin, List.getD_eq_getElem?_getD, List.getElem?_set_self hi]; rfl
    · rw [hout j hji, hv j hj, List.getD_eq_getElem?_getD, List.getD_eq_getElem?_getD, List.getElem?_set_ne (fun e => hji e.symm)]
def markTo (m : Nat) (l : List Int) (i : Nat) : List Int := (List.range i).map (fun j => ((m + j : Nat) : Int) % 256) ++ l.drop i
theorem markTo_length (m : Nat) (l : List Int) (i : Nat) (h : i ≤ l.length) : (markTo m l i).length = l.length := by simp [markTo]; omega
theorem markTo_set (m : Nat) (l : List Int) (i : Nat) (h : i < l.length) : (markTo m l i).set i (((m + i : Nat) : Int) % 256) = markTo m l (i + 1) := by
  have h1 : ((List.range i).map (fun j => ((m + j : Nat) : Int) % 256)).length = i := by simp
  unfold markTo
  rw [List.set_append_right _ _ (by rw [h1]; exact Nat.le_refl _), h1, Nat.sub_self, List.drop_eq_getElem_cons h, List.set_cons_zero, List.range_succ, List.map_append, List.map_cons, List.map_nil, List.append_assoc]
  rfl
set_option maxHeartbeats 4000000 in
theorem mark_rowB (m : Nat) (l : List Int) (g cap B : Nat) (w : World) (h : rowB w B (.slice (some ⟨g, 0, none⟩) l.length cap) l) (hB : B ≤ g) (hm : m + l.length ≤ 1000000000) :
    Calls Try.prog 18 #[.slice (some ⟨g, 0, none⟩) l.length cap, .int .i64 (m : Int)] w fun e w' => e = .returned (.int .i64 ((m + l.length : Nat) : Int)) ∧ rowB w' B (.slice (some ⟨g, 0, none⟩) l.length cap) (markTo m l l.length) ∧ (∀ k, k ≠ g → w'.heap[k]? = w.heap[k]?) ∧ Below B w w' := by
  have HL := Aside0.mk hm
  have HB := Aside0.mk hB
  have h0 : Aside0 (rowB w B (.slice (some ⟨g, 0, none⟩) l.length cap) (markTo m l 0)) := ⟨h⟩
  clear h hm hB
  go_enter Try.func18, Try.ntmps18
  go_wp2
  go_loopw [1, 5] (fun v1 v5 wr => ∃ i : Nat, i ≤ l.length ∧ v1 = .int .i64 ((m + i : Nat) : Int) ∧ v5 = .int .i64 (i : Int) ∧ Aside0 (rowB wr B (.slice (some ⟨g, 0, none⟩) l.length cap) (markTo m l i)) ∧ Aside0 (∀ k, k ≠ g → wr.heap[k]? = w.heap[k]?) ∧ Aside0 (Below B w wr)) (fun _ v5 _ => l.length - (intOf v5).toNat)
  case atStart => exact ⟨0, Nat.zero_le _, rfl, rfl, h0, ⟨fun _ _ => rfl⟩, ⟨Below.refl _ _⟩⟩
  case round =>
    obtain ⟨i, hi, rfl, rfl, HR, HK, HW⟩ := hrel
    by_cases hlt : i < l.length
    · have hR : rowB wr B (.slice (some ⟨g, 0, none⟩) (markTo m l i).length cap) (markTo m l i) := by rw [markTo_length m l i hi]; exact HR.out
      obtain ⟨g2, cap2, e2, _, hl2, hc2, hv2⟩ := id hR
      injection e2 with e1 _ e3
      injection e1 with e1
      injection e1 with e1
      subst e1 e3
      rw [markTo_length m l i hi] at hl2 hv2
      have i0 : (0 : Int) ≤ (i : Int) := Int.natCast_nonneg i
      have i1 : (i : Int) < (l.length : Int) := by omega
      have hd : decide ((i : Int) < (l.length : Int)) = true := decide_eq_true i1
      have hd2 : decide (i < l.length) = true := decide_eq_true hlt
      have cc := hv2 i hlt
      obtain ⟨x, hx⟩ : ∃ x, x = (markTo m l i).getD i 0 := ⟨_, rfl⟩
      rw [← hx] at cc
      have zz := (hc2 i (by omega)).2
      have HS := rowB_setL hR i (by rw [markTo_length m l i hi]; exact hlt) (((m + i : Nat) : Int) % 256)
      rw [markTo_set m l i hlt, markTo_length m l i hi] at HS
      have HS := Aside0.mk HS
      have HKS : Aside0 (∀ k, k ≠ g → (wr.setCell ⟨g, i, none⟩ (.int .u8 (((m + i : Nat) : Int) % 256))).heap[k]? = w.heap[k]?) := ⟨fun k hk => (Below.heap_setCell wr ⟨g, i, none⟩ _ k hk).trans (HK.out k hk)⟩
      have HWS : Aside0 (Below B w (wr.setCell ⟨g, i, none⟩ (.int .u8 (((m + i : Nat) : Int) % 256)))) := ⟨below_setCells HW.out g HB.out [.int .u8 (((m + i : Nat) : Int) % 256)] i⟩
      obtain ⟨p, hp⟩ : ∃ p : Nat, p = m + i := ⟨_, rfl⟩
      have HPE : Aside0 (p + 1 = m + (i + 1) ∧ p < 9223372036854775807 ∧ i < 9223372036854775807) := ⟨by have := HL.out; omega⟩
      rw [← hp] at HS HKS HWS ⊢
      clear hx hR hv2 hc2 hl2 hp
      go_wp2
      go_roundw
      case rel => exact ⟨i + 1, by omega, by rw [suc_natW p HPE.out.2.1, HPE.out.1], by rw [suc_natW i HPE.out.2.2], HS, HKS, HWS⟩
      case measure => rw [suc_natW i HPE.out.2.2]; simp [intOf]; omega
    · have hd : decide ((i : Int) < (l.length : Int)) = false := decide_eq_false (by omega)
      have hd2 : decide (i < l.length) = false := decide_eq_false hlt
      obtain rfl : i = l.length := by omega
      go_wp2
      go_ret
      exact ⟨rfl, HR.out, HK.out, HW.out⟩
end Go.Proofs.Ytlfpogbonmddmaa.P
namespace Go.Proofs.Ytlfpogbonmddmaa.Pg
open Go.RowKit Go.Proofs.Ytlfpogbonmddmaa.P Go.Proofs.YtlfpogbonmddmaaW.PrintWords Go.Proofs.YtlfpogbonmddmaaW.PrintLast Go.Proofs.YtlfpogbonmddmaaW.PrintMore
set_option linter.unusedVariables false
set_option linter.unusedSimpArgs false
theorem long2_s (a0 a1 : ByteArray) (b : Bool) (h : b = decide (65536 < a0.size ∨ 65536 < a1.size)) : impl_isLong_string.f [a0, a1] = some b := by
  subst h
  unfold impl_isLong_string.f
  congr 1
  simp only [List.any_cons, List.any_nil, Bool.or_false]
  rw [Bool.decide_or]
  congr 1
  · exact decide_eq_decide.2 (by omega)
  · exact decide_eq_decide.2 (by omega)
theorem longB_s (l : List Int) (b : Bool) (h : b = decide (65536 < l.length)) : impl_isLong_byte.f [l] = some b := by
  subst h
  unfold impl_isLong_byte.f
  congr 1
  simp only [List.any_cons, List.any_nil, Bool.or_false]
  exact decide_eq_decide.2 (by omega)
def sealX (a0 a1 : ByteArray) (x b : List Int) : List Int × Int :=
  if 65536 < a0.size ∨ 65536 < a1.size ∨ 65536 < x.length ∨ 65520 < b.length then ([], 2) else if a0.size = 32 ∧ a1.size = 12 then (sealL a0 a1 x b, 0) else ([], 1)
set_option maxHeartbeats 4000000 in
set_option maxRecDepth 100000 in
theorem SealBytes_in (a0 a1 : ByteArray) (A2 : Option Addr) (c2 : Nat) (l2 : List Int) (A3 : Option Addr) (c3 : Nat) (l3 : List Int) (r1 : List Int) (r2 : Int) (w0 : World) (hr2 : Kd.C (Kd.int .u8) w0 A2 l2.length l2) (hc2 : l2.length ≤ c2) (hr3 : Kd.C (Kd.int .u8) w0 A3 l3.length l3) (hc3 : l3.length ≤ c3) (u2 : u8ok l2) (u3 : u8ok l3) (h : sealX a0 a1 l2 l3 = (r1, r2)) :
    Calls Try.prog 16 #[.string a0, .string a1, .slice A2 l2.length c2, .slice A3 l3.length c3] w0 fun e w' => ∃ v0_ : Value, e = .returned (.tuple #[v0_, .int .i64 r2]) ∧ RB w' w0.heap.size v0_ r1 ∧ Below w0.heap.size w0 w' := by
  unfold sealX at h
  have HR2 := Aside0.mk hr2
  have HC2 := Aside0.mk hc2
  have HR3 := Aside0.mk hr3
  have HC3 := Aside0.mk hc3
  by_cases h1 : 65536 < a0.size ∨ 65536 < a1.size
  · rw [if_pos (by omega)] at h
    obtain ⟨rfl, rfl⟩ : ([] : List Int) = r1 ∧ (2 : Int) = r2 := by simpa using h
    have HF := Aside0.mk (long2_s a0 a1 true (decide_eq_true h1).symm)
    clear h h1 hr2 hc2 hr3 hc3 u2 u3
    go_enter Try.func16, Try.ntmps16
    go_wp2_with fail
    refine (impl_isLong_string.calls _ _ [a0, a1] true _ (C_two_string (g := w0.heap.size) (T := 9) (fr := (0, 0)) (blk_new w0 _)) (Nat.le_refl _) HF.out).mono ?_
    rintro e wa ⟨rfl, hd⟩
    have HBa := Aside0.mk (below_then (below_alloc (Below.refl _ _) _) (by simp) hd.below : Below w0.heap.size w0 wa)
    clear hd
    go_wp2
    go_ret2
    exact ⟨_, rfl, RB_nil _ _, HBa.out⟩
  have HF := Aside0.mk (long2_s a0 a1 false (decide_eq_false h1).symm)
  by_cases h2 : 65536 < l2.length
  · rw [if_pos (by omega)] at h
    obtain ⟨rfl, rfl⟩ : ([] : List Int) = r1 ∧ (2 : Int) = r2 := by simpa using h
    have HF2 := Aside0.mk (longB_s l2 true (decide_eq_true h2).symm)
    clear h h1 hr2 hc2 hr3 hc3 u2 u3 h2
    go_enter Try.func16, Try.ntmps16
    go_wp2_with fail
    refine (impl_isLong_string.calls _ _ [a0, a1] false _ (C_two_string (g := w0.heap.size) (T := 9) (fr := (0, 0)) (blk_new w0 _)) (Nat.le_refl _) HF.out).mono ?_
    rintro e wa ⟨rfl, hd⟩
    have HBa := Aside0.mk (below_then (below_alloc (Below.refl _ _) _) (by simp) hd.below : Below w0.heap.size w0 wa)
    clear hd
    go_wp2_with fail
    have hC := C_one_slice (c := c2) (xs := l2) (blk_new wa (Obj.cells #[Value.slice A2 l2.length c2] 22)) rfl HC2.out (Kd.C_alloc (Kd.C_below HR2.out HBa.out) _)
    refine (impl_isLong_byte.calls _ 1 [l2] _ _ hC (Nat.le_refl _) HF2.out).mono ?_
    rintro e wb ⟨rfl, hd⟩
    have HBb := Aside0.mk (below_then (below_alloc HBa.out _) (by have := HBa.out.size; simp; omega) hd.below : Below w0.heap.size w0 wb)
    clear hd hC
    go_wp2
    go_ret2
    exact ⟨_, rfl, RB_nil _ _, HBb.out⟩
  have HF2 := Aside0.mk (longB_s l2 false (decide_eq_false h2).symm)
  by_cases h3 : 65520 < l3.length
  · rw [if_pos (by omega)] at h
    obtain ⟨rfl, rfl⟩ : ([] : List Int) = r1 ∧ (2 : Int) = r2 := by simpa using h
    have d1 : decide (65520 < (l3.length : Int)) = true := decide_eq_true (by omega)
    have d2 : decide (65520 < l3.length) = true := decide_eq_true h3
    clear h h1 hr2 hc2 hr3 hc3 u2 u3 h2 h3
    go_enter Try.func16, Try.ntmps16
    go_wp2_with fail
    refine (impl_isLong_string.calls _ _ [a0, a1] false _ (C_two_string (g := w0.heap.size) (T := 9) (fr := (0, 0)) (blk_new w0 _)) (Nat.le_refl _) HF.out).mono ?_
    rintro e wa ⟨rfl, hd⟩
    have HBa := Aside0.mk (below_then (below_alloc (Below.refl _ _) _) (by simp) hd.below : Below w0.heap.size w0 wa)
    clear hd
    go_wp2_with fail
    have hC := C_one_slice (c := c2) (xs := l2) (blk_new wa (Obj.cells #[Value.slice A2 l2.length c2] 22)) rfl HC2.out (Kd.C_alloc (Kd.C_below HR2.out HBa.out) _)
    refine (impl_isLong_byte.calls _ 1 [l2] _ _ hC (Nat.le_refl _) HF2.out).mono ?_
    rintro e wb ⟨rfl, hd⟩
    have HBb := Aside0.mk (below_then (below_alloc HBa.out _) (by have := HBa.out.size; simp; omega) hd.below : Below w0.heap.size w0 wb)
    clear hd hC
    go_wp2
    go_ret2
    exact ⟨_, rfl, RB_nil _ _, HBb.out⟩
  have d1 : decide (65520 < (l3.length : Int)) = false := decide_eq_false (by omega)
  have d2 : decide (65520 < l3.length) = false := decide_eq_false h3
  rw [if_neg (by omega)] at h
  by_cases h4 : ¬ (a0.size = 32)
  · rw [if_neg (fun h => h4 h.1)] at h
    obtain ⟨rfl, rfl⟩ : ([] : List Int) = r1 ∧ (1 : Int) = r2 := by simpa using h
    have d3 : ((a0.size : Int) != 32) = true := by rw [bne_iff_ne]; omega
    have d4 : ¬ (a0.size : Int) = 32 := by omega
    have d5 : decide ((a0.size : Int) = 32) = false := decide_eq_false d4
    have d6 : ((a0.size : Int) == 32) = false := by rw [beq_eq_false_iff_ne]; exact d4
    clear h h1 hr2 hc2 hr3 hc3 u2 u3 h4 h2 h3
    go_enter Try.func16, Try.ntmps16
    go_wp2_with fail
    refine (impl_isLong_string.calls _ _ [a0, a1] false _ (C_two_string (g := w0.heap.size) (T := 9) (fr := (0, 0)) (blk_new w0 _)) (Nat.le_refl _) HF.out).mono ?_
    rintro e wa ⟨rfl, hd⟩
    have HBa := Aside0.mk (below_then (below_alloc (Below.refl _ _) _) (by simp) hd.below : Below w0.heap.size w0 wa)
    clear hd
    go_wp2_with fail
    have hC := C_one_slice (c := c2) (xs := l2) (blk_new wa (Obj.cells #[Value.slice A2 l2.length c2] 22)) rfl HC2.out (Kd.C_alloc (Kd.C_below HR2.out HBa.out) _)
    refine (impl_isLong_byte.calls _ 1 [l2] _ _ hC (Nat.le_refl _) HF2.out).mono ?_
    rintro e wb ⟨rfl, hd⟩
    have HBb := Aside0.mk (below_then (below_alloc HBa.out _) (by have := HBa.out.size; simp; omega) hd.below : Below w0.heap.size w0 wb)
    clear hd hC
    go_wp2
    go_ret2
    exact ⟨_, rfl, RB_nil _ _, HBb.out⟩
  replace h4 := Classical.not_not.1 h4
  have e3 : ((a0.size : Int) != 32) = false := by rw [h4]; rfl
  have e4 : (a0.size : Int) = 32 := by omega
  by_cases h5 : ¬ (a1.size = 12)
  · rw [if_neg (fun h => h5 h.2)] at h
    obtain ⟨rfl, rfl⟩ : ([] : List Int) = r1 ∧ (1 : Int) = r2 := by simpa using h
    have d3 : ((a1.size : Int) != 12) = true := by rw [bne_iff_ne]; omega
    have d4 : ¬ (a1.size : Int) = 12 := by omega
    have d5 : decide ((a1.size : Int) = 12) = false := decide_eq_false d4
    have d6 : ((a1.size : Int) == 12) = false := by rw [beq_eq_false_iff_ne]; exact d4
    clear h h1 hr2 hc2 hr3 hc3 u2 u3 h4 h5 h2 h3
    go_enter Try.func16, Try.ntmps16
    go_wp2_with fail
    refine (impl_isLong_string.calls _ _ [a0, a1] false _ (C_two_string (g := w0.heap.size) (T := 9) (fr := (0, 0)) (blk_new w0 _)) (Nat.le_refl _) HF.out).mono ?_
    rintro e wa ⟨rfl, hd⟩
    have HBa := Aside0.mk (below_then (below_alloc (Below.refl _ _) _) (by simp) hd.below : Below w0.heap.size w0 wa)
    clear hd
    go_wp2_with fail
    have hC := C_one_slice (c := c2) (xs := l2) (blk_new wa (Obj.cells #[Value.slice A2 l2.length c2] 22)) rfl HC2.out (Kd.C_alloc (Kd.C_below HR2.out HBa.out) _)
    refine (impl_isLong_byte.calls _ 1 [l2] _ _ hC (Nat.le_refl _) HF2.out).mono ?_
    rintro e wb ⟨rfl, hd⟩
    have HBb := Aside0.mk (below_then (below_alloc HBa.out _) (by have := HBa.out.size; simp; omega) hd.below : Below w0.heap.size w0 wb)
    clear hd hC
    go_wp2
    go_ret2
    exact ⟨_, rfl, RB_nil _ _, HBb.out⟩
  replace h5 := Classical.not_not.1 h5
  have e5 : ((a1.size : Int) != 12) = false := by rw [h5]; rfl
  have e6 : (a1.size : Int) = 12 := by omega
  rw [if_pos ⟨h4, h5⟩] at h
  obtain ⟨rfl, rfl⟩ : sealL a0 a1 l2 l3 = r1 ∧ (0 : Int) = r2 := by simpa using h
  have HS : Aside0 (impl_seal.f a0 a1 (strOfNums l2) (strOfNums l3) = some (strOfNums (sealL a0 a1 l2 l3))) := ⟨iseal_eq a0 a1 l2 l3 u2 u3 h4 h5 (by omega) (by omega)⟩
  have HSL : Aside0 ((sealL a0 a1 l2 l3).length ≤ 70000) := ⟨by rw [sealL_length]; omega⟩
  have HSU : Aside0 (u8ok (sealL a0 a1 l2 l3)) := ⟨sealL_ok a0 a1 l2 u3⟩
  obtain ⟨L, hL⟩ : ∃ L, L = sealL a0 a1 l2 l3 := ⟨_, rfl⟩
  rw [← hL] at HS HSL HSU ⊢
  clear hL
  clear h h1 hr2 hc2 hr3 hc3 u2 u3 h2 h3 h4 h5
  go_enter Try.func16, Try.ntmps16
  go_wp2_with fail
  refine (impl_isLong_string.calls _ _ [a0, a1] false _ (C_two_string (g := w0.heap.size) (T := 9) (fr := (0, 0)) (blk_new w0 _)) (Nat.le_refl _) HF.out).mono ?_
  rintro e wa ⟨rfl, hd⟩
  have HBa := Aside0.mk (below_then (below_alloc (Below.refl _ _) _) (by simp) hd.below : Below w0.heap.size w0 wa)
  clear hd
  go_wp2_with fail
  have hC := C_one_slice (c := c2) (xs := l2) (blk_new wa (Obj.cells #[Value.slice A2 l2.length c2] 22)) rfl HC2.out (Kd.C_alloc (Kd.C_below HR2.out HBa.out) _)
  refine (impl_isLong_byte.calls _ 1 [l2] _ _ hC (Nat.le_refl _) HF2.out).mono ?_
  rintro e wb ⟨rfl, hd⟩
  have HBb := Aside0.mk (below_then (below_alloc HBa.out _) (by have := HBa.out.size; simp; omega) hd.below : Below w0.heap.size w0 wb)
  clear hd hC
  have k2 := Kd.C_string (P := Try.prog) (dst := 9) (src := 22) (c := c2) Try.underlying22 Try.underlying5 Try.underlying9 (Kd.C_below HR2.out HBb.out)
  have k3 := Kd.C_string (P := Try.prog) (dst := 9) (src := 22) (c := c3) Try.underlying22 Try.underlying5 Try.underlying9 (Kd.C_below HR3.out HBb.out)
  go_wp2_with fail
  refine (impl_seal.calls a0 a1 (strOfNums l2) (strOfNums l3) (strOfNums L) _ HS.out).mono ?_
  rintro e wd ⟨rfl, hb⟩
  have HBd := Aside0.mk (HBb.out.trans (hb.mono HBb.out.size))
  clear hb k2 k3
  have hsz : (strOfNums L).size = L.length := str_size L
  have kc := Lib.run_convert_string_bytes (P := Try.prog) wd 9 22 5 (strOfNums L) Try.underlying9 Try.underlying22 Try.underlying5
  have HRB := Aside0.mk (conv_rowB wd w0.heap.size 5 (strOfNums L) HBd.out.size)
  have HBW := Aside0.mk (Go.Proofs.Ytlfpogbonmddmaa.P.bytes_below HBd.out HBd.out.size 5 (strOfNums L))
  rw [bytesL_str L HSU.out] at HRB
  generalize Lib.bytesWorld wd 5 (strOfNums L) = WE at kc HRB HBW
  generalize grownCap wd (strOfNums L).size 0 5 = cE at kc HRB
  clear hsz
  go_wp2
  go_ret2
  exact ⟨_, rfl, .inr HRB.out, HBW.out⟩
end Go.Proofs.Ytlfpogbonmddmaa.Pg
namespace Go.Proofs.Ytlfpogbonmddmaa.Pg
open Go.RowKit Go.Proofs.Ytlfpogbonmddmaa.P Go.Proofs.YtlfpogbonmddmaaW.PrintWords Go.Proofs.YtlfpogbonmddmaaW.PrintLast Go.Proofs.YtlfpogbonmddmaaW.PrintMore
set_option linter.unusedVariables false
set_option linter.unusedSimpArgs false
theorem RB_of_R {W : World} {B : Nat} {v : Value} {l : List Int} (h : Kd.R (Kd.int .u8) 5 W B (fun _ => True) v l) : RB W B v l := by
  obtain ⟨A, c, rfl, _, _⟩ := Kd.R_reads h
  cases A with
  | none =>
    refine .inl ?_
    have ho := Kd.own_of_R h
    obtain ⟨hl, hx | ⟨g, cap, cur, e, _⟩⟩ := ho
    · have h1 := hx.1
      injection h1 with _ h2 h3
      subst h3
      have : l = [] := List.eq_nil_of_length_eq_zero hx.2
      subst this
      exact ⟨rfl, rfl⟩
    · injection e with e1
      cases e1
  | some a => exact .inr (own_rowB (by have := Kd.own_of_R h; exact this) (fun e => by injection e with e1; cases e1))
theorem RB_same {W W' : World} {B : Nat} {v : Value} {l : List Int} (h : RB W B v l) (hk : ∀ k, B ≤ k → k < W.heap.size → W'.heap[k]? = W.heap[k]?) : RB W' B v l := h.imp id fun h => rowB_same h hk
theorem RB_top {W : World} {B : Nat} {v : Value} {l : List Int} (h : RB W B v l) (hl : l ≠ []) : ∀ g, v.ownBlock = some g → g < W.heap.size := by
  rcases h with ⟨rfl, rfl⟩ | h
  · exact absurd rfl hl
  · obtain ⟨g, cap, rfl, hg, hc0, hc, hv⟩ := h
    intro k hk
    have e : g = k := by simpa [Value.ownBlock] using hk
    subst e
    have h0 : 0 < l.length := List.length_pos_iff.2 hl
    exact cell_lt (a := ⟨g, 0, none⟩) (hc 0 (by omega)).1
theorem mark_RB (m : Nat) (l : List Int) (A : Option Addr) (c : Nat) (B T : Nat) (w : World) (h : RB w B (.slice A l.length c) l) (hT : l ≠ [] → ∀ g, (Value.slice A l.length c).ownBlock = some g → g < T) (hm : m + l.length ≤ 1000000000) :
    Calls Try.prog 18 #[.slice A l.length c, .int .i64 (m : Int)] w fun e w' => e = .returned (.int .i64 ((m + l.length : Nat) : Int)) ∧ RB w' B (.slice A l.length c) (markTo m l l.length) ∧ (∀ k, (k < B ∨ T ≤ k) → w'.heap[k]? = w.heap[k]?) ∧ Below B w w' := by
  by_cases hl : l = []
  · subst hl
    have HH := Aside0.mk h
    clear h hT hm
    go_enter Try.func18, Try.ntmps18
    go_wp2
    go_loopw [1, 5] (fun v1 v5 wr => v1 = .int .i64 (m : Int) ∧ v5 = .int .i64 0 ∧ wr = w) (fun _ _ _ => 0)
    case atStart => exact ⟨rfl, rfl, rfl⟩
    case round =>
      obtain ⟨rfl, rfl, rfl⟩ := hrel
      go_wp2
      go_ret
      exact ⟨by simp, HH.out, fun _ _ => rfl, Below.refl _ _⟩
  · rcases h with ⟨_, h⟩ | h
    · exact absurd h hl
    obtain ⟨g, cap, e, hl2⟩ := rowB_form h
    injection e with e1 _ e3
    subst e1 e3
    have hg : B ≤ g := by
      obtain ⟨g2, cap2, e, hg, _⟩ := h
      injection e with e1
      injection e1 with e1
      injection e1 with e1
      omega
    have hgT := hT hl g rfl
    refine (mark_rowB m l g c B w h hg hm).mono ?_
    rintro e w' ⟨rfl, h1, h2, h3⟩
    exact ⟨rfl, .inr h1, fun k hk => h2 k (by omega), h3⟩
theorem held_to (m : Nat) (l : List Int) (k : Nat) (hl : l.length < 100000000) (hm : m + l.length < 900000000) (hk : l.length < k) : laws_heldByteS.f k (markTo m l l.length) (m : Int) = some ((m + l.length : Nat) : Int) := by
  have hz : (markTo m l l.length).length = l.length := markTo_length m l _ (Nat.le_refl _)
  unfold laws_heldByteS.f
  have h := heldB_run l.length k 0 m (markTo m l l.length) (by omega) (by omega) (by omega) (by omega) (fun j _ hj => by
    rw [hz] at hj
    unfold markTo
    rw [List.getElem?_append_left (by simpa using hj), List.getElem?_map, List.getElem?_range hj]
    simp only [Option.map_some, Nat.sub_zero]
    rw [cm])
  exact h
theorem sealX_len (a0 a1 : ByteArray) (x b : List Int) : (sealX a0 a1 x b).1.length ≤ 70000 := by
  unfold sealX
  split
  · simp
  · split
    · show (sealL a0 a1 x b).length ≤ 70000
      rw [sealL_length]; omega
    · simp
theorem spec_sealx (a0 a1 : ByteArray) (x b : List Int) (ux : u8ok x) (ub : u8ok b) : spec_SealBytes.f 300000 a0 a1 x b = some (sealX a0 a1 x b) := by
  have hw : wrap64 (65536 - 16) = 65520 := by unfold wrap64; omega
  unfold spec_SealBytes.f sealX
  by_cases h0 : 65536 < a0.size
  · rw [if_pos (by omega), if_pos (.inl h0)]
    simp only [spec_SealBytes.j0, if_true]
  rw [if_neg (by omega)]
  by_cases h1 : 65536 < a1.size
  · rw [if_pos (by omega), if_pos (.inr (.inl h1))]
    simp only [spec_SealBytes.j0, if_true]
  rw [if_neg (by omega)]
  by_cases h2 : 65536 < x.length
  · rw [if_pos (by omega), if_pos (.inr (.inr (.inl h2)))]
    simp only [spec_SealBytes.j0, if_true]
  rw [if_neg (by omega)]
  by_cases h3 : 65520 < b.length
  · rw [if_pos (show 65536 < a0.size ∨ 65536 < a1.size ∨ 65536 < x.length ∨ 65520 < b.length from .inr (.inr (.inr h3)))]
    by_cases h4 : 65536 < b.length
    · rw [decide_eq_true (by omega)]
      simp only [spec_SealBytes.j0, if_true]
    rw [decide_eq_false (by omega)]
    simp only [spec_SealBytes.j0, Bool.false_eq_true, if_false]
    unfold spec_l04Code.f
    rw [if_neg (by omega), hw, decide_eq_true (by omega)]
    simp [spec_l04Code.j0]
  rw [decide_eq_false (by omega), if_neg (show ¬ (65536 < a0.size ∨ 65536 < a1.size ∨ 65536 < x.length ∨ 65520 < b.length) by omega)]
  simp only [spec_SealBytes.j0, Bool.false_eq_true, if_false]
  unfold spec_l04Code.f
  rw [if_neg (by omega), hw, decide_eq_false (by omega)]
  simp only [spec_l04Code.j0, Bool.false_eq_true, if_false]
  by_cases h5 : a0.size = 32
  · by_cases h6 : a1.size = 12
    · rw [sseal_eq _ a0 a1 x b ux ub h5 h6 (by omega) (by omega) (by decide)]
      simp [h5, h6]
    · have h7 : ¬ ((a1.size : Int) = 12) := by omega
      simp [h5, h6, h7]
  · have h7 : ¬ ((a0.size : Int) = 32) := by omega
    simp [h5, h7]
end Go.Proofs.Ytlfpogbonmddmaa.Pg
namespace Go.Proofs.Ytlfpogbonmddmaa.Pg
open Go.RowKit Go.Proofs.Ytlfpogbonmddmaa.P Go.Proofs.YtlfpogbonmddmaaW.PrintWords Go.Proofs.YtlfpogbonmddmaaW.PrintLast Go.Proofs.YtlfpogbonmddmaaW.PrintMore
set_option linter.unusedVariables false
set_option linter.unusedSimpArgs false
set_option maxHeartbeats 8000000 in
set_option maxRecDepth 100000 in
theorem FnExactSealBytes_law (a0 a1 : ByteArray) (A2 : Option Addr) (c2 : Nat) (l2 : List Int) (A3 : Option Addr) (c3 : Nat) (l3 : List Int) (w : World) (hr2 : Kd.C (Kd.int .u8) w A2 l2.length l2) (hc2 : l2.length ≤ c2) (hr3 : Kd.C (Kd.int .u8) w A3 l3.length l3) (hc3 : l3.length ≤ c3) (u2 : u8ok l2) (u3 : u8ok l3) (b0 : a0.size ≤ 1048576) (b1 : a1.size ≤ 1048576) (b2 : l2.length ≤ 1048576) (b3 : l3.length ≤ 1048576) :
    Calls Try.prog 3 #[.string a0, .string a1, .slice A2 l2.length c2, .slice A3 l3.length c3] w fun e w' => e = .returned (.bool true) ∧ Below w.heap.size w w' := by
  obtain ⟨rl, rc, hx⟩ : ∃ rl rc, sealX a0 a1 l2 l3 = (rl, rc) := ⟨_, _, rfl⟩
  have hlen : rl.length ≤ 70000 := by have := sealX_len a0 a1 l2 l3; rw [hx] at this; exact this
  have ES : Aside0 (spec_SealBytes.f 300000 a0 a1 l2 l3 = some (rl, rc)) := ⟨by rw [spec_sealx a0 a1 l2 l3 u2 u3, hx]⟩
  have EX := Aside0.mk hx
  have E2 : Aside0 (laws_toByteS.f 2000000 l2 = some l2) := ⟨toByteS_eq _ _ (by omega) (by omega)⟩
  have E3 : Aside0 (laws_toByteS.f 2000000 l3 = some l3) := ⟨toByteS_eq _ _ (by omega) (by omega)⟩
  have Q2 : Aside0 (laws_eqByteS.f 2000000 l2 l2 = some true) := ⟨by rw [eqByteS_eq 2000000 l2 l2 (by omega) (by omega)]; simp⟩
  have Q3 : Aside0 (laws_eqByteS.f 2000000 l3 l3 = some true) := ⟨by rw [eqByteS_eq 2000000 l3 l3 (by omega) (by omega)]; simp⟩
  have QR : Aside0 (laws_eqByteS.f 2000000 rl rl = some true) := ⟨by rw [eqByteS_eq 2000000 rl rl (by omega) (by omega)]; simp⟩
  have HD : Aside0 (laws_heldByteS.f 2000000 (markTo 1 rl rl.length) 1 = some ((1 + rl.length : Nat) : Int)) := ⟨held_to 1 rl 2000000 (by omega) (by omega) (by omega)⟩
  have HLZ : Aside0 (rl.length ≤ 70000 ∧ l2.length ≤ 1048576 ∧ l3.length ≤ 1048576 ∧ (markTo 1 rl rl.length).length = rl.length) := ⟨hlen, b2, b3, markTo_length _ _ _ (Nat.le_refl _)⟩
  have HR2 := Aside0.mk hr2
  have HC2 := Aside0.mk hc2
  have HR3 := Aside0.mk hr3
  have HC3 := Aside0.mk hc3
  have HU2 := Aside0.mk u2
  have HU3 := Aside0.mk u3
  have d0 : decide (1048576 < (a0.size : Int)) = false := decide_eq_false (by omega)
  have d1 : decide (1048576 < (a1.size : Int)) = false := decide_eq_false (by omega)
  have d2 : decide (1048576 < (l2.length : Int)) = false := decide_eq_false (by omega)
  have d3 : decide (1048576 < (l3.length : Int)) = false := decide_eq_false (by omega)
  have d4 : decide (1048576 < a0.size) = false := decide_eq_false (by omega)
  have d5 : decide (1048576 < a1.size) = false := decide_eq_false (by omega)
  have d6 : decide (1048576 < l2.length) = false := decide_eq_false (by omega)
  have d7 : decide (1048576 < l3.length) = false := decide_eq_false (by omega)
  clear hx hlen hr2 hc2 hr3 hc3 u2 u3 b0 b1 b2 b3
  have HB : Aside0 (Below w.heap.size w w) := ⟨Below.refl _ _⟩
  go_enter Try.func3, Try.ntmps3
  go_wp2_with fail
  refine (laws_toByteS.calls 2000000 A2 c2 l2 l2 _ (Kd.C_below HR2.out HB.out) HC2.out E2.out).mono ?_
  rintro e w1 ⟨v, rfl, hR, hb⟩
  have HB : Aside0 (Below w.heap.size w w1) := ⟨below_then HB.out HB.out.size hb⟩
  have HRB_p2 := Aside0.mk (RB_of_R hR)
  obtain ⟨A_p2, c_p2, rfl, hcc, hCC⟩ := RB_reads HRB_p2.out (by have := HLZ.out; omega)
  have HC_p2 := Aside0.mk hCC
  have HL_p2 := Aside0.mk hcc
  have HT_p2 : Aside0 (l2 ≠ [] → ∀ g, (Value.slice A_p2 l2.length c_p2).ownBlock = some g → g < w1.heap.size) := ⟨RB_top HRB_p2.out⟩
  clear hb hR hCC hcc
  go_wp2_with fail
  refine (laws_toByteS.calls 2000000 A3 c3 l3 l3 _ (Kd.C_below HR3.out HB.out) HC3.out E3.out).mono ?_
  rintro e w2 ⟨v, rfl, hR, hb⟩
  have HB : Aside0 (Below w.heap.size w w2) := ⟨below_then HB.out HB.out.size hb⟩
  have HC_p2 := Aside0.mk (Kd.C_below HC_p2.out hb)
  have HRB_p2 := Aside0.mk (RB_below HRB_p2.out hb)
  have HRB_p3 := Aside0.mk (RB_of_R hR)
  obtain ⟨A_p3, c_p3, rfl, hcc, hCC⟩ := RB_reads HRB_p3.out (by have := HLZ.out; omega)
  have HC_p3 := Aside0.mk hCC
  have HL_p3 := Aside0.mk hcc
  have HT_p3 : Aside0 (l3 ≠ [] → ∀ g, (Value.slice A_p3 l3.length c_p3).ownBlock = some g → g < w2.heap.size) := ⟨RB_top HRB_p3.out⟩
  clear hb hR hCC hcc
  go_wp2_with fail
  refine (spec_SealBytes.calls 300000 a0 a1 A_p2 c_p2 l2 A_p3 c_p3 l3 rl rc _ HC_p2.out HL_p2.out HC_p3.out HL_p3.out ES.out).mono ?_
  rintro e w3 ⟨v, rfl, hR, hb⟩
  have HB : Aside0 (Below w.heap.size w w3) := ⟨below_then HB.out HB.out.size hb⟩
  obtain ⟨A_w, c_w, rfl, hcc, hCC⟩ := Kd.R_reads hR
  have HC_w := Aside0.mk hCC
  have HL_w := Aside0.mk hcc
  have HA : Aside0 (Below w3.heap.size w3 w3) := ⟨Below.refl _ _⟩
  have HWA := Aside0.mk hCC
  have HWS : Aside0 (w.heap.size ≤ w3.heap.size) := ⟨HB.out.size⟩
  clear hb hR hCC hcc HC_p2 HC_p3 HRB_p2 HRB_p3 HL_p2 HL_p3 HT_p2 HT_p3
  go_wp2_with fail
  have HZ_x2 : Aside0 (w3.heap.size ≤ w3.heap.size) := ⟨HA.out.size⟩
  refine (laws_toByteS.calls 2000000 A2 c2 l2 l2 _ (Kd.C_below HR2.out HB.out) HC2.out E2.out).mono ?_
  rintro e w4 ⟨v, rfl, hR, hb⟩
  have HB : Aside0 (Below w.heap.size w w4) := ⟨below_then HB.out HB.out.size hb⟩
  have HA : Aside0 (Below w3.heap.size w3 w4) := ⟨below_then HA.out HA.out.size hb⟩
  have HC_w := Aside0.mk (Kd.C_below HC_w.out hb)
  have HRB_x2 := Aside0.mk (RB_of_R hR)
  obtain ⟨A_x2, c_x2, rfl, hcc, hCC⟩ := RB_reads HRB_x2.out (by have := HLZ.out; omega)
  have HC_x2 := Aside0.mk hCC
  have HL_x2 := Aside0.mk hcc
  have HT_x2 : Aside0 (l2 ≠ [] → ∀ g, (Value.slice A_x2 l2.length c_x2).ownBlock = some g → g < w4.heap.size) := ⟨RB_top HRB_x2.out⟩
  clear hb hR hCC hcc
  go_wp2_with fail
  have HZ_x3 : Aside0 (w3.heap.size ≤ w4.heap.size) := ⟨HA.out.size⟩
  refine (laws_toByteS.calls 2000000 A3 c3 l3 l3 _ (Kd.C_below HR3.out HB.out) HC3.out E3.out).mono ?_
  rintro e w5 ⟨v, rfl, hR, hb⟩
  have HB : Aside0 (Below w.heap.size w w5) := ⟨below_then HB.out HB.out.size hb⟩
  have HA : Aside0 (Below w3.heap.size w3 w5) := ⟨below_then HA.out HA.out.size hb⟩
  have HC_w := Aside0.mk (Kd.C_below HC_w.out hb)
  have HC_x2 := Aside0.mk (Kd.C_below HC_x2.out hb)
  have HRB_x2 := Aside0.mk (RB_below HRB_x2.out hb)
  have HRB_x3 := Aside0.mk (RB_of_R hR)
  obtain ⟨A_x3, c_x3, rfl, hcc, hCC⟩ := RB_reads HRB_x3.out (by have := HLZ.out; omega)
  have HC_x3 := Aside0.mk hCC
  have HL_x3 := Aside0.mk hcc
  have HT_x3 : Aside0 (l3 ≠ [] → ∀ g, (Value.slice A_x3 l3.length c_x3).ownBlock = some g → g < w5.heap.size) := ⟨RB_top HRB_x3.out⟩
  have HSIZE : Aside0 (w4.heap.size ≤ w5.heap.size) := ⟨hb.size⟩
  clear hb hR hCC hcc
  go_wp2_with fail
  have HZ_g : Aside0 (w3.heap.size ≤ w5.heap.size) := ⟨HA.out.size⟩
  refine (SealBytes_in a0 a1 A_x2 c_x2 l2 A_x3 c_x3 l3 rl rc _ HC_x2.out HL_x2.out HC_x3.out HL_x3.out HU2.out HU3.out EX.out).mono ?_
  rintro e w6 ⟨v, rfl, hR, hb⟩
  have HB : Aside0 (Below w.heap.size w w6) := ⟨below_then HB.out HB.out.size hb⟩
  have HA : Aside0 (Below w3.heap.size w3 w6) := ⟨below_then HA.out HA.out.size hb⟩
  have HC_w := Aside0.mk (Kd.C_below HC_w.out hb)
  have HC_x2 := Aside0.mk (Kd.C_below HC_x2.out hb)
  have HC_x3 := Aside0.mk (Kd.C_below HC_x3.out hb)
  have HRB_x2 := Aside0.mk (RB_below HRB_x2.out hb)
  have HRB_x3 := Aside0.mk (RB_below HRB_x3.out hb)
  have HRB_g := Aside0.mk hR
  obtain ⟨A_g, c_g, rfl, hcc, hCC⟩ := RB_reads HRB_g.out (by have := HLZ.out; omega)
  have HC_g := Aside0.mk hCC
  have HL_g := Aside0.mk hcc
  have HT_g : Aside0 (rl ≠ [] → ∀ g, (Value.slice A_g rl.length c_g).ownBlock = some g → g < w6.heap.size) := ⟨RB_top HRB_g.out⟩
  clear hb hR hCC hcc
  go_wp2_with fail
  refine (laws_eqByteS.calls 2000000 A_g c_g rl A_w c_w rl true _ HC_g.out HL_g.out HC_w.out HL_w.out QR.out).mono ?_
  rintro e w7 ⟨rfl, hd⟩
  have hb := hd.below
  have HB : Aside0 (Below w.heap.size w w7) := ⟨below_then HB.out HB.out.size hb⟩
  have HA : Aside0 (Below w3.heap.size w3 w7) := ⟨below_then HA.out HA.out.size hb⟩
  have HC_w := Aside0.mk (Kd.C_below HC_w.out hb)
  have HC_x2 := Aside0.mk (Kd.C_below HC_x2.out hb)
  have HC_x3 := Aside0.mk (Kd.C_below HC_x3.out hb)
  have HC_g := Aside0.mk (Kd.C_below HC_g.out hb)
  have HRB_x2 := Aside0.mk (RB_below HRB_x2.out hb)
  have HRB_x3 := Aside0.mk (RB_below HRB_x3.out hb)
  have HRB_g := Aside0.mk (RB_below HRB_g.out hb)
  clear hb hd
  go_wp2_with fail
  have HZ_y2 : Aside0 (w3.heap.size ≤ w7.heap.size) := ⟨HA.out.size⟩
  refine (laws_toByteS.calls 2000000 A2 c2 l2 l2 _ (Kd.C_below HR2.out HB.out) HC2.out E2.out).mono ?_
  rintro e w8 ⟨v, rfl, hR, hb⟩
  have HB : Aside0 (Below w.heap.size w w8) := ⟨below_then HB.out HB.out.size hb⟩
  have HA : Aside0 (Below w3.heap.size w3 w8) := ⟨below_then HA.out HA.out.size hb⟩
  have HC_w := Aside0.mk (Kd.C_below HC_w.out hb)
  have HC_x2 := Aside0.mk (Kd.C_below HC_x2.out hb)
  have HC_x3 := Aside0.mk (Kd.C_below HC_x3.out hb)
  have HC_g := Aside0.mk (Kd.C_below HC_g.out hb)
  have HRB_x2 := Aside0.mk (RB_below HRB_x2.out hb)
  have HRB_x3 := Aside0.mk (RB_below HRB_x3.out hb)
  have HRB_g := Aside0.mk (RB_below HRB_g.out hb)
  have HRB_y2 := Aside0.mk (RB_of_R hR)
  obtain ⟨A_y2, c_y2, rfl, hcc, hCC⟩ := RB_reads HRB_y2.out (by have := HLZ.out; omega)
  have HC_y2 := Aside0.mk hCC
  have HL_y2 := Aside0.mk hcc
  have HT_y2 : Aside0 (l2 ≠ [] → ∀ g, (Value.slice A_y2 l2.length c_y2).ownBlock = some g → g < w8.heap.size) := ⟨RB_top HRB_y2.out⟩
  clear hb hR hCC hcc
  go_wp2_with fail
  refine (laws_eqByteS.calls 2000000 A_x2 c_x2 l2 A_y2 c_y2 l2 true _ HC_x2.out HL_x2.out HC_y2.out HL_y2.out Q2.out).mono ?_
  rintro e w9 ⟨rfl, hd⟩
  have hb := hd.below
  have HB : Aside0 (Below w.heap.size w w9) := ⟨below_then HB.out HB.out.size hb⟩
  have HA : Aside0 (Below w3.heap.size w3 w9) := ⟨below_then HA.out HA.out.size hb⟩
  have HC_w := Aside0.mk (Kd.C_below HC_w.out hb)
  have HC_x2 := Aside0.mk (Kd.C_below HC_x2.out hb)
  have HC_x3 := Aside0.mk (Kd.C_below HC_x3.out hb)
  have HC_g := Aside0.mk (Kd.C_below HC_g.out hb)
  have HC_y2 := Aside0.mk (Kd.C_below HC_y2.out hb)
  have HRB_x2 := Aside0.mk (RB_below HRB_x2.out hb)
  have HRB_x3 := Aside0.mk (RB_below HRB_x3.out hb)
  have HRB_g := Aside0.mk (RB_below HRB_g.out hb)
  have HRB_y2 := Aside0.mk (RB_below HRB_y2.out hb)
  clear hb hd
  clear HC_y2 HRB_y2 HL_y2 HT_y2
  go_wp2_with fail
  have HZ_y3 : Aside0 (w3.heap.size ≤ w9.heap.size) := ⟨HA.out.size⟩
  refine (laws_toByteS.calls 2000000 A3 c3 l3 l3 _ (Kd.C_below HR3.out HB.out) HC3.out E3.out).mono ?_
  rintro e w10 ⟨v, rfl, hR, hb⟩
  have HB : Aside0 (Below w.heap.size w w10) := ⟨below_then HB.out HB.out.size hb⟩
  have HA : Aside0 (Below w3.heap.size w3 w10) := ⟨below_then HA.out HA.out.size hb⟩
  have HC_w := Aside0.mk (Kd.C_below HC_w.out hb)
  have HC_x2 := Aside0.mk (Kd.C_below HC_x2.out hb)
  have HC_x3 := Aside0.mk (Kd.C_below HC_x3.out hb)
  have HC_g := Aside0.mk (Kd.C_below HC_g.out hb)
  have HRB_x2 := Aside0.mk (RB_below HRB_x2.out hb)
  have HRB_x3 := Aside0.mk (RB_below HRB_x3.out hb)
  have HRB_g := Aside0.mk (RB_below HRB_g.out hb)
  have HRB_y3 := Aside0.mk (RB_of_R hR)
  obtain ⟨A_y3, c_y3, rfl, hcc, hCC⟩ := RB_reads HRB_y3.out (by have := HLZ.out; omega)
  have HC_y3 := Aside0.mk hCC
  have HL_y3 := Aside0.mk hcc
  have HT_y3 : Aside0 (l3 ≠ [] → ∀ g, (Value.slice A_y3 l3.length c_y3).ownBlock = some g → g < w10.heap.size) := ⟨RB_top HRB_y3.out⟩
  clear hb hR hCC hcc
  go_wp2_with fail
  refine (laws_eqByteS.calls 2000000 A_x3 c_x3 l3 A_y3 c_y3 l3 true _ HC_x3.out HL_x3.out HC_y3.out HL_y3.out Q3.out).mono ?_
  rintro e w11 ⟨rfl, hd⟩
  have hb := hd.below
  have HB : Aside0 (Below w.heap.size w w11) := ⟨below_then HB.out HB.out.size hb⟩
  have HA : Aside0 (Below w3.heap.size w3 w11) := ⟨below_then HA.out HA.out.size hb⟩
  have HC_w := Aside0.mk (Kd.C_below HC_w.out hb)
  have HC_x2 := Aside0.mk (Kd.C_below HC_x2.out hb)
  have HC_x3 := Aside0.mk (Kd.C_below HC_x3.out hb)
  have HC_g := Aside0.mk (Kd.C_below HC_g.out hb)
  have HC_y3 := Aside0.mk (Kd.C_below HC_y3.out hb)
  have HRB_x2 := Aside0.mk (RB_below HRB_x2.out hb)
  have HRB_x3 := Aside0.mk (RB_below HRB_x3.out hb)
  have HRB_g := Aside0.mk (RB_below HRB_g.out hb)
  have HRB_y3 := Aside0.mk (RB_below HRB_y3.out hb)
  clear hb hd
  clear HC_y3 HRB_y3 HL_y3 HT_y3
  have HB3G : Aside0 (w4.heap.size ≤ w5.heap.size) := ⟨HSIZE.out⟩
  go_wp2_with fail
  refine (mark_RB 1 l2 A_x2 c_x2 w3.heap.size w4.heap.size _ HRB_x2.out HT_x2.out (by have := HLZ.out; omega)).mono ?_
  rintro e w12 ⟨rfl, hm1, hm2, hm4⟩
  obtain ⟨M_x2, hM⟩ : ∃ M : Nat, M = 1 + l2.length := ⟨_, rfl⟩
  rw [← hM]
  have HM_x2 := Aside0.mk hM
  clear hM
  have HB : Aside0 (Below w.heap.size w w12) := ⟨HB.out.trans (hm4.mono (by have h1 := HZ_x2.out; have h2 := HWS.out; omega))⟩
  have HA : Aside0 (Below w3.heap.size w3 w12) := ⟨HA.out.trans (hm4.mono HZ_x2.out)⟩
  have HRB_x3 := Aside0.mk (RB_same HRB_x3.out (fun k h1 _ => hm2 k (.inr (h1))))
  have HRB_g := Aside0.mk (RB_same HRB_g.out (fun k h1 _ => hm2 k (.inr (Nat.le_trans HB3G.out h1))))
  have HRB_x2 := Aside0.mk hm1
  have HC_w := Aside0.mk (Kd.C_below HWA.out HA.out)
  clear hm1 hm2 hm4
  clear HC_x2 HRB_x2 HL_x2 HT_x2
  go_wp2_with fail
  refine (mark_RB M_x2 l3 A_x3 c_x3 w4.heap.size w5.heap.size _ HRB_x3.out HT_x3.out (by have := HLZ.out; have := HM_x2.out; omega)).mono ?_
  rintro e w13 ⟨rfl, hm1, hm2, hm4⟩
  obtain ⟨M_x3, hM⟩ : ∃ M : Nat, M = M_x2 + l3.length := ⟨_, rfl⟩
  rw [← hM]
  have HM_x3 := Aside0.mk hM
  clear hM
  have HB : Aside0 (Below w.heap.size w w13) := ⟨HB.out.trans (hm4.mono (by have h1 := HZ_x3.out; have h2 := HWS.out; omega))⟩
  have HA : Aside0 (Below w3.heap.size w3 w13) := ⟨HA.out.trans (hm4.mono HZ_x3.out)⟩
  have HRB_g := Aside0.mk (RB_same HRB_g.out (fun k h1 _ => hm2 k (.inr (h1))))
  have HRB_x3 := Aside0.mk hm1
  have HC_w := Aside0.mk (Kd.C_below HWA.out HA.out)
  clear hm1 hm2 hm4
  clear HC_x3 HRB_x3 HL_x3 HT_x3
  have HC_g : Aside0 (Kd.C (Kd.int .u8) w13 A_g rl.length rl) := ⟨by obtain ⟨A', c', e', _, h'⟩ := RB_reads HRB_g.out (by have := HLZ.out; omega); injection e' with e1; rw [e1]; exact h'⟩
  have d8 : decide ((M_x3 : Int) < 0) = false := decide_eq_false (by omega)
  go_wp2_with fail
  refine (laws_eqByteS.calls 2000000 A_g c_g rl A_w c_w rl true _ HC_g.out HL_g.out HC_w.out HL_w.out QR.out).mono ?_
  rintro e w14 ⟨rfl, hd⟩
  have hb := hd.below
  have HB : Aside0 (Below w.heap.size w w14) := ⟨below_then HB.out HB.out.size hb⟩
  have HA : Aside0 (Below w3.heap.size w3 w14) := ⟨below_then HA.out HA.out.size hb⟩
  have HC_w := Aside0.mk (Kd.C_below HC_w.out hb)
  have HC_g := Aside0.mk (Kd.C_below HC_g.out hb)
  have HRB_g := Aside0.mk (RB_below HRB_g.out hb)
  clear hb hd
  clear d8
  go_wp2_with fail
  refine (mark_RB 1 rl A_g c_g w5.heap.size w6.heap.size _ HRB_g.out HT_g.out (by have := HLZ.out; omega)).mono ?_
  rintro e w15 ⟨rfl, hm1, hm2, hm4⟩
  obtain ⟨M_g, hM⟩ : ∃ M : Nat, M = 1 + rl.length := ⟨_, rfl⟩
  rw [← hM]
  have HM_g := Aside0.mk hM
  clear hM
  have HB : Aside0 (Below w.heap.size w w15) := ⟨HB.out.trans (hm4.mono (by have h1 := HZ_g.out; have h2 := HWS.out; omega))⟩
  have HA : Aside0 (Below w3.heap.size w3 w15) := ⟨HA.out.trans (hm4.mono HZ_g.out)⟩
  have HRB_g := Aside0.mk hm1
  have HC_w := Aside0.mk (Kd.C_below HWA.out HA.out)
  clear hm1 hm2 hm4
  obtain ⟨ML, hML⟩ : ∃ L, L = markTo 1 rl rl.length := ⟨_, rfl⟩
  have HDL : Aside0 (laws_heldByteS.f 2000000 ML 1 = some ((1 + rl.length : Nat) : Int)) := ⟨by rw [hML]; exact HD.out⟩
  have HMZ : Aside0 (ML.length = rl.length) := ⟨by rw [hML]; exact HLZ.out.2.2.2⟩
  rw [← hML] at HRB_g
  clear hML HD
  have HDM : Aside0 (laws_heldByteS.f 2000000 ML 1 = some (M_g : Int)) := ⟨by rw [HM_g.out]; exact HDL.out⟩
  have d9 : decide ((M_g : Int) < 0) = false := decide_eq_false (by omega)
  have d10 : ((M_g : Int) != (M_g : Int)) = false := bne_self_eq_false _
  have HC_g : Aside0 (Kd.C (Kd.int .u8) w15 A_g ML.length ML) := ⟨by obtain ⟨A', c', e', _, h'⟩ := RB_reads HRB_g.out (by have := HLZ.out; have := HMZ.out; omega); injection e' with e1; rw [e1]; exact h'⟩
  go_wp2_with fail
  have hh := laws_heldByteS.calls 2000000 A_g c_g ML 1 (M_g : Int) _ HC_g.out (by rw [HMZ.out]; exact HL_g.out) HDM.out
  rw [HMZ.out] at hh
  refine hh.mono ?_
  clear hh
  rintro e w16 ⟨rfl, hd⟩
  have hb := hd.below
  have HB : Aside0 (Below w.heap.size w w16) := ⟨below_then HB.out HB.out.size hb⟩
  have HA : Aside0 (Below w3.heap.size w3 w16) := ⟨below_then HA.out HA.out.size hb⟩
  have HC_w := Aside0.mk (Kd.C_below HC_w.out hb)
  have HRB_g := Aside0.mk (RB_below HRB_g.out hb)
  clear hb hd HC_g
  go_wp2_with fail
  have HZ_z2 : Aside0 (w3.heap.size ≤ w16.heap.size) := ⟨HA.out.size⟩
  refine (laws_toByteS.calls 2000000 A2 c2 l2 l2 _ (Kd.C_below HR2.out HB.out) HC2.out E2.out).mono ?_
  rintro e w17 ⟨v, rfl, hR, hb⟩
  have HB : Aside0 (Below w.heap.size w w17) := ⟨below_then HB.out HB.out.size hb⟩
  have HA : Aside0 (Below w3.heap.size w3 w17) := ⟨below_then HA.out HA.out.size hb⟩
  have HC_w := Aside0.mk (Kd.C_below HC_w.out hb)
  have HRB_g := Aside0.mk (RB_below HRB_g.out hb)
  have HRB_z2 := Aside0.mk (RB_of_R hR)
  obtain ⟨A_z2, c_z2, rfl, hcc, hCC⟩ := RB_reads HRB_z2.out (by have := HLZ.out; omega)
  have HC_z2 := Aside0.mk hCC
  have HL_z2 := Aside0.mk hcc
  have HT_z2 : Aside0 (l2 ≠ [] → ∀ g, (Value.slice A_z2 l2.length c_z2).ownBlock = some g → g < w17.heap.size) := ⟨RB_top HRB_z2.out⟩
  clear hb hR hCC hcc
  go_wp2_with fail
  have HZ_z3 : Aside0 (w3.heap.size ≤ w17.heap.size) := ⟨HA.out.size⟩
  refine (laws_toByteS.calls 2000000 A3 c3 l3 l3 _ (Kd.C_below HR3.out HB.out) HC3.out E3.out).mono ?_
  rintro e w18 ⟨v, rfl, hR, hb⟩
  have HB : Aside0 (Below w.heap.size w w18) := ⟨below_then HB.out HB.out.size hb⟩
  have HA : Aside0 (Below w3.heap.size w3 w18) := ⟨below_then HA.out HA.out.size hb⟩
  have HC_w := Aside0.mk (Kd.C_below HC_w.out hb)
  have HC_z2 := Aside0.mk (Kd.C_below HC_z2.out hb)
  have HRB_g := Aside0.mk (RB_below HRB_g.out hb)
  have HRB_z2 := Aside0.mk (RB_below HRB_z2.out hb)
  have HRB_z3 := Aside0.mk (RB_of_R hR)
  obtain ⟨A_z3, c_z3, rfl, hcc, hCC⟩ := RB_reads HRB_z3.out (by have := HLZ.out; omega)
  have HC_z3 := Aside0.mk hCC
  have HL_z3 := Aside0.mk hcc
  have HT_z3 : Aside0 (l3 ≠ [] → ∀ g, (Value.slice A_z3 l3.length c_z3).ownBlock = some g → g < w18.heap.size) := ⟨RB_top HRB_z3.out⟩
  clear hb hR hCC hcc
  go_wp2_with fail
  have HZ_h : Aside0 (w3.heap.size ≤ w18.heap.size) := ⟨HA.out.size⟩
  refine (SealBytes_in a0 a1 A_z2 c_z2 l2 A_z3 c_z3 l3 rl rc _ HC_z2.out HL_z2.out HC_z3.out HL_z3.out HU2.out HU3.out EX.out).mono ?_
  rintro e w19 ⟨v, rfl, hR, hb⟩
  have HB : Aside0 (Below w.heap.size w w19) := ⟨below_then HB.out HB.out.size hb⟩
  have HA : Aside0 (Below w3.heap.size w3 w19) := ⟨below_then HA.out HA.out.size hb⟩
  have HC_w := Aside0.mk (Kd.C_below HC_w.out hb)
  have HC_z2 := Aside0.mk (Kd.C_below HC_z2.out hb)
  have HC_z3 := Aside0.mk (Kd.C_below HC_z3.out hb)
  have HRB_g := Aside0.mk (RB_below HRB_g.out hb)
  have HRB_z2 := Aside0.mk (RB_below HRB_z2.out hb)
  have HRB_z3 := Aside0.mk (RB_below HRB_z3.out hb)
  have HRB_h := Aside0.mk hR
  obtain ⟨A_h, c_h, rfl, hcc, hCC⟩ := RB_reads HRB_h.out (by have := HLZ.out; omega)
  have HC_h := Aside0.mk hCC
  have HL_h := Aside0.mk hcc
  have HT_h : Aside0 (rl ≠ [] → ∀ g, (Value.slice A_h rl.length c_h).ownBlock = some g → g < w19.heap.size) := ⟨RB_top HRB_h.out⟩
  clear hb hR hCC hcc
  clear HC_z2 HC_z3 HRB_z2 HRB_z3 HL_z2 HL_z3 HT_z2 HT_z3
  go_wp2_with fail
  refine (laws_eqByteS.calls 2000000 A_h c_h rl A_w c_w rl true _ HC_h.out HL_h.out HC_w.out HL_w.out QR.out).mono ?_
  rintro e w20 ⟨rfl, hd⟩
  have hb := hd.below
  have HB : Aside0 (Below w.heap.size w w20) := ⟨below_then HB.out HB.out.size hb⟩
  have HA : Aside0 (Below w3.heap.size w3 w20) := ⟨below_then HA.out HA.out.size hb⟩
  have HC_w := Aside0.mk (Kd.C_below HC_w.out hb)
  have HC_h := Aside0.mk (Kd.C_below HC_h.out hb)
  have HRB_g := Aside0.mk (RB_below HRB_g.out hb)
  have HRB_h := Aside0.mk (RB_below HRB_h.out hb)
  clear hb hd
  have HC_g : Aside0 (Kd.C (Kd.int .u8) w20 A_g ML.length ML) := ⟨by obtain ⟨A', c', e', _, h'⟩ := RB_reads HRB_g.out (by have := HLZ.out; have := HMZ.out; omega); injection e' with e1; rw [e1]; exact h'⟩
  go_wp2_with fail
  have hh := laws_heldByteS.calls 2000000 A_g c_g ML 1 (M_g : Int) _ HC_g.out (by rw [HMZ.out]; exact HL_g.out) HDM.out
  rw [HMZ.out] at hh
  refine hh.mono ?_
  clear hh
  rintro e w21 ⟨rfl, hd⟩
  have hb := hd.below
  have HB : Aside0 (Below w.heap.size w w21) := ⟨below_then HB.out HB.out.size hb⟩
  have HA : Aside0 (Below w3.heap.size w3 w21) := ⟨below_then HA.out HA.out.size hb⟩
  have HC_w := Aside0.mk (Kd.C_below HC_w.out hb)
  have HC_h := Aside0.mk (Kd.C_below HC_h.out hb)
  have HRB_g := Aside0.mk (RB_below HRB_g.out hb)
  have HRB_h := Aside0.mk (RB_below HRB_h.out hb)
  clear hb hd HC_g
  go_wp2
  go_ret
  exact ⟨rfl, HB.out⟩
set_option maxRecDepth 100000 in
theorem FnExactSealBytes_walk (a0 : ByteArray) (a1 : ByteArray) (a2 : Option Addr) (len2 cap2 : Nat) (z2 : List Int) (a3 : Option Addr) (len3 cap3 : Nat) (z3 : List Int) (w : World) (w0 : a0.size ≤ 140737488351232) (w1 : a1.size ≤ 140737488351232) (w2 : (a2 = none ∧ len2 = 0 ∧ cap2 = 0 ∧ z2 = []) ∨ ∃ x, a2 = some x ∧ len2 ≤ cap2 ∧ cap2 ≤ maxLen ∧ z2.length = cap2 ∧ (∀ i, i < z2.length → w.cell? (x.add i) = some (.int .u8 (z2.getD i 0))) ∧ ∀ n ∈ z2, (Lit.int .u8 n).wf = true) (y2 : len2 * 1 ≤ 140737488351232) (w3 : (a3 = none ∧ len3 = 0 ∧ cap3 = 0 ∧ z3 = []) ∨ ∃ x, a3 = some x ∧ len3 ≤ cap3 ∧ cap3 ≤ maxLen ∧ z3.length = cap3 ∧ (∀ i, i < z3.length → w.cell? (x.add i) = some (.int .u8 (z3.getD i 0))) ∧ ∀ n ∈ z3, (Lit.int .u8 n).wf = true) (y3 : len3 * 1 ≤ 140737488351232) :
    Calls Try.prog 3 #[.string a0, .string a1, .slice a2 len2 cap2, .slice a3 len3 cap3] w fun e w' => e = .returned (.bool true) ∧ Below w.heap.size w w' := by
  obtain ⟨l2, rfl, hr2, hm2, hw2, hc2⟩ := ReadsInt.ofRowC w2
  obtain ⟨l3, rfl, hr3, hm3, hw3, hc3⟩ := ReadsInt.ofRowC w3
  by_cases b0 : 1048576 < a0.size
  · have d0 : decide (1048576 < (a0.size : Int)) = true := decide_eq_true (by omega)
    have f0 : decide (1048576 < a0.size) = true := decide_eq_true b0
    clear w0 w1 hr2 hm2 hw2 hc2 w2 y2 hr3 hm3 hw3 hc3 w3 y3 b0
    go_enter Try.func3, Try.ntmps3
    go_wp2
    go_ret
    exact ⟨rfl, Below.refl _ _⟩
  by_cases b1 : 1048576 < a1.size
  · have d1 : decide (1048576 < (a1.size : Int)) = true := decide_eq_true (by omega)
    have f1 : decide (1048576 < a1.size) = true := decide_eq_true b1
    have d0 : decide (1048576 < (a0.size : Int)) = false := decide_eq_false (by omega)
    have f0 : decide (1048576 < a0.size) = false := decide_eq_false b0
    clear w0 w1 hr2 hm2 hw2 hc2 w2 y2 hr3 hm3 hw3 hc3 w3 y3 b0 b1
    go_enter Try.func3, Try.ntmps3
    go_wp2
    go_ret
    exact ⟨rfl, Below.refl _ _⟩
  by_cases b2 : 1048576 < l2.length
  · have d2 : decide (1048576 < (l2.length : Int)) = true := decide_eq_true (by omega)
    have f2 : decide (1048576 < l2.length) = true := decide_eq_true b2
    have d0 : decide (1048576 < (a0.size : Int)) = false := decide_eq_false (by omega)
    have f0 : decide (1048576 < a0.size) = false := decide_eq_false b0
    have d1 : decide (1048576 < (a1.size : Int)) = false := decide_eq_false (by omega)
    have f1 : decide (1048576 < a1.size) = false := decide_eq_false b1
    clear w0 w1 hr2 hm2 hw2 hc2 w2 y2 hr3 hm3 hw3 hc3 w3 y3 b0 b1 b2
    go_enter Try.func3, Try.ntmps3
    go_wp2
    go_ret
    exact ⟨rfl, Below.refl _ _⟩
  by_cases b3 : 1048576 < l3.length
  · have d3 : decide (1048576 < (l3.length : Int)) = true := decide_eq_true (by omega)
    have f3 : decide (1048576 < l3.length) = true := decide_eq_true b3
    have d0 : decide (1048576 < (a0.size : Int)) = false := decide_eq_false (by omega)
    have f0 : decide (1048576 < a0.size) = false := decide_eq_false b0
    have d1 : decide (1048576 < (a1.size : Int)) = false := decide_eq_false (by omega)
    have f1 : decide (1048576 < a1.size) = false := decide_eq_false b1
    have d2 : decide (1048576 < (l2.length : Int)) = false := decide_eq_false (by omega)
    have f2 : decide (1048576 < l2.length) = false := decide_eq_false b2
    clear w0 w1 hr2 hm2 hw2 hc2 w2 y2 hr3 hm3 hw3 hc3 w3 y3 b0 b1 b2 b3
    go_enter Try.func3, Try.ntmps3
    go_wp2
    go_ret
    exact ⟨rfl, Below.refl _ _⟩
  exact FnExactSealBytes_law a0 a1 _ _ l2 _ _ l3 w (Kd.C_of_reads (d := (0 : Int)) (h1 := fun _ => rfl) hr2) hc2 (Kd.C_of_reads (d := (0 : Int)) (h1 := fun _ => rfl) hr3) hc3 (isU8_of hw2) (isU8_of hw3) (by omega) (by omega) (by omega) (by omega)
end Go.Proofs.Ytlfpogbonmddmaa.Pg
namespace Go.Proofs.YtlfpogbonmddmaaW.PrintWords
open Go.ChangeShapes Go.WideShapes
theorem sized_ints {H : Type} {enc : TypeId × Value → H} {P : Program} {W : World} {base : Nat} {spare : Nat → Bool} {held : Bool} {t e : TypeId} {k : IntKind} {a : Option Addr} {len cap : Nat} {d : DataW H} {ps : List MemPlace} {ts : List TypeId} {ds : List (DataW H)} {j : Nat}
    (hsz : (DataW.weightsEach P ts ds).all (· ≤ reachBytes) = true) (ht : ts[j]? = some t) (hd : ds[j]? = some d) (hu : P.underlying t = some (.slice e)) (he : P.underlying e = some (.int k)) (hc : P.cellsOf e = 1) {B : Nat} (hB : P.bytesOf e = B)
    (h : DataW.Trod enc P W base spare held t (.slice a len cap) d ps) : len * B ≤ 140737488351232 := by
  obtain ⟨fuel, hf⟩ := h
  rcases open_ints hu he hc hf with ⟨hcs, _⟩ | ⟨x, l, c, zs, hcs, _, hl, _, hz, hx, _, _⟩
  · simp [Value.cells] at hcs
    obtain ⟨rfl, rfl, rfl⟩ := hcs
    simp
  · simp [Value.cells] at hcs
    obtain ⟨rfl, rfl, rfl⟩ := hcs
    obtain ⟨hx, _⟩ := Prod.mk.inj hx
    subst hx
    have z := sized_slice hsz ht hd hu
    rw [hB] at z
    have hl2 : len ≤ zs.length := by
      rw [hz]
      split
      · exact hl
      · exact Nat.le_refl _
    have h1 : (lits (H := H) k (zs.take len)).length + (lits (H := H) k (zs.drop len)).length = zs.length := by
      simp [lits]
      omega
    rw [h1] at z
    exact Nat.le_trans (Nat.mul_le_mul_right _ hl2) z
end Go.Proofs.YtlfpogbonmddmaaW.PrintWords

/- Laid by a program of this session: of Pt14 what this law uses. -/
import Derived.Test.YtlfpogbonmddmaaZFsM11
import Derived.Test.YtlfpogbonmddmaaZFsPt12
import Derived.Test.YtlfpogbonmddmaaZFsPt13
namespace Go.Proofs.Ytlfpogbonmddmaa.P
open Go.RowKit Go.Proofs.YtlfpogbonmddmaaW.PrintWords Go.Proofs.YtlfpogbonmddmaaW.PrintLast Go.Proofs.YtlfpogbonmddmaaW.PrintMore
attribute [local go_sem] min2_int min_two
set_option linter.unusedVariables false
set_option linter.unusedSimpArgs false
set_option maxHeartbeats 8000000 in
set_option maxRecDepth 100000 in
theorem impl_columns_fast (b : List Int) (w : World) (hb : b.length = 16) (ob : Aes.ok b) :
   Calls Try.prog 118 #[arr8 b, .func (.func 119) #[] #[]] w fun e w' => e = .returned (arr8 (colsF fastL b)) ∧ Below w.heap.size w w' := by
 obtain ⟨F, hFd⟩ : ∃ F : List Int → List Int, F = fastL := ⟨_, rfl⟩
 have hF : ∀ c : List Int, c.length = 4 → (F c).length = 4 := fun c hc => by rw [hFd]; exact fastL_length c
 have hC : ∀ (c : List Int) (w : World), c.length = 4 → Aes.ok c → Calls Try.prog 119 #[arr8 c] w fun e w' => e = .returned (arr8 (F c)) ∧ Below w.heap.size w w' := fun c w h1 h2 => by rw [hFd]; exact impl_fastMix.calls c w h1 h2
 rw [← hFd]
 clear hFd
 have HL := Aside0.mk hb
 have OB := Aside0.mk ob
 obtain ⟨R, hR⟩ : ∃ R, R = colsF F b := ⟨_, rfl⟩
 have HRL : Aside0 (R.length = 16) := ⟨by rw [hR]; exact colsF_length F hF b hb⟩
 have HRP : Aside0 (∀ k j, k < 4 → j < 4 → R.getD (4 * k + j) 0 = (F ((b.drop (4 * k)).take 4)).getD j 0) := ⟨fun k j hk hj => by rw [hR]; exact colsF_part F hF b hb k j hk hj⟩
 have HFF := Aside0.mk hF
 have HCC := Aside0.mk hC
 rw [← hR]
 clear hb ob hR hF hC
 unfold arr8
 go_enter Try.func118, Try.ntmps118
 go_upto_region 1 with (fail)
 obtain ⟨g0, hg0⟩ : ∃ g, g = w.heap.size := ⟨_, rfl⟩
 have HG := Aside0.mk hg0
 show Code.wp _ _ _ _ ((w.alloc (.cells (nums .u8 b).toArray 110)).alloc (.cells (nums .u8 (List.replicate 16 0)).toArray 110))
 have G0 : Aside0 (((w.alloc (.cells (nums .u8 b).toArray 110)).alloc (.cells (nums .u8 (List.replicate 16 0)).toArray 110)).heap[g0]? = some (.cells (nums .u8 (R.take 0 ++ b.drop 0)).toArray 110 (0, 0))) := ⟨by rw [hg0]; exact blk_alloc (blk_new w _) _⟩
 have G1 : Aside0 (((w.alloc (.cells (nums .u8 b).toArray 110)).alloc (.cells (nums .u8 (List.replicate 16 0)).toArray 110)).heap[g0 + 1]? = some (.cells (nums .u8 (List.replicate 16 0)).toArray 110 (0, 0))) := ⟨by rw [hg0]; exact blk_new2 w _ _⟩
 have HB : Aside0 (Below w.heap.size w ((w.alloc (.cells (nums .u8 b).toArray 110)).alloc (.cells (nums .u8 (List.replicate 16 0)).toArray 110))) := ⟨below_alloc (below_alloc (Below.refl _ _) _) _⟩
 have HS : Aside0 (g0 + 2 ≤ ((w.alloc (.cells (nums .u8 b).toArray 110)).alloc (.cells (nums .u8 (List.replicate 16 0)).toArray 110)).heap.size) := ⟨by rw [hg0]; simp⟩
 rw [← hg0]
 generalize (w.alloc (.cells (nums .u8 b).toArray 110)).alloc (.cells (nums .u8 (List.replicate 16 0)).toArray 110) = W1 at G0 G1 HB HS ⊢
 clear hg0
 go_wp2_with fail
 go_loopw [5] (fun v wr => ∃ k p : Nat, k ≤ 4 ∧ p = 4 * k ∧ v = .int .i64 (p : Int) ∧ Aside0 (wr.heap[g0]? = some (.cells (nums .u8 (R.take p ++ b.drop p)).toArray 110 (0, 0))) ∧ Aside0 (wr.heap[g0 + 1]? = some (.cells (nums .u8 (List.replicate 16 0)).toArray 110 (0, 0))) ∧ Aside0 (Below w.heap.size w wr) ∧ Aside0 (g0 + 2 ≤ wr.heap.size)) (fun v _ => 16 - (intOf v).toNat)
 case atStart => exact ⟨0, 0, by omega, rfl, rfl, G0, G1, HB, HS⟩
 case round =>
   clear G0 G1 HB HS
   obtain ⟨k, p, hk, hp, rfl, G0, G1, HB, HS⟩ := hrel
   obtain ⟨wB, rfl⟩ : ∃ W, W = wr := ⟨_, rfl⟩
   by_cases hlt : p < 16
   · have hd : decide (p < 16) = true := decide_eq_true hlt
     have hd2 : decide ((p : Int) < 16) = true := decide_eq_true (by omega)
     obtain ⟨c, hc⟩ : ∃ c, c = (b.drop p).take 4 := ⟨_, rfl⟩
     have hcl : c.length = 4 := by rw [hc]; have := HL.out; simp; omega
     have HCO : Aside0 (Aes.ok c) := ⟨by rw [hc]; exact fun x hx => OB.out x (List.mem_of_mem_drop (List.mem_of_mem_take hx))⟩
     have hrg : wB.rangeAt g0 p (nums .u8 c) := fun j v hv => by
       obtain ⟨hj, rfl⟩ := nums_getD c j v hv
       have hRp : (R.take p).length = p := by rw [List.length_take, HRL.out]; omega
       rw [blk_cell G0.out]
       refine nums_at? _ _ _ _ ?_
       rw [List.getElem?_append_right (by omega), hRp, show p + j - p = j from by omega, List.getElem?_drop, hc]
       rw [List.getD_eq_getElem?_getD, List.getElem?_take_of_lt (by omega), List.getElem?_drop, List.getElem?_eq_getElem (by have := HL.out; omega)]
       rfl
     have HCL := Aside0.mk hcl
     have HRG := Aside0.mk hrg
     have HNC : Aside0 ((nums IntKind.u8 c).length = 4) := ⟨by simp [nums, hcl]⟩
     have hfl : (F c).length = 4 := HFF.out c hcl
     have HFC := Aside0.mk hfl
     have HNF : Aside0 ((nums IntKind.u8 (F c)).length = 4) := ⟨by simp [nums, hfl]⟩
     have HNA : Aside0 ((nums IntKind.u8 (F c)).toArray.size = 4) := ⟨by simp [nums, hfl]⟩
     have HPT : Aside0 (∀ j, j < 4 → R.getD (p + j) 0 = (F c).getD j 0) := ⟨fun j hj => by rw [hp, HRP.out k j (by omega) hj, hc, hp]⟩
     have hp' : p = 0 ∨ p = 4 ∨ p = 8 ∨ p = 12 := by omega
     have HPK := Aside0.mk hp
     clear hc hcl hrg hp hlt hk hfl hd hd2
     rcases hp' with rfl | rfl | rfl | rfl
     · have ka := arr4_at ⟨g0, 0, none⟩ 16 wB
       go_wp2_with ((with_reducible refine gate_dst (N := 17) rfl ?_); refine wpList_load_mid (by rfl) 128 (.tmp 16) (by rfl) g0 0 (by rfl) (nums .u8 c) _ HRG.out Try.underlying128 rfl (by rw [HNC.out]; kernel_rfl) ?_)
       refine (HCC.out c wB HCL.out HCO.out).mono ?_
       rintro e w5 ⟨rfl, hb5⟩
       clear ka
       have Z0 : Aside0 (w5.heap[g0]? = some (.cells (nums .u8 (R.take 0 ++ b.drop 0)).toArray 110 (0, 0))) := ⟨(hb5.block g0 (by have := HS.out; omega)).trans G0.out⟩
       have Z1 : Aside0 (w5.heap[g0 + 1]? = some (.cells (nums .u8 (List.replicate 16 0)).toArray 110 (0, 0))) := ⟨(hb5.block (g0 + 1) (by have := HS.out; omega)).trans G1.out⟩
       have ZB : Aside0 (Below w.heap.size w w5) := ⟨HB.out.trans (hb5.mono HB.out.size)⟩
       have ZS : Aside0 (g0 + 2 ≤ w5.heap.size) := ⟨Nat.le_trans HS.out hb5.size⟩
       clear hb5
       unfold arr8
       go_upto_region 5 with ((with_reducible refine gate_store (t := 128) (p := 6) (v := .tmp 18) rfl ?_); refine wpList_store_row (by rfl) 128 (.tmp 6) (.tmp 18) (by rfl) w5.heap.size (nums .u8 (F c)).toArray (by rfl) (by rfl) 128 _ (blk_new w5 _) (by rw [HNA.out]; kernel_rfl) (by rw [HNA.out]; rfl) (nums_one _ _) ?_)
       simp only [Act.put]
       obtain ⟨gn, hgn⟩ : ∃ g, g = w5.heap.size := ⟨_, rfl⟩
       show Code.wp _ _ _ _ ((w5.alloc (.cells (nums .u8 (List.replicate 4 0)).toArray 128)).setRow w5.heap.size (nums .u8 (F c)).toArray)
       obtain ⟨wN, hwN⟩ : ∃ W, W = (w5.alloc (.cells (nums .u8 (List.replicate 4 0)).toArray 128)).setRow w5.heap.size (nums .u8 (F c)).toArray := ⟨_, rfl⟩
       have GF : wN.heap[gn]? = some (.cells (nums .u8 (F c)).toArray 128 (0, 0)) := by rw [hwN, hgn]; exact setRow_heap _ _ _ _ _ _ (blk_new w5 _)
       have hoth : ∀ k, k < w5.heap.size → wN.heap[k]? = w5.heap[k]? := fun k hk => by
         rw [hwN, setRow_other _ _ _ _ (by omega)]
         show (w5.heap.push _)[k]? = _
         rw [Array.getElem?_push_lt hk, Array.getElem?_eq_getElem hk]
       have N0 : Aside0 (wN.drew.heap[g0]? = some (.cells (nums .u8 (R.take 0 ++ b.drop 0)).toArray 110 (0, 0))) := ⟨(hoth g0 (by have := ZS.out; omega)).trans Z0.out⟩
       have N1 : Aside0 (wN.drew.heap[g0 + 1]? = some (.cells (nums .u8 (List.replicate 16 0)).toArray 110 (0, 0))) := ⟨(hoth (g0 + 1) (by have := ZS.out; omega)).trans Z1.out⟩
       have NB : Aside0 (Below w.heap.size w wN.drew) := ⟨by rw [hwN]; exact below_drew1 (below_row (below_alloc ZB.out _) ZB.out.size _)⟩
       have NS : Aside0 (g0 + 2 ≤ wN.drew.heap.size) := ⟨by show g0 + 2 ≤ wN.heap.size; rw [hwN, setRow_size]; have := ZS.out; simp; omega⟩
       have HSRC : Aside0 (∀ j v, (nums IntKind.u8 (F c))[j]? = some v → wN.drew.cell? ((⟨gn, 0, none⟩ : Addr).add j) = some v) := ⟨fun j v hv => by
         rw [add_plain]
         show wN.cell? ⟨gn, j, none⟩ = some v
         rw [blk_cell GF j]
         simpa using hv⟩
       rw [← hwN, ← hgn]
       clear hoth hwN hgn GF Z0 Z1 ZB ZS
       refine start_ (n := 4) (S := fun w' => True) (ds := [3]) #[false, false, false, false] (by kernel_rfl) rfl rfl trivial (fun hHeld => ?_)
       refine with_tabW clm_tab5 clm_bits5 (fun HT_ HW_ => ?_)
       generalize wN.drew = wD at hHeld N0 N1 NB NS HSRC ⊢
       refine pure_ (i := 0) (N := some 19) (v := ?_) (a' := ?_) #[true, false, false, false] rfl rfl (any_of HT_.out (by kernel_rfl)) (fun _ _ _ h => h) (Or.inl ⟨by rfl, ?_⟩) ?_ ?_
       rotate_left
       · intro w'
         go_simp
         with_reducible rfl
       rotate_left
       · simp only [Act.put, sA_, s0_, s1_, i64_w, i32_w]
         rfl
       refine pure_ (i := 1) (N := some 20) (v := ?_) (a' := ?_) #[true, true, false, false] rfl rfl (any_of HT_.out (by kernel_rfl)) (fun _ _ _ h => h) (Or.inl ⟨by rfl, ?_⟩) ?_ ?_
       rotate_left
       · intro w'
         go_simp
         with_reducible rfl
       rotate_left
       · simp only [Act.put, sA_, s0_, s1_, i64_w, i32_w]
         rfl
       refine pure_ (i := 2) (N := some 21) (v := ?_) (a' := ?_) #[true, true, true, false] rfl rfl (any_of HT_.out (by kernel_rfl)) (fun _ _ _ h => h) (Or.inl ⟨by rfl, ?_⟩) ?_ ?_
       rotate_left
       · intro w'
         go_simp
         with_reducible rfl
       rotate_left
       · simp only [Act.put, sA_, s0_, s1_, i64_w, i32_w]
         rfl
       refine last_ (i := 3) (N := some 22) #[true, true, true, true] rfl rfl (one_of HT_.out (by kernel_rfl)) (by decide) (fun K hK => ?_)
       refine opWp_copy_row (.tmp 20) (.tmp 21) 22 22 5 (by rfl) g0 0 16 16 ⟨gn, 0, none⟩ 4 4 _ 110 (nums .u8 (F c)) (by rfl) (by rfl) Try.underlying22 (by kernel_rfl) N0.out (by rw [HNF.out]; rfl) HSRC.out (by rw [HNF.out]; simp [nums, HRL.out, HL.out]) (fun u hu => nums_oneC hu) ?_
       refine hK.out _ _ ?_
       clear hK K
       refine norm_ (a' := ?_) ?_ ?_
       rotate_left
       · show Act.put _ (some 22) _ = _
         simp only [Act.put, sA_, s0_, s1_, i64_w, i32_w]
         rfl
       refine done_ (done_of HT_.out (by kernel_rfl)) ?_
       rw [row_part R (F c) b 0 HRL.out HL.out HFC.out (by decide) HPT.out]
       have M0 := Aside0.mk (setRow_heap wD g0 _ (nums .u8 (R.take (0 + 4) ++ b.drop (0 + 4))).toArray _ _ N0.out)
       have M1 : Aside0 ((wD.setRow g0 (nums .u8 (R.take (0 + 4) ++ b.drop (0 + 4))).toArray).heap[g0 + 1]? = some (.cells (nums .u8 (List.replicate 16 0)).toArray 110 (0, 0))) := ⟨(setRow_other _ _ _ _ (by omega)).trans N1.out⟩
       have MB : Aside0 (Below w.heap.size w (wD.setRow g0 (nums .u8 (R.take (0 + 4) ++ b.drop (0 + 4))).toArray)) := ⟨below_row NB.out (by have := HG.out; omega) _⟩
       have MS : Aside0 (g0 + 2 ≤ (wD.setRow g0 (nums .u8 (R.take (0 + 4) ++ b.drop (0 + 4))).toArray).heap.size) := ⟨by rw [setRow_size]; exact NS.out⟩
       generalize wD.setRow g0 (nums .u8 (R.take (0 + 4) ++ b.drop (0 + 4))).toArray = wM at M0 M1 MB MS ⊢
       clear N0 N1 NB NS HSRC hHeld
       go_wp2
       go_roundw
       case rel => exact ⟨k + 1, 4, by have := HPK.out; omega, by have := HPK.out; omega, rfl, M0, M1, MB, MS⟩
       case measure => simp [intOf]
     · have ka := arr4_at ⟨g0, 4, none⟩ 12 wB
       go_wp2_with ((with_reducible refine gate_dst (N := 17) rfl ?_); refine wpList_load_mid (by rfl) 128 (.tmp 16) (by rfl) g0 4 (by rfl) (nums .u8 c) _ HRG.out Try.underlying128 rfl (by rw [HNC.out]; kernel_rfl) ?_)
       refine (HCC.out c wB HCL.out HCO.out).mono ?_
       rintro e w5 ⟨rfl, hb5⟩
       clear ka
       have Z0 : Aside0 (w5.heap[g0]? = some (.cells (nums .u8 (R.take 4 ++ b.drop 4)).toArray 110 (0, 0))) := ⟨(hb5.block g0 (by have := HS.out; omega)).trans G0.out⟩
       have Z1 : Aside0 (w5.heap[g0 + 1]? = some (.cells (nums .u8 (List.replicate 16 0)).toArray 110 (0, 0))) := ⟨(hb5.block (g0 + 1) (by have := HS.out; omega)).trans G1.out⟩
       have ZB : Aside0 (Below w.heap.size w w5) := ⟨HB.out.trans (hb5.mono HB.out.size)⟩
       have ZS : Aside0 (g0 + 2 ≤ w5.heap.size) := ⟨Nat.le_trans HS.out hb5.size⟩
       clear hb5
       unfold arr8
       go_upto_region 5 with ((with_reducible refine gate_store (t := 128) (p := 6) (v := .tmp 18) rfl ?_); refine wpList_store_row (by rfl) 128 (.tmp 6) (.tmp 18) (by rfl) w5.heap.size (nums .u8 (F c)).toArray (by rfl) (by rfl) 128 _ (blk_new w5 _) (by rw [HNA.out]; kernel_rfl) (by rw [HNA.out]; rfl) (nums_one _ _) ?_)
       simp only [Act.put]
       obtain ⟨gn, hgn⟩ : ∃ g, g = w5.heap.size := ⟨_, rfl⟩
       show Code.wp _ _ _ _ ((w5.alloc (.cells (nums .u8 (List.replicate 4 0)).toArray 128)).setRow w5.heap.size (nums .u8 (F c)).toArray)
       obtain ⟨wN, hwN⟩ : ∃ W, W = (w5.alloc (.cells (nums .u8 (List.replicate 4 0)).toArray 128)).setRow w5.heap.size (nums .u8 (F c)).toArray := ⟨_, rfl⟩
       have GF : wN.heap[gn]? = some (.cells (nums .u8 (F c)).toArray 128 (0, 0)) := by rw [hwN, hgn]; exact setRow_heap _ _ _ _ _ _ (blk_new w5 _)
       have hoth : ∀ k, k < w5.heap.size → wN.heap[k]? = w5.heap[k]? := fun k hk => by
         rw [hwN, setRow_other _ _ _ _ (by omega)]
         show (w5.heap.push _)[k]? = _
         rw [Array.getElem?_push_lt hk, Array.getElem?_eq_getElem hk]
       have N0 : Aside0 (wN.drew.heap[g0]? = some (.cells (nums .u8 (R.take 4 ++ b.drop 4)).toArray 110 (0, 0))) := ⟨(hoth g0 (by have := ZS.out; omega)).trans Z0.out⟩
       have N1 : Aside0 (wN.drew.heap[g0 + 1]? = some (.cells (nums .u8 (List.replicate 16 0)).toArray 110 (0, 0))) := ⟨(hoth (g0 + 1) (by have := ZS.out; omega)).trans Z1.out⟩
       have NB : Aside0 (Below w.heap.size w wN.drew) := ⟨by rw [hwN]; exact below_drew1 (below_row (below_alloc ZB.out _) ZB.out.size _)⟩
       have NS : Aside0 (g0 + 2 ≤ wN.drew.heap.size) := ⟨by show g0 + 2 ≤ wN.heap.size; rw [hwN, setRow_size]; have := ZS.out; simp; omega⟩
       have HSRC : Aside0 (∀ j v, (nums IntKind.u8 (F c))[j]? = some v → wN.drew.cell? ((⟨gn, 0, none⟩ : Addr).add j) = some v) := ⟨fun j v hv => by
         rw [add_plain]
         show wN.cell? ⟨gn, j, none⟩ = some v
         rw [blk_cell GF j]
         simpa using hv⟩
       rw [← hwN, ← hgn]
       clear hoth hwN hgn GF Z0 Z1 ZB ZS
       refine start_ (n := 4) (S := fun w' => True) (ds := [3]) #[false, false, false, false] (by kernel_rfl) rfl rfl trivial (fun hHeld => ?_)
       refine with_tabW clm_tab5 clm_bits5 (fun HT_ HW_ => ?_)
       generalize wN.drew = wD at hHeld N0 N1 NB NS HSRC ⊢
       refine pure_ (i := 0) (N := some 19) (v := ?_) (a' := ?_) #[true, false, false, false] rfl rfl (any_of HT_.out (by kernel_rfl)) (fun _ _ _ h => h) (Or.inl ⟨by rfl, ?_⟩) ?_ ?_
       rotate_left
       · intro w'
         go_simp
         with_reducible rfl
       rotate_left
       · simp only [Act.put, sA_, s0_, s1_, i64_w, i32_w]
         rfl
       refine pure_ (i := 1) (N := some 20) (v := ?_) (a' := ?_) #[true, true, false, false] rfl rfl (any_of HT_.out (by kernel_rfl)) (fun _ _ _ h => h) (Or.inl ⟨by rfl, ?_⟩) ?_ ?_
       rotate_left
       · intro w'
         go_simp
         with_reducible rfl
       rotate_left
       · simp only [Act.put, sA_, s0_, s1_, i64_w, i32_w]
         rfl
       refine pure_ (i := 2) (N := some 21) (v := ?_) (a' := ?_) #[true, true, true, false] rfl rfl (any_of HT_.out (by kernel_rfl)) (fun _ _ _ h => h) (Or.inl ⟨by rfl, ?_⟩) ?_ ?_
       rotate_left
       · intro w'
         go_simp
         with_reducible rfl
       rotate_left
       · simp only [Act.put, sA_, s0_, s1_, i64_w, i32_w]
         rfl
       refine last_ (i := 3) (N := some 22) #[true, true, true, true] rfl rfl (one_of HT_.out (by kernel_rfl)) (by decide) (fun K hK => ?_)
       refine opWp_copy_row (.tmp 20) (.tmp 21) 22 22 5 (by rfl) g0 4 12 12 ⟨gn, 0, none⟩ 4 4 _ 110 (nums .u8 (F c)) (by rfl) (by rfl) Try.underlying22 (by kernel_rfl) N0.out (by rw [HNF.out]; rfl) HSRC.out (by rw [HNF.out]; simp [nums, HRL.out, HL.out]) (fun u hu => nums_oneC hu) ?_
       refine hK.out _ _ ?_
       clear hK K
       refine norm_ (a' := ?_) ?_ ?_
       rotate_left
       · show Act.put _ (some 22) _ = _
         simp only [Act.put, sA_, s0_, s1_, i64_w, i32_w]
         rfl
       refine done_ (done_of HT_.out (by kernel_rfl)) ?_
       rw [row_part R (F c) b 4 HRL.out HL.out HFC.out (by decide) HPT.out]
       have M0 := Aside0.mk (setRow_heap wD g0 _ (nums .u8 (R.take (4 + 4) ++ b.drop (4 + 4))).toArray _ _ N0.out)
       have M1 : Aside0 ((wD.setRow g0 (nums .u8 (R.take (4 + 4) ++ b.drop (4 + 4))).toArray).heap[g0 + 1]? = some (.cells (nums .u8 (List.replicate 16 0)).toArray 110 (0, 0))) := ⟨(setRow_other _ _ _ _ (by omega)).trans N1.out⟩
       have MB : Aside0 (Below w.heap.size w (wD.setRow g0 (nums .u8 (R.take (4 + 4) ++ b.drop (4 + 4))).toArray)) := ⟨below_row NB.out (by have := HG.out; omega) _⟩
       have MS : Aside0 (g0 + 2 ≤ (wD.setRow g0 (nums .u8 (R.take (4 + 4) ++ b.drop (4 + 4))).toArray).heap.size) := ⟨by rw [setRow_size]; exact NS.out⟩
       generalize wD.setRow g0 (nums .u8 (R.take (4 + 4) ++ b.drop (4 + 4))).toArray = wM at M0 M1 MB MS ⊢
       clear N0 N1 NB NS HSRC hHeld
       go_wp2
       go_roundw
       case rel => exact ⟨k + 1, 8, by have := HPK.out; omega, by have := HPK.out; omega, rfl, M0, M1, MB, MS⟩
       case measure => simp [intOf]
     · have ka := arr4_at ⟨g0, 8, none⟩ 8 wB
       go_wp2_with ((with_reducible refine gate_dst (N := 17) rfl ?_); refine wpList_load_mid (by rfl) 128 (.tmp 16) (by rfl) g0 8 (by rfl) (nums .u8 c) _ HRG.out Try.underlying128 rfl (by rw [HNC.out]; kernel_rfl) ?_)
       refine (HCC.out c wB HCL.out HCO.out).mono ?_
       rintro e w5 ⟨rfl, hb5⟩
       clear ka
       have Z0 : Aside0 (w5.heap[g0]? = some (.cells (nums .u8 (R.take 8 ++ b.drop 8)).toArray 110 (0, 0))) := ⟨(hb5.block g0 (by have := HS.out; omega)).trans G0.out⟩
       have Z1 : Aside0 (w5.heap[g0 + 1]? = some (.cells (nums .u8 (List.replicate 16 0)).toArray 110 (0, 0))) := ⟨(hb5.block (g0 + 1) (by have := HS.out; omega)).trans G1.out⟩
       have ZB : Aside0 (Below w.heap.size w w5) := ⟨HB.out.trans (hb5.mono HB.out.size)⟩
       have ZS : Aside0 (g0 + 2 ≤ w5.heap.size) := ⟨Nat.le_trans HS.out hb5.size⟩
       clear hb5
       unfold arr8
       go_upto_region 5 with ((with_reducible refine gate_store (t := 128) (p := 6) (v := .tmp 18) rfl ?_); refine wpList_store_row (by rfl) 128 (.tmp 6) (.tmp 18) (by rfl) w5.heap.size (nums .u8 (F c)).toArray (by rfl) (by rfl) 128 _ (blk_new w5 _) (by rw [HNA.out]; kernel_rfl) (by rw [HNA.out]; rfl) (nums_one _ _) ?_)
       simp only [Act.put]
       obtain ⟨gn, hgn⟩ : ∃ g, g = w5.heap.size := ⟨_, rfl⟩
       show Code.wp _ _ _ _ ((w5.alloc (.cells (nums .u8 (List.replicate 4 0)).toArray 128)).setRow w5.heap.size (nums .u8 (F c)).toArray)
       obtain ⟨wN, hwN⟩ : ∃ W, W = (w5.alloc (.cells (nums .u8 (List.replicate 4 0)).toArray 128)).setRow w5.heap.size (nums .u8 (F c)).toArray := ⟨_, rfl⟩
       have GF : wN.heap[gn]? = some (.cells (nums .u8 (F c)).toArray 128 (0, 0)) := by rw [hwN, hgn]; exact setRow_heap _ _ _ _ _ _ (blk_new w5 _)
       have hoth : ∀ k, k < w5.heap.size → wN.heap[k]? = w5.heap[k]? := fun k hk => by
         rw [hwN, setRow_other _ _ _ _ (by omega)]
         show (w5.heap.push _)[k]? = _
         rw [Array.getElem?_push_lt hk, Array.getElem?_eq_getElem hk]
       have N0 : Aside0 (wN.drew.heap[g0]? = some (.cells (nums .u8 (R.take 8 ++ b.drop 8)).toArray 110 (0, 0))) := ⟨(hoth g0 (by have := ZS.out; omega)).trans Z0.out⟩
       have N1 : Aside0 (wN.drew.heap[g0 + 1]? = some (.cells (nums .u8 (List.replicate 16 0)).toArray 110 (0, 0))) := ⟨(hoth (g0 + 1) (by have := ZS.out; omega)).trans Z1.out⟩
       have NB : Aside0 (Below w.heap.size w wN.drew) := ⟨by rw [hwN]; exact below_drew1 (below_row (below_alloc ZB.out _) ZB.out.size _)⟩
       have NS : Aside0 (g0 + 2 ≤ wN.drew.heap.size) := ⟨by show g0 + 2 ≤ wN.heap.size; rw [hwN, setRow_size]; have := ZS.out; simp; omega⟩
       have HSRC : Aside0 (∀ j v, (nums IntKind.u8 (F c))[j]? = some v → wN.drew.cell? ((⟨gn, 0, none⟩ : Addr).add j) = some v) := ⟨fun j v hv => by
         rw [add_plain]
         show wN.cell? ⟨gn, j, none⟩ = some v
         rw [blk_cell GF j]
         simpa using hv⟩
       rw [← hwN, ← hgn]
       clear hoth hwN hgn GF Z0 Z1 ZB ZS
       refine start_ (n := 4) (S := fun w' => True) (ds := [3]) #[false, false, false, false] (by kernel_rfl) rfl rfl trivial (fun hHeld => ?_)
       refine with_tabW clm_tab5 clm_bits5 (fun HT_ HW_ => ?_)
       generalize wN.drew = wD at hHeld N0 N1 NB NS HSRC ⊢
       refine pure_ (i := 0) (N := some 19) (v := ?_) (a' := ?_) #[true, false, false, false] rfl rfl (any_of HT_.out (by kernel_rfl)) (fun _ _ _ h => h) (Or.inl ⟨by rfl, ?_⟩) ?_ ?_
       rotate_left
       · intro w'
         go_simp
         with_reducible rfl
       rotate_left
       · simp only [Act.put, sA_, s0_, s1_, i64_w, i32_w]
         rfl
       refine pure_ (i := 1) (N := some 20) (v := ?_) (a' := ?_) #[true, true, false, false] rfl rfl (any_of HT_.out (by kernel_rfl)) (fun _ _ _ h => h) (Or.inl ⟨by rfl, ?_⟩) ?_ ?_
       rotate_left
       · intro w'
         go_simp
         with_reducible rfl
       rotate_left
       · simp only [Act.put, sA_, s0_, s1_, i64_w, i32_w]
         rfl
       refine pure_ (i := 2) (N := some 21) (v := ?_) (a' := ?_) #[true, true, true, false] rfl rfl (any_of HT_.out (by kernel_rfl)) (fun _ _ _ h => h) (Or.inl ⟨by rfl, ?_⟩) ?_ ?_
       rotate_left
       · intro w'
         go_simp
         with_reducible rfl
       rotate_left
       · simp only [Act.put, sA_, s0_, s1_, i64_w, i32_w]
         rfl
       refine last_ (i := 3) (N := some 22) #[true, true, true, true] rfl rfl (one_of HT_.out (by kernel_rfl)) (by decide) (fun K hK => ?_)
       refine opWp_copy_row (.tmp 20) (.tmp 21) 22 22 5 (by rfl) g0 8 8 8 ⟨gn, 0, none⟩ 4 4 _ 110 (nums .u8 (F c)) (by rfl) (by rfl) Try.underlying22 (by kernel_rfl) N0.out (by rw [HNF.out]; rfl) HSRC.out (by rw [HNF.out]; simp [nums, HRL.out, HL.out]) (fun u hu => nums_oneC hu) ?_
       refine hK.out _ _ ?_
       clear hK K
       refine norm_ (a' := ?_) ?_ ?_
       rotate_left
       · show Act.put _ (some 22) _ = _
         simp only [Act.put, sA_, s0_, s1_, i64_w, i32_w]
         rfl
       refine done_ (done_of HT_.out (by kernel_rfl)) ?_
       rw [row_part R (F c) b 8 HRL.out HL.out HFC.out (by decide) HPT.out]
       have M0 := Aside0.mk (setRow_heap wD g0 _ (nums .u8 (R.take (8 + 4) ++ b.drop (8 + 4))).toArray _ _ N0.out)
       have M1 : Aside0 ((wD.setRow g0 (nums .u8 (R.take (8 + 4) ++ b.drop (8 + 4))).toArray).heap[g0 + 1]? = some (.cells (nums .u8 (List.replicate 16 0)).toArray 110 (0, 0))) := ⟨(setRow_other _ _ _ _ (by omega)).trans N1.out⟩
       have MB : Aside0 (Below w.heap.size w (wD.setRow g0 (nums .u8 (R.take (8 + 4) ++ b.drop (8 + 4))).toArray)) := ⟨below_row NB.out (by have := HG.out; omega) _⟩
       have MS : Aside0 (g0 + 2 ≤ (wD.setRow g0 (nums .u8 (R.take (8 + 4) ++ b.drop (8 + 4))).toArray).heap.size) := ⟨by rw [setRow_size]; exact NS.out⟩
       generalize wD.setRow g0 (nums .u8 (R.take (8 + 4) ++ b.drop (8 + 4))).toArray = wM at M0 M1 MB MS ⊢
       clear N0 N1 NB NS HSRC hHeld
       go_wp2
       go_roundw
       case rel => exact ⟨k + 1, 12, by have := HPK.out; omega, by have := HPK.out; omega, rfl, M0, M1, MB, MS⟩
       case measure => simp [intOf]
     · have ka := arr4_at ⟨g0, 12, none⟩ 4 wB
       go_wp2_with ((with_reducible refine gate_dst (N := 17) rfl ?_); refine wpList_load_mid (by rfl) 128 (.tmp 16) (by rfl) g0 12 (by rfl) (nums .u8 c) _ HRG.out Try.underlying128 rfl (by rw [HNC.out]; kernel_rfl) ?_)
       refine (HCC.out c wB HCL.out HCO.out).mono ?_
       rintro e w5 ⟨rfl, hb5⟩
       clear ka
       have Z0 : Aside0 (w5.heap[g0]? = some (.cells (nums .u8 (R.take 12 ++ b.drop 12)).toArray 110 (0, 0))) := ⟨(hb5.block g0 (by have := HS.out; omega)).trans G0.out⟩
       have Z1 : Aside0 (w5.heap[g0 + 1]? = some (.cells (nums .u8 (List.replicate 16 0)).toArray 110 (0, 0))) := ⟨(hb5.block (g0 + 1) (by have := HS.out; omega)).trans G1.out⟩
       have ZB : Aside0 (Below w.heap.size w w5) := ⟨HB.out.trans (hb5.mono HB.out.size)⟩
       have ZS : Aside0 (g0 + 2 ≤ w5.heap.size) := ⟨Nat.le_trans HS.out hb5.size⟩
       clear hb5
       unfold arr8
       go_upto_region 5 with ((with_reducible refine gate_store (t := 128) (p := 6) (v := .tmp 18) rfl ?_); refine wpList_store_row (by rfl) 128 (.tmp 6) (.tmp 18) (by rfl) w5.heap.size (nums .u8 (F c)).toArray (by rfl) (by rfl) 128 _ (blk_new w5 _) (by rw [HNA.out]; kernel_rfl) (by rw [HNA.out]; rfl) (nums_one _ _) ?_)
       simp only [Act.put]
       obtain ⟨gn, hgn⟩ : ∃ g, g = w5.heap.size := ⟨_, rfl⟩
       show Code.wp _ _ _ _ ((w5.alloc (.cells (nums .u8 (List.replicate 4 0)).toArray 128)).setRow w5.heap.size (nums .u8 (F c)).toArray)
       obtain ⟨wN, hwN⟩ : ∃ W, W = (w5.alloc (.cells (nums .u8 (List.replicate 4 0)).toArray 128)).setRow w5.heap.size (nums .u8 (F c)).toArray := ⟨_, rfl⟩
       have GF : wN.heap[gn]? = some (.cells (nums .u8 (F c)).toArray 128 (0, 0)) := by rw [hwN, hgn]; exact setRow_heap _ _ _ _ _ _ (blk_new w5 _)
       have hoth : ∀ k, k < w5.heap.size → wN.heap[k]? = w5.heap[k]? := fun k hk => by
         rw [hwN, setRow_other _ _ _ _ (by omega)]
         show (w5.heap.push _)[k]? = _
         rw [Array.getElem?_push_lt hk, Array.getElem?_eq_getElem hk]
       have N0 : Aside0 (wN.drew.heap[g0]? = some (.cells (nums .u8 (R.take 12 ++ b.drop 12)).toArray 110 (0, 0))) := ⟨(hoth g0 (by have := ZS.out; omega)).trans Z0.out⟩
       have N1 : Aside0 (wN.drew.heap[g0 + 1]? = some (.cells (nums .u8 (List.replicate 16 0)).toArray 110 (0, 0))) := ⟨(hoth (g0 + 1) (by have := ZS.out; omega)).trans Z1.out⟩
       have NB : Aside0 (Below w.heap.size w wN.drew) := ⟨by rw [hwN]; exact below_drew1 (below_row (below_alloc ZB.out _) ZB.out.size _)⟩
       have NS : Aside0 (g0 + 2 ≤ wN.drew.heap.size) := ⟨by show g0 + 2 ≤ wN.heap.size; rw [hwN, setRow_size]; have := ZS.out; simp; omega⟩
       have HSRC : Aside0 (∀ j v, (nums IntKind.u8 (F c))[j]? = some v → wN.drew.cell? ((⟨gn, 0, none⟩ : Addr).add j) = some v) := ⟨fun j v hv => by
         rw [add_plain]
         show wN.cell? ⟨gn, j, none⟩ = some v
         rw [blk_cell GF j]
         simpa using hv⟩
       rw [← hwN, ← hgn]
       clear hoth hwN hgn GF Z0 Z1 ZB ZS
       refine start_ (n := 4) (S := fun w' => True) (ds := [3]) #[false, false, false, false] (by kernel_rfl) rfl rfl trivial (fun hHeld => ?_)
       refine with_tabW clm_tab5 clm_bits5 (fun HT_ HW_ => ?_)
       generalize wN.drew = wD at hHeld N0 N1 NB NS HSRC ⊢
       refine pure_ (i := 0) (N := some 19) (v := ?_) (a' := ?_) #[true, false, false, false] rfl rfl (any_of HT_.out (by kernel_rfl)) (fun _ _ _ h => h) (Or.inl ⟨by rfl, ?_⟩) ?_ ?_
       rotate_left
       · intro w'
         go_simp
         with_reducible rfl
       rotate_left
       · simp only [Act.put, sA_, s0_, s1_, i64_w, i32_w]
         rfl
       refine pure_ (i := 1) (N := some 20) (v := ?_) (a' := ?_) #[true, true, false, false] rfl rfl (any_of HT_.out (by kernel_rfl)) (fun _ _ _ h => h) (Or.inl ⟨by rfl, ?_⟩) ?_ ?_
       rotate_left
       · intro w'
         go_simp
         with_reducible rfl
       rotate_left
       · simp only [Act.put, sA_, s0_, s1_, i64_w, i32_w]
         rfl
       refine pure_ (i := 2) (N := some 21) (v := ?_) (a' := ?_) #[true, true, true, false] rfl rfl (any_of HT_.out (by kernel_rfl)) (fun _ _ _ h => h) (Or.inl ⟨by rfl, ?_⟩) ?_ ?_
       rotate_left
       · intro w'
         go_simp
         with_reducible rfl
       rotate_left
       · simp only [Act.put, sA_, s0_, s1_, i64_w, i32_w]
         rfl
       refine last_ (i := 3) (N := some 22) #[true, true, true, true] rfl rfl (one_of HT_.out (by kernel_rfl)) (by decide) (fun K hK => ?_)
       refine opWp_copy_row (.tmp 20) (.tmp 21) 22 22 5 (by rfl) g0 12 4 4 ⟨gn, 0, none⟩ 4 4 _ 110 (nums .u8 (F c)) (by rfl) (by rfl) Try.underlying22 (by kernel_rfl) N0.out (by rw [HNF.out]; rfl) HSRC.out (by rw [HNF.out]; simp [nums, HRL.out, HL.out]) (fun u hu => nums_oneC hu) ?_
       refine hK.out _ _ ?_
       clear hK K
       refine norm_ (a' := ?_) ?_ ?_
       rotate_left
       · show Act.put _ (some 22) _ = _
         simp only [Act.put, sA_, s0_, s1_, i64_w, i32_w]
         rfl
       refine done_ (done_of HT_.out (by kernel_rfl)) ?_
       rw [row_part R (F c) b 12 HRL.out HL.out HFC.out (by decide) HPT.out]
       have M0 := Aside0.mk (setRow_heap wD g0 _ (nums .u8 (R.take (12 + 4) ++ b.drop (12 + 4))).toArray _ _ N0.out)
       have M1 : Aside0 ((wD.setRow g0 (nums .u8 (R.take (12 + 4) ++ b.drop (12 + 4))).toArray).heap[g0 + 1]? = some (.cells (nums .u8 (List.replicate 16 0)).toArray 110 (0, 0))) := ⟨(setRow_other _ _ _ _ (by omega)).trans N1.out⟩
       have MB : Aside0 (Below w.heap.size w (wD.setRow g0 (nums .u8 (R.take (12 + 4) ++ b.drop (12 + 4))).toArray)) := ⟨below_row NB.out (by have := HG.out; omega) _⟩
       have MS : Aside0 (g0 + 2 ≤ (wD.setRow g0 (nums .u8 (R.take (12 + 4) ++ b.drop (12 + 4))).toArray).heap.size) := ⟨by rw [setRow_size]; exact NS.out⟩
       generalize wD.setRow g0 (nums .u8 (R.take (12 + 4) ++ b.drop (12 + 4))).toArray = wM at M0 M1 MB MS ⊢
       clear N0 N1 NB NS HSRC hHeld
       go_wp2
       go_roundw
       case rel => exact ⟨k + 1, 16, by have := HPK.out; omega, by have := HPK.out; omega, rfl, M0, M1, MB, MS⟩
       case measure => simp [intOf]
   · have hp16 : p = 16 := by omega
     have hd : decide (p < 16) = false := decide_eq_false hlt
     have hd2 : decide ((p : Int) < 16) = false := decide_eq_false (by omega)
     have e4 : R.take p ++ b.drop p = R := by
       rw [List.take_of_length_le (by rw [HRL.out]; omega), List.drop_eq_nil_of_le (by have := HL.out; omega), List.append_nil]
     rw [e4] at G0
     have HLR : Aside0 ((nums IntKind.u8 R).toArray.size = 16) := ⟨by simp [nums, HRL.out]⟩
     clear e4 hk hp hlt hp16
     have GR := Aside0.mk (setRow_heap wB (g0 + 1) _ (nums IntKind.u8 R).toArray _ _ G1.out)
     go_wp2_with (first
       | (refine wpList_load_row (by rfl) 110 (.tmp 2) (by rfl) _ (by rfl) 110 _ (0, 0) _ G0.out Try.underlying110 rfl (by rw [HLR.out]; kernel_rfl) ?_)
       | (refine wpList_store_row (by rfl) 110 (.tmp 4) (.tmp 23) (by rfl) (g0 + 1) _ (by rfl) (by rfl) 110 _ G1.out (by rw [HLR.out]; kernel_rfl) (by rw [HLR.out]; rfl) (nums_one _ _) ?_))
     refine bodyPost_ret (v := arr8 R) ?_ rfl ?_
     · exact results_cell_row (fn := Try.f118) (p := 4) (ty := 110) Try.results118 _ _ _ 110 _ (0, 0) _ (by rfl) GR.out Try.underlying110 rfl (by rw [HLR.out]; kernel_rfl)
     · exact ⟨rfl, below_row HB.out (by have := HG.out; omega) _⟩
def enc_T1 : Bool × List (List Nat × List Nat) := (true, [([], []), ([], []), ([1], [1]), ([2], [2]), ([3], [3]), ([4], [4]), ([5], [5]), ([0, 6], [0, 6]), ([7, 7, 0, 1, 2, 3, 4, 5, 6, 7], [7])])
def enc_B1 : List Nat := [0, 0, 2, 6, 14, 30, 62, 127, 255]
theorem enc_tab1 : rtab .any (opsOf Try.f101 1) = enc_T1 := by kernel_rfl
theorem enc_bits1 : waitsOk enc_T1.2 enc_B1 = true := by kernel_rfl
def enc_T15 : Bool × List (List Nat × List Nat) := (true, [([], []), ([], []), ([1], [1]), ([2], [2]), ([3], [3]), ([], []), ([4, 5], [4, 5]), ([6], [6]), ([0, 7], [0, 7]), ([8, 8, 0, 1, 2, 3, 4, 5, 6, 7, 8], [8])])
def enc_B15 : List Nat := [0, 0, 2, 6, 14, 0, 62, 126, 255, 511]
theorem enc_tab15 : rtab .any (opsOf Try.f101 15) = enc_T15 := by kernel_rfl
theorem enc_bits15 : waitsOk enc_T15.2 enc_B15 = true := by kernel_rfl
set_option maxHeartbeats 8000000 in
set_option maxRecDepth 100000 in
theorem impl_encrypt_in (keys : List (List Int)) (B g : Nat) (b : List Int) (w : World) (hC : cipherAt w B g keys) (hk : 0 < keys.length ∧ keys.length ≤ 100) (hb : b.length = 16) (ob : Aes.ok b) :
   Calls Try.prog 101 #[.pointer (some ⟨g, 0, none⟩), arr8 b] w fun e w' => e = .returned (arr8 (Aes.encL keys b)) ∧ Below w.heap.size w w' := by
 obtain ⟨cs, gk, ck, h1, h2, h3, h4, h5, h6, h7⟩ := hC
 have HL := Aside0.mk hb
 have OB := Aside0.mk ob
 have HK := Aside0.mk hk
 have HCK := Aside0.mk h3
 have HG := Aside0.mk h4
 have HT := Aside0.mk h5
 have HKO := Aside0.mk h6
 have HRG := Aside0.mk h7
 clear hb ob hk h1 h2 h3 h4 h5 h6 h7
 unfold arr8
 go_enter Try.func101, Try.ntmps101
 go_upto_region 1 with (fail)
 obtain ⟨g0, hg0⟩ : ∃ g, g = w.heap.size := ⟨_, rfl⟩
 have HG0 := Aside0.mk hg0
 show Code.wp _ _ _ _ ((w.alloc (.cells (nums .u8 b).toArray 110)).alloc (.cells (nums .u8 (List.replicate 16 0)).toArray 110))
 have G0 : Aside0 (((w.alloc (.cells (nums .u8 b).toArray 110)).alloc (.cells (nums .u8 (List.replicate 16 0)).toArray 110)).heap[g0]? = some (.cells (nums .u8 b).toArray 110 (0, 0))) := ⟨by rw [hg0]; exact blk_alloc (blk_new w _) _⟩
 have G1 : Aside0 (((w.alloc (.cells (nums .u8 b).toArray 110)).alloc (.cells (nums .u8 (List.replicate 16 0)).toArray 110)).heap[g0 + 1]? = some (.cells (nums .u8 (List.replicate 16 0)).toArray 110 (0, 0))) := ⟨by rw [hg0]; exact blk_new2 w _ _⟩
 have HB : Aside0 (Below w.heap.size w ((w.alloc (.cells (nums .u8 b).toArray 110)).alloc (.cells (nums .u8 (List.replicate 16 0)).toArray 110))) := ⟨below_alloc (below_alloc (Below.refl _ _) _) _⟩
 have HS : Aside0 (g0 + 2 ≤ ((w.alloc (.cells (nums .u8 b).toArray 110)).alloc (.cells (nums .u8 (List.replicate 16 0)).toArray 110)).heap.size) := ⟨by rw [hg0]; simp⟩
 rw [← hg0]
 generalize (w.alloc (.cells (nums .u8 b).toArray 110)).alloc (.cells (nums .u8 (List.replicate 16 0)).toArray 110) = W1 at G0 G1 HB HS ⊢
 clear hg0
 have HW1 : Aside0 (∀ W, Below w.heap.size w W → W.cell? ⟨g, 512, none⟩ = some (.slice (some ⟨gk, 0, none⟩) keys.length ck) ∧ (∀ i, i < keys.length → W.rangeAt gk (i * 16) (nums .u8 (keys.getD i []))) ∧ ∀ x : Int, Aes.by_ x → W.cell? ⟨g, x.toNat, none⟩ = some (.int .u8 (Aes.sb x))) := ⟨fun W hW => by
   have hlt : g < w.heap.size := (Array.getElem?_eq_some_iff.1 HG.out).1
   have hgW : W.heap[g]? = some (.cells cs 125 (0, 0)) := (hW.block g hlt).trans HG.out
   refine ⟨by rw [blk_cell hgW]; exact HT.out.2.2.2, fun i hi j v hv => ?_, fun x hx => ?_⟩
   · have hc := HRG.out i hi j v hv
     exact (hW.cell (cell_lt (by rw [hc]; rfl))).trans hc
   · obtain ⟨m, hm, rfl⟩ := Aes.by_nat hx
     rw [Int.toNat_natCast, blk_cell hgW m, HT.out.2.1 m hm, if_pos hm]; rfl⟩
 clear HG HT HRG
 obtain ⟨k0, hk0⟩ : ∃ k, k = keys.getD 0 [] := ⟨_, rfl⟩
 have hk0m : k0 ∈ keys := by rw [hk0, List.getD_eq_getElem?_getD, List.getElem?_eq_getElem HK.out.1]; exact List.getElem_mem _
 have HK0 := Aside0.mk (HKO.out k0 hk0m)
 have cK := (HW1.out W1 HB.out).1
 have rK : W1.rangeAt gk 0 (nums .u8 k0) := by have := (HW1.out W1 HB.out).2.1 0 HK.out.1; rw [← hk0, Nat.zero_mul] at this; exact this
 have rB : W1.rangeAt g0 0 (nums .u8 b) := fun j v hv => by rw [Nat.zero_add, blk_cell G0.out]; simpa using hv
 have HNB : Aside0 ((nums IntKind.u8 b).length = 16) := ⟨by simp [nums, HL.out]⟩
 have HNK : Aside0 ((nums IntKind.u8 k0).length = 16) := ⟨by simp [nums, HK0.out.1]⟩
 have HE0 : Aside0 (xorL b k0 = Aes.encTo keys b 0) := ⟨by rw [xorL_S _ _ HL.out HK0.out.1, hk0]; rfl⟩
 have HSX : Aside0 ((nums IntKind.u8 (xorL b k0)).toArray.size = 16) := ⟨by simp [nums, xorL_length b k0 (by rw [HL.out, HK0.out.1]), HL.out]⟩
 have HSB : Aside0 ((nums IntKind.u8 b).toArray.size = 16) := ⟨by simp [nums, HL.out]⟩
 have HKL : Aside0 (0 < keys.length) := ⟨HK.out.1⟩
 have kk0 : (0 : Int) < (keys.length : Int) := by have := HK.out.1; omega
 have kk1 : 0 < keys.length := HK.out.1
 have G0D : Aside0 (W1.drew.heap[g0]? = some (.cells (nums .u8 b).toArray 110 (0, 0))) := ⟨G0.out⟩
 have G1D : Aside0 (W1.drew.heap[g0 + 1]? = some (.cells (nums .u8 (List.replicate 16 0)).toArray 110 (0, 0))) := ⟨G1.out⟩
 have HBD : Aside0 (Below w.heap.size w W1.drew) := ⟨below_drew1 HB.out⟩
 have HSD : Aside0 (g0 + 2 ≤ W1.drew.heap.size) := ⟨HS.out⟩
 clear hk0 hk0m G0 G1 HB HS
 refine start_ (n := 9) (S := fun w' => w'.cell? ⟨g, 512, none⟩ = some (.slice (some ⟨gk, 0, none⟩) keys.length ck) ∧ w'.rangeAt gk 0 (nums .u8 k0) ∧ w'.rangeAt g0 0 (nums .u8 b)) (ds := [7, 8]) #[false, false, false, false, false, false, false, false, false] (by kernel_rfl) rfl rfl ⟨(show W1.drew.cell? ⟨g, 512, none⟩ = some (.slice (some ⟨gk, 0, none⟩) keys.length ck) from cK), (show W1.drew.rangeAt gk 0 (nums .u8 k0) from rK), (show W1.drew.rangeAt g0 0 (nums .u8 b) from rB)⟩ (fun hHeld => ?_)
 refine with_tabW enc_tab1 enc_bits1 (fun HT_ HW_ => ?_)
 generalize W1.drew = wD at hHeld G0D G1D HBD HSD ⊢
 refine pure_ (i := 1) (N := some 11) (v := ?_) (a' := ?_) #[false, true, false, false, false, false, false, false, false] rfl rfl (any_of HT_.out (by kernel_rfl)) (fun _ _ _ h => h) (Or.inl ⟨by rfl, ?_⟩) ?_ ?_
 rotate_left
 · intro w'
   go_simp
   with_reducible rfl
 rotate_left
 · simp only [Act.put, sA_, s0_, s1_, i64_w, i32_w]
   rfl
 refine pure_ (i := 2) (N := some 12) (v := ?_) (a' := ?_) #[false, true, true, false, false, false, false, false, false] rfl rfl (any_of HT_.out (by kernel_rfl)) (fun _ _ _ h => h) (Or.inl ⟨by rfl, ?_⟩) ?_ ?_
 rotate_left
 · intro w'
   go_simp
   with_reducible rfl
 rotate_left
 · simp only [Act.put, sA_, s0_, s1_, i64_w, i32_w]
   rfl
 refine pure_ (i := 3) (N := some 13) (v := ?_) (a' := ?_) #[false, true, true, true, false, false, false, false, false] rfl rfl (any_of HT_.out (by kernel_rfl)) (fun _ _ _ h => h) (Or.inl ⟨by rfl, ?_⟩) ?_ ?_
 rotate_left
 · intro w'
   go_simp
   with_reducible rfl
 rotate_left
 · simp only [Act.put, sA_, s0_, s1_, i64_w, i32_w]
   rfl
 refine take_ (i := 0) (N := some 10) (v := ?_) (a' := ?_) #[true, true, true, true, false, false, false, false, false] rfl rfl (take_ofW HT_.out HW_.out (by kernel_rfl)) (fun _ _ _ h => h) ?hy1_0 hHeld ?heq1_0 ?hrest1_0
 case hy1_0 => (refine yieldsIf_load_mid ?_ 110 (.tmp 3) ?_ g0 0 ?_ (nums .u8 b) _ ?_ Try.underlying110 ?_ ?_; rfl; rfl; rfl; exact (fun w_ h_ => h_.2.2); rfl; exact key_size b HNB.out)
 case heq1_0 =>
   simp only [Act.put, sA_, s0_, s1_, i64_w, i32_w]
   rfl
 refine take_ (i := 4) (N := some 14) (v := ?_) (a' := ?_) #[true, true, true, true, true, false, false, false, false] rfl rfl (take_ofW HT_.out HW_.out (by kernel_rfl)) (fun _ _ _ h => h) (Or.inl ⟨by rfl, ?_⟩) hHeld ?_ ?_
 rotate_left
 · rintro w' ⟨s0, s1, s2⟩
   go_simp
   with_reducible rfl
 rotate_left
 · simp only [Act.put, sA_, s0_, s1_, i64_w, i32_w]
   rfl
 refine pure_ (i := 5) (N := some 15) (v := ?_) (a' := ?_) #[true, true, true, true, true, true, false, false, false] rfl rfl (any_of HT_.out (by kernel_rfl)) (fun _ _ _ h => h) (Or.inl ⟨by rfl, ?_⟩) ?_ ?_
 rotate_left
 · intro w'
   go_simp
   with_reducible rfl
 rotate_left
 · simp only [Act.put, sA_, s0_, s1_, i64_w, i32_w]
   rfl
 refine take_ (i := 6) (N := some 16) (v := ?_) (a' := ?_) #[true, true, true, true, true, true, true, false, false] rfl rfl (take_ofW HT_.out HW_.out (by kernel_rfl)) (fun _ _ _ h => h) ?hy1_6 hHeld ?heq1_6 ?hrest1_6
 case hy1_6 => (refine yieldsIf_load_mid ?_ 110 (.tmp 15) ?_ gk 0 ?_ (nums .u8 k0) _ ?_ Try.underlying110 ?_ ?_; rfl; rfl; rfl; exact (fun w_ h_ => h_.2.1); rfl; exact key_size k0 HNK.out)
 case heq1_6 =>
   simp only [Act.put, sA_, s0_, s1_, i64_w, i32_w]
   rfl
 refine last_ (i := 7) (N := some 17) #[true, true, true, true, true, true, true, true, false] rfl rfl (one_of HT_.out (by kernel_rfl)) (by decide) (fun K hK => ?_)
 refine goes_ Try.func117 (by kernel_rfl) rfl #[arr8 b, arr8 k0] (by rfl) rfl rfl (by (try simp only [List.map_toArray, List.map_cons, List.map_nil]); first | done | rfl) ?_
 with_reducible refine (impl_xor.calls b k0 _ HL.out HK0.out.1).mono ?_
 rintro e wX ⟨rfl, hbx⟩
 refine ⟨_, rfl, ?_⟩
 refine hK.out _ _ ?_
 clear hK K
 refine norm_ (a' := ?_) ?_ ?_
 rotate_left
 · show Act.put _ (some 17) _ = _
   simp only [Act.put, sA_, s0_, s1_, i64_w, i32_w]
   rfl
 refine last_ (i := 8) (N := none) #[true, true, true, true, true, true, true, true, true] rfl rfl (one_of HT_.out (by kernel_rfl)) (by decide) (fun K hK => ?_)
 refine wp_store_row 110 (.tmp 3) (.tmp 17) (by rfl) g0 (nums .u8 (xorL b k0)).toArray (by rfl) (by rfl) 110 _ ((hbx.block g0 (by have := HSD.out; omega)).trans G0D.out) (by rw [HSX.out]; kernel_rfl) (by rw [HSX.out, HSB.out]) (nums_one _ _) ?_
 refine hK.out _ _ ?_
 clear hK K
 refine done_ (done_of HT_.out (by kernel_rfl)) ?_
 simp only [Act.put]
 rw [HE0.out]
 have M0 := Aside0.mk (setRow_heap wX g0 _ (nums .u8 (Aes.encTo keys b 0)).toArray _ _ ((hbx.block g0 (by have := HSD.out; omega)).trans G0D.out))
 have M1 : Aside0 ((wX.setRow g0 (nums .u8 (Aes.encTo keys b 0)).toArray).heap[g0 + 1]? = some (.cells (nums .u8 (List.replicate 16 0)).toArray 110 (0, 0))) := ⟨(setRow_other _ _ _ _ (by omega)).trans ((hbx.block (g0 + 1) (by have := HSD.out; omega)).trans G1D.out)⟩
 have MB : Aside0 (Below w.heap.size w (wX.setRow g0 (nums .u8 (Aes.encTo keys b 0)).toArray)) := ⟨below_row (HBD.out.trans (hbx.mono HBD.out.size)) (by have := HG0.out; omega) _⟩
 have MS : Aside0 (g0 + 2 ≤ (wX.setRow g0 (nums .u8 (Aes.encTo keys b 0)).toArray).heap.size) := ⟨by rw [setRow_size]; exact Nat.le_trans HSD.out hbx.size⟩
 generalize wX.setRow g0 (nums .u8 (Aes.encTo keys b 0)).toArray = wM at M0 M1 MB MS ⊢
 clear hbx G0D G1D HBD HSD cK rK rB hHeld kk0 kk1 HE0 HSX HSB HNB HNK
 obtain ⟨last, hlast⟩ : ∃ l, l + 1 = keys.length := ⟨keys.length - 1, by have := HK.out.1; omega⟩
 have HLA := Aside0.mk hlast
 have cK := (HW1.out wM MB.out).1
 have hwl : wrap64 ((keys.length : Int) - 1) = (last : Int) := by have := HK.out.2; unfold wrap64; omega
 clear hlast
 go_wp2_with fail
 rw [hwl]
 clear cK hwl
 go_loopw [6] (fun v wr => ∃ r p : Nat, v = .int .i64 (p : Int) ∧ p = r + 1 ∧ r ≤ last ∧ Aside0 (wr.heap[g0]? = some (.cells (nums .u8 (Aes.encTo keys b r)).toArray 110 (0, 0))) ∧ Aside0 (wr.heap[g0 + 1]? = some (.cells (nums .u8 (List.replicate 16 0)).toArray 110 (0, 0))) ∧ Aside0 (Below w.heap.size w wr) ∧ Aside0 (g0 + 2 ≤ wr.heap.size)) (fun v _ => 200 - (intOf v).toNat)
 case atStart => exact ⟨0, 1, rfl, rfl, Nat.zero_le _, M0, M1, MB, MS⟩
 case round =>
   clear M0 M1 MB MS
   obtain ⟨r, p, rfl, hp, hr, G0, G1, HB, HS⟩ := hrel
   obtain ⟨wR, rfl⟩ : ∃ W, W = wr := ⟨_, rfl⟩
   obtain ⟨S, hS⟩ : ∃ S, S = Aes.encTo keys b r := ⟨_, rfl⟩
   have HSL : Aside0 (S.length = 16 ∧ Aes.ok S) := ⟨by rw [hS]; exact ⟨Aes.encTo_length _ _ _, Aes.encTo_ok HKO.out OB.out r⟩⟩
   have HSE := Aside0.mk hS
   rw [← hS] at G0
   have HP := Aside0.mk hp
   have HR := Aside0.mk hr
   by_cases hlt : p ≤ last
   · have hd : decide (p ≤ last) = true := decide_eq_true hlt
     have HLE := Aside0.mk hlt
     have HL100 : Aside0 (last ≤ 100) := ⟨by have := HK.out.2; have := HLA.out; omega⟩
     clear hlt hp hr hS
     go_wp2_with fail
     obtain ⟨gn, hgn⟩ : ∃ g, g = wR.heap.size := ⟨_, rfl⟩
     obtain ⟨N, hN⟩ : ∃ N, N = Aes.shiftS (Aes.subS S) := ⟨_, rfl⟩
     have HNL : Aside0 (N.length = 16 ∧ Aes.ok N) := ⟨by rw [hN]; exact ⟨Aes.shiftS_length _, Aes.shiftS_ok (Aes.subS_ok HSL.out.2)⟩⟩
     have HNA : Aside0 (∀ q, q < 16 → N.getD q 0 = Aes.sb (S.getD ((q + 4 * (q % 4)) % 16) 0)) := ⟨fun q hq => by rw [hN, Aes.shiftS, Aes.st_at _ q hq, Aes.subS, Aes.st_at _ _ (Nat.mod_lt _ (by decide))]⟩
     have HNE := Aside0.mk hN
     have GN0 : Aside0 ((wR.alloc (.cells (nums .u8 (List.replicate 16 0)).toArray 110)).heap[gn]? = some (.cells (nums .u8 (N.take 0 ++ (List.replicate 16 (0 : Int)).drop 0)).toArray 110 (0, 0))) := ⟨by rw [hgn]; exact blk_new wR _⟩
     have HBG : Aside0 (Below wR.heap.size wR (wR.alloc (.cells (nums .u8 (List.replicate 16 0)).toArray 110))) := ⟨below_alloc (Below.refl _ _) _⟩
     have HGN : Aside0 (gn = wR.heap.size) := ⟨hgn⟩
     have HSG : Aside0 (gn < (wR.alloc (.cells (nums .u8 (List.replicate 16 0)).toArray 110)).heap.size) := ⟨by rw [hgn]; simp⟩
     show Code.wp _ _ _ _ (wR.alloc (.cells (nums .u8 (List.replicate 16 0)).toArray 110))
     rw [← hgn]
     generalize wR.alloc (.cells (nums .u8 (List.replicate 16 0)).toArray 110) = wQ at GN0 HBG HSG ⊢
     clear hgn hN
     go_loopw [29] (fun v wr => ∃ q : Nat, q ≤ 16 ∧ v = .int .i64 (q : Int) ∧ Aside0 (wr.heap[gn]? = some (.cells (nums .u8 (N.take q ++ (List.replicate 16 (0 : Int)).drop q)).toArray 110 (0, 0))) ∧ Aside0 (Below wR.heap.size wR wr) ∧ Aside0 (gn < wr.heap.size)) (fun v _ => 16 - (intOf v).toNat)
     case atStart => exact ⟨0, by omega, rfl, GN0, HBG, HSG⟩
     case round =>
       clear GN0 HBG HSG
       obtain ⟨q, hq, rfl, GN, HBG, HSG⟩ := hrel
       by_cases hlt4 : q < 16
       · have hdq : decide (q < 16) = true := decide_eq_true hlt4
         have hdq2 : decide ((q : Int) < 16) = true := decide_eq_true (by omega)
         obtain ⟨m4, hm4⟩ : ∃ m, m = q % 4 := ⟨_, rfl⟩
         obtain ⟨u, hu⟩ : ∃ u, u = (q + 4 * m4) % 16 := ⟨_, rfl⟩
         obtain ⟨x, hx⟩ : ∃ x, x = S.getD u 0 := ⟨_, rfl⟩
         have bx : Aes.by_ x := by rw [hx]; exact Aes.at_by HSL.out.2 _
         have HBW : Below w.heap.size w wr := HB.out.trans (HBG.out.mono HB.out.size)
         have tX := (HW1.out wr HBW).2.2 x bx
         have cX : wr.cell? ⟨g0, u, none⟩ = some (.int .u8 x) := by
           rw [blk_cell ((HBG.out.block g0 (by have := HS.out; omega)).trans G0.out), hx]
           exact nums_at? _ _ _ _ (by rw [List.getD_eq_getElem?_getD, List.getElem?_eq_getElem (by rw [HSL.out.1]; omega)]; rfl)
         have cZ : wr.cell? ⟨gn, q, none⟩ = some (.int .u8 0) := by
           rw [blk_cell GN.out q]
           exact nums_at? _ _ _ _ (by rw [td_at N _ (by rw [HNL.out.1]; rfl) q (by rw [HNL.out.1]; exact hlt4)]; rw [zeros_getD])
         have zZ := blk_frozen GN.out q
         have TS := Aside0.mk (td_set N (List.replicate 16 (0 : Int)) (by rw [HNL.out.1]; rfl) q (by rw [HNL.out.1]; exact hlt4))
         obtain ⟨y, hy⟩ : ∃ y, y = Aes.sb x := ⟨_, rfl⟩
         rw [← hy] at tX
         have HYV : Aside0 (N.getD q 0 = y) := ⟨by rw [HNA.out q hlt4, hy, hx, hu, hm4]⟩
         have e4 : (q : Int) % 4 = (m4 : Int) := by omega
         have e5 : ((q : Int) + 4 * (m4 : Int)) % 16 = (u : Int) := by omega
         have HLT4 := Aside0.mk hlt4
         have p0 : 0 ≤ x := bx.1
         have p1 : x < 256 := by have := bx.2; omega
         have q0 : (0 : Int) ≤ (q : Int) := by omega
         have q1 : (q : Int) < 16 := by omega
         have q2 : q < 16 := hlt4
         have u0 : (0 : Int) ≤ (u : Int) := by omega
         have u1 : (u : Int) < 16 := by omega
         have u2 : u < 16 := by omega
         have m0 : (0 : Int) ≤ (m4 : Int) := by omega
         have m1 : (m4 : Int) < 4 := by omega
         clear hm4 hu hx hy bx hlt4 hq HBW
         go_wp2
         go_region
         clear cX cZ zZ tX e4 e5 p0 p1 q0 q1 q2 u0 u1 u2 m0 m1
         go_wp2
         have hw : wrap64 ((q : Int) + 1) = ((q + 1 : Nat) : Int) := by have := HLT4.out; unfold wrap64; omega
         rw [hw]
         clear hw
         go_roundw
         case rel =>
           refine ⟨q + 1, HLT4.out, rfl, ⟨?_⟩, ⟨below_drew1 (below_set HBG.out (by have := HGN.out; omega))⟩, ⟨by have := HSG.out; simpa using this⟩⟩
           rw [← TS.out, HYV.out, ← nums_set]
           exact blk_drew (blk_set GN.out q _)
         case measure => simp [intOf]; have := HLT4.out; omega
       · have hdq : decide (q < 16) = false := decide_eq_false hlt4
         have hdq2 : decide ((q : Int) < 16) = false := decide_eq_false (by omega)
         have GF : Aside0 (wr.heap[gn]? = some (.cells (nums .u8 N).toArray 110 (0, 0))) := ⟨by
           have e : q = 16 := by omega
           have := GN.out
           rw [e, List.take_of_length_le (by rw [HNL.out.1]; exact Nat.le_refl _), List.drop_eq_nil_of_le (by simp), List.append_nil] at this
           exact this⟩
         have HNN : Aside0 ((nums IntKind.u8 N).toArray.size = 16) := ⟨by simp [nums, HNL.out.1]⟩
         obtain ⟨wS, rfl⟩ : ∃ W, W = wr := ⟨_, rfl⟩
         clear hlt4 hq GN
         go_upto_if 51 with (fail)
         go_cut [6] from 49 to 53 (fun v6 wc => ∃ M : List Int, v6 = .int .i64 (p : Int) ∧ Aside0 (M = if p < last then colsF fastL N else N) ∧ Aside0 (wc.heap[gn]? = some (.cells (nums .u8 M).toArray 110 (0, 0))) ∧ Aside0 (Below wR.heap.size wR wc) ∧ Aside0 (gn < wc.heap.size))
         case first =>
           by_cases hpl : p < last
           · have hdp : decide (p < last) = true := decide_eq_true hpl
             have hdp2 : decide ((p : Int) < (last : Int)) = true := decide_eq_true (by omega)
             have HPL := Aside0.mk hpl
             have hcl : (colsF fastL N).length = 16 := colsF_length fastL (fun c _ => fastL_length c) N HNL.out.1
             have HCN : Aside0 ((nums IntKind.u8 (colsF fastL N)).toArray.size = 16) := ⟨by simp [nums, hcl]⟩
             clear hcl
             go_wp2_with (refine wpList_load_row (by rfl) 110 (.tmp 7) (by rfl) gn (by rfl) 110 (nums .u8 N).toArray (0, 0) _ GF.out Try.underlying110 rfl (by rw [HNN.out]; kernel_rfl) ?_)
             refine (impl_columns_fast N _ HNL.out.1 HNL.out.2).mono ?_
             rintro e wT ⟨rfl, hbT⟩
             have GT := Aside0.mk ((hbT.block gn HSG.out).trans GF.out)
             have HBT := Aside0.mk (HBG.out.trans (hbT.mono HBG.out.size))
             have HST := Aside0.mk (Nat.lt_of_lt_of_le HSG.out hbT.size)
             clear hbT
             unfold arr8
             go_wp2_with (refine wpList_store_row (by rfl) 110 (.tmp 7) (.tmp 53) (by rfl) gn (nums .u8 (colsF fastL N)).toArray (by rfl) (by rfl) 110 _ GT.out (by rw [HCN.out]; kernel_rfl) (by rw [HNN.out, HCN.out]) (nums_one _ _) ?_)
             go_meet
             case rel => exact ⟨_, rfl, ⟨by rw [if_pos HPL.out]⟩, ⟨setRow_heap _ _ _ _ _ _ GT.out⟩, ⟨below_row HBT.out (by have := HGN.out; omega) _⟩, ⟨by rw [setRow_size]; exact HST.out⟩⟩
           · have hdp : decide (p < last) = false := decide_eq_false hpl
             have hdp2 : decide ((p : Int) < (last : Int)) = false := decide_eq_false (by omega)
             have HPL := Aside0.mk hpl
             go_wp2
             go_meet
             case rel => exact ⟨N, rfl, ⟨by rw [if_neg HPL.out]⟩, GF, HBG, HSG⟩
         case rest =>
           obtain ⟨M, rfl, HM, GM, HBM, HSM⟩ := hcut
           have HMO : Aside0 (M.length = 16) := ⟨by
             rw [HM.out]
             split
             · exact colsF_length fastL (fun c _ => fastL_length c) N HNL.out.1
             · exact HNL.out.1⟩
           obtain ⟨kp, hkp⟩ : ∃ k, k = keys.getD p [] := ⟨_, rfl⟩
           have hpk : p < keys.length := by have := HLA.out; have := HLE.out; omega
           have hkm : kp ∈ keys := by rw [hkp, List.getD_eq_getElem?_getD, List.getElem?_eq_getElem hpk]; exact List.getElem_mem _
           have HKP := Aside0.mk (HKO.out kp hkm)
           have HBW : Aside0 (Below w.heap.size w wc) := ⟨HB.out.trans (HBM.out.mono HB.out.size)⟩
           have cK := (HW1.out wc HBW.out).1
           have rK : wc.rangeAt gk (p * 16) (nums .u8 kp) := by rw [hkp]; exact (HW1.out wc HBW.out).2.1 p hpk
           have rM : wc.rangeAt gn 0 (nums .u8 M) := fun j v hv => by rw [Nat.zero_add, blk_cell GM.out]; simpa using hv
           have HNM : Aside0 ((nums IntKind.u8 M).length = 16) := ⟨by simp [nums, HMO.out]⟩
           have HNK : Aside0 ((nums IntKind.u8 kp).length = 16) := ⟨by simp [nums, HKP.out.1]⟩
           have HKE := Aside0.mk hkp
           have kk0 : (0 : Int) ≤ (p : Int) := by omega
           have kk1 : (p : Int) < (keys.length : Int) := by omega
           have kk2 : p < keys.length := hpk
           have G0D : Aside0 (wc.drew.heap[g0]? = some (.cells (nums .u8 S).toArray 110 (0, 0))) := ⟨(HBM.out.block g0 (by have := HS.out; omega)).trans G0.out⟩
           have G1D : Aside0 (wc.drew.heap[g0 + 1]? = some (.cells (nums .u8 (List.replicate 16 0)).toArray 110 (0, 0))) := ⟨(HBM.out.block (g0 + 1) (by have := HS.out; omega)).trans G1.out⟩
           have HBD : Aside0 (Below w.heap.size w wc.drew) := ⟨below_drew1 HBW.out⟩
           have HSD : Aside0 (g0 + 2 ≤ wc.drew.heap.size) := ⟨Nat.le_trans HS.out HBM.out.size⟩
           have HXL : Aside0 ((xorL M kp).length = 16) := ⟨by rw [xorL_length M kp (by rw [HMO.out, HKP.out.1]), HMO.out]⟩
           have HSX : Aside0 ((nums IntKind.u8 (xorL M kp)).toArray.size = 16) := ⟨by simp [nums, HXL.out]⟩
           have HSB : Aside0 ((nums IntKind.u8 S).toArray.size = 16) := ⟨by simp [nums, HSL.out.1]⟩
           have HEN : Aside0 (xorL M kp = Aes.encTo keys b (r + 1)) := ⟨by
             rw [xorL_S _ _ HMO.out HKP.out.1, HM.out, HKE.out, HP.out, HNE.out, HSE.out]
             show _ = Aes.xorS (if r + 1 < keys.length - 1 then Aes.mixS Gf.mixF (Aes.shiftS (Aes.subS (Aes.encTo keys b r))) else Aes.shiftS (Aes.subS (Aes.encTo keys b r))) (keys.getD (r + 1) [])
             have e : keys.length - 1 = last := by have := HLA.out; omega
             rw [e]
             by_cases h : r + 1 < last
             · rw [if_pos h, if_pos h, fast_mix _ (Aes.shiftS_length _) (Aes.shiftS_ok (Aes.subS_ok (Aes.encTo_ok HKO.out OB.out r)))]
             · rw [if_neg h, if_neg h]⟩
           clear hkp hpk hkm
           go_upto_region 15 with (fail)
           refine start_ (n := 10) (S := fun w' => w'.cell? ⟨g, 512, none⟩ = some (.slice (some ⟨gk, 0, none⟩) keys.length ck) ∧ w'.rangeAt gk (p * 16) (nums .u8 kp) ∧ w'.rangeAt gn 0 (nums .u8 M)) (ds := [8, 9]) #[false, false, false, false, false, false, false, false, false, false] (by kernel_rfl) rfl rfl ⟨(show wc.drew.cell? ⟨g, 512, none⟩ = some (.slice (some ⟨gk, 0, none⟩) keys.length ck) from cK), (show wc.drew.rangeAt gk (p * 16) (nums .u8 kp) from rK), (show wc.drew.rangeAt gn 0 (nums .u8 M) from rM)⟩ (fun hHeld => ?_)
           refine with_tabW enc_tab15 enc_bits15 (fun HT_ HW_ => ?_)
           generalize wc.drew = wD at hHeld G0D G1D HBD HSD ⊢
           refine pure_ (i := 1) (N := some 55) (v := ?_) (a' := ?_) #[false, true, false, false, false, false, false, false, false, false] rfl rfl (any_of HT_.out (by kernel_rfl)) (fun _ _ _ h => h) (Or.inl ⟨by rfl, ?_⟩) ?_ ?_
           rotate_left
           · intro w'
             go_simp
             with_reducible rfl
           rotate_left
           · simp only [Act.put, sA_, s0_, s1_, i64_w, i32_w]
             rfl
           refine pure_ (i := 2) (N := some 56) (v := ?_) (a' := ?_) #[false, true, true, false, false, false, false, false, false, false] rfl rfl (any_of HT_.out (by kernel_rfl)) (fun _ _ _ h => h) (Or.inl ⟨by rfl, ?_⟩) ?_ ?_
           rotate_left
           · intro w'
             go_simp
             with_reducible rfl
           rotate_left
           · simp only [Act.put, sA_, s0_, s1_, i64_w, i32_w]
             rfl
           refine pure_ (i := 3) (N := some 57) (v := ?_) (a' := ?_) #[false, true, true, true, false, false, false, false, false, false] rfl rfl (any_of HT_.out (by kernel_rfl)) (fun _ _ _ h => h) (Or.inl ⟨by rfl, ?_⟩) ?_ ?_
           rotate_left
           · intro w'
             go_simp
             with_reducible rfl
           rotate_left
           · simp only [Act.put, sA_, s0_, s1_, i64_w, i32_w]
             rfl
           refine pure_ (i := 5) (N := some 59) (v := ?_) (a' := ?_) #[false, true, true, true, false, true, false, false, false, false] rfl rfl (any_of HT_.out (by kernel_rfl)) (fun _ _ _ h => h) (Or.inl ⟨by rfl, ?_⟩) ?_ ?_
           rotate_left
           · intro w'
             go_simp
             with_reducible rfl
           rotate_left
           · simp only [Act.put, sA_, s0_, s1_, i64_w, i32_w]
             rfl
           refine take_ (i := 0) (N := some 54) (v := ?_) (a' := ?_) #[true, true, true, true, false, true, false, false, false, false] rfl rfl (take_ofW HT_.out HW_.out (by kernel_rfl)) (fun _ _ _ h => h) ?hy15_0 hHeld ?heq15_0 ?hrest15_0
           case hy15_0 => (refine yieldsIf_load_mid ?_ 110 (.tmp 7) ?_ gn 0 ?_ (nums .u8 M) _ ?_ Try.underlying110 ?_ ?_; rfl; rfl; rfl; exact (fun w_ h_ => h_.2.2); rfl; exact key_size M HNM.out)
           case heq15_0 =>
             simp only [Act.put, sA_, s0_, s1_, i64_w, i32_w]
             rfl
           refine take_ (i := 4) (N := some 58) (v := ?_) (a' := ?_) #[true, true, true, true, true, true, false, false, false, false] rfl rfl (take_ofW HT_.out HW_.out (by kernel_rfl)) (fun _ _ _ h => h) (Or.inl ⟨by rfl, ?_⟩) hHeld ?_ ?_
           rotate_left
           · rintro w' ⟨s0, s1, s2⟩
             go_simp
             with_reducible rfl
           rotate_left
           · simp only [Act.put, sA_, s0_, s1_, i64_w, i32_w]
             rfl
           refine pure_ (i := 6) (N := some 60) (v := ?_) (a' := ?_) #[true, true, true, true, true, true, true, false, false, false] rfl rfl (any_of HT_.out (by kernel_rfl)) (fun _ _ _ h => h) (Or.inl ⟨by rfl, ?_⟩) ?_ ?_
           rotate_left
           · intro w'
             go_simp
             with_reducible rfl
           rotate_left
           · simp only [Act.put, sA_, s0_, s1_, i64_w, i32_w]
             rfl
           refine take_ (i := 7) (N := some 61) (v := ?_) (a' := ?_) #[true, true, true, true, true, true, true, true, false, false] rfl rfl (take_ofW HT_.out HW_.out (by kernel_rfl)) (fun _ _ _ h => h) ?hy15_7 hHeld ?heq15_7 ?hrest15_7
           case hy15_7 => (refine yieldsIf_load_mid ?_ 110 (.tmp 60) ?_ gk (p * 16) ?_ (nums .u8 kp) _ ?_ Try.underlying110 ?_ ?_; rfl; rfl; rfl; exact (fun w_ h_ => h_.2.1); rfl; exact key_size kp HNK.out)
           case heq15_7 =>
             simp only [Act.put, sA_, s0_, s1_, i64_w, i32_w]
             rfl
           refine last_ (i := 8) (N := some 62) #[true, true, true, true, true, true, true, true, true, false] rfl rfl (one_of HT_.out (by kernel_rfl)) (by decide) (fun K hK => ?_)
           refine goes_ Try.func117 (by kernel_rfl) rfl #[arr8 M, arr8 kp] (by rfl) rfl rfl (by (try simp only [List.map_toArray, List.map_cons, List.map_nil]); first | done | rfl) ?_
           with_reducible refine (impl_xor.calls M kp _ HMO.out HKP.out.1).mono ?_
           rintro e wX ⟨rfl, hbx⟩
           refine ⟨_, rfl, ?_⟩
           refine hK.out _ _ ?_
           clear hK K
           refine norm_ (a' := ?_) ?_ ?_
           rotate_left
           · show Act.put _ (some 62) _ = _
             simp only [Act.put, sA_, s0_, s1_, i64_w, i32_w]
             rfl
           refine last_ (i := 9) (N := none) #[true, true, true, true, true, true, true, true, true, true] rfl rfl (one_of HT_.out (by kernel_rfl)) (by decide) (fun K hK => ?_)
           refine wp_store_row 110 (.tmp 3) (.tmp 62) (by rfl) g0 (nums .u8 (xorL M kp)).toArray (by rfl) (by rfl) 110 _ ((hbx.block g0 (by have := HSD.out; omega)).trans G0D.out) (by rw [HSX.out]; kernel_rfl) (by rw [HSX.out, HSB.out]) (nums_one _ _) ?_
           refine hK.out _ _ ?_
           clear hK K
           refine done_ (done_of HT_.out (by kernel_rfl)) ?_
           simp only [Act.put]
           rw [HEN.out]
           have M0 := Aside0.mk (setRow_heap wX g0 _ (nums .u8 (Aes.encTo keys b (r + 1))).toArray _ _ ((hbx.block g0 (by have := HSD.out; omega)).trans G0D.out))
           have M1 : Aside0 ((wX.setRow g0 (nums .u8 (Aes.encTo keys b (r + 1))).toArray).heap[g0 + 1]? = some (.cells (nums .u8 (List.replicate 16 0)).toArray 110 (0, 0))) := ⟨(setRow_other _ _ _ _ (by omega)).trans ((hbx.block (g0 + 1) (by have := HSD.out; omega)).trans G1D.out)⟩
           have MB : Aside0 (Below w.heap.size w (wX.setRow g0 (nums .u8 (Aes.encTo keys b (r + 1))).toArray)) := ⟨below_row (HBD.out.trans (hbx.mono HBD.out.size)) (by have := HG0.out; omega) _⟩
           have MS : Aside0 (g0 + 2 ≤ (wX.setRow g0 (nums .u8 (Aes.encTo keys b (r + 1))).toArray).heap.size) := ⟨by rw [setRow_size]; exact Nat.le_trans HSD.out hbx.size⟩
           generalize wX.setRow g0 (nums .u8 (Aes.encTo keys b (r + 1))).toArray = wM at M0 M1 MB MS ⊢
           clear hbx cK rK rM hHeld kk0 kk1 kk2
           go_wp2
           have hw : wrap64 ((p : Int) + 1) = ((p + 1 : Nat) : Int) := by have := HLE.out; have := HL100.out; unfold wrap64; omega
           rw [hw]
           clear hw
           go_roundw
           case rel => exact ⟨r + 1, p + 1, rfl, by have := HP.out; omega, by have := HP.out; have := HLE.out; omega, M0, M1, MB, MS⟩
           case measure => simp [intOf]; have := HLE.out; have := HL100.out; omega
   · have hd : decide (p ≤ last) = false := decide_eq_false hlt
     have e : r = last := by omega
     have HSS : Aside0 ((nums IntKind.u8 S).toArray.size = 16) := ⟨by simp [nums, HSL.out.1]⟩
     have HFIN : Aside0 (S = Aes.encL keys b) := ⟨by rw [HSE.out, Aes.encL, e]; congr 1; have := HLA.out; omega⟩
     clear hp hr e hS
     have GR := Aside0.mk (setRow_heap wR (g0 + 1) _ (nums IntKind.u8 S).toArray _ _ G1.out)
     go_wp2_with (first
       | (refine wpList_load_row (by rfl) 110 (.tmp 3) (by rfl) g0 (by rfl) 110 (nums .u8 S).toArray (0, 0) _ G0.out Try.underlying110 rfl (by rw [HSS.out]; kernel_rfl) ?_)
       | (refine wpList_store_row (by rfl) 110 (.tmp 4) (.tmp 63) (by rfl) (g0 + 1) (nums .u8 S).toArray (by rfl) (by rfl) 110 _ G1.out (by rw [HSS.out]; kernel_rfl) (by rw [HSS.out]; rfl) (nums_one _ _) ?_))
     refine bodyPost_ret (v := arr8 S) ?_ rfl ?_
     · exact results_cell_row (fn := Try.f101) (p := 4) (ty := 110) Try.results101 _ _ _ 110 _ (0, 0) _ (by rfl) GR.out Try.underlying110 rfl (by rw [HSS.out]; kernel_rfl)
     · exact ⟨by rw [HFIN.out]; rfl, below_row HB.out (by have := HG0.out; omega) _⟩
theorem enc_u (keys : List (List Int)) (B g : Nat) (b : List Int) (w : World) (hC : cipherAt w B g keys) (hk : 0 < keys.length ∧ keys.length ≤ 100) (hb : b.length = 16) (ob : Aes.ok b) :
   Calls Try.prog 101 #[.pointer (some ⟨g, 0, none⟩), .agg (nums .u8 b).toArray] w fun e w' => e = .returned (.agg (nums .u8 (Aes.encL keys b)).toArray) ∧ Below w.heap.size w w' := impl_encrypt_in keys B g b w hC hk hb ob
theorem cipherAt_ok {W : World} {B g : Nat} {keys : List (List Int)} (h : cipherAt W B g keys) : Aes.keysOk keys := by
 obtain ⟨_, _, _, _, _, _, _, _, hko, _⟩ := h
 exact hko
theorem k16_at (a : Addr) (c : Nat) (W : World) : (Instr.arrayAt 110 (.slice (some a) 16 c)).run Try.prog W = .ok (.pointer (some a)) W := by
 simp [Instr.arrayAt, run_underlying Try.underlying110]
end Go.Proofs.Ytlfpogbonmddmaa.P

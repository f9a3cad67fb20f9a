/- Laid by a program of this session: of Pm16 what this law uses. -/
import Derived.Test.YtfbggdlidelliaaZMoM11
import Derived.Test.YtfbggdlidelliaaZMoPm7
import Derived.Test.YtfbggdlidelliaaZMoPm8
import Derived.Test.YtfbggdlidelliaaZMoPm9
import Derived.Test.YtfbggdlidelliaaZMoPm15
namespace Go.Proofs.Ytfbggdlidelliaa.P
open Go.RowKit Go.Proofs.YtfbggdlidelliaaW.PrintWords Go.Proofs.YtfbggdlidelliaaW.PrintLast Go.Proofs.YtfbggdlidelliaaW.PrintMore
attribute [local go_sem] min2_int min_two
set_option linter.unusedVariables false
set_option linter.unusedSimpArgs false
def at4 (u : Gf.V4) (i : Nat) : Nat := match i with | 0 => u.a | 1 => u.b | 2 => u.c | _ => u.d
def col (u : Gf.V4) : List Int := [(u.a : Int), (u.b : Int), (u.c : Int), (u.d : Int)]
theorem at4_lt (u : Gf.V4) (hu : u.ok) (i : Nat) : at4 u i < 256 := by
  unfold at4; split
  · exact hu.1
  · exact hu.2.1
  · exact hu.2.2.1
  · exact hu.2.2.2
theorem getD_col (u : Gf.V4) (i : Nat) (hi : i < 4) : (col u).getD i 0 = (at4 u i : Nat) := by
  match i, hi with
  | 0, _ => rfl
  | 1, _ => rfl
  | 2, _ => rfl
  | 3, _ => rfl
theorem mpart_stepC (c f : Gf.V4) (hc : c.ok) (hf : f.ok) (i k s : Nat) (hk : k < 4) (hs : s < 256) (h : mpart (col c) (col f) i k = (s : Nat)) :
    mpart (col c) (col f) i (k + 1) = ((s ^^^ Gf.gm (at4 c ((i + k) % 4)) (at4 f k) : Nat) : Int) := by
  show Go.bits .xor .u8 (mpart (col c) (col f) i k) (tm _ _) = _
  rw [h, getD_col c _ (Nat.mod_lt _ (by decide)), getD_col f k hk]
  exact Gf.xor_u8 s (Gf.gm (at4 c ((i + k) % 4)) (at4 f k)) hs (Gf.gm_lt (at4_lt c hc _))
theorem mpart_allC (c f : Gf.V4) (hc : c.ok) (hf : f.ok) (i : Nat) : mpart (col c) (col f) i 4 =
    ((((0 ^^^ Gf.gm (at4 c ((i + 0) % 4)) (at4 f 0)) ^^^ Gf.gm (at4 c ((i + 1) % 4)) (at4 f 1)) ^^^ Gf.gm (at4 c ((i + 2) % 4)) (at4 f 2)) ^^^ Gf.gm (at4 c ((i + 3) % 4)) (at4 f 3) : Nat) := by
  have g : ∀ a b, Gf.gm (at4 c a) b < 256 := fun a b => Gf.gm_lt (at4_lt c hc a)
  exact mpart_stepC c f hc hf i 3 _ (by decide) (Gf.xor_lt (Gf.xor_lt (Gf.xor_lt (by decide) (g _ _)) (g _ _)) (g _ _))
    (mpart_stepC c f hc hf i 2 _ (by decide) (Gf.xor_lt (Gf.xor_lt (by decide) (g _ _)) (g _ _)) (mpart_stepC c f hc hf i 1 _ (by decide) (Gf.xor_lt (by decide) (g _ _)) (mpart_stepC c f hc hf i 0 0 (by decide) (by decide) rfl)))
theorem mixedL_colC (c f : Gf.V4) (hc : c.ok) (hf : f.ok) : mixedL (col c) (col f) = col (Gf.V4.mx f c) := by
  unfold mixedL
  rw [mpart_allC c f hc hf 0, mpart_allC c f hc hf 1, mpart_allC c f hc hf 2, mpart_allC c f hc hf 3]
  simp only [Nat.zero_xor]
  rfl
theorem unmix_mixS (s : List Int) (hs : s.length = 16) (ho : Aes.ok s) : colsF (fun c => mixedL c [14, 11, 13, 9]) s = Aes.mixS Gf.unmixF s := by
  have hF : ∀ c : List Int, c.length = 4 → ((fun c => mixedL c [14, 11, 13, 9]) c).length = 4 := fun c _ => rfl
  refine Aes.st_is _ _ (colsF_length _ hF s hs) fun j hj => ?_
  obtain ⟨k, i, hk, hi, rfl⟩ : ∃ k i, k < 4 ∧ i < 4 ∧ j = 4 * k + i := ⟨j / 4, j % 4, by omega, by omega, by omega⟩
  rw [colsF_part _ hF s hs k i hk hi, show (4 * k + i) / 4 = k from by omega, show (4 * k + i) % 4 = i from by omega]
  obtain ⟨x0, b0, e0⟩ := Aes.by_nat (Aes.at_by ho (4 * k + 0))
  obtain ⟨x1, b1, e1⟩ := Aes.by_nat (Aes.at_by ho (4 * k + 1))
  obtain ⟨x2, b2, e2⟩ := Aes.by_nat (Aes.at_by ho (4 * k + 2))
  obtain ⟨x3, b3, e3⟩ := Aes.by_nat (Aes.at_by ho (4 * k + 3))
  have hc : Aes.colN s k = ⟨x0, x1, x2, x3⟩ := by
    have e0' := e0; rw [Nat.add_zero] at e0'
    unfold Aes.colN; rw [e0', e1, e2, e3]; rfl
  have hl : (s.drop (4 * k)).take 4 = col ⟨x0, x1, x2, x3⟩ := by
    apply List.ext_getElem
    · simp [col, hs]; omega
    · intro q h1 h2
      have hq : q < 4 := by simpa [col] using h2
      have e : ((s.drop (4 * k)).take 4)[q] = s.getD (4 * k + q) 0 := by
        rw [List.getElem_take, List.getElem_drop, List.getD_eq_getElem?_getD, List.getElem?_eq_getElem (by omega)]; rfl
      rw [e]
      match q, hq with
      | 0, _ => exact e0
      | 1, _ => exact e1
      | 2, _ => exact e2
      | 3, _ => exact e3
  rw [hc]
  show (mixedL ((s.drop (4 * k)).take 4) [14, 11, 13, 9]).getD i 0 = _
  rw [hl]
  have hu : (Gf.V4.mk x0 x1 x2 x3).ok := ⟨b0, b1, b2, b3⟩
  have e : mixedL (col ⟨x0, x1, x2, x3⟩) [14, 11, 13, 9] = col (Gf.V4.mx Gf.unmixF ⟨x0, x1, x2, x3⟩) := mixedL_colC ⟨x0, x1, x2, x3⟩ Gf.unmixF hu (by unfold Gf.unmixF Gf.V4.ok; decide)
  rw [e, getD_col _ _ hi]
  match i, hi with
  | 0, _ => rfl
  | 1, _ => rfl
  | 2, _ => rfl
  | 3, _ => rfl
def backTo (N S : List Int) (q : Nat) : List Int := Aes.st fun j => if (j + 12 * (j % 4)) % 16 < q then N.getD j 0 else S.getD j 0
theorem backTo_zero (N S : List Int) (hS : S.length = 16) : backTo N S 0 = S := (Aes.st_is S _ hS fun j hj => by rw [if_neg (by omega)]).symm
theorem backTo_all (N S : List Int) (hN : N.length = 16) : backTo N S 16 = N := (Aes.st_is N _ hN fun j hj => by rw [if_pos (Nat.mod_lt _ (by decide))]).symm
theorem backTo_set (N S : List Int) (q : Nat) (hq : q < 16) : (backTo N S q).set ((q + 4 * (q % 4)) % 16) (N.getD ((q + 4 * (q % 4)) % 16) 0) = backTo N S (q + 1) := by
  refine Aes.st_is _ _ (by rw [List.length_set]; exact Aes.st_length _) fun j hj => ?_
  have hl : (backTo N S q).length = 16 := Aes.st_length _
  rw [List.getD_eq_getElem?_getD, List.getElem?_set]
  by_cases h : (q + 4 * (q % 4)) % 16 = j
  · have e : (j + 12 * (j % 4)) % 16 = q := by omega
    rw [if_pos h, if_pos (by omega), if_pos (by omega), h]; rfl
  · have e : (j + 12 * (j % 4)) % 16 ≠ q := by omega
    rw [if_neg h, ← List.getD_eq_getElem?_getD]
    unfold backTo
    rw [Aes.st_at _ j hj]
    by_cases h2 : (j + 12 * (j % 4)) % 16 < q
    · rw [if_pos h2, if_pos (by omega)]
    · rw [if_neg h2, if_neg (by omega)]
theorem backTo_length (N S : List Int) (q : Nat) : (backTo N S q).length = 16 := Aes.st_length _
set_option maxHeartbeats 8000000 in
set_option maxRecDepth 100000 in
theorem impl_columns_unmix (b : List Int) (w : World) (hb : b.length = 16) (ob : Aes.ok b) :
    Calls Try.prog 81 #[arr8 b, .func (.func 85) #[] #[]] w fun e w' => e = .returned (arr8 (colsF (fun c => mixedL c [14, 11, 13, 9]) b)) ∧ Below w.heap.size w w' := by
  obtain ⟨F, hFd⟩ : ∃ F : List Int → List Int, F = (fun c => mixedL c [14, 11, 13, 9]) := ⟨_, rfl⟩
  have hF : ∀ c : List Int, c.length = 4 → (F c).length = 4 := fun c hc => by rw [hFd]; exact rfl
  have hC : ∀ (c : List Int) (w : World), c.length = 4 → Aes.ok c → Calls Try.prog 85 #[arr8 c] w fun e w' => e = .returned (arr8 (F c)) ∧ Below w.heap.size w w' := fun c w h1 h2 => by rw [hFd]; exact impl_unmix.calls c w h1 h2
  rw [← hFd]
  clear hFd
  have HL := Aside0.mk hb
  have OB := Aside0.mk ob
  obtain ⟨R, hR⟩ : ∃ R, R = colsF F b := ⟨_, rfl⟩
  have HRL : Aside0 (R.length = 16) := ⟨by rw [hR]; exact colsF_length F hF b hb⟩
  have HRP : Aside0 (∀ k j, k < 4 → j < 4 → R.getD (4 * k + j) 0 = (F ((b.drop (4 * k)).take 4)).getD j 0) := ⟨fun k j hk hj => by rw [hR]; exact colsF_part F hF b hb k j hk hj⟩
  have HFF := Aside0.mk hF
  have HCC := Aside0.mk hC
  rw [← hR]
  clear hb ob hR hF hC
  unfold arr8
  go_enter Try.func81, Try.ntmps81
  go_upto_region 1 with (fail)
  obtain ⟨g0, hg0⟩ : ∃ g, g = w.heap.size := ⟨_, rfl⟩
  have HG := Aside0.mk hg0
  show Code.wp _ _ _ _ ((w.alloc (.cells (nums .u8 b).toArray 52)).alloc (.cells (nums .u8 (List.replicate 16 0)).toArray 52))
  have G0 : Aside0 (((w.alloc (.cells (nums .u8 b).toArray 52)).alloc (.cells (nums .u8 (List.replicate 16 0)).toArray 52)).heap[g0]? = some (.cells (nums .u8 (R.take 0 ++ b.drop 0)).toArray 52 (0, 0))) := ⟨by rw [hg0]; exact blk_alloc (blk_new w _) _⟩
  have G1 : Aside0 (((w.alloc (.cells (nums .u8 b).toArray 52)).alloc (.cells (nums .u8 (List.replicate 16 0)).toArray 52)).heap[g0 + 1]? = some (.cells (nums .u8 (List.replicate 16 0)).toArray 52 (0, 0))) := ⟨by rw [hg0]; exact blk_new2 w _ _⟩
  have HB : Aside0 (Below w.heap.size w ((w.alloc (.cells (nums .u8 b).toArray 52)).alloc (.cells (nums .u8 (List.replicate 16 0)).toArray 52))) := ⟨below_alloc (below_alloc (Below.refl _ _) _) _⟩
  have HS : Aside0 (g0 + 2 ≤ ((w.alloc (.cells (nums .u8 b).toArray 52)).alloc (.cells (nums .u8 (List.replicate 16 0)).toArray 52)).heap.size) := ⟨by rw [hg0]; simp⟩
  rw [← hg0]
  generalize (w.alloc (.cells (nums .u8 b).toArray 52)).alloc (.cells (nums .u8 (List.replicate 16 0)).toArray 52) = W1 at G0 G1 HB HS ⊢
  clear hg0
  go_wp2_with fail
  go_loopw [5] (fun v wr => ∃ k p : Nat, k ≤ 4 ∧ p = 4 * k ∧ v = .int .i64 (p : Int) ∧ Aside0 (wr.heap[g0]? = some (.cells (nums .u8 (R.take p ++ b.drop p)).toArray 52 (0, 0))) ∧ Aside0 (wr.heap[g0 + 1]? = some (.cells (nums .u8 (List.replicate 16 0)).toArray 52 (0, 0))) ∧ Aside0 (Below w.heap.size w wr) ∧ Aside0 (g0 + 2 ≤ wr.heap.size)) (fun v _ => 16 - (intOf v).toNat)
  case atStart => exact ⟨0, 0, by omega, rfl, rfl, G0, G1, HB, HS⟩
  case round =>
    clear G0 G1 HB HS
    obtain ⟨k, p, hk, hp, rfl, G0, G1, HB, HS⟩ := hrel
    obtain ⟨wB, rfl⟩ : ∃ W, W = wr := ⟨_, rfl⟩
    by_cases hlt : p < 16
    · have hd : decide (p < 16) = true := decide_eq_true hlt
      have hd2 : decide ((p : Int) < 16) = true := decide_eq_true (by omega)
      obtain ⟨c, hc⟩ : ∃ c, c = (b.drop p).take 4 := ⟨_, rfl⟩
      have hcl : c.length = 4 := by rw [hc]; have := HL.out; simp; omega
      have HCO : Aside0 (Aes.ok c) := ⟨by rw [hc]; exact fun x hx => OB.out x (List.mem_of_mem_drop (List.mem_of_mem_take hx))⟩
      have hrg : wB.rangeAt g0 p (nums .u8 c) := fun j v hv => by
        obtain ⟨hj, rfl⟩ := nums_getD c j v hv
        have hRp : (R.take p).length = p := by rw [List.length_take, HRL.out]; omega
        rw [blk_cell G0.out]
        refine nums_at? _ _ _ _ ?_
        rw [List.getElem?_append_right (by omega), hRp, show p + j - p = j from by omega, List.getElem?_drop, hc]
        rw [List.getD_eq_getElem?_getD, List.getElem?_take_of_lt (by omega), List.getElem?_drop, List.getElem?_eq_getElem (by have := HL.out; omega)]
        rfl
      have HCL := Aside0.mk hcl
      have HRG := Aside0.mk hrg
      have HNC : Aside0 ((nums IntKind.u8 c).length = 4) := ⟨by simp [nums, hcl]⟩
      have hfl : (F c).length = 4 := HFF.out c hcl
      have HFC := Aside0.mk hfl
      have HNF : Aside0 ((nums IntKind.u8 (F c)).length = 4) := ⟨by simp [nums, hfl]⟩
      have HNA : Aside0 ((nums IntKind.u8 (F c)).toArray.size = 4) := ⟨by simp [nums, hfl]⟩
      have HPT : Aside0 (∀ j, j < 4 → R.getD (p + j) 0 = (F c).getD j 0) := ⟨fun j hj => by rw [hp, HRP.out k j (by omega) hj, hc, hp]⟩
      have hp' : p = 0 ∨ p = 4 ∨ p = 8 ∨ p = 12 := by omega
      have HPK := Aside0.mk hp
      clear hc hcl hrg hp hlt hk hfl hd hd2
      rcases hp' with rfl | rfl | rfl | rfl
      · have ka := arr4_at ⟨g0, 0, none⟩ 16 wB
        go_wp2_with ((with_reducible refine gate_dst (N := 17) rfl ?_); refine wpList_load_mid (by rfl) 74 (.tmp 16) (by rfl) g0 0 (by rfl) (nums .u8 c) _ HRG.out Try.underlying74 rfl (by rw [HNC.out]; kernel_rfl) ?_)
        refine (HCC.out c wB HCL.out HCO.out).mono ?_
        rintro e w5 ⟨rfl, hb5⟩
        clear ka
        have Z0 : Aside0 (w5.heap[g0]? = some (.cells (nums .u8 (R.take 0 ++ b.drop 0)).toArray 52 (0, 0))) := ⟨(hb5.block g0 (by have := HS.out; omega)).trans G0.out⟩
        have Z1 : Aside0 (w5.heap[g0 + 1]? = some (.cells (nums .u8 (List.replicate 16 0)).toArray 52 (0, 0))) := ⟨(hb5.block (g0 + 1) (by have := HS.out; omega)).trans G1.out⟩
        have ZB : Aside0 (Below w.heap.size w w5) := ⟨HB.out.trans (hb5.mono HB.out.size)⟩
        have ZS : Aside0 (g0 + 2 ≤ w5.heap.size) := ⟨Nat.le_trans HS.out hb5.size⟩
        clear hb5
        unfold arr8
        go_upto_region 5 with ((with_reducible refine gate_store (t := 74) (p := 6) (v := .tmp 18) rfl ?_); refine wpList_store_row (by rfl) 74 (.tmp 6) (.tmp 18) (by rfl) w5.heap.size (nums .u8 (F c)).toArray (by rfl) (by rfl) 74 _ (blk_new w5 _) (by rw [HNA.out]; kernel_rfl) (by rw [HNA.out]; rfl) (nums_one _ _) ?_)
        simp only [Act.put]
        obtain ⟨gn, hgn⟩ : ∃ g, g = w5.heap.size := ⟨_, rfl⟩
        show Code.wp _ _ _ _ ((w5.alloc (.cells (nums .u8 (List.replicate 4 0)).toArray 74)).setRow w5.heap.size (nums .u8 (F c)).toArray)
        obtain ⟨wN, hwN⟩ : ∃ W, W = (w5.alloc (.cells (nums .u8 (List.replicate 4 0)).toArray 74)).setRow w5.heap.size (nums .u8 (F c)).toArray := ⟨_, rfl⟩
        have GF : wN.heap[gn]? = some (.cells (nums .u8 (F c)).toArray 74 (0, 0)) := by rw [hwN, hgn]; exact setRow_heap _ _ _ _ _ _ (blk_new w5 _)
        have hoth : ∀ k, k < w5.heap.size → wN.heap[k]? = w5.heap[k]? := fun k hk => by
          rw [hwN, setRow_other _ _ _ _ (by omega)]
          show (w5.heap.push _)[k]? = _
          rw [Array.getElem?_push_lt hk, Array.getElem?_eq_getElem hk]
        have N0 : Aside0 (wN.drew.heap[g0]? = some (.cells (nums .u8 (R.take 0 ++ b.drop 0)).toArray 52 (0, 0))) := ⟨(hoth g0 (by have := ZS.out; omega)).trans Z0.out⟩
        have N1 : Aside0 (wN.drew.heap[g0 + 1]? = some (.cells (nums .u8 (List.replicate 16 0)).toArray 52 (0, 0))) := ⟨(hoth (g0 + 1) (by have := ZS.out; omega)).trans Z1.out⟩
        have NB : Aside0 (Below w.heap.size w wN.drew) := ⟨by rw [hwN]; exact below_drew1 (below_row (below_alloc ZB.out _) ZB.out.size _)⟩
        have NS : Aside0 (g0 + 2 ≤ wN.drew.heap.size) := ⟨by show g0 + 2 ≤ wN.heap.size; rw [hwN, setRow_size]; have := ZS.out; simp; omega⟩
        have HSRC : Aside0 (∀ j v, (nums IntKind.u8 (F c))[j]? = some v → wN.drew.cell? ((⟨gn, 0, none⟩ : Addr).add j) = some v) := ⟨fun j v hv => by
          rw [add_plain]
          show wN.cell? ⟨gn, j, none⟩ = some v
          rw [blk_cell GF j]
          simpa using hv⟩
        rw [← hwN, ← hgn]
        clear hoth hwN hgn GF Z0 Z1 ZB ZS
        refine start_ (n := 4) (S := fun w' => True) (ds := [3]) #[false, false, false, false] (by kernel_rfl) rfl rfl trivial (fun hHeld => ?_)
        refine with_tabW clm_tab5 clm_bits5 (fun HT_ HW_ => ?_)
        generalize wN.drew = wD at hHeld N0 N1 NB NS HSRC ⊢
        refine pure_ (i := 0) (N := some 19) (v := ?_) (a' := ?_) #[true, false, false, false] rfl rfl (any_of HT_.out (by kernel_rfl)) (fun _ _ _ h => h) (Or.inl ⟨by rfl, ?_⟩) ?_ ?_
        rotate_left
        · intro w'
          go_simp
          with_reducible rfl
        rotate_left
        · simp only [Act.put, List.setIfInBounds_toArray, List.set_cons_zero, List.set_cons_succ, i64_w, i32_w]
          rfl
        refine pure_ (i := 1) (N := some 20) (v := ?_) (a' := ?_) #[true, true, false, false] rfl rfl (any_of HT_.out (by kernel_rfl)) (fun _ _ _ h => h) (Or.inl ⟨by rfl, ?_⟩) ?_ ?_
        rotate_left
        · intro w'
          go_simp
          with_reducible rfl
        rotate_left
        · simp only [Act.put, List.setIfInBounds_toArray, List.set_cons_zero, List.set_cons_succ, i64_w, i32_w]
          rfl
        refine pure_ (i := 2) (N := some 21) (v := ?_) (a' := ?_) #[true, true, true, false] rfl rfl (any_of HT_.out (by kernel_rfl)) (fun _ _ _ h => h) (Or.inl ⟨by rfl, ?_⟩) ?_ ?_
        rotate_left
        · intro w'
          go_simp
          with_reducible rfl
        rotate_left
        · simp only [Act.put, List.setIfInBounds_toArray, List.set_cons_zero, List.set_cons_succ, i64_w, i32_w]
          rfl
        refine last_ (i := 3) (N := some 22) #[true, true, true, true] rfl rfl (one_of HT_.out (by kernel_rfl)) (by decide) (fun K hK => ?_)
        refine opWp_copy_row (.tmp 20) (.tmp 21) 28 28 5 (by rfl) g0 0 16 16 ⟨gn, 0, none⟩ 4 4 _ 52 (nums .u8 (F c)) (by rfl) (by rfl) Try.underlying28 (by kernel_rfl) N0.out (by rw [HNF.out]; rfl) HSRC.out (by rw [HNF.out]; simp [nums, HRL.out, HL.out]) (fun u hu => nums_oneC hu) ?_
        refine hK.out _ _ ?_
        clear hK K
        refine norm_ (a' := ?_) ?_ ?_
        rotate_left
        · show Act.put _ (some 22) _ = _
          simp only [Act.put, List.setIfInBounds_toArray, List.set_cons_zero, List.set_cons_succ, i64_w, i32_w]
          rfl
        refine done_ (done_of HT_.out (by kernel_rfl)) ?_
        rw [row_part R (F c) b 0 HRL.out HL.out HFC.out (by decide) HPT.out]
        have M0 := Aside0.mk (setRow_heap wD g0 _ (nums .u8 (R.take (0 + 4) ++ b.drop (0 + 4))).toArray _ _ N0.out)
        have M1 : Aside0 ((wD.setRow g0 (nums .u8 (R.take (0 + 4) ++ b.drop (0 + 4))).toArray).heap[g0 + 1]? = some (.cells (nums .u8 (List.replicate 16 0)).toArray 52 (0, 0))) := ⟨(setRow_other _ _ _ _ (by omega)).trans N1.out⟩
        have MB : Aside0 (Below w.heap.size w (wD.setRow g0 (nums .u8 (R.take (0 + 4) ++ b.drop (0 + 4))).toArray)) := ⟨below_row NB.out (by have := HG.out; omega) _⟩
        have MS : Aside0 (g0 + 2 ≤ (wD.setRow g0 (nums .u8 (R.take (0 + 4) ++ b.drop (0 + 4))).toArray).heap.size) := ⟨by rw [setRow_size]; exact NS.out⟩
        generalize wD.setRow g0 (nums .u8 (R.take (0 + 4) ++ b.drop (0 + 4))).toArray = wM at M0 M1 MB MS ⊢
        clear N0 N1 NB NS HSRC hHeld
        go_wp2
        go_roundw
        case rel => exact ⟨k + 1, 4, by have := HPK.out; omega, by have := HPK.out; omega, rfl, M0, M1, MB, MS⟩
        case measure => simp [intOf]
      · have ka := arr4_at ⟨g0, 4, none⟩ 12 wB
        go_wp2_with ((with_reducible refine gate_dst (N := 17) rfl ?_); refine wpList_load_mid (by rfl) 74 (.tmp 16) (by rfl) g0 4 (by rfl) (nums .u8 c) _ HRG.out Try.underlying74 rfl (by rw [HNC.out]; kernel_rfl) ?_)
        refine (HCC.out c wB HCL.out HCO.out).mono ?_
        rintro e w5 ⟨rfl, hb5⟩
        clear ka
        have Z0 : Aside0 (w5.heap[g0]? = some (.cells (nums .u8 (R.take 4 ++ b.drop 4)).toArray 52 (0, 0))) := ⟨(hb5.block g0 (by have := HS.out; omega)).trans G0.out⟩
        have Z1 : Aside0 (w5.heap[g0 + 1]? = some (.cells (nums .u8 (List.replicate 16 0)).toArray 52 (0, 0))) := ⟨(hb5.block (g0 + 1) (by have := HS.out; omega)).trans G1.out⟩
        have ZB : Aside0 (Below w.heap.size w w5) := ⟨HB.out.trans (hb5.mono HB.out.size)⟩
        have ZS : Aside0 (g0 + 2 ≤ w5.heap.size) := ⟨Nat.le_trans HS.out hb5.size⟩
        clear hb5
        unfold arr8
        go_upto_region 5 with ((with_reducible refine gate_store (t := 74) (p := 6) (v := .tmp 18) rfl ?_); refine wpList_store_row (by rfl) 74 (.tmp 6) (.tmp 18) (by rfl) w5.heap.size (nums .u8 (F c)).toArray (by rfl) (by rfl) 74 _ (blk_new w5 _) (by rw [HNA.out]; kernel_rfl) (by rw [HNA.out]; rfl) (nums_one _ _) ?_)
        simp only [Act.put]
        obtain ⟨gn, hgn⟩ : ∃ g, g = w5.heap.size := ⟨_, rfl⟩
        show Code.wp _ _ _ _ ((w5.alloc (.cells (nums .u8 (List.replicate 4 0)).toArray 74)).setRow w5.heap.size (nums .u8 (F c)).toArray)
        obtain ⟨wN, hwN⟩ : ∃ W, W = (w5.alloc (.cells (nums .u8 (List.replicate 4 0)).toArray 74)).setRow w5.heap.size (nums .u8 (F c)).toArray := ⟨_, rfl⟩
        have GF : wN.heap[gn]? = some (.cells (nums .u8 (F c)).toArray 74 (0, 0)) := by rw [hwN, hgn]; exact setRow_heap _ _ _ _ _ _ (blk_new w5 _)
        have hoth : ∀ k, k < w5.heap.size → wN.heap[k]? = w5.heap[k]? := fun k hk => by
          rw [hwN, setRow_other _ _ _ _ (by omega)]
          show (w5.heap.push _)[k]? = _
          rw [Array.getElem?_push_lt hk, Array.getElem?_eq_getElem hk]
        have N0 : Aside0 (wN.drew.heap[g0]? = some (.cells (nums .u8 (R.take 4 ++ b.drop 4)).toArray 52 (0, 0))) := ⟨(hoth g0 (by have := ZS.out; omega)).trans Z0.out⟩
        have N1 : Aside0 (wN.drew.heap[g0 + 1]? = some (.cells (nums .u8 (List.replicate 16 0)).toArray 52 (0, 0))) := ⟨(hoth (g0 + 1) (by have := ZS.out; omega)).trans Z1.out⟩
        have NB : Aside0 (Below w.heap.size w wN.drew) := ⟨by rw [hwN]; exact below_drew1 (below_row (below_alloc ZB.out _) ZB.out.size _)⟩
        have NS : Aside0 (g0 + 2 ≤ wN.drew.heap.size) := ⟨by show g0 + 2 ≤ wN.heap.size; rw [hwN, setRow_size]; have := ZS.out; simp; omega⟩
        have HSRC : Aside0 (∀ j v, (nums IntKind.u8 (F c))[j]? = some v → wN.drew.cell? ((⟨gn, 0, none⟩ : Addr).add j) = some v) := ⟨fun j v hv => by
          rw [add_plain]
          show wN.cell? ⟨gn, j, none⟩ = some v
          rw [blk_cell GF j]
          simpa using hv⟩
        rw [← hwN, ← hgn]
        clear hoth hwN hgn GF Z0 Z1 ZB ZS
        refine start_ (n := 4) (S := fun w' => True) (ds := [3]) #[false, false, false, false] (by kernel_rfl) rfl rfl trivial (fun hHeld => ?_)
        refine with_tabW clm_tab5 clm_bits5 (fun HT_ HW_ => ?_)
        generalize wN.drew = wD at hHeld N0 N1 NB NS HSRC ⊢
        refine pure_ (i := 0) (N := some 19) (v := ?_) (a' := ?_) #[true, false, false, false] rfl rfl (any_of HT_.out (by kernel_rfl)) (fun _ _ _ h => h) (Or.inl ⟨by rfl, ?_⟩) ?_ ?_
        rotate_left
        · intro w'
          go_simp
          with_reducible rfl
        rotate_left
        · simp only [Act.put, List.setIfInBounds_toArray, List.set_cons_zero, List.set_cons_succ, i64_w, i32_w]
          rfl
        refine pure_ (i := 1) (N := some 20) (v := ?_) (a' := ?_) #[true, true, false, false] rfl rfl (any_of HT_.out (by kernel_rfl)) (fun _ _ _ h => h) (Or.inl ⟨by rfl, ?_⟩) ?_ ?_
        rotate_left
        · intro w'
          go_simp
          with_reducible rfl
        rotate_left
        · simp only [Act.put, List.setIfInBounds_toArray, List.set_cons_zero, List.set_cons_succ, i64_w, i32_w]
          rfl
        refine pure_ (i := 2) (N := some 21) (v := ?_) (a' := ?_) #[true, true, true, false] rfl rfl (any_of HT_.out (by kernel_rfl)) (fun _ _ _ h => h) (Or.inl ⟨by rfl, ?_⟩) ?_ ?_
        rotate_left
        · intro w'
          go_simp
          with_reducible rfl
        rotate_left
        · simp only [Act.put, List.setIfInBounds_toArray, List.set_cons_zero, List.set_cons_succ, i64_w, i32_w]
          rfl
        refine last_ (i := 3) (N := some 22) #[true, true, true, true] rfl rfl (one_of HT_.out (by kernel_rfl)) (by decide) (fun K hK => ?_)
        refine opWp_copy_row (.tmp 20) (.tmp 21) 28 28 5 (by rfl) g0 4 12 12 ⟨gn, 0, none⟩ 4 4 _ 52 (nums .u8 (F c)) (by rfl) (by rfl) Try.underlying28 (by kernel_rfl) N0.out (by rw [HNF.out]; rfl) HSRC.out (by rw [HNF.out]; simp [nums, HRL.out, HL.out]) (fun u hu => nums_oneC hu) ?_
        refine hK.out _ _ ?_
        clear hK K
        refine norm_ (a' := ?_) ?_ ?_
        rotate_left
        · show Act.put _ (some 22) _ = _
          simp only [Act.put, List.setIfInBounds_toArray, List.set_cons_zero, List.set_cons_succ, i64_w, i32_w]
          rfl
        refine done_ (done_of HT_.out (by kernel_rfl)) ?_
        rw [row_part R (F c) b 4 HRL.out HL.out HFC.out (by decide) HPT.out]
        have M0 := Aside0.mk (setRow_heap wD g0 _ (nums .u8 (R.take (4 + 4) ++ b.drop (4 + 4))).toArray _ _ N0.out)
        have M1 : Aside0 ((wD.setRow g0 (nums .u8 (R.take (4 + 4) ++ b.drop (4 + 4))).toArray).heap[g0 + 1]? = some (.cells (nums .u8 (List.replicate 16 0)).toArray 52 (0, 0))) := ⟨(setRow_other _ _ _ _ (by omega)).trans N1.out⟩
        have MB : Aside0 (Below w.heap.size w (wD.setRow g0 (nums .u8 (R.take (4 + 4) ++ b.drop (4 + 4))).toArray)) := ⟨below_row NB.out (by have := HG.out; omega) _⟩
        have MS : Aside0 (g0 + 2 ≤ (wD.setRow g0 (nums .u8 (R.take (4 + 4) ++ b.drop (4 + 4))).toArray).heap.size) := ⟨by rw [setRow_size]; exact NS.out⟩
        generalize wD.setRow g0 (nums .u8 (R.take (4 + 4) ++ b.drop (4 + 4))).toArray = wM at M0 M1 MB MS ⊢
        clear N0 N1 NB NS HSRC hHeld
        go_wp2
        go_roundw
        case rel => exact ⟨k + 1, 8, by have := HPK.out; omega, by have := HPK.out; omega, rfl, M0, M1, MB, MS⟩
        case measure => simp [intOf]
      · have ka := arr4_at ⟨g0, 8, none⟩ 8 wB
        go_wp2_with ((with_reducible refine gate_dst (N := 17) rfl ?_); refine wpList_load_mid (by rfl) 74 (.tmp 16) (by rfl) g0 8 (by rfl) (nums .u8 c) _ HRG.out Try.underlying74 rfl (by rw [HNC.out]; kernel_rfl) ?_)
        refine (HCC.out c wB HCL.out HCO.out).mono ?_
        rintro e w5 ⟨rfl, hb5⟩
        clear ka
        have Z0 : Aside0 (w5.heap[g0]? = some (.cells (nums .u8 (R.take 8 ++ b.drop 8)).toArray 52 (0, 0))) := ⟨(hb5.block g0 (by have := HS.out; omega)).trans G0.out⟩
        have Z1 : Aside0 (w5.heap[g0 + 1]? = some (.cells (nums .u8 (List.replicate 16 0)).toArray 52 (0, 0))) := ⟨(hb5.block (g0 + 1) (by have := HS.out; omega)).trans G1.out⟩
        have ZB : Aside0 (Below w.heap.size w w5) := ⟨HB.out.trans (hb5.mono HB.out.size)⟩
        have ZS : Aside0 (g0 + 2 ≤ w5.heap.size) := ⟨Nat.le_trans HS.out hb5.size⟩
        clear hb5
        unfold arr8
        go_upto_region 5 with ((with_reducible refine gate_store (t := 74) (p := 6) (v := .tmp 18) rfl ?_); refine wpList_store_row (by rfl) 74 (.tmp 6) (.tmp 18) (by rfl) w5.heap.size (nums .u8 (F c)).toArray (by rfl) (by rfl) 74 _ (blk_new w5 _) (by rw [HNA.out]; kernel_rfl) (by rw [HNA.out]; rfl) (nums_one _ _) ?_)
        simp only [Act.put]
        obtain ⟨gn, hgn⟩ : ∃ g, g = w5.heap.size := ⟨_, rfl⟩
        show Code.wp _ _ _ _ ((w5.alloc (.cells (nums .u8 (List.replicate 4 0)).toArray 74)).setRow w5.heap.size (nums .u8 (F c)).toArray)
        obtain ⟨wN, hwN⟩ : ∃ W, W = (w5.alloc (.cells (nums .u8 (List.replicate 4 0)).toArray 74)).setRow w5.heap.size (nums .u8 (F c)).toArray := ⟨_, rfl⟩
        have GF : wN.heap[gn]? = some (.cells (nums .u8 (F c)).toArray 74 (0, 0)) := by rw [hwN, hgn]; exact setRow_heap _ _ _ _ _ _ (blk_new w5 _)
        have hoth : ∀ k, k < w5.heap.size → wN.heap[k]? = w5.heap[k]? := fun k hk => by
          rw [hwN, setRow_other _ _ _ _ (by omega)]
          show (w5.heap.push _)[k]? = _
          rw [Array.getElem?_push_lt hk, Array.getElem?_eq_getElem hk]
        have N0 : Aside0 (wN.drew.heap[g0]? = some (.cells (nums .u8 (R.take 8 ++ b.drop 8)).toArray 52 (0, 0))) := ⟨(hoth g0 (by have := ZS.out; omega)).trans Z0.out⟩
        have N1 : Aside0 (wN.drew.heap[g0 + 1]? = some (.cells (nums .u8 (List.replicate 16 0)).toArray 52 (0, 0))) := ⟨(hoth (g0 + 1) (by have := ZS.out; omega)).trans Z1.out⟩
        have NB : Aside0 (Below w.heap.size w wN.drew) := ⟨by rw [hwN]; exact below_drew1 (below_row (below_alloc ZB.out _) ZB.out.size _)⟩
        have NS : Aside0 (g0 + 2 ≤ wN.drew.heap.size) := ⟨by show g0 + 2 ≤ wN.heap.size; rw [hwN, setRow_size]; have := ZS.out; simp; omega⟩
        have HSRC : Aside0 (∀ j v, (nums IntKind.u8 (F c))[j]? = some v → wN.drew.cell? ((⟨gn, 0, none⟩ : Addr).add j) = some v) := ⟨fun j v hv => by
          rw [add_plain]
          show wN.cell? ⟨gn, j, none⟩ = some v
          rw [blk_cell GF j]
          simpa using hv⟩
        rw [← hwN, ← hgn]
        clear hoth hwN hgn GF Z0 Z1 ZB ZS
        refine start_ (n := 4) (S := fun w' => True) (ds := [3]) #[false, false, false, false] (by kernel_rfl) rfl rfl trivial (fun hHeld => ?_)
        refine with_tabW clm_tab5 clm_bits5 (fun HT_ HW_ => ?_)
        generalize wN.drew = wD at hHeld N0 N1 NB NS HSRC ⊢
        refine pure_ (i := 0) (N := some 19) (v := ?_) (a' := ?_) #[true, false, false, false] rfl rfl (any_of HT_.out (by kernel_rfl)) (fun _ _ _ h => h) (Or.inl ⟨by rfl, ?_⟩) ?_ ?_
        rotate_left
        · intro w'
          go_simp
          with_reducible rfl
        rotate_left
        · simp only [Act.put, List.setIfInBounds_toArray, List.set_cons_zero, List.set_cons_succ, i64_w, i32_w]
          rfl
        refine pure_ (i := 1) (N := some 20) (v := ?_) (a' := ?_) #[true, true, false, false] rfl rfl (any_of HT_.out (by kernel_rfl)) (fun _ _ _ h => h) (Or.inl ⟨by rfl, ?_⟩) ?_ ?_
        rotate_left
        · intro w'
          go_simp
          with_reducible rfl
        rotate_left
        · simp only [Act.put, List.setIfInBounds_toArray, List.set_cons_zero, List.set_cons_succ, i64_w, i32_w]
          rfl
        refine pure_ (i := 2) (N := some 21) (v := ?_) (a' := ?_) #[true, true, true, false] rfl rfl (any_of HT_.out (by kernel_rfl)) (fun _ _ _ h => h) (Or.inl ⟨by rfl, ?_⟩) ?_ ?_
        rotate_left
        · intro w'
          go_simp
          with_reducible rfl
        rotate_left
        · simp only [Act.put, List.setIfInBounds_toArray, List.set_cons_zero, List.set_cons_succ, i64_w, i32_w]
          rfl
        refine last_ (i := 3) (N := some 22) #[true, true, true, true] rfl rfl (one_of HT_.out (by kernel_rfl)) (by decide) (fun K hK => ?_)
        refine opWp_copy_row (.tmp 20) (.tmp 21) 28 28 5 (by rfl) g0 8 8 8 ⟨gn, 0, none⟩ 4 4 _ 52 (nums .u8 (F c)) (by rfl) (by rfl) Try.underlying28 (by kernel_rfl) N0.out (by rw [HNF.out]; rfl) HSRC.out (by rw [HNF.out]; simp [nums, HRL.out, HL.out]) (fun u hu => nums_oneC hu) ?_
        refine hK.out _ _ ?_
        clear hK K
        refine norm_ (a' := ?_) ?_ ?_
        rotate_left
        · show Act.put _ (some 22) _ = _
          simp only [Act.put, List.setIfInBounds_toArray, List.set_cons_zero, List.set_cons_succ, i64_w, i32_w]
          rfl
        refine done_ (done_of HT_.out (by kernel_rfl)) ?_
        rw [row_part R (F c) b 8 HRL.out HL.out HFC.out (by decide) HPT.out]
        have M0 := Aside0.mk (setRow_heap wD g0 _ (nums .u8 (R.take (8 + 4) ++ b.drop (8 + 4))).toArray _ _ N0.out)
        have M1 : Aside0 ((wD.setRow g0 (nums .u8 (R.take (8 + 4) ++ b.drop (8 + 4))).toArray).heap[g0 + 1]? = some (.cells (nums .u8 (List.replicate 16 0)).toArray 52 (0, 0))) := ⟨(setRow_other _ _ _ _ (by omega)).trans N1.out⟩
        have MB : Aside0 (Below w.heap.size w (wD.setRow g0 (nums .u8 (R.take (8 + 4) ++ b.drop (8 + 4))).toArray)) := ⟨below_row NB.out (by have := HG.out; omega) _⟩
        have MS : Aside0 (g0 + 2 ≤ (wD.setRow g0 (nums .u8 (R.take (8 + 4) ++ b.drop (8 + 4))).toArray).heap.size) := ⟨by rw [setRow_size]; exact NS.out⟩
        generalize wD.setRow g0 (nums .u8 (R.take (8 + 4) ++ b.drop (8 + 4))).toArray = wM at M0 M1 MB MS ⊢
        clear N0 N1 NB NS HSRC hHeld
        go_wp2
        go_roundw
        case rel => exact ⟨k + 1, 12, by have := HPK.out; omega, by have := HPK.out; omega, rfl, M0, M1, MB, MS⟩
        case measure => simp [intOf]
      · have ka := arr4_at ⟨g0, 12, none⟩ 4 wB
        go_wp2_with ((with_reducible refine gate_dst (N := 17) rfl ?_); refine wpList_load_mid (by rfl) 74 (.tmp 16) (by rfl) g0 12 (by rfl) (nums .u8 c) _ HRG.out Try.underlying74 rfl (by rw [HNC.out]; kernel_rfl) ?_)
        refine (HCC.out c wB HCL.out HCO.out).mono ?_
        rintro e w5 ⟨rfl, hb5⟩
        clear ka
        have Z0 : Aside0 (w5.heap[g0]? = some (.cells (nums .u8 (R.take 12 ++ b.drop 12)).toArray 52 (0, 0))) := ⟨(hb5.block g0 (by have := HS.out; omega)).trans G0.out⟩
        have Z1 : Aside0 (w5.heap[g0 + 1]? = some (.cells (nums .u8 (List.replicate 16 0)).toArray 52 (0, 0))) := ⟨(hb5.block (g0 + 1) (by have := HS.out; omega)).trans G1.out⟩
        have ZB : Aside0 (Below w.heap.size w w5) := ⟨HB.out.trans (hb5.mono HB.out.size)⟩
        have ZS : Aside0 (g0 + 2 ≤ w5.heap.size) := ⟨Nat.le_trans HS.out hb5.size⟩
        clear hb5
        unfold arr8
        go_upto_region 5 with ((with_reducible refine gate_store (t := 74) (p := 6) (v := .tmp 18) rfl ?_); refine wpList_store_row (by rfl) 74 (.tmp 6) (.tmp 18) (by rfl) w5.heap.size (nums .u8 (F c)).toArray (by rfl) (by rfl) 74 _ (blk_new w5 _) (by rw [HNA.out]; kernel_rfl) (by rw [HNA.out]; rfl) (nums_one _ _) ?_)
        simp only [Act.put]
        obtain ⟨gn, hgn⟩ : ∃ g, g = w5.heap.size := ⟨_, rfl⟩
        show Code.wp _ _ _ _ ((w5.alloc (.cells (nums .u8 (List.replicate 4 0)).toArray 74)).setRow w5.heap.size (nums .u8 (F c)).toArray)
        obtain ⟨wN, hwN⟩ : ∃ W, W = (w5.alloc (.cells (nums .u8 (List.replicate 4 0)).toArray 74)).setRow w5.heap.size (nums .u8 (F c)).toArray := ⟨_, rfl⟩
        have GF : wN.heap[gn]? = some (.cells (nums .u8 (F c)).toArray 74 (0, 0)) := by rw [hwN, hgn]; exact setRow_heap _ _ _ _ _ _ (blk_new w5 _)
        have hoth : ∀ k, k < w5.heap.size → wN.heap[k]? = w5.heap[k]? := fun k hk => by
          rw [hwN, setRow_other _ _ _ _ (by omega)]
          show (w5.heap.push _)[k]? = _
          rw [Array.getElem?_push_lt hk, Array.getElem?_eq_getElem hk]
        have N0 : Aside0 (wN.drew.heap[g0]? = some (.cells (nums .u8 (R.take 12 ++ b.drop 12)).toArray 52 (0, 0))) := ⟨(hoth g0 (by have := ZS.out; omega)).trans Z0.out⟩
        have N1 : Aside0 (wN.drew.heap[g0 + 1]? = some (.cells (nums .u8 (List.replicate 16 0)).toArray 52 (0, 0))) := ⟨(hoth (g0 + 1) (by have := ZS.out; omega)).trans Z1.out⟩
        have NB : Aside0 (Below w.heap.size w wN.drew) := ⟨by rw [hwN]; exact below_drew1 (below_row (below_alloc ZB.out _) ZB.out.size _)⟩
        have NS : Aside0 (g0 + 2 ≤ wN.drew.heap.size) := ⟨by show g0 + 2 ≤ wN.heap.size; rw [hwN, setRow_size]; have := ZS.out; simp; omega⟩
        have HSRC : Aside0 (∀ j v, (nums IntKind.u8 (F c))[j]? = some v → wN.drew.cell? ((⟨gn, 0, none⟩ : Addr).add j) = some v) := ⟨fun j v hv => by
          rw [add_plain]
          show wN.cell? ⟨gn, j, none⟩ = some v
          rw [blk_cell GF j]
          simpa using hv⟩
        rw [← hwN, ← hgn]
        clear hoth hwN hgn GF Z0 Z1 ZB ZS
        refine start_ (n := 4) (S := fun w' => True) (ds := [3]) #[false, false, false, false] (by kernel_rfl) rfl rfl trivial (fun hHeld => ?_)
        refine with_tabW clm_tab5 clm_bits5 (fun HT_ HW_ => ?_)
        generalize wN.drew = wD at hHeld N0 N1 NB NS HSRC ⊢
        refine pure_ (i := 0) (N := some 19) (v := ?_) (a' := ?_) #[true, false, false, false] rfl rfl (any_of HT_.out (by kernel_rfl)) (fun _ _ _ h => h) (Or.inl ⟨by rfl, ?_⟩) ?_ ?_
        rotate_left
        · intro w'
          go_simp
          with_reducible rfl
        rotate_left
        · simp only [Act.put, List.setIfInBounds_toArray, List.set_cons_zero, List.set_cons_succ, i64_w, i32_w]
          rfl
        refine pure_ (i := 1) (N := some 20) (v := ?_) (a' := ?_) #[true, true, false, false] rfl rfl (any_of HT_.out (by kernel_rfl)) (fun _ _ _ h => h) (Or.inl ⟨by rfl, ?_⟩) ?_ ?_
        rotate_left
        · intro w'
          go_simp
          with_reducible rfl
        rotate_left
        · simp only [Act.put, List.setIfInBounds_toArray, List.set_cons_zero, List.set_cons_succ, i64_w, i32_w]
          rfl
        refine pure_ (i := 2) (N := some 21) (v := ?_) (a' := ?_) #[true, true, true, false] rfl rfl (any_of HT_.out (by kernel_rfl)) (fun _ _ _ h => h) (Or.inl ⟨by rfl, ?_⟩) ?_ ?_
        rotate_left
        · intro w'
          go_simp
          with_reducible rfl
        rotate_left
        · simp only [Act.put, List.setIfInBounds_toArray, List.set_cons_zero, List.set_cons_succ, i64_w, i32_w]
          rfl
        refine last_ (i := 3) (N := some 22) #[true, true, true, true] rfl rfl (one_of HT_.out (by kernel_rfl)) (by decide) (fun K hK => ?_)
        refine opWp_copy_row (.tmp 20) (.tmp 21) 28 28 5 (by rfl) g0 12 4 4 ⟨gn, 0, none⟩ 4 4 _ 52 (nums .u8 (F c)) (by rfl) (by rfl) Try.underlying28 (by kernel_rfl) N0.out (by rw [HNF.out]; rfl) HSRC.out (by rw [HNF.out]; simp [nums, HRL.out, HL.out]) (fun u hu => nums_oneC hu) ?_
        refine hK.out _ _ ?_
        clear hK K
        refine norm_ (a' := ?_) ?_ ?_
        rotate_left
        · show Act.put _ (some 22) _ = _
          simp only [Act.put, List.setIfInBounds_toArray, List.set_cons_zero, List.set_cons_succ, i64_w, i32_w]
          rfl
        refine done_ (done_of HT_.out (by kernel_rfl)) ?_
        rw [row_part R (F c) b 12 HRL.out HL.out HFC.out (by decide) HPT.out]
        have M0 := Aside0.mk (setRow_heap wD g0 _ (nums .u8 (R.take (12 + 4) ++ b.drop (12 + 4))).toArray _ _ N0.out)
        have M1 : Aside0 ((wD.setRow g0 (nums .u8 (R.take (12 + 4) ++ b.drop (12 + 4))).toArray).heap[g0 + 1]? = some (.cells (nums .u8 (List.replicate 16 0)).toArray 52 (0, 0))) := ⟨(setRow_other _ _ _ _ (by omega)).trans N1.out⟩
        have MB : Aside0 (Below w.heap.size w (wD.setRow g0 (nums .u8 (R.take (12 + 4) ++ b.drop (12 + 4))).toArray)) := ⟨below_row NB.out (by have := HG.out; omega) _⟩
        have MS : Aside0 (g0 + 2 ≤ (wD.setRow g0 (nums .u8 (R.take (12 + 4) ++ b.drop (12 + 4))).toArray).heap.size) := ⟨by rw [setRow_size]; exact NS.out⟩
        generalize wD.setRow g0 (nums .u8 (R.take (12 + 4) ++ b.drop (12 + 4))).toArray = wM at M0 M1 MB MS ⊢
        clear N0 N1 NB NS HSRC hHeld
        go_wp2
        go_roundw
        case rel => exact ⟨k + 1, 16, by have := HPK.out; omega, by have := HPK.out; omega, rfl, M0, M1, MB, MS⟩
        case measure => simp [intOf]
    · have hp16 : p = 16 := by omega
      have hd : decide (p < 16) = false := decide_eq_false hlt
      have hd2 : decide ((p : Int) < 16) = false := decide_eq_false (by omega)
      have e4 : R.take p ++ b.drop p = R := by
        rw [List.take_of_length_le (by rw [HRL.out]; omega), List.drop_eq_nil_of_le (by have := HL.out; omega), List.append_nil]
      rw [e4] at G0
      have HLR : Aside0 ((nums IntKind.u8 R).toArray.size = 16) := ⟨by simp [nums, HRL.out]⟩
      clear e4 hk hp hlt hp16
      have GR := Aside0.mk (setRow_heap wB (g0 + 1) _ (nums IntKind.u8 R).toArray _ _ G1.out)
      go_wp2_with (first
        | (refine wpList_load_row (by rfl) 52 (.tmp 2) (by rfl) _ (by rfl) 52 _ (0, 0) _ G0.out Try.underlying52 rfl (by rw [HLR.out]; kernel_rfl) ?_)
        | (refine wpList_store_row (by rfl) 52 (.tmp 4) (.tmp 23) (by rfl) (g0 + 1) _ (by rfl) (by rfl) 52 _ G1.out (by rw [HLR.out]; kernel_rfl) (by rw [HLR.out]; rfl) (nums_one _ _) ?_))
      refine bodyPost_ret (v := arr8 R) ?_ rfl ?_
      · exact results_cell_row (fn := Try.f81) (p := 4) (ty := 52) Try.results81 _ _ _ 52 _ (0, 0) _ (by rfl) GR.out Try.underlying52 rfl (by rw [HLR.out]; kernel_rfl)
      · exact ⟨rfl, below_row HB.out (by have := HG.out; omega) _⟩
def dec_T14 : Bool × List (List Nat × List Nat) := (true, [([], []), ([], []), ([1], [1]), ([2], [2]), ([3], [3]), ([4], [4]), ([5], [5]), ([0, 6], [0, 6]), ([7, 7, 0, 1, 2, 3, 4, 5, 6, 7], [7])])
def dec_B14 : List Nat := [0, 0, 2, 6, 14, 30, 62, 127, 255]
theorem dec_tab14 : rtab .any (opsOf Try.f52 14) = dec_T14 := by kernel_rfl
theorem dec_bits14 : waitsOk dec_T14.2 dec_B14 = true := by kernel_rfl
def dec_T5 : Bool × List (List Nat × List Nat) := (true, [([], []), ([], []), ([1], [1]), ([2], [2]), ([3], [3]), ([], []), ([4, 5], [4, 5]), ([6], [6]), ([0, 7], [0, 7]), ([], []), ([9, 8, 8, 0, 1, 2, 3, 4, 5, 6, 7, 8, 9], [8, 9])])
def dec_B5 : List Nat := [0, 0, 2, 6, 14, 0, 62, 126, 255, 0, 1023]
theorem dec_tab5 : rtab .any (opsOf Try.f52 5) = dec_T5 := by kernel_rfl
theorem dec_bits5 : waitsOk dec_T5.2 dec_B5 = true := by kernel_rfl
set_option maxHeartbeats 8000000 in
set_option maxRecDepth 100000 in
theorem impl_decrypt_in (keys : List (List Int)) (B g : Nat) (b : List Int) (w : World) (hC : cipherAt w B g keys) (hk : 0 < keys.length ∧ keys.length ≤ 100) (hb : b.length = 16) (ob : Aes.ok b) :
    Calls Try.prog 52 #[.pointer (some ⟨g, 0, none⟩), arr8 b] w fun e w' => e = .returned (arr8 (Aes.decL keys b)) ∧ Below w.heap.size w w' := by
  obtain ⟨cs, gk, ck, h1, h2, h3, h4, h5, h6, h7⟩ := hC
  have HL := Aside0.mk hb
  have OB := Aside0.mk ob
  have HK := Aside0.mk hk
  have HCK := Aside0.mk h3
  have HG := Aside0.mk h4
  have HT := Aside0.mk h5
  have HKO := Aside0.mk h6
  have HRG := Aside0.mk h7
  clear hb ob hk h1 h2 h3 h4 h5 h6 h7
  unfold arr8
  go_enter Try.func52, Try.ntmps52
  go_upto_region 1 with (fail)
  obtain ⟨g0, hg0⟩ : ∃ g, g = w.heap.size := ⟨_, rfl⟩
  have HG0 := Aside0.mk hg0
  show Code.wp _ _ _ _ ((w.alloc (.cells (nums .u8 b).toArray 52)).alloc (.cells (nums .u8 (List.replicate 16 0)).toArray 52))
  have M0 : Aside0 (((w.alloc (.cells (nums .u8 b).toArray 52)).alloc (.cells (nums .u8 (List.replicate 16 0)).toArray 52)).heap[g0]? = some (.cells (nums .u8 (Aes.decTo keys b 0)).toArray 52 (0, 0))) := ⟨by rw [hg0]; exact blk_alloc (blk_new w _) _⟩
  have M1 : Aside0 (((w.alloc (.cells (nums .u8 b).toArray 52)).alloc (.cells (nums .u8 (List.replicate 16 0)).toArray 52)).heap[g0 + 1]? = some (.cells (nums .u8 (List.replicate 16 0)).toArray 52 (0, 0))) := ⟨by rw [hg0]; exact blk_new2 w _ _⟩
  have MB : Aside0 (Below w.heap.size w ((w.alloc (.cells (nums .u8 b).toArray 52)).alloc (.cells (nums .u8 (List.replicate 16 0)).toArray 52))) := ⟨below_alloc (below_alloc (Below.refl _ _) _) _⟩
  have MS : Aside0 (g0 + 2 ≤ ((w.alloc (.cells (nums .u8 b).toArray 52)).alloc (.cells (nums .u8 (List.replicate 16 0)).toArray 52)).heap.size) := ⟨by rw [hg0]; simp⟩
  rw [← hg0]
  generalize (w.alloc (.cells (nums .u8 b).toArray 52)).alloc (.cells (nums .u8 (List.replicate 16 0)).toArray 52) = wM at M0 M1 MB MS ⊢
  clear hg0
  have HW1 : Aside0 (∀ W, Below w.heap.size w W → W.cell? ⟨g, 512, none⟩ = some (.slice (some ⟨gk, 0, none⟩) keys.length ck) ∧ (∀ i, i < keys.length → W.rangeAt gk (i * 16) (nums .u8 (keys.getD i []))) ∧ ∀ x : Int, Aes.by_ x → W.cell? ⟨g, 256 + x.toNat, none⟩ = some (.int .u8 (Aes.ub x))) := ⟨fun W hW => by
    have hlt : g < w.heap.size := (Array.getElem?_eq_some_iff.1 HG.out).1
    have hgW : W.heap[g]? = some (.cells cs 49 (0, 0)) := (hW.block g hlt).trans HG.out
    refine ⟨by rw [blk_cell hgW]; exact HT.out.2.2.2, fun i hi j v hv => ?_, fun x hx => ?_⟩
    · have hc := HRG.out i hi j v hv
      exact (hW.cell (cell_lt (by rw [hc]; rfl))).trans hc
    · obtain ⟨m, hm, rfl⟩ := Aes.by_nat hx
      rw [Int.toNat_natCast, blk_cell hgW (256 + m), HT.out.2.2.1 m hm, if_pos (Aes.unsub_lt m hm)]; rfl⟩
  clear HG HT HRG
  obtain ⟨last, hlast⟩ : ∃ l, l + 1 = keys.length := ⟨keys.length - 1, by have := HK.out.1; omega⟩
  have HLA := Aside0.mk hlast
  have cK := (HW1.out wM MB.out).1
  have hwl : wrap64 ((keys.length : Int) - 1) = (last : Int) := by have := HK.out.2; unfold wrap64; omega
  clear hlast
  go_wp2_with fail
  rw [hwl]
  clear cK hwl
  go_loopw [6] (fun v wr => ∃ p j : Nat, v = .int .i64 (p : Int) ∧ p + j = last ∧ Aside0 (wr.heap[g0]? = some (.cells (nums .u8 (Aes.decTo keys b j)).toArray 52 (0, 0))) ∧ Aside0 (wr.heap[g0 + 1]? = some (.cells (nums .u8 (List.replicate 16 0)).toArray 52 (0, 0))) ∧ Aside0 (Below w.heap.size w wr) ∧ Aside0 (g0 + 2 ≤ wr.heap.size)) (fun v _ => (intOf v).toNat)
  case atStart => exact ⟨last, 0, rfl, rfl, M0, M1, MB, MS⟩
  case round =>
    clear M0 M1 MB MS
    obtain ⟨p, j, rfl, hp, G0, G1, HB, HS⟩ := hrel
    obtain ⟨wR, rfl⟩ : ∃ W, W = wr := ⟨_, rfl⟩
    obtain ⟨S, hS⟩ : ∃ S, S = Aes.decTo keys b j := ⟨_, rfl⟩
    have HSL : Aside0 (S.length = 16 ∧ Aes.ok S) := ⟨by rw [hS]; exact ⟨Aes.decTo_length _ HL.out _, Aes.decTo_ok HKO.out OB.out j⟩⟩
    have HSE := Aside0.mk hS
    rw [← hS] at G0
    have HP := Aside0.mk hp
    have HSB : Aside0 ((nums IntKind.u8 S).toArray.size = 16) := ⟨by simp [nums, HSL.out.1]⟩
    have HNS : Aside0 ((nums IntKind.u8 S).length = 16) := ⟨by simp [nums, HSL.out.1]⟩
    have rB : wR.rangeAt g0 0 (nums .u8 S) := fun j v hv => by rw [Nat.zero_add, blk_cell G0.out]; simpa using hv
    have G0D : Aside0 (wR.drew.heap[g0]? = some (.cells (nums .u8 S).toArray 52 (0, 0))) := ⟨G0.out⟩
    have G1D : Aside0 (wR.drew.heap[g0 + 1]? = some (.cells (nums .u8 (List.replicate 16 0)).toArray 52 (0, 0))) := ⟨G1.out⟩
    have HBD : Aside0 (Below w.heap.size w wR.drew) := ⟨below_drew1 HB.out⟩
    have HSD : Aside0 (g0 + 2 ≤ wR.drew.heap.size) := ⟨HS.out⟩
    by_cases hlt : 1 ≤ p
    · have hd : decide (1 ≤ p) = true := decide_eq_true hlt
      have hd2 : decide ((1 : Int) ≤ (p : Int)) = true := decide_eq_true (by omega)
      have HLE := Aside0.mk hlt
      obtain ⟨kp, hkp⟩ : ∃ k, k = keys.getD p [] := ⟨_, rfl⟩
      have hpk : p < keys.length := by have := HLA.out; omega
      have hkm : kp ∈ keys := by rw [hkp, List.getD_eq_getElem?_getD, List.getElem?_eq_getElem hpk]; exact List.getElem_mem _
      have HKP := Aside0.mk (HKO.out kp hkm)
      have HKE := Aside0.mk hkp
      have cK := (HW1.out wR HB.out).1
      have rK : wR.rangeAt gk (p * 16) (nums .u8 kp) := by rw [hkp]; exact (HW1.out wR HB.out).2.1 p hpk
      have HNK : Aside0 ((nums IntKind.u8 kp).length = 16) := ⟨by simp [nums, HKP.out.1]⟩
      have kk0 : (0 : Int) ≤ (p : Int) := by omega
      have kk1 : (p : Int) < (keys.length : Int) := by omega
      have kk2 : p < keys.length := hpk
      have HXL : Aside0 ((xorL S kp).length = 16) := ⟨by rw [xorL_length S kp (by rw [HSL.out.1, HKP.out.1]), HSL.out.1]⟩
      have HSX : Aside0 ((nums IntKind.u8 (xorL S kp)).toArray.size = 16) := ⟨by simp [nums, HXL.out]⟩
      clear hlt hp hS hkp hpk hkm
      go_upto_region 5 with (fail)
      clear hd hd2 G0 G1 HB HS
      refine start_ (n := 11) (S := fun w' => w'.cell? ⟨g, 512, none⟩ = some (.slice (some ⟨gk, 0, none⟩) keys.length ck) ∧ w'.rangeAt gk (p * 16) (nums .u8 kp) ∧ w'.rangeAt g0 0 (nums .u8 S)) (ds := [10]) #[false, false, false, false, false, false, false, false, false, false, false] (by kernel_rfl) rfl rfl ⟨(show wR.drew.cell? ⟨g, 512, none⟩ = some (.slice (some ⟨gk, 0, none⟩) keys.length ck) from cK), (show wR.drew.rangeAt gk (p * 16) (nums .u8 kp) from rK), (show wR.drew.rangeAt g0 0 (nums .u8 S) from rB)⟩ (fun hHeld => ?_)
      refine with_tabW dec_tab5 dec_bits5 (fun HT_ HW_ => ?_)
      generalize wR.drew = wD at hHeld G0D G1D HBD HSD ⊢
      refine pure_ (i := 1) (N := some 22) (v := ?_) (a' := ?_) #[false, true, false, false, false, false, false, false, false, false, false] rfl rfl (any_of HT_.out (by kernel_rfl)) (fun _ _ _ h => h) (Or.inl ⟨by rfl, ?_⟩) ?_ ?_
      rotate_left
      · intro w'
        go_simp
        with_reducible rfl
      rotate_left
      · simp only [Act.put, List.setIfInBounds_toArray, List.set_cons_zero, List.set_cons_succ, i64_w, i32_w]
        rfl
      refine pure_ (i := 2) (N := some 23) (v := ?_) (a' := ?_) #[false, true, true, false, false, false, false, false, false, false, false] rfl rfl (any_of HT_.out (by kernel_rfl)) (fun _ _ _ h => h) (Or.inl ⟨by rfl, ?_⟩) ?_ ?_
      rotate_left
      · intro w'
        go_simp
        with_reducible rfl
      rotate_left
      · simp only [Act.put, List.setIfInBounds_toArray, List.set_cons_zero, List.set_cons_succ, i64_w, i32_w]
        rfl
      refine pure_ (i := 3) (N := some 24) (v := ?_) (a' := ?_) #[false, true, true, true, false, false, false, false, false, false, false] rfl rfl (any_of HT_.out (by kernel_rfl)) (fun _ _ _ h => h) (Or.inl ⟨by rfl, ?_⟩) ?_ ?_
      rotate_left
      · intro w'
        go_simp
        with_reducible rfl
      rotate_left
      · simp only [Act.put, List.setIfInBounds_toArray, List.set_cons_zero, List.set_cons_succ, i64_w, i32_w]
        rfl
      refine pure_ (i := 5) (N := some 26) (v := ?_) (a' := ?_) #[false, true, true, true, false, true, false, false, false, false, false] rfl rfl (any_of HT_.out (by kernel_rfl)) (fun _ _ _ h => h) (Or.inl ⟨by rfl, ?_⟩) ?_ ?_
      rotate_left
      · intro w'
        go_simp
        with_reducible rfl
      rotate_left
      · simp only [Act.put, List.setIfInBounds_toArray, List.set_cons_zero, List.set_cons_succ, i64_w, i32_w]
        rfl
      refine take_ (i := 0) (N := some 21) (v := ?_) (a' := ?_) #[true, true, true, true, false, true, false, false, false, false, false] rfl rfl (take_ofW HT_.out HW_.out (by kernel_rfl)) (fun _ _ _ h => h) ?hy5_0 hHeld ?heq5_0 ?hrest5_0
      case hy5_0 => (refine yieldsIf_load_mid ?_ 52 (.tmp 3) ?_ g0 0 ?_ (nums .u8 S) _ ?_ Try.underlying52 ?_ ?_; rfl; rfl; rfl; exact (fun w_ h_ => h_.2.2); rfl; exact key_size S HNS.out)
      case heq5_0 =>
        simp only [Act.put, List.setIfInBounds_toArray, List.set_cons_zero, List.set_cons_succ, i64_w, i32_w]
        rfl
      refine take_ (i := 4) (N := some 25) (v := ?_) (a' := ?_) #[true, true, true, true, true, true, false, false, false, false, false] rfl rfl (take_ofW HT_.out HW_.out (by kernel_rfl)) (fun _ _ _ h => h) (Or.inl ⟨by rfl, ?_⟩) hHeld ?_ ?_
      rotate_left
      · rintro w' ⟨s0, s1, s2⟩
        go_simp
        with_reducible rfl
      rotate_left
      · simp only [Act.put, List.setIfInBounds_toArray, List.set_cons_zero, List.set_cons_succ, i64_w, i32_w]
        rfl
      refine pure_ (i := 6) (N := some 27) (v := ?_) (a' := ?_) #[true, true, true, true, true, true, true, false, false, false, false] rfl rfl (any_of HT_.out (by kernel_rfl)) (fun _ _ _ h => h) (Or.inl ⟨by rfl, ?_⟩) ?_ ?_
      rotate_left
      · intro w'
        go_simp
        with_reducible rfl
      rotate_left
      · simp only [Act.put, List.setIfInBounds_toArray, List.set_cons_zero, List.set_cons_succ, i64_w, i32_w]
        rfl
      refine take_ (i := 7) (N := some 28) (v := ?_) (a' := ?_) #[true, true, true, true, true, true, true, true, false, false, false] rfl rfl (take_ofW HT_.out HW_.out (by kernel_rfl)) (fun _ _ _ h => h) ?hy5_7 hHeld ?heq5_7 ?hrest5_7
      case hy5_7 => (refine yieldsIf_load_mid ?_ 52 (.tmp 27) ?_ gk (p * 16) ?_ (nums .u8 kp) _ ?_ Try.underlying52 ?_ ?_; rfl; rfl; rfl; exact (fun w_ h_ => h_.2.1); rfl; exact key_size kp HNK.out)
      case heq5_7 =>
        simp only [Act.put, List.setIfInBounds_toArray, List.set_cons_zero, List.set_cons_succ, i64_w, i32_w]
        rfl
      refine join_ 1 #[true, true, true, true, true, true, true, true, true, true, false] (fun gn : Nat => [(29, arr8 (xorL S kp)), (7, .pointer (some ⟨gn, 0, none⟩))]) (fun (gn : Nat) (wA : World) => g0 + 2 ≤ gn ∧ wA.heap[gn]? = some (.cells (nums .u8 (List.replicate 16 0)).toArray 52 (0, 0)) ∧ wA.heap[g0]? = some (.cells (nums .u8 S).toArray 52 (0, 0)) ∧ wA.heap[g0 + 1]? = some (.cells (nums .u8 (List.replicate 16 0)).toArray 52 (0, 0)) ∧ Below w.heap.size w wA) ?cont5 (fun hjoin => ?_)
      rotate_left
      · refine two_ (i := 8) (j := 9) (Ni := some 29) (Nj := some 7) #[true, true, true, true, true, true, true, true, true, false, false] #[true, true, true, true, true, true, true, true, false, true, false] rfl rfl rfl rfl (two_of HT_.out (by kernel_rfl)) (by decide) (by decide) (fun K hK => ?_) (fun K hK => ?_)
        · skip
          refine goes_ Try.func57 (by kernel_rfl) rfl #[arr8 S, arr8 kp] (by rfl) rfl rfl (by (try simp only [List.map_toArray, List.map_cons, List.map_nil]); first | done | rfl) ?_
          with_reducible refine (impl_xor.calls S kp _ HSL.out.1 HKP.out.1).mono ?_
          rintro e v1 ⟨rfl, hst⟩
          refine ⟨_, rfl, ?_⟩
          have hHeld : v1.cell? ⟨g, 512, none⟩ = some (.slice (some ⟨gk, 0, none⟩) keys.length ck) ∧ v1.rangeAt gk (p * 16) (nums .u8 kp) ∧ v1.rangeAt g0 0 (nums .u8 S) := ⟨pw_cell_below hst hHeld.1, range_below hHeld.2.1 hst, range_below hHeld.2.2 hst⟩
          have G0D := Aside0.mk ((hst.block g0 (blk_lt G0D.out)).trans G0D.out)
          have G1D := Aside0.mk ((hst.block (g0 + 1) (blk_lt G1D.out)).trans G1D.out)
          have HBD := Aside0.mk (HBD.out.trans (hst.mono HBD.out.size))
          have HSD := Aside0.mk (Nat.le_trans HSD.out hst.size)
          clear hst
          refine hK.out _ _ hHeld (fun hHeld => ?_)
          clear hK K
          refine norm_ (a' := ?_) ?_ ?_
          rotate_left
          · show Act.put _ (some 29) _ = _
            simp only [Act.put, List.setIfInBounds_toArray, List.set_cons_zero, List.set_cons_succ, i64_w, i32_w]
            rfl
          refine one_ (i := 9) (N := some 7) #[true, true, true, true, true, true, true, true, true, true, false] rfl rfl (one_of HT_.out (by kernel_rfl)) (by decide) (fun K hK => ?_)
          go_simp
          show K _ (v1.alloc (.cells (nums .u8 (List.replicate 16 0)).toArray 52))
          obtain ⟨gn, hgn⟩ : ∃ g, g = v1.heap.size := ⟨_, rfl⟩
          have HGN : Aside0 (g0 + 2 ≤ gn) := ⟨by rw [hgn]; exact HSD.out⟩
          have AN : Aside0 ((v1.alloc (.cells (nums .u8 (List.replicate 16 0)).toArray 52)).heap[gn]? = some (.cells (nums .u8 (List.replicate 16 0)).toArray 52 (0, 0))) := ⟨by rw [hgn]; exact blk_new v1 _⟩
          have hst : Below v1.heap.size v1 (v1.alloc (.cells (nums .u8 (List.replicate 16 0)).toArray 52)) := below_alloc (Below.refl _ _) _
          rw [← hgn]
          generalize v1.alloc (.cells (nums .u8 (List.replicate 16 0)).toArray 52) = v2 at AN hst ⊢
          clear hgn
          have hHeld : v2.cell? ⟨g, 512, none⟩ = some (.slice (some ⟨gk, 0, none⟩) keys.length ck) ∧ v2.rangeAt gk (p * 16) (nums .u8 kp) ∧ v2.rangeAt g0 0 (nums .u8 S) := ⟨pw_cell_below hst hHeld.1, range_below hHeld.2.1 hst, range_below hHeld.2.2 hst⟩
          have G0D := Aside0.mk ((hst.block g0 (blk_lt G0D.out)).trans G0D.out)
          have G1D := Aside0.mk ((hst.block (g0 + 1) (blk_lt G1D.out)).trans G1D.out)
          have HBD := Aside0.mk (HBD.out.trans (hst.mono HBD.out.size))
          have HSD := Aside0.mk (Nat.le_trans HSD.out hst.size)
          clear hst
          refine hK.out _ _ hHeld (fun hHeld => ?_)
          clear hK K
          exact hjoin gn v2 ⟨HGN.out, AN.out, G0D.out, G1D.out, HBD.out⟩
        · skip
          go_simp
          show K _ (wD.alloc (.cells (nums .u8 (List.replicate 16 0)).toArray 52))
          obtain ⟨gn, hgn⟩ : ∃ g, g = wD.heap.size := ⟨_, rfl⟩
          have HGN : Aside0 (g0 + 2 ≤ gn) := ⟨by rw [hgn]; exact HSD.out⟩
          have AN : Aside0 ((wD.alloc (.cells (nums .u8 (List.replicate 16 0)).toArray 52)).heap[gn]? = some (.cells (nums .u8 (List.replicate 16 0)).toArray 52 (0, 0))) := ⟨by rw [hgn]; exact blk_new wD _⟩
          have hst : Below wD.heap.size wD (wD.alloc (.cells (nums .u8 (List.replicate 16 0)).toArray 52)) := below_alloc (Below.refl _ _) _
          rw [← hgn]
          generalize wD.alloc (.cells (nums .u8 (List.replicate 16 0)).toArray 52) = v1 at AN hst ⊢
          clear hgn
          have hHeld : v1.cell? ⟨g, 512, none⟩ = some (.slice (some ⟨gk, 0, none⟩) keys.length ck) ∧ v1.rangeAt gk (p * 16) (nums .u8 kp) ∧ v1.rangeAt g0 0 (nums .u8 S) := ⟨pw_cell_below hst hHeld.1, range_below hHeld.2.1 hst, range_below hHeld.2.2 hst⟩
          have G0D := Aside0.mk ((hst.block g0 (blk_lt G0D.out)).trans G0D.out)
          have G1D := Aside0.mk ((hst.block (g0 + 1) (blk_lt G1D.out)).trans G1D.out)
          have HBD := Aside0.mk (HBD.out.trans (hst.mono HBD.out.size))
          have HSD := Aside0.mk (Nat.le_trans HSD.out hst.size)
          clear hst
          refine hK.out _ _ hHeld (fun hHeld => ?_)
          clear hK K
          refine one_ (i := 8) (N := some 29) #[true, true, true, true, true, true, true, true, true, true, false] rfl rfl (one_of HT_.out (by kernel_rfl)) (by decide) (fun K hK => ?_)
          refine goes_ Try.func57 (by kernel_rfl) rfl #[arr8 S, arr8 kp] (by rfl) rfl rfl (by (try simp only [List.map_toArray, List.map_cons, List.map_nil]); first | done | rfl) ?_
          with_reducible refine (impl_xor.calls S kp _ HSL.out.1 HKP.out.1).mono ?_
          rintro e v2 ⟨rfl, hst⟩
          refine ⟨_, rfl, ?_⟩
          have hHeld : v2.cell? ⟨g, 512, none⟩ = some (.slice (some ⟨gk, 0, none⟩) keys.length ck) ∧ v2.rangeAt gk (p * 16) (nums .u8 kp) ∧ v2.rangeAt g0 0 (nums .u8 S) := ⟨pw_cell_below hst hHeld.1, range_below hHeld.2.1 hst, range_below hHeld.2.2 hst⟩
          have G0D := Aside0.mk ((hst.block g0 (blk_lt G0D.out)).trans G0D.out)
          have G1D := Aside0.mk ((hst.block (g0 + 1) (blk_lt G1D.out)).trans G1D.out)
          have HBD := Aside0.mk (HBD.out.trans (hst.mono HBD.out.size))
          have HSD := Aside0.mk (Nat.le_trans HSD.out hst.size)
          have AN := Aside0.mk ((hst.block gn (blk_lt AN.out)).trans AN.out)
          clear hst
          refine hK.out _ _ hHeld (fun hHeld => ?_)
          clear hK K
          refine norm_ (a' := ?_) ?_ ?_
          rotate_left
          · show Act.put _ (some 29) _ = _
            simp only [Act.put, List.setIfInBounds_toArray, List.set_cons_zero, List.set_cons_succ, i64_w, i32_w]
            rfl
          exact hjoin gn v2 ⟨HGN.out, AN.out, G0D.out, G1D.out, HBD.out⟩
      intro gn wA hF
      clear hHeld G0D G1D HBD HSD
      obtain ⟨hgn, hAN, hA0, hA1, hAB⟩ := hF
      have HGN := Aside0.mk hgn
      have A0 := Aside0.mk hA0
      have A1 := Aside0.mk hA1
      have AB := Aside0.mk hAB
      have AN0 := Aside0.mk hAN
      clear hgn hAN hA0 hA1 hAB
      refine norm_ (a' := ?_) ?_ ?_
      rotate_left
      · show putAll _ _ = _
        simp only [putAll, Act.put, List.setIfInBounds_toArray, List.set_cons_zero, List.set_cons_succ, i64_w, i32_w]
        rfl
      refine last_ (i := 10) (N := none) #[true, true, true, true, true, true, true, true, true, true, true] rfl rfl (one_of HT_.out (by kernel_rfl)) (by decide) (fun K hK => ?_)
      refine wp_store_row 52 (.tmp 7) (.tmp 29) (by rfl) gn (nums .u8 (xorL S kp)).toArray (by rfl) (by rfl) 52 _ AN0.out (by rw [HSX.out]; kernel_rfl) (by rw [HSX.out]; rfl) (nums_one _ _) ?_
      refine hK.out _ _ ?_
      clear hK K
      refine done_ (done_of HT_.out (by kernel_rfl)) ?_
      simp only [Act.put]
      have AN : Aside0 ((wA.setRow gn (nums .u8 (xorL S kp)).toArray).heap[gn]? = some (.cells (nums .u8 (xorL S kp)).toArray 52 (0, 0))) := ⟨setRow_heap _ _ _ _ _ _ AN0.out⟩
      have HGS : Aside0 (gn < (wA.setRow gn (nums .u8 (xorL S kp)).toArray).heap.size) := ⟨by rw [setRow_size]; exact blk_lt AN0.out⟩
      have A0 : Aside0 ((wA.setRow gn (nums .u8 (xorL S kp)).toArray).heap[g0]? = some (.cells (nums .u8 S).toArray 52 (0, 0))) := ⟨(setRow_other _ _ _ _ (by have := HGN.out; omega)).trans A0.out⟩
      have A1 : Aside0 ((wA.setRow gn (nums .u8 (xorL S kp)).toArray).heap[g0 + 1]? = some (.cells (nums .u8 (List.replicate 16 0)).toArray 52 (0, 0))) := ⟨(setRow_other _ _ _ _ (by have := HGN.out; omega)).trans A1.out⟩
      have AB : Aside0 (Below w.heap.size w (wA.setRow gn (nums .u8 (xorL S kp)).toArray)) := ⟨below_row AB.out (by have := HG0.out; have := HGN.out; omega) _⟩
      generalize wA.setRow gn (nums .u8 (xorL S kp)).toArray = wP at AN HGS A0 A1 AB ⊢
      clear AN0
      clear kk0 kk1 kk2 rK cK rB
      obtain ⟨X, hX⟩ : ∃ X, X = xorL S kp := ⟨_, rfl⟩
      have HXS : Aside0 (X = Aes.xorS S kp) := ⟨by rw [hX, xorL_S _ _ HSL.out.1 HKP.out.1]⟩
      have HXO : Aside0 (X.length = 16 ∧ Aes.ok X) := ⟨by rw [HXS.out]; exact ⟨Aes.xorS_length _ _, Aes.xorS_ok HSL.out.2 HKP.out.2⟩⟩
      rw [← hX] at HSX AN
      clear hX HXL
      go_upto_if 32 with (fail)
      go_cut [6] from 30 to 34 (fun v6 wc => ∃ M : List Int, v6 = .int .i64 (p : Int) ∧ Aside0 (M = if p < last then colsF (fun c => mixedL c [14, 11, 13, 9]) X else X) ∧ Aside0 (wc.heap[gn]? = some (.cells (nums .u8 M).toArray 52 (0, 0))) ∧ Aside0 (wc.heap[g0]? = some (.cells (nums .u8 S).toArray 52 (0, 0))) ∧ Aside0 (wc.heap[g0 + 1]? = some (.cells (nums .u8 (List.replicate 16 0)).toArray 52 (0, 0))) ∧ Aside0 (Below w.heap.size w wc) ∧ Aside0 (gn < wc.heap.size))
      case first =>
        by_cases hpl : p < last
        · have hdp : decide (p < last) = true := decide_eq_true hpl
          have hdp2 : decide ((p : Int) < (last : Int)) = true := decide_eq_true (by omega)
          have HPL := Aside0.mk hpl
          have hcl : (colsF (fun c => mixedL c [14, 11, 13, 9]) X).length = 16 := colsF_length _ (fun c _ => rfl) X HXO.out.1
          have HCN : Aside0 ((nums IntKind.u8 (colsF (fun c => mixedL c [14, 11, 13, 9]) X)).toArray.size = 16) := ⟨by simp [nums, hcl]⟩
          clear hcl
          go_wp2_with (refine wpList_load_row (by rfl) 52 (.tmp 7) (by rfl) gn (by rfl) 52 (nums .u8 X).toArray (0, 0) _ AN.out Try.underlying52 rfl (by rw [HSX.out]; kernel_rfl) ?_)
          refine (impl_columns_unmix X _ HXO.out.1 HXO.out.2).mono ?_
          rintro e wT ⟨rfl, hbT⟩
          have GT := Aside0.mk ((hbT.block gn HGS.out).trans AN.out)
          have T0 := Aside0.mk ((hbT.block g0 (by have := HGN.out; have := HGS.out; omega)).trans A0.out)
          have T1 := Aside0.mk ((hbT.block (g0 + 1) (by have := HGN.out; have := HGS.out; omega)).trans A1.out)
          have TB := Aside0.mk (AB.out.trans (hbT.mono AB.out.size))
          have TS := Aside0.mk (Nat.lt_of_lt_of_le HGS.out hbT.size)
          clear hbT
          unfold arr8
          go_wp2_with (refine wpList_store_row (by rfl) 52 (.tmp 7) (.tmp 34) (by rfl) gn (nums .u8 (colsF (fun c => mixedL c [14, 11, 13, 9]) X)).toArray (by rfl) (by rfl) 52 _ GT.out (by rw [HCN.out]; kernel_rfl) (by rw [HSX.out, HCN.out]) (nums_one _ _) ?_)
          go_meet
          case rel => exact ⟨_, rfl, ⟨by rw [if_pos HPL.out]⟩, ⟨setRow_heap _ _ _ _ _ _ GT.out⟩, ⟨(setRow_other _ _ _ _ (by have := HGN.out; omega)).trans T0.out⟩, ⟨(setRow_other _ _ _ _ (by have := HGN.out; omega)).trans T1.out⟩, ⟨below_row TB.out (by have := HG0.out; have := HGN.out; omega) _⟩, ⟨by rw [setRow_size]; exact TS.out⟩⟩
        · have hdp : decide (p < last) = false := decide_eq_false hpl
          have hdp2 : decide ((p : Int) < (last : Int)) = false := decide_eq_false (by omega)
          have HPL := Aside0.mk hpl
          go_wp2
          go_meet
          case rel => exact ⟨X, rfl, ⟨by rw [if_neg HPL.out]⟩, AN, A0, A1, AB, HGS⟩
      case rest =>
        obtain ⟨M, rfl, HM, GM, G0, G1, HB, HSM⟩ := hcut
        have HMO : Aside0 (M.length = 16 ∧ Aes.ok M) := ⟨by
          rw [HM.out]
          split
          · rw [unmix_mixS _ HXO.out.1 HXO.out.2]; exact ⟨Aes.mixS_length _ _, Aes.mixS_ok _ HXO.out.2⟩
          · exact HXO.out⟩
        obtain ⟨N, hN⟩ : ∃ N, N = Aes.unsubS (Aes.unshiftS M) := ⟨_, rfl⟩
        have HNL : Aside0 (N.length = 16) := ⟨by rw [hN]; exact Aes.unsubS_length _⟩
        have HNA : Aside0 (∀ q, q < 16 → N.getD ((q + 4 * (q % 4)) % 16) 0 = Aes.ub (M.getD q 0)) := ⟨fun q hq => by
          rw [hN, Aes.unsubS, Aes.st_at _ _ (Nat.mod_lt _ (by decide)), Aes.unshiftS, Aes.st_at _ _ (Nat.mod_lt _ (by decide))]
          congr 2; omega⟩
        have HEN : Aside0 (N = Aes.decTo keys b (j + 1)) := ⟨by
          rw [hN, HM.out, HXS.out, HSE.out, HKE.out]
          show _ = Aes.unsubS (Aes.unshiftS (if j = 0 then Aes.xorS (Aes.decTo keys b j) (keys.getD (keys.length - 1 - j) []) else Aes.mixS Gf.unmixF (Aes.xorS (Aes.decTo keys b j) (keys.getD (keys.length - 1 - j) []))))
          have e : keys.length - 1 - j = p := by have := HLA.out; have := HP.out; omega
          rw [e]
          by_cases h : p < last
          · rw [if_pos h, if_neg (by have := HP.out; omega), unmix_mixS _ (Aes.xorS_length _ _) (Aes.xorS_ok (Aes.decTo_ok HKO.out OB.out j) (Aes.key_ok HKO.out p))]
          · rw [if_neg h, if_pos (by have := HP.out; omega)]⟩
        clear hN
        have Z0 : Aside0 (wc.heap[g0]? = some (.cells (nums .u8 (backTo N S 0)).toArray 52 (0, 0))) := ⟨by rw [backTo_zero N S HSL.out.1]; exact G0.out⟩
        go_wp2_with fail
        go_loopw [35] (fun v wr => ∃ q : Nat, q ≤ 16 ∧ v = .int .i64 (q : Int) ∧ Aside0 (wr.heap[g0]? = some (.cells (nums .u8 (backTo N S q)).toArray 52 (0, 0))) ∧ Aside0 (wr.heap[gn]? = some (.cells (nums .u8 M).toArray 52 (0, 0))) ∧ Aside0 (wr.heap[g0 + 1]? = some (.cells (nums .u8 (List.replicate 16 0)).toArray 52 (0, 0))) ∧ Aside0 (Below w.heap.size w wr) ∧ Aside0 (gn < wr.heap.size)) (fun v _ => 16 - (intOf v).toNat)
        case atStart => exact ⟨0, by omega, rfl, Z0, GM, G1, HB, HSM⟩
        case round =>
          clear Z0 GM G0 G1 HB HSM
          obtain ⟨q, hq, rfl, G0, GM, G1, HB, HSM⟩ := hrel
          by_cases hlt4 : q < 16
          · have hdq : decide (q < 16) = true := decide_eq_true hlt4
            have hdq2 : decide ((q : Int) < 16) = true := decide_eq_true (by omega)
            obtain ⟨m4, hm4⟩ : ∃ m, m = q % 4 := ⟨_, rfl⟩
            obtain ⟨u, hu⟩ : ∃ u, u = (q + 4 * m4) % 16 := ⟨_, rfl⟩
            obtain ⟨x, hx⟩ : ∃ x, x = M.getD q 0 := ⟨_, rfl⟩
            have bx : Aes.by_ x := by rw [hx]; exact Aes.at_by HMO.out.2 _
            have tX := (HW1.out wr HB.out).2.2 x bx
            have cX : wr.cell? ⟨gn, q, none⟩ = some (.int .u8 x) := by
              rw [blk_cell GM.out, hx]
              exact nums_at? _ _ _ _ (by rw [List.getD_eq_getElem?_getD, List.getElem?_eq_getElem (by rw [HMO.out.1]; omega)]; rfl)
            obtain ⟨z0, hz0⟩ : ∃ z, z = (backTo N S q).getD u 0 := ⟨_, rfl⟩
            have cZ : wr.cell? ⟨g0, u, none⟩ = some (.int .u8 z0) := by
              rw [blk_cell G0.out u, hz0]
              exact nums_at? _ _ _ _ (by rw [List.getD_eq_getElem?_getD, List.getElem?_eq_getElem (by rw [backTo_length]; omega)]; rfl)
            have zZ := blk_frozen G0.out u
            have TS := Aside0.mk (backTo_set N S q hlt4)
            obtain ⟨y, hy⟩ : ∃ y, y = Aes.ub x := ⟨_, rfl⟩
            rw [← hy] at tX
            have HUE : Aside0 ((q + 4 * (q % 4)) % 16 = u) := ⟨by rw [hu, hm4]⟩
            have HYV : Aside0 (N.getD u 0 = y) := ⟨by rw [← HUE.out, HNA.out q hlt4, hy, hx]⟩
            have e4 : (q : Int) % 4 = (m4 : Int) := by omega
            have e5 : ((q : Int) + 4 * (m4 : Int)) % 16 = (u : Int) := by omega
            have HLT4 := Aside0.mk hlt4
            have p0 : 0 ≤ x := bx.1
            have p1 : x < 256 := by have := bx.2; omega
            have q0 : (0 : Int) ≤ (q : Int) := by omega
            have q1 : (q : Int) < 16 := by omega
            have q2 : q < 16 := hlt4
            have u0 : (0 : Int) ≤ (u : Int) := by omega
            have u1 : (u : Int) < 16 := by omega
            have u2 : u < 16 := by omega
            have m0 : (0 : Int) ≤ (m4 : Int) := by omega
            have m1 : (m4 : Int) < 4 := by omega
            clear hm4 hu hx hy bx hlt4 hq hz0
            go_wp2
            go_region
            clear cX cZ zZ tX e4 e5 p0 p1 q0 q1 q2 u0 u1 u2 m0 m1
            go_wp2
            have hw : wrap64 ((q : Int) + 1) = ((q + 1 : Nat) : Int) := by have := HLT4.out; unfold wrap64; omega
            rw [hw]
            clear hw
            go_roundw
            case rel =>
              refine ⟨q + 1, HLT4.out, rfl, ⟨?_⟩, ⟨blk_drew (blk_far GM.out (by have := HGN.out; show gn ≠ g0; omega) _)⟩, ⟨blk_drew (blk_far G1.out (by show g0 + 1 ≠ g0; omega) _)⟩, ⟨below_drew1 (below_set HB.out (by have := HG0.out; omega))⟩, ⟨by have := HSM.out; simpa using this⟩⟩
              rw [← TS.out, HUE.out, HYV.out, ← nums_set]
              exact blk_drew (blk_set G0.out u _)
            case measure => simp [intOf]; have := HLT4.out; omega
          · have hdq : decide (q < 16) = false := decide_eq_false hlt4
            have hdq2 : decide ((q : Int) < 16) = false := decide_eq_false (by omega)
            have GF : Aside0 (wr.heap[g0]? = some (.cells (nums .u8 (Aes.decTo keys b (j + 1))).toArray 52 (0, 0))) := ⟨by
              have e : q = 16 := by omega
              have := G0.out
              rw [e, backTo_all N S HNL.out, HEN.out] at this
              exact this⟩
            clear hlt4 hq G0 GM
            go_wp2
            have hw : wrap64 ((p : Int) - 1) = ((p - 1 : Nat) : Int) := by have := HLE.out; have := HK.out.2; have := HLA.out; have := HP.out; unfold wrap64; omega
            rw [hw]
            clear hw
            go_roundw
            case rel => exact ⟨p - 1, j + 1, rfl, by have := HP.out; have := HLE.out; omega, GF, G1, HB, ⟨by have := HGN.out; have := HSM.out; omega⟩⟩
            case measure => simp [intOf]; have := HLE.out; omega
    · have hd : decide (1 ≤ p) = false := decide_eq_false hlt
      have hd2 : decide ((1 : Int) ≤ (p : Int)) = false := decide_eq_false (by omega)
      obtain ⟨k0, hk0⟩ : ∃ k, k = keys.getD 0 [] := ⟨_, rfl⟩
      have hk0m : k0 ∈ keys := by rw [hk0, List.getD_eq_getElem?_getD, List.getElem?_eq_getElem HK.out.1]; exact List.getElem_mem _
      have HK0 := Aside0.mk (HKO.out k0 hk0m)
      have cK := (HW1.out wR HB.out).1
      have rK : wR.rangeAt gk 0 (nums .u8 k0) := by have := (HW1.out wR HB.out).2.1 0 HK.out.1; rw [← hk0, Nat.zero_mul] at this; exact this
      have HNK : Aside0 ((nums IntKind.u8 k0).length = 16) := ⟨by simp [nums, HK0.out.1]⟩
      have hxl : (xorL S k0).length = 16 := by rw [xorL_length S k0 (by rw [HSL.out.1, HK0.out.1]), HSL.out.1]
      have HSX : Aside0 ((nums IntKind.u8 (xorL S k0)).toArray.size = 16) := ⟨by simp [nums, hxl]⟩
      have HFIN : Aside0 (xorL S k0 = Aes.decL keys b) := ⟨by
        have e : j = keys.length - 1 := by have := HLA.out; omega
        rw [xorL_S _ _ HSL.out.1 HK0.out.1, HSE.out, hk0, Aes.decL, e]⟩
      have HKL : Aside0 (0 < keys.length) := ⟨HK.out.1⟩
      have kk0 : (0 : Int) < (keys.length : Int) := by have := HK.out.1; omega
      have kk1 : 0 < keys.length := HK.out.1
      clear hlt hp hS hk0 hk0m hxl
      go_upto_region 14 with (fail)
      clear hd hd2 G0 G1 HB HS
      refine start_ (n := 9) (S := fun w' => w'.cell? ⟨g, 512, none⟩ = some (.slice (some ⟨gk, 0, none⟩) keys.length ck) ∧ w'.rangeAt gk 0 (nums .u8 k0) ∧ w'.rangeAt g0 0 (nums .u8 S)) (ds := [7, 8]) #[false, false, false, false, false, false, false, false, false] (by kernel_rfl) rfl rfl ⟨(show wR.drew.cell? ⟨g, 512, none⟩ = some (.slice (some ⟨gk, 0, none⟩) keys.length ck) from cK), (show wR.drew.rangeAt gk 0 (nums .u8 k0) from rK), (show wR.drew.rangeAt g0 0 (nums .u8 S) from rB)⟩ (fun hHeld => ?_)
      refine with_tabW dec_tab14 dec_bits14 (fun HT_ HW_ => ?_)
      generalize wR.drew = wD at hHeld G0D G1D HBD HSD ⊢
      refine pure_ (i := 1) (N := some 56) (v := ?_) (a' := ?_) #[false, true, false, false, false, false, false, false, false] rfl rfl (any_of HT_.out (by kernel_rfl)) (fun _ _ _ h => h) (Or.inl ⟨by rfl, ?_⟩) ?_ ?_
      rotate_left
      · intro w'
        go_simp
        with_reducible rfl
      rotate_left
      · simp only [Act.put, List.setIfInBounds_toArray, List.set_cons_zero, List.set_cons_succ, i64_w, i32_w]
        rfl
      refine pure_ (i := 2) (N := some 57) (v := ?_) (a' := ?_) #[false, true, true, false, false, false, false, false, false] rfl rfl (any_of HT_.out (by kernel_rfl)) (fun _ _ _ h => h) (Or.inl ⟨by rfl, ?_⟩) ?_ ?_
      rotate_left
      · intro w'
        go_simp
        with_reducible rfl
      rotate_left
      · simp only [Act.put, List.setIfInBounds_toArray, List.set_cons_zero, List.set_cons_succ, i64_w, i32_w]
        rfl
      refine pure_ (i := 3) (N := some 58) (v := ?_) (a' := ?_) #[false, true, true, true, false, false, false, false, false] rfl rfl (any_of HT_.out (by kernel_rfl)) (fun _ _ _ h => h) (Or.inl ⟨by rfl, ?_⟩) ?_ ?_
      rotate_left
      · intro w'
        go_simp
        with_reducible rfl
      rotate_left
      · simp only [Act.put, List.setIfInBounds_toArray, List.set_cons_zero, List.set_cons_succ, i64_w, i32_w]
        rfl
      refine take_ (i := 0) (N := some 55) (v := ?_) (a' := ?_) #[true, true, true, true, false, false, false, false, false] rfl rfl (take_ofW HT_.out HW_.out (by kernel_rfl)) (fun _ _ _ h => h) ?hy14_0 hHeld ?heq14_0 ?hrest14_0
      case hy14_0 => (refine yieldsIf_load_mid ?_ 52 (.tmp 3) ?_ g0 0 ?_ (nums .u8 S) _ ?_ Try.underlying52 ?_ ?_; rfl; rfl; rfl; exact (fun w_ h_ => h_.2.2); rfl; exact key_size S HNS.out)
      case heq14_0 =>
        simp only [Act.put, List.setIfInBounds_toArray, List.set_cons_zero, List.set_cons_succ, i64_w, i32_w]
        rfl
      refine take_ (i := 4) (N := some 59) (v := ?_) (a' := ?_) #[true, true, true, true, true, false, false, false, false] rfl rfl (take_ofW HT_.out HW_.out (by kernel_rfl)) (fun _ _ _ h => h) (Or.inl ⟨by rfl, ?_⟩) hHeld ?_ ?_
      rotate_left
      · rintro w' ⟨s0, s1, s2⟩
        go_simp
        with_reducible rfl
      rotate_left
      · simp only [Act.put, List.setIfInBounds_toArray, List.set_cons_zero, List.set_cons_succ, i64_w, i32_w]
        rfl
      refine pure_ (i := 5) (N := some 60) (v := ?_) (a' := ?_) #[true, true, true, true, true, true, false, false, false] rfl rfl (any_of HT_.out (by kernel_rfl)) (fun _ _ _ h => h) (Or.inl ⟨by rfl, ?_⟩) ?_ ?_
      rotate_left
      · intro w'
        go_simp
        with_reducible rfl
      rotate_left
      · simp only [Act.put, List.setIfInBounds_toArray, List.set_cons_zero, List.set_cons_succ, i64_w, i32_w]
        rfl
      refine take_ (i := 6) (N := some 61) (v := ?_) (a' := ?_) #[true, true, true, true, true, true, true, false, false] rfl rfl (take_ofW HT_.out HW_.out (by kernel_rfl)) (fun _ _ _ h => h) ?hy14_6 hHeld ?heq14_6 ?hrest14_6
      case hy14_6 => (refine yieldsIf_load_mid ?_ 52 (.tmp 60) ?_ gk 0 ?_ (nums .u8 k0) _ ?_ Try.underlying52 ?_ ?_; rfl; rfl; rfl; exact (fun w_ h_ => h_.2.1); rfl; exact key_size k0 HNK.out)
      case heq14_6 =>
        simp only [Act.put, List.setIfInBounds_toArray, List.set_cons_zero, List.set_cons_succ, i64_w, i32_w]
        rfl
      refine last_ (i := 7) (N := some 62) #[true, true, true, true, true, true, true, true, false] rfl rfl (one_of HT_.out (by kernel_rfl)) (by decide) (fun K hK => ?_)
      refine goes_ Try.func57 (by kernel_rfl) rfl #[arr8 S, arr8 k0] (by rfl) rfl rfl (by (try simp only [List.map_toArray, List.map_cons, List.map_nil]); first | done | rfl) ?_
      with_reducible refine (impl_xor.calls S k0 _ HSL.out.1 HK0.out.1).mono ?_
      rintro e wX ⟨rfl, hbx⟩
      refine ⟨_, rfl, ?_⟩
      refine hK.out _ _ ?_
      clear hK K
      refine norm_ (a' := ?_) ?_ ?_
      rotate_left
      · show Act.put _ (some 62) _ = _
        simp only [Act.put, List.setIfInBounds_toArray, List.set_cons_zero, List.set_cons_succ, i64_w, i32_w]
        rfl
      refine last_ (i := 8) (N := none) #[true, true, true, true, true, true, true, true, true] rfl rfl (one_of HT_.out (by kernel_rfl)) (by decide) (fun K hK => ?_)
      refine wp_store_row 52 (.tmp 4) (.tmp 62) (by rfl) (g0 + 1) (nums .u8 (xorL S k0)).toArray (by rfl) (by rfl) 52 _ ((hbx.block (g0 + 1) (by have := HSD.out; omega)).trans G1D.out) (by rw [HSX.out]; kernel_rfl) (by rw [HSX.out]; rfl) (nums_one _ _) ?_
      refine hK.out _ _ ?_
      clear hK K
      refine done_ (done_of HT_.out (by kernel_rfl)) ?_
      simp only [Act.put]
      have GR := Aside0.mk (setRow_heap wX (g0 + 1) _ (nums .u8 (xorL S k0)).toArray _ _ ((hbx.block (g0 + 1) (by have := HSD.out; omega)).trans G1D.out))
      have RB : Aside0 (Below w.heap.size w (wX.setRow (g0 + 1) (nums .u8 (xorL S k0)).toArray)) := ⟨below_row (HBD.out.trans (hbx.mono HBD.out.size)) (by have := HG0.out; omega) _⟩
      generalize wX.setRow (g0 + 1) (nums .u8 (xorL S k0)).toArray = wF at GR RB ⊢
      clear hbx hHeld
      go_wp2
      refine bodyPost_ret (v := arr8 (xorL S k0)) ?_ rfl ?_
      · exact results_cell_row (fn := Try.f52) (p := 4) (ty := 52) Try.results52 _ _ _ 52 _ (0, 0) _ (by rfl) GR.out Try.underlying52 rfl (by rw [HSX.out]; kernel_rfl)
      · exact ⟨by rw [HFIN.out]; rfl, RB.out⟩
end Go.Proofs.Ytfbggdlidelliaa.P

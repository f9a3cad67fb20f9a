/- Laid by a program of this session: of Pt2 what this law uses. -/
import Derived.Test.YtlfpogbonmddmaaZFsM11
import Derived.Test.YtlfpogbonmddmaaZFsPt1
namespace Go.Proofs.Ytlfpogbonmddmaa.P
open Go.RowKit Go.Proofs.YtlfpogbonmddmaaW.PrintWords Go.Proofs.YtlfpogbonmddmaaW.PrintLast Go.Proofs.YtlfpogbonmddmaaW.PrintMore
attribute [local go_sem] min2_int min_two
set_option linter.unusedVariables false
set_option linter.unusedSimpArgs false
def sizeTo (n : Int) (j : Nat) : List Int := (Sha.be8 n).take j
theorem sizeTo_succ (n : Int) (j : Nat) (hj : j < 8) : sizeTo n (j + 1) = sizeTo n j ++ [n / 2 ^ (8 * (7 - j)) % 256] := by
 match j, hj with
 | 0, _ => rfl
 | 1, _ => rfl
 | 2, _ => rfl
 | 3, _ => rfl
 | 4, _ => rfl
 | 5, _ => rfl
 | 6, _ => rfl
 | 7, _ => simp [sizeTo, Sha.be8]
theorem below_lit (w : World) (o1 o2 : Obj) : Below (w.heap.size + 1) (w.alloc o1) ((w.alloc o1).alloc o2) := by
 have h := below_alloc (Below.refl (w.alloc o1).heap.size (w.alloc o1)) o2
 have e : (w.alloc o1).heap.size = w.heap.size + 1 := by simp
 rwa [e] at h
theorem consts_calls (w : World) : Calls Try.prog 87 #[] w fun e w' => e = .returned (.slice (some ⟨w.heap.size, 0, none⟩) 64 64) ∧ w' = w.alloc (.cells (nums .u32 Sha.K).toArray 90) := by
 go_enter Try.func87, Try.ntmps87
 go_wp2
 go_ret
 exact ⟨rfl, rfl⟩
theorem K_cells (w : World) (j : Nat) (hj : j < 64) : (w.alloc (.cells (nums .u32 Sha.K).toArray 90)).cell? ((⟨w.heap.size, 0, none⟩ : Addr).add j) = some (.int .u32 (Sha.K.getD j 0)) := by
 rw [add_plain]
 refine (blk_cell (blk_new w _) _).trans ?_
 exact nums_at? _ _ _ _ (by rw [List.getD_eq_getElem?_getD, List.getElem?_eq_getElem (by rw [K_length]; exact hj)]; rfl)
theorem u8ok_chunk {l : List Int} (h : u8ok l) (j : Nat) : u8ok (Sha.chunk l j) := fun x hx => h x (List.mem_of_mem_drop (List.mem_of_mem_take hx))
theorem u8ok_full {l : List Int} (h : u8ok l) : u8ok (Sha.full l) := fun x hx => by
 simp only [Sha.full, Sha.fillTo, List.mem_append, List.mem_cons, List.mem_replicate] at hx
 rcases hx with (hx | rfl | ⟨_, rfl⟩) | hx
 · exact h x hx
 · omega
 · omega
 · simp only [Sha.be8, List.mem_cons, List.not_mem_nil, or_false] at hx
   omega
def shash_T18 : Bool × List (List Nat × List Nat) := (true, [([], []), ([], []), ([], []), ([1, 2], [1, 2]), ([3], [3]), ([4], [4]), ([5], [5]), ([], []), ([], []), ([7, 8], [7, 8]), ([9], [9]), ([10], [10]), ([11], [11]), ([], []), ([], []), ([13, 14], [13, 14]), ([15], [15]), ([16], [16]), ([17], [17]), ([], []), ([], []), ([19, 20], [19, 20]), ([21], [21]), ([22], [22]), ([6, 12, 18, 23], [6, 12, 18, 23]), ([0, 24], [0, 24]), ([25, 25, 0, 1, 2, 3, 4, 5, 6, 7, 8, 9, 10, 11, 12, 13, 14, 15, 16, 17, 18, 19, 20, 21, 22, 23, 24, 25], [0, 25])])
def shash_B18 : List Nat := [0, 0, 0, 6, 14, 30, 62, 0, 0, 384, 896, 1920, 3968, 0, 0, 24576, 57344, 122880, 253952, 0, 0, 1572864, 3670016, 7864320, 16777214, 33554431, 67108863]
theorem shash_tab18 : rtab .any (opsOf Try.f68 18) = shash_T18 := by kernel_rfl
theorem shash_bits18 : waitsOk shash_T18.2 shash_B18 = true := by kernel_rfl
theorem full_mod (l : List Int) : (Sha.full l).length % 64 = 0 := by simp [Sha.full, Sha.fillTo, Sha.be8]; omega
theorem below_of_lit (w wr : World) (o : Obj) (h : Below (w.heap.size + 1) (w.alloc o) wr) : Below w.heap.size w wr := by
 exact (below_alloc (Below.refl w.heap.size w) o).trans (h.mono (Nat.le_succ _))
theorem consts_world (w wr : World) (o : Obj) (h : Below (w.heap.size + 1) (w.alloc o) wr) (hs : w.heap.size + 1 ≤ wr.heap.size) : wr.heap[w.heap.size]? = some o := by
 exact (h.block w.heap.size (by omega)).trans (blk_new w o)
set_option maxHeartbeats 8000000 in
set_option maxRecDepth 100000 in
theorem spec_l03Hash_in (A0 : Option Addr) (c0 : Nat) (l0 : List Int) (w0 : World) (hr0 : Kd.C (Kd.int .u8) w0 A0 l0.length l0) (hc0 : l0.length ≤ c0) (hu : u8ok l0) (hl : l0.length ≤ 1099511627776) :
   Calls Try.prog 68 #[.slice A0 l0.length c0] w0 fun e w' => e = .returned (.string (strOfNums (Sha.shaL l0))) ∧ Below w0.heap.size w0 w' := by
 have HR0 := Aside0.mk hr0
 have HC0 := Aside0.mk hc0
 have HU := Aside0.mk hu
 have HSZ := Aside0.mk hl
 obtain ⟨L1, hL1⟩ : ∃ L, L = l0 ++ [128] := ⟨_, rfl⟩
 have HL1 := Aside0.mk hL1
 clear hr0 hc0 hu hl hL1
 go_enter Try.func68, Try.ntmps68
 go_wp2_with (first
   | ((with_reducible refine gate_dst (N := 13) rfl ?_); refine wpList_append_rowB_C (by rfl) (.tmp 11) (.tmp 12) 22 5 (by rfl) Try.underlying22 info5 l0 (l := []) (w0 := w0.alloc (Obj.cells (nums .u32 Sha.H0.l).toArray 90 (0, 0))) (B := w0.heap.size + 1) (by rfl) (rowB_empty _ _ _ _ (by simp) rfl) (below_lit w0 _ _) (by simp) A0 _ _ (by rfl) (Kd.C_alloc (Kd.C_alloc HR0.out _) _) (by have := HSZ.out; simp; omega) l0 (by simp) ?_; intro v2 w2 H1 H2 H3; obtain ⟨g1, c1, rfl, hc1⟩ := rowB_form H1.out)
   | ((with_reducible refine gate_dst (N := 15) rfl ?_); refine wpList_append_rowB (by rfl) (.tmp 13) (.tmp 14) 22 5 (by rfl) Try.underlying22 info5 [128] (by rfl) (rowB_below H1.out (below_alloc (Below.refl _ _) _)) (H2.out.alloc H3.out _) (by have := H3.out; simp; omega) ⟨w2.heap.size, 0, none⟩ 1 1 (by rfl) rfl (cell_lit1 _ _ _ _) (by have := HSZ.out; simp; omega) L1 HL1.out ?_; intro v3 w3 K1 K2 K3; obtain ⟨g2, c2, rfl, hc2⟩ := rowB_form K1.out))
 go_loopw [4] (fun v wr => ∃ (lr : List Int) (z g c : Nat), v = .slice (some ⟨g, 0, none⟩) lr.length c ∧ z ≤ (119 - l0.length % 64) % 64 ∧ Aside0 (lr = l0 ++ 128 :: List.replicate z 0) ∧ Aside0 (rowB wr (w0.heap.size + 1) (.slice (some ⟨g, 0, none⟩) lr.length c) lr) ∧ Aside0 (Below (w0.heap.size + 1) (w0.alloc (Obj.cells (nums .u32 Sha.H0.l).toArray 90 (0, 0))) wr) ∧ Aside0 (w0.heap.size + 1 ≤ wr.heap.size))
   (fun v _ => l0.length + 200 - sliceLen v)
 case atStart => exact ⟨L1, 0, g2, c2, rfl, by omega, ⟨HL1.out⟩, K1, K2, K3⟩
 case round =>
   clear K1 K2 K3 H1 H2 H3 HL1
   obtain ⟨lr, z, g, c, rfl, hz, HLR, H1, H2, H3⟩ := hrel
   have hlen : lr.length = l0.length + 1 + z := by rw [HLR.out]; simp; omega
   have hsz2 : l0.length ≤ 1099511627776 := HSZ.out
   have l00 : (0 : Int) ≤ (lr.length : Int) := Int.natCast_nonneg _
   have l01 : (lr.length : Int) ≤ 1099511629000 := by omega
   by_cases hlt : z < (119 - l0.length % 64) % 64
   · have hd : ((lr.length : Int) % 64 != 56) = true := by rw [bne_iff_ne]; omega
     obtain ⟨lr2, hlr2⟩ : ∃ L, L = lr ++ [0] := ⟨_, rfl⟩
     have HLR2 : Aside0 (lr2 = l0 ++ 128 :: List.replicate (z + 1) 0) := ⟨by rw [hlr2, HLR.out, List.replicate_succ']; simp⟩
     have HE := Aside0.mk hlr2
     have hlen2 : lr2.length = lr.length + 1 := by rw [hlr2]; simp
     have HLEN := Aside0.mk hlen
     have HLEN2 := Aside0.mk hlen2
     clear hlen hlr2 hlen2 hsz2
     go_wp2_with ((with_reducible refine gate_dst (N := 22) rfl ?_); refine wpList_append_rowB (by rfl) (.tmp 20) (.tmp 21) 22 5 (by rfl) Try.underlying22 info5 [0] (by rfl) (rowB_below H1.out (below_alloc (Below.refl _ _) _)) (H2.out.alloc H3.out _) (by have := H3.out; simp; omega) ⟨wr.heap.size, 0, none⟩ 1 1 (by rfl) rfl (cell_lit1 _ _ _ _) (by have := HLEN.out; have := HSZ.out; simp; omega) lr2 HE.out ?_; intro v2 w2 K1 K2 K3; obtain ⟨g2, c2, rfl, hc2⟩ := rowB_form K1.out)
     go_roundw
     case rel => exact ⟨lr2, z + 1, g2, c2, rfl, by omega, HLR2, K1, K2, K3⟩
     case measure => simp [sliceLen]; have := HLEN.out; have := HLEN2.out; have := HSZ.out; omega
   · have hd : ((lr.length : Int) % 64 != 56) = false := by rw [bne_eq_false_iff_eq]; omega
     have HLR3 : Aside0 (lr = Sha.fillTo l0 ++ sizeTo (8 * (l0.length : Int)) 0) := ⟨by
       have ez : z = (119 - l0.length % 64) % 64 := by omega
       rw [HLR.out, Sha.fillTo, ez]
       simp [sizeTo]⟩
     have HFL : Aside0 ((Sha.fillTo l0).length = lr.length) := ⟨by rw [HLR3.out]; simp [sizeTo]⟩
     have HLEN : Aside0 (lr.length ≤ 1099511628000) := ⟨by omega⟩
     clear hlen hsz2 hlt hz l00 l01 HLR
     go_wp2
     go_loopw [4, 5] (fun v n wr => ∃ (lr : List Int) (j g c : Nat) (p : Int), v = .slice (some ⟨g, 0, none⟩) lr.length c ∧ n = .int .i64 p ∧ j ≤ 8 ∧ p = 7 - (j : Int) ∧ Aside0 (lr = Sha.fillTo l0 ++ sizeTo (8 * (l0.length : Int)) j) ∧ Aside0 (rowB wr (w0.heap.size + 1) (.slice (some ⟨g, 0, none⟩) lr.length c) lr) ∧ Aside0 (Below (w0.heap.size + 1) (w0.alloc (Obj.cells (nums .u32 Sha.H0.l).toArray 90 (0, 0))) wr) ∧ Aside0 (w0.heap.size + 1 ≤ wr.heap.size))
       (fun _ n _ => (intOf n + 1).toNat)
     case atStart => exact ⟨lr, 0, g, c, 7, rfl, rfl, by omega, rfl, HLR3, H1, H2, H3⟩
     case round =>
       clear H1 H2 H3 HLR3 hd
       obtain ⟨lr2, j, g, c, p, rfl, rfl, hj, hp, HLR, H1, H2, H3⟩ := hrel
       have HLEN2 : Aside0 (lr2.length = lr.length + j) := ⟨by rw [HLR.out, List.length_append, HFL.out]; simp [sizeTo, Sha.be8]; omega⟩
       have hsz2 : (l0.length : Int) ≤ 1099511627776 := by have := HSZ.out; omega
       by_cases hlt : j < 8
       · obtain ⟨q, hq⟩ : ∃ q : Nat, p = (q : Int) := ⟨p.toNat, by omega⟩
         subst hq
         have hqj : q = 7 - j := by omega
         have q7 : (q : Int) ≤ 7 := by omega
         have q0 : (0 : Int) ≤ (q : Int) := by omega
         have hd : decide ((q : Int) ≥ 0) = true := decide_eq_true q0
         obtain ⟨lr3, hlr3⟩ : ∃ L, L = lr2 ++ [(8 * (l0.length : Int)) / 2 ^ (8 * q) % 256] := ⟨_, rfl⟩
         have HLR3 : Aside0 (lr3 = Sha.fillTo l0 ++ sizeTo (8 * (l0.length : Int)) (j + 1)) := ⟨by
           rw [hlr3, HLR.out, sizeTo_succ _ j hlt, hqj]
           simp⟩
         have HE := Aside0.mk hlr3
         have HQ := Aside0.mk hqj
         have HP := Aside0.mk hp
         clear hlr3 hqj hp
         go_wp2_with ((with_reducible refine gate_dst (N := 37) rfl ?_); refine wpList_append_rowB (by rfl) (.tmp 27) (.tmp 36) 22 5 (by rfl) Try.underlying22 info5 [(8 * (l0.length : Int)) / 2 ^ (8 * q) % 256] (by rfl) (rowB_below H1.out (below_alloc (Below.refl _ _) _)) (H2.out.alloc H3.out _) (by have := H3.out; simp; omega) ⟨wr.heap.size, 0, none⟩ 1 1 (by rfl) rfl (cell_lit1 _ _ _ _) (by have := HLEN.out; have := HLEN2.out; have := HSZ.out; simp; omega) lr3 HE.out ?_; intro v2 w2 K1 K2 K3; obtain ⟨g2, c2, rfl, hc2⟩ := rowB_form K1.out)
         go_roundw
         case rel => exact ⟨lr3, j + 1, g2, c2, _, rfl, rfl, by omega, by have := HP.out; omega, HLR3, K1, K2, K3⟩
         case measure => simp [intOf]
       · have hj8 : j = 8 := by omega
         have hd : decide (p ≥ 0) = false := decide_eq_false (by omega)
         have HFU : Aside0 (lr2 = Sha.full l0) := ⟨by rw [HLR.out, hj8]; rfl⟩
         have HL2 : Aside0 (lr2.length ≤ 1099511628100) := ⟨by have := HLEN.out; have := HLEN2.out; omega⟩
         have HM : Aside0 (lr2.length % 64 = 0) := ⟨by rw [HFU.out]; exact full_mod l0⟩
         have HW := Aside0.mk (consts_world w0 wr _ H2.out H3.out)
         have HB0 : Aside0 (Below w0.heap.size w0 wr) := ⟨below_of_lit _ _ _ H2.out⟩
         have hc2 := rowB_form' H1.out
         clear HLR hp hlt hsz2 hj8 HLEN HLEN2 HFL
         go_wp2_with ((with_reducible refine gate_callee (f := 87) rfl ?_); refine goesL_ (some 38) rfl rfl Try.func87 (by kernel_rfl) rfl #[] rfl (by (try simp only [List.map_toArray, List.map_cons, List.map_nil]); first | done | rfl) ?_; (with_reducible refine (consts_calls _).mono ?_); rintro e w19 ⟨rfl, K1⟩; refine ⟨_, rfl, ?_⟩)
         obtain ⟨gk, hgk⟩ : ∃ n, n = wr.heap.size := ⟨_, rfl⟩
         have HGK : Aside0 (w0.heap.size + 1 ≤ gk) := ⟨by have := H3.out; omega⟩
         have HKC : Aside0 (∀ j, j < 64 → (wr.alloc (.cells (nums .u32 Sha.K).toArray 90)).cell? ((⟨gk, 0, none⟩ : Addr).add j) = some (.int .u32 (Sha.K.getD j 0))) := ⟨fun j hj => by rw [hgk]; exact K_cells wr j hj⟩
         rw [← hgk]
         clear hgk
         go_loopw [7] (fun v wq => ∃ (j p : Nat), v = .int .i64 (p : Int) ∧ p = 64 * j ∧ p ≤ lr2.length ∧ Aside0 (wq.heap[w0.heap.size]? = some (.cells (nums .u32 (Sha.fold lr2 j).l).toArray 90)) ∧ Aside0 (rowB wq (w0.heap.size + 1) (.slice (some ⟨g, 0, none⟩) lr2.length c) lr2) ∧ Aside0 (∀ j, j < 64 → wq.cell? ((⟨gk, 0, none⟩ : Addr).add j) = some (.int .u32 (Sha.K.getD j 0))) ∧ Aside0 (Below w0.heap.size w0 wq) ∧ Aside0 (w0.heap.size + 1 ≤ wq.heap.size))
           (fun v _ => lr2.length - (intOf v).toNat)
         case atStart => exact ⟨0, 0, rfl, rfl, by omega, ⟨blk_alloc HW.out _⟩, ⟨rowB_below H1.out (below_alloc (Below.refl _ _) _)⟩, HKC, ⟨HB0.out.alloc (by have := H3.out; omega) _⟩, ⟨by have := H3.out; simp; omega⟩⟩
         case round =>
           clear H1 H2 H3 HKC HW HB0
           obtain ⟨j, p2, rfl, hp2, hle, G1, G2, G3, G4, G5⟩ := hrel
           have hm2 := HM.out
           have hl2 := HL2.out
           by_cases hlt : p2 < lr2.length
           · have hn : p2 + 64 ≤ lr2.length := by omega
             have hd : decide ((p2 : Int) < (lr2.length : Int)) = true := decide_eq_true (by omega)
             have hw : wrap64 ((p2 : Int) + 64) = ((p2 + 64 : Nat) : Int) := by unfold wrap64; omega
             have HP2 := Aside0.mk hp2
             have hcap : p2 + 64 ≤ c := by omega
             have hw0 : (0 : Int) ≤ (p2 : Int) := by omega
             clear hm2 hl2 hp2
             have hchl : (Sha.chunk lr2 j).length = 64 := Sha.chunk_length lr2 j (by have := HP2.out; omega)
             have HCB : Aside0 (Kd.C (Kd.int .u8) wr (some ⟨g, p2, none⟩) (Sha.chunk lr2 j).length (Sha.chunk lr2 j)) := ⟨rowB_cut G2.out p2 _ (by omega) (by omega) (fun q hq => by rw [Sha.chunk_at lr2 j q (by have := HP2.out; omega) (by omega), HP2.out])⟩
             have HUB : Aside0 (u8ok (Sha.chunk lr2 j)) := ⟨by rw [HFU.out]; exact u8ok_chunk (u8ok_full HU.out) j⟩
             have HCL := Aside0.mk hchl
             clear hchl
             go_wp2_with fail
             refine (sblock_in (Sha.fold lr2 j) w0.heap.size ⟨g, p2, none⟩ (c - p2) (Sha.chunk lr2 j) Sha.K ⟨gk, 0, none⟩ 64 wr G1.out HCB.out HCL.out HUB.out (by omega) G3.out (by decide)).mono ?_
             rintro e wz ⟨rfl, Z1, Z2, Z3, Z4⟩
             have Z1 := Aside0.mk Z1; have Z2 := Aside0.mk Z2; have Z3 := Aside0.mk Z3; have Z4 := Aside0.mk Z4
             go_wp2
             rw [hw]
             clear hw
             go_roundw
             case rel => exact ⟨j + 1, p2 + 64, rfl, by have := HP2.out; omega, by omega, Z1, ⟨rowB_same G2.out (fun k h1 h2 => Z2.out k h2 (by omega))⟩, ⟨fun q hq => cell_keep_at (G3.out q hq) (fun h => Z2.out gk h (by have := HGK.out; omega))⟩, ⟨G4.out.trans Z3.out⟩, ⟨by have := G5.out; have := Z4.out; omega⟩⟩
             case measure => simp [intOf]; omega
           · have hd : decide ((p2 : Int) < (lr2.length : Int)) = false := decide_eq_false (by omega)
             obtain ⟨U, hU⟩ : ∃ U, U = Sha.fold lr2 j := ⟨_, rfl⟩
             have HUU : Aside0 (U = Sha.fold (Sha.full l0) ((Sha.full l0).length / 64)) := ⟨by rw [hU, ← HFU.out]; congr 1; omega⟩
             rw [← hU] at G1
             have hd2 : decide (p2 < lr2.length) = false := decide_eq_false hlt
             clear hU hm2 hl2 hp2 hle
             go_wp2
             go_loopw [8, 9] (fun v n wq => ∃ (lr : List Int) (i g c : Nat), v = .slice (some ⟨g, 0, none⟩) lr.length c ∧ n = .int .i64 (i : Int) ∧ i ≤ 8 ∧ Aside0 (lr = Sha.outTo U i) ∧ Aside0 (rowB wq (w0.heap.size + 1) (.slice (some ⟨g, 0, none⟩) lr.length c) lr) ∧ Aside0 (wq.heap[w0.heap.size]? = some (.cells (nums .u32 U.l).toArray 90)) ∧ Aside0 (Below w0.heap.size w0 wq) ∧ Aside0 (w0.heap.size + 1 ≤ wq.heap.size))
               (fun _ n _ => 8 - (intOf n).toNat)
             case atStart => exact ⟨[], 0, wr.heap.size, 0, rfl, rfl, by omega, ⟨rfl⟩, ⟨rowB_empty _ _ _ _ G5.out rfl⟩, ⟨blk_alloc G1.out _⟩, ⟨G4.out.alloc (by have := G5.out; omega) _⟩, ⟨by have := G5.out; simp; omega⟩⟩
             case round =>
               clear G1 G2 G3 G4 G5 HM HFU hd
               obtain ⟨lo, i, go, co, rfl, rfl, hi8, L1', G2, G1, G4, G5⟩ := hrel
               by_cases hlt : i < 8
               · have i0 : (0 : Int) ≤ (i : Int) := Int.natCast_nonneg i
                 have i1 : (i : Int) < 8 := by omega
                 have hd : decide ((i : Int) < 8) = true := decide_eq_true i1
                 obtain ⟨x, hx⟩ : ∃ x, x = U.l.getD i 0 := ⟨_, rfl⟩
                 have cI : wr.cell? ⟨w0.heap.size, i, none⟩ = some (.int .u32 x) := by
                   rw [blk_cell G1.out i, hx]
                   exact nums_at? _ _ _ _ (V8l_at U i hlt)
                 obtain ⟨lr3, hlr3⟩ : ∃ L, L = lo ++ [x / 16777216 % 256, x / 65536 % 256, x / 256 % 256, x % 256] := ⟨_, rfl⟩
                 have HLR3 : Aside0 (lr3 = Sha.outTo U (i + 1)) := ⟨by rw [hlr3, L1'.out, Sha.outTo_succ U i hlt, hx]; rfl⟩
                 have HLL : Aside0 (lo.length ≤ 32) := ⟨by rw [L1'.out, Sha.outTo_length U i hi8]; omega⟩
                 have HE := Aside0.mk hlr3
                 clear hx hlr3
                 go_wp2
                 refine start_ (n := 27) (S := fun w' => w'.cell? ⟨w0.heap.size, i, none⟩ = some (.int .u32 x)) (ds := [25]) #[false, false, false, false, false, false, false, false, false, false, false, false, false, false, false, false, false, false, false, false, false, false, false, false, false, false, false] (by kernel_rfl) rfl rfl (show wr.drew.cell? ⟨w0.heap.size, i, none⟩ = some (.int .u32 x) from cI) (fun hHeld => ?_); refine with_tabW shash_tab18 shash_bits18 (fun HT_ HW_ => ?_)
                 refine pure_ (i := 0) (N := some 58) (v := ?_) (a' := ?_) #[true, false, false, false, false, false, false, false, false, false, false, false, false, false, false, false, false, false, false, false, false, false, false, false, false, false, false] rfl rfl (any_of HT_.out (by kernel_rfl)) (fun _ _ _ h => h) (Or.inl ⟨by rfl, ?_⟩) ?_ ?_
                 rotate_left
                 · intro w'
                   go_simp
                   with_reducible rfl
                 rotate_left
                 · simp only [Act.put, sA_, s0_, s1_, i64_w, i32_w]
                   rfl
                 refine pure_ (i := 1) (N := some 59) (v := ?_) (a' := ?_) #[true, true, false, false, false, false, false, false, false, false, false, false, false, false, false, false, false, false, false, false, false, false, false, false, false, false, false] rfl rfl (any_of HT_.out (by kernel_rfl)) (fun _ _ _ h => h) (Or.inl ⟨by rfl, ?_⟩) ?_ ?_
                 rotate_left
                 · intro w'
                   go_simp
                   with_reducible rfl
                 rotate_left
                 · simp only [Act.put, sA_, s0_, s1_, i64_w, i32_w]
                   rfl
                 refine pure_ (i := 2) (N := some 60) (v := ?_) (a' := ?_) #[true, true, true, false, false, false, false, false, false, false, false, false, false, false, false, false, false, false, false, false, false, false, false, false, false, false, false] rfl rfl (any_of HT_.out (by kernel_rfl)) (fun _ _ _ h => h) (Or.inl ⟨by rfl, ?_⟩) ?_ ?_
                 rotate_left
                 · intro w'
                   go_simp
                   with_reducible rfl
                 rotate_left
                 · simp only [Act.put, sA_, s0_, s1_, i64_w, i32_w]
                   rfl
                 refine pure_ (i := 3) (N := some 61) (v := ?_) (a' := ?_) #[true, true, true, true, false, false, false, false, false, false, false, false, false, false, false, false, false, false, false, false, false, false, false, false, false, false, false] rfl rfl (any_of HT_.out (by kernel_rfl)) (fun _ _ _ h => h) (Or.inl ⟨by rfl, ?_⟩) ?_ ?_
                 rotate_left
                 · intro w'
                   go_simp
                   with_reducible rfl
                 rotate_left
                 · simp only [Act.put, sA_, s0_, s1_, i64_w, i32_w]
                   rfl
                 refine pure_ (i := 7) (N := some 65) (v := ?_) (a' := ?_) #[true, true, true, true, false, false, false, true, false, false, false, false, false, false, false, false, false, false, false, false, false, false, false, false, false, false, false] rfl rfl (any_of HT_.out (by kernel_rfl)) (fun _ _ _ h => h) (Or.inl ⟨by rfl, ?_⟩) ?_ ?_
                 rotate_left
                 · intro w'
                   go_simp
                   with_reducible rfl
                 rotate_left
                 · simp only [Act.put, sA_, s0_, s1_, i64_w, i32_w]
                   rfl
                 refine pure_ (i := 8) (N := some 66) (v := ?_) (a' := ?_) #[true, true, true, true, false, false, false, true, true, false, false, false, false, false, false, false, false, false, false, false, false, false, false, false, false, false, false] rfl rfl (any_of HT_.out (by kernel_rfl)) (fun _ _ _ h => h) (Or.inl ⟨by rfl, ?_⟩) ?_ ?_
                 rotate_left
                 · intro w'
                   go_simp
                   with_reducible rfl
                 rotate_left
                 · simp only [Act.put, sA_, s0_, s1_, i64_w, i32_w]
                   rfl
                 refine pure_ (i := 9) (N := some 67) (v := ?_) (a' := ?_) #[true, true, true, true, false, false, false, true, true, true, false, false, false, false, false, false, false, false, false, false, false, false, false, false, false, false, false] rfl rfl (any_of HT_.out (by kernel_rfl)) (fun _ _ _ h => h) (Or.inl ⟨by rfl, ?_⟩) ?_ ?_
                 rotate_left
                 · intro w'
                   go_simp
                   with_reducible rfl
                 rotate_left
                 · simp only [Act.put, sA_, s0_, s1_, i64_w, i32_w]
                   rfl
                 refine pure_ (i := 13) (N := some 71) (v := ?_) (a' := ?_) #[true, true, true, true, false, false, false, true, true, true, false, false, false, true, false, false, false, false, false, false, false, false, false, false, false, false, false] rfl rfl (any_of HT_.out (by kernel_rfl)) (fun _ _ _ h => h) (Or.inl ⟨by rfl, ?_⟩) ?_ ?_
                 rotate_left
                 · intro w'
                   go_simp
                   with_reducible rfl
                 rotate_left
                 · simp only [Act.put, sA_, s0_, s1_, i64_w, i32_w]
                   rfl
                 refine pure_ (i := 14) (N := some 72) (v := ?_) (a' := ?_) #[true, true, true, true, false, false, false, true, true, true, false, false, false, true, true, false, false, false, false, false, false, false, false, false, false, false, false] rfl rfl (any_of HT_.out (by kernel_rfl)) (fun _ _ _ h => h) (Or.inl ⟨by rfl, ?_⟩) ?_ ?_
                 rotate_left
                 · intro w'
                   go_simp
                   with_reducible rfl
                 rotate_left
                 · simp only [Act.put, sA_, s0_, s1_, i64_w, i32_w]
                   rfl
                 refine pure_ (i := 15) (N := some 73) (v := ?_) (a' := ?_) #[true, true, true, true, false, false, false, true, true, true, false, false, false, true, true, true, false, false, false, false, false, false, false, false, false, false, false] rfl rfl (any_of HT_.out (by kernel_rfl)) (fun _ _ _ h => h) (Or.inl ⟨by rfl, ?_⟩) ?_ ?_
                 rotate_left
                 · intro w'
                   go_simp
                   with_reducible rfl
                 rotate_left
                 · simp only [Act.put, sA_, s0_, s1_, i64_w, i32_w]
                   rfl
                 refine pure_ (i := 19) (N := some 77) (v := ?_) (a' := ?_) #[true, true, true, true, false, false, false, true, true, true, false, false, false, true, true, true, false, false, false, true, false, false, false, false, false, false, false] rfl rfl (any_of HT_.out (by kernel_rfl)) (fun _ _ _ h => h) (Or.inl ⟨by rfl, ?_⟩) ?_ ?_
                 rotate_left
                 · intro w'
                   go_simp
                   with_reducible rfl
                 rotate_left
                 · simp only [Act.put, sA_, s0_, s1_, i64_w, i32_w]
                   rfl
                 refine pure_ (i := 20) (N := some 78) (v := ?_) (a' := ?_) #[true, true, true, true, false, false, false, true, true, true, false, false, false, true, true, true, false, false, false, true, true, false, false, false, false, false, false] rfl rfl (any_of HT_.out (by kernel_rfl)) (fun _ _ _ h => h) (Or.inl ⟨by rfl, ?_⟩) ?_ ?_
                 rotate_left
                 · intro w'
                   go_simp
                   with_reducible rfl
                 rotate_left
                 · simp only [Act.put, sA_, s0_, s1_, i64_w, i32_w]
                   rfl
                 refine pure_ (i := 21) (N := some 79) (v := ?_) (a' := ?_) #[true, true, true, true, false, false, false, true, true, true, false, false, false, true, true, true, false, false, false, true, true, true, false, false, false, false, false] rfl rfl (any_of HT_.out (by kernel_rfl)) (fun _ _ _ h => h) (Or.inl ⟨by rfl, ?_⟩) ?_ ?_
                 rotate_left
                 · intro w'
                   go_simp
                   with_reducible rfl
                 rotate_left
                 · simp only [Act.put, sA_, s0_, s1_, i64_w, i32_w]
                   rfl
                 refine take_ (i := 4) (N := some 62) (v := ?_) (a' := ?_) #[true, true, true, true, true, false, false, true, true, true, false, false, false, true, true, true, false, false, false, true, true, true, false, false, false, false, false] rfl rfl (take_ofW HT_.out HW_.out (by kernel_rfl)) (fun _ _ _ h => h) (Or.inl ⟨by rfl, ?_⟩) hHeld ?_ ?_
                 rotate_left
                 · rintro w' s0
                   go_simp
                   with_reducible rfl
                 rotate_left
                 · simp only [Act.put, sA_, s0_, s1_, i64_w, i32_w]
                   rfl
                 refine pure_ (i := 5) (N := some 63) (v := ?_) (a' := ?_) #[true, true, true, true, true, true, false, true, true, true, false, false, false, true, true, true, false, false, false, true, true, true, false, false, false, false, false] rfl rfl (any_of HT_.out (by kernel_rfl)) (fun _ _ _ h => h) (Or.inl ⟨by rfl, ?_⟩) ?_ ?_
                 rotate_left
                 · intro w'
                   go_simp
                   with_reducible rfl
                 rotate_left
                 · simp only [Act.put, sA_, s0_, s1_, i64_w, i32_w]
                   rfl
                 refine pure_ (i := 6) (N := some 64) (v := ?_) (a' := ?_) #[true, true, true, true, true, true, true, true, true, true, false, false, false, true, true, true, false, false, false, true, true, true, false, false, false, false, false] rfl rfl (any_of HT_.out (by kernel_rfl)) (fun _ _ _ h => h) (Or.inl ⟨by rfl, ?_⟩) ?_ ?_
                 rotate_left
                 · intro w'
                   go_simp
                   with_reducible rfl
                 rotate_left
                 · simp only [Act.put, sA_, s0_, s1_, i64_w, i32_w]
                   rfl
                 refine take_ (i := 10) (N := some 68) (v := ?_) (a' := ?_) #[true, true, true, true, true, true, true, true, true, true, true, false, false, true, true, true, false, false, false, true, true, true, false, false, false, false, false] rfl rfl (take_ofW HT_.out HW_.out (by kernel_rfl)) (fun _ _ _ h => h) (Or.inl ⟨by rfl, ?_⟩) hHeld ?_ ?_
                 rotate_left
                 · rintro w' s0
                   go_simp
                   with_reducible rfl
                 rotate_left
                 · simp only [Act.put, sA_, s0_, s1_, i64_w, i32_w]
                   rfl
                 refine pure_ (i := 11) (N := some 69) (v := ?_) (a' := ?_) #[true, true, true, true, true, true, true, true, true, true, true, true, false, true, true, true, false, false, false, true, true, true, false, false, false, false, false] rfl rfl (any_of HT_.out (by kernel_rfl)) (fun _ _ _ h => h) (Or.inl ⟨by rfl, ?_⟩) ?_ ?_
                 rotate_left
                 · intro w'
                   go_simp
                   with_reducible rfl
                 rotate_left
                 · simp only [Act.put, sA_, s0_, s1_, i64_w, i32_w]
                   rfl
                 refine pure_ (i := 12) (N := some 70) (v := ?_) (a' := ?_) #[true, true, true, true, true, true, true, true, true, true, true, true, true, true, true, true, false, false, false, true, true, true, false, false, false, false, false] rfl rfl (any_of HT_.out (by kernel_rfl)) (fun _ _ _ h => h) (Or.inl ⟨by rfl, ?_⟩) ?_ ?_
                 rotate_left
                 · intro w'
                   go_simp
                   with_reducible rfl
                 rotate_left
                 · simp only [Act.put, sA_, s0_, s1_, i64_w, i32_w]
                   rfl
                 refine take_ (i := 16) (N := some 74) (v := ?_) (a' := ?_) #[true, true, true, true, true, true, true, true, true, true, true, true, true, true, true, true, true, false, false, true, true, true, false, false, false, false, false] rfl rfl (take_ofW HT_.out HW_.out (by kernel_rfl)) (fun _ _ _ h => h) (Or.inl ⟨by rfl, ?_⟩) hHeld ?_ ?_
                 rotate_left
                 · rintro w' s0
                   go_simp
                   with_reducible rfl
                 rotate_left
                 · simp only [Act.put, sA_, s0_, s1_, i64_w, i32_w]
                   rfl
                 refine pure_ (i := 17) (N := some 75) (v := ?_) (a' := ?_) #[true, true, true, true, true, true, true, true, true, true, true, true, true, true, true, true, true, true, false, true, true, true, false, false, false, false, false] rfl rfl (any_of HT_.out (by kernel_rfl)) (fun _ _ _ h => h) (Or.inl ⟨by rfl, ?_⟩) ?_ ?_
                 rotate_left
                 · intro w'
                   go_simp
                   with_reducible rfl
                 rotate_left
                 · simp only [Act.put, sA_, s0_, s1_, i64_w, i32_w]
                   rfl
                 refine pure_ (i := 18) (N := some 76) (v := ?_) (a' := ?_) #[true, true, true, true, true, true, true, true, true, true, true, true, true, true, true, true, true, true, true, true, true, true, false, false, false, false, false] rfl rfl (any_of HT_.out (by kernel_rfl)) (fun _ _ _ h => h) (Or.inl ⟨by rfl, ?_⟩) ?_ ?_
                 rotate_left
                 · intro w'
                   go_simp
                   with_reducible rfl
                 rotate_left
                 · simp only [Act.put, sA_, s0_, s1_, i64_w, i32_w]
                   rfl
                 refine take_ (i := 22) (N := some 80) (v := ?_) (a' := ?_) #[true, true, true, true, true, true, true, true, true, true, true, true, true, true, true, true, true, true, true, true, true, true, true, false, false, false, false] rfl rfl (take_ofW HT_.out HW_.out (by kernel_rfl)) (fun _ _ _ h => h) (Or.inl ⟨by rfl, ?_⟩) hHeld ?_ ?_
                 rotate_left
                 · rintro w' s0
                   go_simp
                   with_reducible rfl
                 rotate_left
                 · simp only [Act.put, sA_, s0_, s1_, i64_w, i32_w]
                   rfl
                 refine pure_ (i := 23) (N := some 81) (v := ?_) (a' := ?_) #[true, true, true, true, true, true, true, true, true, true, true, true, true, true, true, true, true, true, true, true, true, true, true, true, false, false, false] rfl rfl (any_of HT_.out (by kernel_rfl)) (fun _ _ _ h => h) (Or.inl ⟨by rfl, ?_⟩) ?_ ?_
                 rotate_left
                 · intro w'
                   go_simp
                   with_reducible rfl
                 rotate_left
                 · simp only [Act.put, sA_, s0_, s1_, i64_w, i32_w]
                   rfl
                 refine one_ (i := 24) (N := some 82) #[true, true, true, true, true, true, true, true, true, true, true, true, true, true, true, true, true, true, true, true, true, true, true, true, true, false, false] rfl rfl (one_of HT_.out (by kernel_rfl)) (by decide) (fun K hK => ?_)
                 go_simp
                 refine hK.out _ _ (cell_alloc_keep hHeld _) (fun hHeld => ?_)
                 clear hK K
                 refine last_ (i := 25) (N := some 83) #[true, true, true, true, true, true, true, true, true, true, true, true, true, true, true, true, true, true, true, true, true, true, true, true, true, true, false] rfl rfl (one_of HT_.out (by kernel_rfl)) (by decide) (fun K hK => ?_)
                 refine opWp_append_rowB (.tmp 58) (.tmp 82) 22 5 (by rfl) Try.underlying22 info5 [x / 16777216 % 256, x / 65536 % 256, x / 256 % 256, x % 256] (by rfl) (rowB_below G2.out ((Below.refl wr.heap.size wr).drew.alloc (Nat.le_refl _) _)) (w0 := wr) ((Below.refl (w0.heap.size + 1) wr).drew.alloc G5.out _) (by have := G5.out; show w0.heap.size + 1 ≤ (wr.alloc _).heap.size; simp; omega) ⟨wr.heap.size, 0, none⟩ 4 4 (by rfl) rfl (cell_lit4 wr.drew _ _ _ _ _ _) (by have := HLL.out; simp; omega) lr3 HE.out ?_
                 intro v2 w2 K1 K2 K3
                 obtain ⟨g2, c2, rfl, hc2⟩ := rowB_form K1.out
                 refine hK.out _ _ ?_
                 clear hK K
                 refine norm_ (a' := ?_) ?_ ?_
                 rotate_left
                 · show Act.put _ (some 83) _ = _
                   simp only [Act.put, sA_, s0_, s1_, i64_w, i32_w]
                   rfl
                 refine pure_ (i := 26) (N := some 8) (v := ?_) (a' := ?_) #[true, true, true, true, true, true, true, true, true, true, true, true, true, true, true, true, true, true, true, true, true, true, true, true, true, true, true] rfl rfl (any_of HT_.out (by kernel_rfl)) (fun _ _ _ h => h) (Or.inl ⟨by rfl, ?_⟩) ?_ ?_
                 rotate_left
                 · intro w'
                   go_simp
                   with_reducible rfl
                 rotate_left
                 · simp only [Act.put, sA_, s0_, s1_, i64_w, i32_w]
                   rfl
                 refine done_ (done_of HT_.out (by kernel_rfl)) ?_
                 go_wp2
                 go_roundw
                 case rel => exact ⟨lr3, i + 1, g2, c2, rfl, by go_num, by omega, HLR3, K1, ⟨(K2.out.block w0.heap.size (by omega)).trans G1.out⟩, ⟨G4.out.trans (K2.out.mono (by omega))⟩, K3⟩
                 case measure => simp [intOf]; omega
               · have hd : decide ((i : Int) < 8) = false := decide_eq_false (by omega)
                 have HFI : Aside0 (lo = Sha.shaL l0) := ⟨by rw [L1'.out, show i = 8 from by omega, HUU.out]; rfl⟩
                 have HLL : Aside0 (lo.length ≤ 32) := ⟨by rw [L1'.out, Sha.outTo_length U i hi8]; omega⟩
                 clear L1'
                 have ks := Kd.C_string (P := Try.prog) (dst := 9) (src := 22) (c := co) Try.underlying22 Try.underlying5 Try.underlying9 (rowB_C G2.out (by have := HLL.out; omega))
                 go_wp2
                 go_ret
                 exact ⟨congrArg (fun l => Ending.returned (.string (strOfNums l))) HFI.out, G4.out⟩
def spec_l03Hmac.f (l0 l1 : List Int) : Option ByteArray := if u8b l0 = true ∧ u8b l1 = true then (if l0.length ≤ 1099511627776 ∧ l1.length ≤ 1073741824 then some (strOfNums (Sha.hmacL l0 l1)) else none) else none
theorem maskL_length (key : List Int) (m : Int) : (Sha.maskL key m).length = 64 := by simp [Sha.maskL]
theorem maskL_at (key : List Int) (m : Int) (j : Nat) (hj : j < 64) : (Sha.maskL key m).getD j 0 = Go.bits .xor .u8 (key.getD j 0) m := by
 simp [Sha.maskL, List.getD_eq_getElem?_getD, hj]
theorem u8ok_four (n : Int) : u8ok (Sha.four n) := fun x hx => by
 simp only [Sha.four, List.mem_cons, List.not_mem_nil, or_false] at hx
 omega
theorem u8ok_shaL (l : List Int) : u8ok (Sha.shaL l) := fun x hx => by
 obtain ⟨y, _, h⟩ := List.mem_flatMap.1 hx
 exact u8ok_four y x h
theorem shaL_length (l : List Int) : (Sha.shaL l).length = 32 := by simp [Sha.shaL, Sha.four, Sha.V8.l]
theorem u8ok_hkey {l : List Int} (h : u8ok l) : u8ok (Sha.hkey l) := by
 unfold Sha.hkey
 split
 · exact u8ok_shaL l
 · exact h
theorem bits_u8 (x m : Int) (hx : 0 ≤ x ∧ x ≤ 255) (hm : m = 54 ∨ m = 92) : 0 ≤ Go.bits .xor .u8 x m ∧ Go.bits .xor .u8 x m ≤ 255 := by
 have h1 : ∀ n : Fin 256, 0 ≤ Go.bits .xor .u8 ((n.val : Nat) : Int) 54 ∧ Go.bits .xor .u8 ((n.val : Nat) : Int) 54 ≤ 255 := by decide +kernel
 have h2 : ∀ n : Fin 256, 0 ≤ Go.bits .xor .u8 ((n.val : Nat) : Int) 92 ∧ Go.bits .xor .u8 ((n.val : Nat) : Int) 92 ≤ 255 := by decide +kernel
 have e : ((⟨x.toNat, by omega⟩ : Fin 256).val : Int) = x := by simp; omega
 rcases hm with rfl | rfl
 · have := h1 ⟨x.toNat, by omega⟩
   rwa [e] at this
 · have := h2 ⟨x.toNat, by omega⟩
   rwa [e] at this
theorem u8ok_mask (l : List Int) (m : Int) (hm : m = 54 ∨ m = 92) (h : u8ok l) : u8ok (Sha.maskL l m) := fun x hx => by
 simp only [Sha.maskL, List.mem_map] at hx
 obtain ⟨i, _, rfl⟩ := hx
 refine bits_u8 _ _ ?_ hm
 rw [List.getD_eq_getElem?_getD]
 cases e : l[i]? with
 | none => exact ⟨by decide, by decide⟩
 | some y => exact h y (List.mem_of_getElem? e)
set_option maxHeartbeats 8000000 in
set_option maxRecDepth 100000 in
theorem spec_l03Hmac_in (A0 : Option Addr) (c0 : Nat) (l0 : List Int) (A1 : Option Addr) (c1 : Nat) (l1 : List Int) (w0 : World) (hr0 : Kd.C (Kd.int .u8) w0 A0 l0.length l0) (hc0 : l0.length ≤ c0) (hr1 : Kd.C (Kd.int .u8) w0 A1 l1.length l1) (hc1 : l1.length ≤ c1) (hu0 : u8ok l0) (hu1 : u8ok l1) (hl0 : l0.length ≤ 1099511627776) (hl1 : l1.length ≤ 1073741824) :
   Calls Try.prog 70 #[.slice A0 l0.length c0, .slice A1 l1.length c1] w0 fun e w' => e = .returned (.string (strOfNums (Sha.hmacL l0 l1))) ∧ Below w0.heap.size w0 w' := by
 have HR1 := Aside0.mk hr1
 have HU1 := Aside0.mk hu1
 have HL1 := Aside0.mk hl1
 have kmk : ∀ V : World, (Instr.makeSlice 22 (.int .i64 64) (.int .i64 64)).run Try.prog V = .ok (.slice (some ⟨V.heap.size, 0, none⟩) 64 64) (V.alloc (.cells (nums .u8 (List.replicate 64 0)).toArray 5)) := fun V => run_make_nums (m := 64) Try.underlying22 (.inl (by kernel_rfl)) (by decide) V
 obtain ⟨MI, hMI⟩ : ∃ M, M = Sha.maskL (Sha.hkey l0) 54 := ⟨_, rfl⟩
 obtain ⟨MO, hMO⟩ : ∃ M, M = Sha.maskL (Sha.hkey l0) 92 := ⟨_, rfl⟩
 have HMac : Aside0 (Sha.hmacL l0 l1 = Sha.shaL (MO ++ Sha.shaL (MI ++ l1))) := ⟨by rw [hMI, hMO]; rfl⟩
 have HMI : Aside0 (MI.length = 64) := ⟨by rw [hMI, maskL_length]⟩
 have HMO : Aside0 (MO.length = 64) := ⟨by rw [hMO, maskL_length]⟩
 have HMIu : Aside0 (u8ok MI) := ⟨by rw [hMI]; exact u8ok_mask _ _ (by simp) (u8ok_hkey hu0)⟩
 have HMOu : Aside0 (u8ok MO) := ⟨by rw [hMO]; exact u8ok_mask _ _ (by simp) (u8ok_hkey hu0)⟩
 have HIat : Aside0 (∀ j, j < 64 → MI.getD j 0 = Go.bits .xor .u8 ((Sha.hkey l0).getD j 0) 54) := ⟨fun j hj => by rw [hMI]; exact maskL_at _ _ j hj⟩
 have HOat : Aside0 (∀ j, j < 64 → MO.getD j 0 = Go.bits .xor .u8 ((Sha.hkey l0).getD j 0) 92) := ⟨fun j hj => by rw [hMO]; exact maskL_at _ _ j hj⟩
 clear hr1 hu1 hl1 hc1 hMI hMO
 by_cases hlong : 64 < l0.length
 · have hd : decide ((l0.length : Int) > 64) = true := decide_eq_true (by omega)
   have HK0 : Aside0 (Sha.hkey l0 = Sha.shaL l0) := ⟨by rw [Sha.hkey, if_pos hlong]⟩
   go_enter Try.func70, Try.ntmps70
   go_wp2_with fail
   refine (spec_l03Hash_in A0 c0 l0 w0 hr0 hc0 hu0 hl0).mono ?_
   rintro e w1 ⟨rfl, hb1⟩
   have kc := Lib.run_convert_string_bytes (P := Try.prog) w1 9 22 5 (strOfNums (Sha.shaL l0)) Try.underlying9 Try.underlying22 Try.underlying5
   have HRB := Aside0.mk (conv_rowB w1 w1.heap.size 5 (strOfNums (Sha.shaL l0)) (Nat.le_refl _))
   have HBW : Aside0 (Below w0.heap.size w0 (Lib.bytesWorld w1 5 (strOfNums (Sha.shaL l0)))) := ⟨bytes_below hb1 hb1.size _ _⟩
   have HSW : Aside0 (w0.heap.size ≤ (Lib.bytesWorld w1 5 (strOfNums (Sha.shaL l0))).heap.size) := ⟨by rw [Lib.bytesWorld_size]; have := hb1.size; omega⟩
   generalize hW1 : Lib.bytesWorld w1 5 (strOfNums (Sha.shaL l0)) = W1 at *
   clear hW1
   obtain ⟨cK, hcK⟩ : ∃ c, c = grownCap w1 (strOfNums (Sha.shaL l0)).size 0 5 := ⟨_, rfl⟩
   rw [← hcK] at kc HRB
   have hsz : (strOfNums (Sha.shaL l0)).size = 32 := by rw [← bytesL_length, bytesL_str _ (u8ok_shaL l0), shaL_length]
   rw [hsz] at kc HRB
   rw [bytesL_str _ (u8ok_shaL l0)] at HRB
   generalize w1.heap.size = gk at kc HRB
   clear hcK hsz hr0 hu0 hl0 hlong hb1
   go_wp2
   clear kc
   go_loopw [7] (fun i wr => ∃ j : Nat, j ≤ 64 ∧ i = .int .i64 (j : Int) ∧ Aside0 (wr.heap[W1.heap.size]? = some (.cells (nums .u8 (MI.take j ++ (List.replicate 64 (0 : Int)).drop j)).toArray 5)) ∧ Aside0 (wr.heap[W1.heap.size + 1]? = some (.cells (nums .u8 (MO.take j ++ (List.replicate 64 (0 : Int)).drop j)).toArray 5)) ∧ Aside0 (Below W1.heap.size W1 wr) ∧ Aside0 (W1.heap.size + 2 ≤ wr.heap.size)) (fun i _ => 64 - (intOf i).toNat)
   case atStart => exact ⟨0, by omega, rfl, ⟨blk_alloc (blk_new W1 _) _⟩, ⟨blk_newB W1 _ _⟩, ⟨below_alloc (below_alloc (Below.refl _ _) _) _⟩, ⟨by simp⟩⟩
   case round =>
     clear kmk
     obtain ⟨j, hj, rfl, G1, G2, HB, HS⟩ := hrel
     by_cases hlt : j < 64
     · have j0 : (0 : Int) ≤ (j : Int) := Int.natCast_nonneg j
       have j1 : (j : Int) < 64 := by omega
       have hd1 : decide ((j : Int) < 64) = true := decide_eq_true j1
       have cI : wr.cell? ⟨W1.heap.size, j, none⟩ = some (.int .u8 0) := by
         rw [blk_cell G1.out j]
         exact nums_at? _ _ _ _ (by rw [td_at MI _ (by rw [HMI.out]; rfl) j (by rw [HMI.out]; exact hlt)]; rw [zeros_getD])
       have cO : wr.cell? ⟨W1.heap.size + 1, j, none⟩ = some (.int .u8 0) := by
         rw [blk_cell G2.out j]
         exact nums_at? _ _ _ _ (by rw [td_at MO _ (by rw [HMO.out]; rfl) j (by rw [HMO.out]; exact hlt)]; rw [zeros_getD])
       have zI := blk_frozen G1.out j
       have zO := blk_frozen G2.out j
       have TI := Aside0.mk (td_set MI (List.replicate 64 (0 : Int)) (by rw [HMI.out]; rfl) j (by rw [HMI.out]; exact hlt))
       have TO := Aside0.mk (td_set MO (List.replicate 64 (0 : Int)) (by rw [HMO.out]; rfl) j (by rw [HMO.out]; exact hlt))
       have hne : W1.heap.size ≠ W1.heap.size + 1 := by omega
       by_cases hk : j < 32
       · have hdk : decide ((j : Int) < (32 : Int)) = true := decide_eq_true (by omega)
         obtain ⟨x, hx⟩ : ∃ x, x = (Sha.shaL l0).getD j 0 := ⟨_, rfl⟩
         have cK : wr.cell? ⟨gk, j, none⟩ = some (.int .u8 x) := by rw [hx]; exact rowB_cell (rowB_below HRB.out HB.out) j (by rw [shaL_length]; exact hk)
         have HX : Aside0 ((Sha.hkey l0).getD j 0 = x) := ⟨by rw [HK0.out, hx]⟩
         clear hx
         go_wp2
         go_roundw
         case rel =>
           refine ⟨j + 1, by omega, by go_num, ⟨?_⟩, ⟨?_⟩, ⟨below_set (below_set HB.out (Nat.le_refl _)) (Nat.le_succ _)⟩, ⟨by have := HS.out; simpa using this⟩⟩
           · rw [← TI.out, HIat.out j hlt, HX.out, ← nums_set]
             exact blk_far (blk_set G1.out j _) hne _
           · rw [← TO.out, HOat.out j hlt, HX.out, ← nums_set]
             exact blk_set (blk_far G2.out (Ne.symm hne) _) j _
         case measure => simp [intOf]; omega
       · have hdk : decide ((j : Int) < (32 : Int)) = false := decide_eq_false (by omega)
         have HX : Aside0 ((Sha.hkey l0).getD j 0 = 0) := ⟨by rw [HK0.out, List.getD_eq_getElem?_getD, List.getElem?_eq_none (by rw [shaL_length]; omega)]; rfl⟩
         go_wp2
         go_roundw
         case rel =>
           refine ⟨j + 1, by omega, by go_num, ⟨?_⟩, ⟨?_⟩, ⟨below_set (below_set HB.out (Nat.le_refl _)) (Nat.le_succ _)⟩, ⟨by have := HS.out; simpa using this⟩⟩
           · rw [← TI.out, HIat.out j hlt, HX.out, ← nums_set]
             exact blk_far (blk_set G1.out j _) hne _
           · rw [← TO.out, HOat.out j hlt, HX.out, ← nums_set]
             exact blk_set (blk_far G2.out (Ne.symm hne) _) j _
         case measure => simp [intOf]; omega
     · have hd1 : decide ((j : Int) < 64) = false := decide_eq_false (by omega)
       have eI : MI.take j ++ (List.replicate 64 (0 : Int)).drop j = MI := by
         rw [List.take_of_length_le (by rw [HMI.out]; omega), List.drop_eq_nil_of_le (by rw [List.length_replicate]; omega), List.append_nil]
       have eO : MO.take j ++ (List.replicate 64 (0 : Int)).drop j = MO := by
         rw [List.take_of_length_le (by rw [HMO.out]; omega), List.drop_eq_nil_of_le (by rw [List.length_replicate]; omega), List.append_nil]
       rw [eI] at G1
       rw [eO] at G2
       clear eI eO
       have HRI : Aside0 (rowB wr W1.heap.size (.slice (some ⟨W1.heap.size, 0, none⟩) MI.length 64) MI) := ⟨by have h := rowB_blk (B := W1.heap.size) G1.out (Nat.le_refl _); rw [HMI.out] at h; rw [HMI.out]; exact h⟩
       have HC1 : Aside0 (Kd.C (Kd.int .u8) wr A1 l1.length l1) := ⟨Kd.C_below HR1.out (HBW.out.trans (HB.out.mono HSW.out))⟩
       obtain ⟨lI, hlI⟩ : ∃ L, L = MI ++ l1 := ⟨_, rfl⟩
       have HLI := Aside0.mk hlI
       have HUI : Aside0 (u8ok lI) := ⟨by rw [hlI]; exact u8ok_append HMIu.out HU1.out⟩
       have HLIl : Aside0 (lI.length ≤ 1099511627776) := ⟨by rw [hlI, List.length_append, HMI.out]; have := HL1.out; omega⟩
       clear hlI
       go_wp2_with ((with_reducible refine gate_dst (N := 42) rfl ?_); refine wpList_append_rowB2 (by rfl) (.tmp 40) (.tmp 41) 22 5 (by rfl) Try.underlying22 info5 (B := W1.heap.size) (n := 64) (l := MI) l1 (by rfl) HMI.out.symm HRI.out (by have := HS.out; omega) A1 l1.length c1 (by rfl) HC1.out (by have := HMI.out; have := HL1.out; omega) lI HLI.out ?_; intro v2 w2 K1 K2 K3; obtain ⟨g2, c2, rfl, hc2⟩ := rowB_form K1.out)
       refine (spec_l03Hash_in (some ⟨g2, 0, none⟩) c2 lI w2 (rowB_C K1.out (by have := HLIl.out; omega)) hc2 HUI.out HLIl.out).mono ?_
       rintro e w3 ⟨rfl, hb3⟩
       have HB3 : Aside0 (Below W1.heap.size W1 w3) := ⟨(HB.out.trans (K2.out.mono (by have := HS.out; omega))).trans (hb3.mono (Nat.le_trans (Nat.le_trans (by have := HS.out; omega) K2.out.size) (Nat.le_refl _)))⟩
       have HS3 : Aside0 (W1.heap.size + 2 ≤ w3.heap.size) := ⟨by have h1 := HS.out; have h2 := K2.out.size; have h3 := hb3.size; omega⟩
       have G3 : Aside0 (w3.heap[W1.heap.size + 1]? = some (.cells (nums .u8 MO).toArray 5)) := ⟨(hb3.block _ (by have h1 := HS.out; have h2 := K2.out.size; omega)).trans ((K3.out _ (by have h1 := HS.out; omega) (by omega)).trans G2.out)⟩
       have HRO : Aside0 (rowB w3 W1.heap.size (.slice (some ⟨W1.heap.size + 1, 0, none⟩) 64 64) MO) := ⟨by have h := rowB_blk (B := W1.heap.size) G3.out (Nat.le_succ _); rw [HMO.out] at h; exact h⟩
       obtain ⟨lO, hlO⟩ : ∃ L, L = MO ++ bytesL (strOfNums (Sha.shaL lI)) := ⟨_, rfl⟩
       have HLO := Aside0.mk hlO
       have eO : lO = MO ++ Sha.shaL lI := by rw [hlO, bytesL_str _ (u8ok_shaL lI)]
       have HUO : Aside0 (u8ok lO) := ⟨by rw [eO]; exact u8ok_append HMOu.out (u8ok_shaL lI)⟩
       have HLOl : Aside0 (lO.length ≤ 1099511627776) := ⟨by rw [eO, List.length_append, HMO.out, shaL_length]; decide⟩
       have HSZ : Aside0 ((strOfNums (Sha.shaL lI)).size = 32) := ⟨by rw [← bytesL_length, bytesL_str _ (u8ok_shaL lI), shaL_length]⟩
       have HFIN : Aside0 (Sha.hmacL l0 l1 = Sha.shaL lO) := ⟨by rw [HMac.out, eO, HLI.out]⟩
       clear hlO eO hb3 K1 K2 K3 G1 G2 HB HS
       go_wp2_with ((with_reducible refine gate_dst (N := 44) rfl ?_); refine wpList_append_rowB_string (by rfl) (.tmp 39) (.tmp 43) 22 9 5 (by rfl) Try.underlying22 Try.underlying9 info5 (strOfNums (Sha.shaL lI)) (by rfl) HRO.out HB3.out (by have := HS3.out; omega) (by rfl) (by have := HMO.out; have := HSZ.out; omega) lO HLO.out ?_; intro v4 w4 K1 K2 K3; obtain ⟨g4, c4, rfl, hc4⟩ := rowB_form K1.out)
       refine (spec_l03Hash_in (some ⟨g4, 0, none⟩) c4 lO w4 (rowB_C K1.out (by have := HLOl.out; omega)) hc4 HUO.out HLOl.out).mono ?_
       rintro e w5 ⟨rfl, hb5⟩
       have HB5 : Aside0 (Below w0.heap.size w0 w5) := ⟨HBW.out.trans ((K2.out.trans (hb5.mono K3.out)).mono HSW.out)⟩
       clear hb5
       go_wp2
       go_ret
       exact ⟨congrArg (fun l => Ending.returned (.string (strOfNums l))) HFIN.out.symm, HB5.out⟩
 · have hd : decide ((l0.length : Int) > 64) = false := decide_eq_false (by omega)
   have HK0 : Aside0 (Sha.hkey l0 = l0) := ⟨by rw [Sha.hkey, if_neg hlong]⟩
   have HR0 := Aside0.mk hr0
   have HU0 := Aside0.mk hu0
   have hl64 : l0.length ≤ 64 := by omega
   clear hr0 hu0 hl0 hlong
   go_enter Try.func70, Try.ntmps70
   go_wp2
   go_loopw [7] (fun i wr => ∃ j : Nat, j ≤ 64 ∧ i = .int .i64 (j : Int) ∧ Aside0 (wr.heap[w0.heap.size]? = some (.cells (nums .u8 (MI.take j ++ (List.replicate 64 (0 : Int)).drop j)).toArray 5)) ∧ Aside0 (wr.heap[w0.heap.size + 1]? = some (.cells (nums .u8 (MO.take j ++ (List.replicate 64 (0 : Int)).drop j)).toArray 5)) ∧ Aside0 (Below w0.heap.size w0 wr) ∧ Aside0 (w0.heap.size + 2 ≤ wr.heap.size)) (fun i _ => 64 - (intOf i).toNat)
   case atStart => exact ⟨0, by omega, rfl, ⟨blk_alloc (blk_new w0 _) _⟩, ⟨blk_newB w0 _ _⟩, ⟨below_alloc (below_alloc (Below.refl _ _) _) _⟩, ⟨by simp⟩⟩
   case round =>
     clear kmk
     obtain ⟨j, hj, rfl, G1, G2, HB, HS⟩ := hrel
     by_cases hlt : j < 64
     · have j0 : (0 : Int) ≤ (j : Int) := Int.natCast_nonneg j
       have j1 : (j : Int) < 64 := by omega
       have hd1 : decide ((j : Int) < 64) = true := decide_eq_true j1
       have cI : wr.cell? ⟨w0.heap.size, j, none⟩ = some (.int .u8 0) := by
         rw [blk_cell G1.out j]
         exact nums_at? _ _ _ _ (by rw [td_at MI _ (by rw [HMI.out]; rfl) j (by rw [HMI.out]; exact hlt)]; rw [zeros_getD])
       have cO : wr.cell? ⟨w0.heap.size + 1, j, none⟩ = some (.int .u8 0) := by
         rw [blk_cell G2.out j]
         exact nums_at? _ _ _ _ (by rw [td_at MO _ (by rw [HMO.out]; rfl) j (by rw [HMO.out]; exact hlt)]; rw [zeros_getD])
       have zI := blk_frozen G1.out j
       have zO := blk_frozen G2.out j
       have TI := Aside0.mk (td_set MI (List.replicate 64 (0 : Int)) (by rw [HMI.out]; rfl) j (by rw [HMI.out]; exact hlt))
       have TO := Aside0.mk (td_set MO (List.replicate 64 (0 : Int)) (by rw [HMO.out]; rfl) j (by rw [HMO.out]; exact hlt))
       have hne : w0.heap.size ≠ w0.heap.size + 1 := by omega
       by_cases hk : j < l0.length
       · have hdk : decide ((j : Int) < (l0.length : Int)) = true := decide_eq_true (by omega)
         obtain ⟨ad, rfl⟩ : ∃ ad, A0 = some ad := by obtain ⟨ad, e, _⟩ := HR0.out.2.2 (by omega); exact ⟨ad, e⟩
         obtain ⟨x, hx⟩ : ∃ x, x = l0.getD j 0 := ⟨_, rfl⟩
         have cK : wr.cell? (ad.add j) = some (.int .u8 x) := by rw [hx]; exact C_u8_cell (Kd.C_below HR0.out HB.out) rfl j hk
         have HX : Aside0 ((Sha.hkey l0).getD j 0 = x) := ⟨by rw [HK0.out, hx]⟩
         clear hx
         go_wp2
         go_roundw
         case rel =>
           refine ⟨j + 1, by omega, by go_num, ⟨?_⟩, ⟨?_⟩, ⟨below_set (below_set HB.out (Nat.le_refl _)) (Nat.le_succ _)⟩, ⟨by have := HS.out; simpa using this⟩⟩
           · rw [← TI.out, HIat.out j hlt, HX.out, ← nums_set]
             exact blk_far (blk_set G1.out j _) hne _
           · rw [← TO.out, HOat.out j hlt, HX.out, ← nums_set]
             exact blk_set (blk_far G2.out (Ne.symm hne) _) j _
         case measure => simp [intOf]; omega
       · have hdk : decide ((j : Int) < (l0.length : Int)) = false := decide_eq_false (by omega)
         have HX : Aside0 ((Sha.hkey l0).getD j 0 = 0) := ⟨by rw [HK0.out, List.getD_eq_getElem?_getD, List.getElem?_eq_none (by omega)]; rfl⟩
         go_wp2
         go_roundw
         case rel =>
           refine ⟨j + 1, by omega, by go_num, ⟨?_⟩, ⟨?_⟩, ⟨below_set (below_set HB.out (Nat.le_refl _)) (Nat.le_succ _)⟩, ⟨by have := HS.out; simpa using this⟩⟩
           · rw [← TI.out, HIat.out j hlt, HX.out, ← nums_set]
             exact blk_far (blk_set G1.out j _) hne _
           · rw [← TO.out, HOat.out j hlt, HX.out, ← nums_set]
             exact blk_set (blk_far G2.out (Ne.symm hne) _) j _
         case measure => simp [intOf]; omega
     · have hd1 : decide ((j : Int) < 64) = false := decide_eq_false (by omega)
       have eI : MI.take j ++ (List.replicate 64 (0 : Int)).drop j = MI := by
         rw [List.take_of_length_le (by rw [HMI.out]; omega), List.drop_eq_nil_of_le (by rw [List.length_replicate]; omega), List.append_nil]
       have eO : MO.take j ++ (List.replicate 64 (0 : Int)).drop j = MO := by
         rw [List.take_of_length_le (by rw [HMO.out]; omega), List.drop_eq_nil_of_le (by rw [List.length_replicate]; omega), List.append_nil]
       rw [eI] at G1
       rw [eO] at G2
       clear eI eO
       have HRI : Aside0 (rowB wr w0.heap.size (.slice (some ⟨w0.heap.size, 0, none⟩) MI.length 64) MI) := ⟨by have h := rowB_blk (B := w0.heap.size) G1.out (Nat.le_refl _); rw [HMI.out] at h; rw [HMI.out]; exact h⟩
       have HC1 : Aside0 (Kd.C (Kd.int .u8) wr A1 l1.length l1) := ⟨Kd.C_below HR1.out HB.out⟩
       obtain ⟨lI, hlI⟩ : ∃ L, L = MI ++ l1 := ⟨_, rfl⟩
       have HLI := Aside0.mk hlI
       have HUI : Aside0 (u8ok lI) := ⟨by rw [hlI]; exact u8ok_append HMIu.out HU1.out⟩
       have HLIl : Aside0 (lI.length ≤ 1099511627776) := ⟨by rw [hlI, List.length_append, HMI.out]; have := HL1.out; omega⟩
       clear hlI
       go_wp2_with ((with_reducible refine gate_dst (N := 42) rfl ?_); refine wpList_append_rowB2 (by rfl) (.tmp 40) (.tmp 41) 22 5 (by rfl) Try.underlying22 info5 (B := w0.heap.size) (n := 64) (l := MI) l1 (by rfl) HMI.out.symm HRI.out (by have := HS.out; omega) A1 l1.length c1 (by rfl) HC1.out (by have := HMI.out; have := HL1.out; omega) lI HLI.out ?_; intro v2 w2 K1 K2 K3; obtain ⟨g2, c2, rfl, hc2⟩ := rowB_form K1.out)
       refine (spec_l03Hash_in (some ⟨g2, 0, none⟩) c2 lI w2 (rowB_C K1.out (by have := HLIl.out; omega)) hc2 HUI.out HLIl.out).mono ?_
       rintro e w3 ⟨rfl, hb3⟩
       have HB3 : Aside0 (Below w0.heap.size w0 w3) := ⟨(HB.out.trans (K2.out.mono (by have := HS.out; omega))).trans (hb3.mono (Nat.le_trans (Nat.le_trans (by have := HS.out; omega) K2.out.size) (Nat.le_refl _)))⟩
       have HS3 : Aside0 (w0.heap.size + 2 ≤ w3.heap.size) := ⟨by have h1 := HS.out; have h2 := K2.out.size; have h3 := hb3.size; omega⟩
       have G3 : Aside0 (w3.heap[w0.heap.size + 1]? = some (.cells (nums .u8 MO).toArray 5)) := ⟨(hb3.block _ (by have h1 := HS.out; have h2 := K2.out.size; omega)).trans ((K3.out _ (by have h1 := HS.out; omega) (by omega)).trans G2.out)⟩
       have HRO : Aside0 (rowB w3 w0.heap.size (.slice (some ⟨w0.heap.size + 1, 0, none⟩) 64 64) MO) := ⟨by have h := rowB_blk (B := w0.heap.size) G3.out (Nat.le_succ _); rw [HMO.out] at h; exact h⟩
       obtain ⟨lO, hlO⟩ : ∃ L, L = MO ++ bytesL (strOfNums (Sha.shaL lI)) := ⟨_, rfl⟩
       have HLO := Aside0.mk hlO
       have eO : lO = MO ++ Sha.shaL lI := by rw [hlO, bytesL_str _ (u8ok_shaL lI)]
       have HUO : Aside0 (u8ok lO) := ⟨by rw [eO]; exact u8ok_append HMOu.out (u8ok_shaL lI)⟩
       have HLOl : Aside0 (lO.length ≤ 1099511627776) := ⟨by rw [eO, List.length_append, HMO.out, shaL_length]; decide⟩
       have HSZ : Aside0 ((strOfNums (Sha.shaL lI)).size = 32) := ⟨by rw [← bytesL_length, bytesL_str _ (u8ok_shaL lI), shaL_length]⟩
       have HFIN : Aside0 (Sha.hmacL l0 l1 = Sha.shaL lO) := ⟨by rw [HMac.out, eO, HLI.out]⟩
       clear hlO eO hb3 K1 K2 K3 G1 G2 HB HS
       go_wp2_with ((with_reducible refine gate_dst (N := 44) rfl ?_); refine wpList_append_rowB_string (by rfl) (.tmp 39) (.tmp 43) 22 9 5 (by rfl) Try.underlying22 Try.underlying9 info5 (strOfNums (Sha.shaL lI)) (by rfl) HRO.out HB3.out (by have := HS3.out; omega) (by rfl) (by have := HMO.out; have := HSZ.out; omega) lO HLO.out ?_; intro v4 w4 K1 K2 K3; obtain ⟨g4, c4, rfl, hc4⟩ := rowB_form K1.out)
       refine (spec_l03Hash_in (some ⟨g4, 0, none⟩) c4 lO w4 (rowB_C K1.out (by have := HLOl.out; omega)) hc4 HUO.out HLOl.out).mono ?_
       rintro e w5 ⟨rfl, hb5⟩
       have HB5 : Aside0 (Below w0.heap.size w0 w5) := ⟨K2.out.trans (hb5.mono K3.out)⟩
       clear hb5
       go_wp2
       go_ret
       exact ⟨congrArg (fun l => Ending.returned (.string (strOfNums l))) HFIN.out.symm, HB5.out⟩
theorem spec_l03Hmac.calls (A0 : Option Addr) (c0 : Nat) (l0 : List Int) (A1 : Option Addr) (c1 : Nat) (l1 : List Int) (r : ByteArray) (w : World) (hr0 : Kd.C (Kd.int .u8) w A0 l0.length l0) (hc0 : l0.length ≤ c0) (hr1 : Kd.C (Kd.int .u8) w A1 l1.length l1) (hc1 : l1.length ≤ c1) (h : spec_l03Hmac.f l0 l1 = some r) :
   Calls Try.prog 70 #[.slice A0 l0.length c0, .slice A1 l1.length c1] w fun e w' => e = .returned (.string r) ∧ Below w.heap.size w w' := by
 unfold spec_l03Hmac.f at h
 split at h
 · rename_i h1
   split at h
   · rename_i h2
     injection h with h
     subst h
     exact spec_l03Hmac_in A0 c0 l0 A1 c1 l1 w hr0 hc0 hr1 hc1 (u8b_ok h1.1) (u8b_ok h1.2) h2.1 h2.2
   · cases h
 · cases h
theorem hmacL_length (a b : List Int) : (Sha.hmacL a b).length = 32 := shaL_length _
theorem u8ok_hmacL (a b : List Int) : u8ok (Sha.hmacL a b) := u8ok_shaL _
theorem exp_len (K info : List Int) (j : Nat) : (Sha.exp K info j).1.length = 32 * j := by
 induction j with
 | zero => rfl
 | succ j ih =>
   simp only [Sha.exp]
   rw [List.length_append, ih, hmacL_length]; omega
theorem exp_last (K info : List Int) (j : Nat) : (Sha.exp K info j).2.length ≤ 32 := by
 cases j with
 | zero => show 0 ≤ 32; decide
 | succ j =>
   simp only [Sha.exp]
   rw [hmacL_length]; exact Nat.le_refl _
theorem exp_u8 (K info : List Int) (j : Nat) : u8ok (Sha.exp K info j).1 ∧ u8ok (Sha.exp K info j).2 := by
 induction j with
 | zero => exact ⟨fun x hx => (by cases hx), fun x hx => (by cases hx)⟩
 | succ j ih =>
   simp only [Sha.exp]
   exact ⟨u8ok_append ih.1 (u8ok_hmacL _ _), u8ok_hmacL _ _⟩
theorem exp_more (K info : List Int) (j d : Nat) : ∃ r, (Sha.exp K info (j + d)).1 = (Sha.exp K info j).1 ++ r := by
 induction d with
 | zero => exact ⟨[], (List.append_nil _).symm⟩
 | succ d ih =>
   obtain ⟨r, hr⟩ := ih
   refine ⟨r ++ Sha.hmacL K ((Sha.exp K info (j + d)).2 ++ info ++ [((j + d + 1 : Nat) : Int) % 256]), ?_⟩
   rw [← List.append_assoc, ← hr]
   rfl
theorem exp_take (K info : List Int) (n j : Nat) (h : n ≤ 32 * j) (hj : j ≤ n + 31) : Sha.expandL K info n = (Sha.exp K info j).1.take n := by
 obtain ⟨r, hr⟩ := exp_more K info j (n + 31 - j)
 rw [show j + (n + 31 - j) = n + 31 from by omega] at hr
 rw [Sha.expandL, hr, List.take_append_of_le_length (by rw [exp_len]; exact h)]
set_option maxHeartbeats 8000000 in
set_option maxRecDepth 100000 in
theorem spec_l03Expand_in (s0 : ByteArray) (A1 : Option Addr) (c1 : Nat) (l1 : List Int) (N : Nat) (w0 : World) (hr1 : Kd.C (Kd.int .u8) w0 A1 l1.length l1) (hc1 : l1.length ≤ c1) (hu1 : u8ok l1) (hl0 : s0.size ≤ 1048576) (hl1 : l1.length ≤ 1048576) (hN : N ≤ 8160) :
   Calls Try.prog 72 #[.string s0, .slice A1 l1.length c1, .int .i64 (N : Int)] w0 fun e w' => e = .returned (.string (strOfNums (Sha.expandL (bytesL s0) l1 N))) ∧ Below w0.heap.size w0 w' := by
 have HR1 := Aside0.mk hr1
 have HU1 := Aside0.mk hu1
 have HL0 := Aside0.mk hl0
 have HL1 := Aside0.mk hl1
 have HN := Aside0.mk hN
 clear hr1 hu1 hl0 hl1 hc1 hN
 go_enter Try.func72, Try.ntmps72
 go_wp2
 go_loopw [7, 8, 9] (fun vo vl vi wr => ∃ (j p : Nat) (so sl : ByteArray), vo = .string so ∧ vl = .string sl ∧ vi = .int .i64 (p : Int) ∧ p = j + 1 ∧ j ≤ 255 ∧ j ≤ N + 31 ∧ Aside0 (so = strOfNums (Sha.exp (bytesL s0) l1 j).1) ∧ Aside0 (sl = strOfNums (Sha.exp (bytesL s0) l1 j).2) ∧ Aside0 (Below w0.heap.size w0 wr))
   (fun _ _ i _ => 300 - (intOf i).toNat)
 case atStart => exact ⟨0, 1, _, _, rfl, rfl, rfl, rfl, by omega, by omega, ⟨rfl⟩, ⟨rfl⟩, ⟨Below.refl _ _⟩⟩
 case round =>
   obtain ⟨j, p, so, sl, rfl, rfl, rfl, hp, hj, hjN, HSO, HSL, HB⟩ := hrel
   have hso : so.size = 32 * j := by rw [HSO.out, str_size, exp_len]
   have hsl : sl.size ≤ 32 := by rw [HSL.out, str_size]; exact exp_last _ _ _
   by_cases hlt : 32 * j < N
   · have hd : decide ((so.size : Int) < (N : Int)) = true := decide_eq_true (by omega)
     have kc1 := Lib.run_convert_string_bytes (P := Try.prog) wr 9 22 5 s0 Try.underlying9 Try.underlying22 Try.underlying5
     have HR0 := Aside0.mk (conv_rowB wr wr.heap.size 5 s0 (Nat.le_refl _))
     have HW1 : Aside0 (Below wr.heap.size wr (Lib.bytesWorld wr 5 s0)) := ⟨bytes_below (Below.refl _ _) (Nat.le_refl _) _ _⟩
     generalize hW1 : Lib.bytesWorld wr 5 s0 = W1 at *
     obtain ⟨cK, hcK⟩ : ∃ c, c = grownCap wr s0.size 0 5 := ⟨_, rfl⟩
     rw [← hcK] at kc1 HR0
     have HGK : Aside0 (wr.heap.size < W1.heap.size) := ⟨by rw [← hW1, Lib.bytesWorld_size]; omega⟩
     clear hW1 hcK
     rw [← bytesL_length] at kc1 HR0
     have kc2 := Lib.run_convert_string_bytes (P := Try.prog) W1 9 22 5 sl Try.underlying9 Try.underlying22 Try.underlying5
     have HR2 := Aside0.mk (conv_rowB W1 W1.heap.size 5 sl (Nat.le_refl _))
     have HW2 : Aside0 (Below W1.heap.size W1 (Lib.bytesWorld W1 5 sl)) := ⟨bytes_below (Below.refl _ _) (Nat.le_refl _) _ _⟩
     generalize hW2 : Lib.bytesWorld W1 5 sl = W2 at *
     obtain ⟨cL, hcL⟩ : ∃ c, c = grownCap W1 sl.size 0 5 := ⟨_, rfl⟩
     rw [← hcL] at kc2 HR2
     clear hW2 hcL
     rw [← bytesL_length] at kc2 HR2
     have hslb : bytesL sl = (Sha.exp (bytesL s0) l1 j).2 := by rw [HSL.out, bytesL_str _ (exp_u8 _ _ _).2]
     obtain ⟨lB, hlB⟩ : ∃ L, L = bytesL sl ++ l1 := ⟨_, rfl⟩
     obtain ⟨lC, hlC⟩ : ∃ L, L = lB ++ [(p : Int) % 256] := ⟨_, rfl⟩
     have HLB := Aside0.mk hlB
     have HLC := Aside0.mk hlC
     have HLBl : Aside0 (lB.length ≤ 1048608) := ⟨by rw [hlB, List.length_append, hslb]; have := HL1.out; have := exp_last (bytesL s0) l1 j; omega⟩
     have HLCl : Aside0 (lC.length ≤ 1048609) := ⟨by rw [hlC, List.length_append]; have := HLBl.out; simp; omega⟩
     have HUC : Aside0 (u8ok lC) := ⟨by rw [hlC, hlB]; exact u8ok_append (u8ok_append (u8ok_bytesL _) HU1.out) (fun x hx => by obtain rfl := List.mem_singleton.1 hx; omega)⟩
     have HNX : Aside0 (Sha.exp (bytesL s0) l1 (j + 1) = ((Sha.exp (bytesL s0) l1 j).1 ++ Sha.hmacL (bytesL s0) lC, Sha.hmacL (bytesL s0) lC)) := ⟨by rw [hlC, hlB, hslb, hp]; rfl⟩
     have HSLl : Aside0 ((bytesL sl).length ≤ 32) := ⟨by rw [bytesL_length]; exact hsl⟩
     have HP := Aside0.mk hp
     have HSOs := Aside0.mk hso
     have hcat : so.size + 32 ≤ 9223372036854775807 := by omega
     clear hlB hlC hslb hsl hp
     have HC1 : Aside0 (Kd.C (Kd.int .u8) W2 A1 l1.length l1) := ⟨Kd.C_below (Kd.C_below (Kd.C_below HR1.out HB.out) HW1.out) HW2.out⟩
     go_wp2_with (first
       | ((with_reducible refine gate_dst (N := 21) rfl ?_); refine wpList_append_rowB_C (by rfl) (.tmp 19) (.tmp 20) 22 5 (by rfl) Try.underlying22 info5 l1 (w0 := W1) (B := W1.heap.size) (by rfl) HR2.out HW2.out HW2.out.size A1 _ _ (by rfl) HC1.out (by have := HSLl.out; have := HL1.out; omega) lB HLB.out ?_; intro v3 w3 H1 H2 H3; obtain ⟨g3, c3, rfl, hc3⟩ := rowB_form H1.out)
       | ((with_reducible refine gate_dst (N := 25) rfl ?_); refine wpList_append_rowB (by rfl) (.tmp 21) (.tmp 24) 22 5 (by rfl) Try.underlying22 info5 [(p : Int) % 256] (by rfl) (rowB_below H1.out (below_alloc (Below.refl _ _) _)) (H2.out.alloc H3.out _) (by have := H3.out; simp; omega) ⟨w3.heap.size, 0, none⟩ 1 1 (by rfl) rfl (cell_lit1 _ _ _ _) (by have := HLBl.out; simp; omega) lC HLC.out ?_; intro v4 w4 K1 K2 K3; obtain ⟨g4, c4, rfl, hc4⟩ := rowB_form K1.out))
     refine (spec_l03Hmac_in (some ⟨wr.heap.size, 0, none⟩) cK (bytesL s0) (some ⟨g4, 0, none⟩) c4 lC w4 (rowB_C (rowB_below HR0.out K2.out) (by rw [bytesL_length]; have := HL0.out; omega)) (rowB_form' HR0.out) (rowB_C K1.out (by have := HLCl.out; omega)) hc4 (u8ok_bytesL s0) HUC.out (by rw [bytesL_length]; have := HL0.out; omega) (by have := HLCl.out; omega)).mono ?_
     rintro e w5 ⟨rfl, hb5⟩
     obtain ⟨sn, hsn⟩ : ∃ s, s = strOfNums (Sha.hmacL (bytesL s0) lC) := ⟨_, rfl⟩
     have HSN := Aside0.mk hsn
     have hsz : sn.size = 32 := by rw [hsn, str_size, hmacL_length]
     rw [← hsn]
     have HB5 : Aside0 (Below w0.heap.size w0 w5) := ⟨(HB.out.trans (HW1.out.mono HB.out.size)).trans ((K2.out.mono (Nat.le_trans HB.out.size HW1.out.size)).trans (hb5.mono (Nat.le_trans (Nat.le_trans HB.out.size HW1.out.size) K3.out)))⟩
     clear hsn hb5 kc1 kc2
     have hc1 : so.size + sn.size ≤ 9223372036854775807 := by omega
     have c9b0 := eq_true hc1
     have c9b1 : decide (so.size + sn.size ≤ 9223372036854775807) = true := decide_eq_true hc1
     have c9b2 : (9223372036854775807 < so.size + sn.size) = False := eq_false (Nat.not_lt.2 hc1)
     have hw : wrap64 ((p : Int) + 1) = ((p + 1 : Nat) : Int) := by unfold wrap64; have := HP.out; omega
     go_wp2
     rw [hw]
     clear hw
     go_roundw
     case rel => exact ⟨j + 1, p + 1, so ++ sn, sn, rfl, rfl, rfl, by have := HP.out; omega, by have := HN.out; omega, by omega, ⟨by rw [HSO.out, HSN.out, strOfNums_append, HNX.out]⟩, ⟨by rw [HSN.out, HNX.out]⟩, HB5⟩
     case measure => simp [intOf]; have := HP.out; omega
   · have hd : decide ((so.size : Int) < (N : Int)) = false := decide_eq_false (by omega)
     have c1b0 : (0 : Int) ≤ (N : Int) := by omega
     have c2b0 : (N : Int) ≤ (so.size : Int) := by omega
     have HFI : Aside0 (so.extract 0 N = strOfNums (Sha.expandL (bytesL s0) l1 N)) := ⟨by rw [exp_take (bytesL s0) l1 N j (by omega) hjN, HSO.out, str_extract]⟩
     clear hp hj hjN hso hlt
     go_wp2
     go_ret
     exact ⟨congrArg (fun s => Ending.returned (.string s)) HFI.out, HB.out⟩
end Go.Proofs.Ytlfpogbonmddmaa.P

/- Laid by a program of this session: of Pt10, Pt11 what this law uses. -/
import Derived.Test.YtlfpogbonmddmaaZFsM11
import Derived.Test.YtlfpogbonmddmaaZFsPt9
namespace Go.Proofs.Ytlfpogbonmddmaa.P
open Go.RowKit Go.Proofs.YtlfpogbonmddmaaW.PrintWords Go.Proofs.YtlfpogbonmddmaaW.PrintLast Go.Proofs.YtlfpogbonmddmaaW.PrintMore
attribute [local go_sem] min2_int min_two
set_option linter.unusedVariables false
set_option linter.unusedSimpArgs false
def impl_hash.f (s : ByteArray) : Option ByteArray := if s.size ≤ 1099511627776 then some (strOfNums (Sha.shaL (bytesL s))) else none
def hashI (h k : Nat) (w3 : World) (lf : List Int) (m : Nat) (pre : List (Fin m)) (W : World) : Prop :=
 Aside0 (W.heap[h]? = some (.cells (nums .u32 (Sha.foldl lf (pre.map (·.1))).l).toArray 94 (0, 0))) ∧ Aside0 (W.heap[k]? = some (.cells (nums .u32 Sha.K).toArray 95 (0, 0))) ∧ Aside0 (Below h w3 W) ∧ Aside0 (k + 2 < W.heap.size)
theorem hashI_own (B h k : Nat) (w3 : World) (lf : List Int) (m : Nat) (hn : h ≤ w3.heap.size) (hB : h ≤ B) : OwnFrom B (hashI h k w3 lf m) :=
 OwnFrom.and (ownFrom_blk B h _ _) (OwnFrom.and (ownFrom_blk B k _ _) (OwnFrom.and (ownFrom_belowA hn hB) (ownFrom_size B _)))
theorem turn_u (v : Sha.V8) (k w : List Int) (W : World) (hk : k.length = 64) (hw : w.length = 64) :
   Calls Try.prog 91 #[.agg (nums .u32 v.l).toArray, .agg (nums .u32 k).toArray, arr32 w] W fun e w' => e = .returned (.agg (nums .u32 (Sha.turn k w v).l).toArray) ∧ Below W.heap.size W w' := impl_turn_in v k w W hk hw
section
attribute [local go_sem] Oper.semAt_some
set_option maxHeartbeats 8000000 in
set_option maxRecDepth 100000 in
theorem impl_hash_in (s : ByteArray) (w0 : World) (hs : s.size ≤ 1099511627776) :
   Calls Try.prog 69 #[.string s] w0 fun e w' => e = .returned (.string (strOfNums (Sha.shaL (bytesL s)))) ∧ Below w0.heap.size w0 w' := by
 have HSZ := Aside0.mk hs
 have hsz : (s.size : Int) ≤ 1099511627776 := by omega
 refine (callsIn_wide (n := 3)).1 ?_
 refine callsIn_of_wp_marks Try.func69 rfl trivial ?_ rfl
 refine wpIn_wide.2 ?_
 simp only [Try.ntmps69, List.size_toArray, List.length_cons, List.length_nil, Nat.reduceAdd, Nat.reduceSub, Array.replicate_succ, Array.replicate_zero, List.push_toArray, List.append_toArray, List.nil_append, List.cons_append]
 have kc := Lib.run_convert_string_bytes (P := Try.prog) w0 9 22 5 s Try.underlying9 Try.underlying22 Try.underlying5
 have HR0 := Aside0.mk (conv_rowB w0 w0.heap.size 5 s (Nat.le_refl _))
 have HB0 := Aside0.mk (conv_below (B := w0.heap.size) w0 w0 5 s (Below.refl _ _) (Nat.le_refl _))
 have HZ0 : Aside0 (w0.heap.size ≤ (Lib.bytesWorld w0 5 s).heap.size) := ⟨by rw [Lib.bytesWorld_size]; omega⟩
 generalize hW1 : Lib.bytesWorld w0 5 s = W1 at *
 generalize hcap : grownCap w0 s.size 0 5 = cap1 at *
 obtain ⟨L1, hL1⟩ : ∃ L, L = bytesL s ++ [128] := ⟨_, rfl⟩
 have HL1 := Aside0.mk hL1
 have HBL := Aside0.mk (bytesL_length s)
 clear hL1 hs
 go_wp2_with ((with_reducible refine gate_dst (N := 14) rfl ?_); refine wpList_append_rowB (by rfl) (.tmp 12) (.tmp 13) 22 5 (by rfl) Try.underlying22 info5 [128] (by rfl) (rowB_below HR0.out (below_alloc (Below.refl _ _) _)) (below_step HB0.out (below_alloc (Below.refl _ _) _)) (by have := HZ0.out; simp; omega) ⟨W1.heap.size, 0, none⟩ 1 1 (by rfl) rfl (cell_lit1 _ _ _ _) (by rw [HBL.out]; simp; have := HSZ.out; omega) L1 HL1.out ?_; intro v2 w2 H1 H2 H3; obtain ⟨g1, c1, rfl, hc1⟩ := rowB_form H1.out)
 clear hsz
 go_loopw [3] (fun v wr => ∃ (lr : List Int) (z g c : Nat), v = .slice (some ⟨g, 0, none⟩) lr.length c ∧ z ≤ (119 - s.size % 64) % 64 ∧ Aside0 (lr = bytesL s ++ 128 :: List.replicate z 0) ∧ Aside0 (rowB wr w0.heap.size (.slice (some ⟨g, 0, none⟩) lr.length c) lr) ∧ Aside0 (Below w0.heap.size w0 wr) ∧ Aside0 (w0.heap.size ≤ wr.heap.size))
   (fun v _ => s.size + 200 - sliceLen v)
 case atStart => exact ⟨L1, 0, g1, c1, rfl, by omega, ⟨HL1.out⟩, H1, H2, H3⟩
 case round =>
   clear H1 H2 H3 HL1 HB0 HR0 HZ0 kc
   obtain ⟨lr, z, g, c, rfl, hz, HLR, H1, H2, H3⟩ := hrel
   have hlen : lr.length = s.size + 1 + z := by rw [HLR.out]; simp [HBL.out]; omega
   have hsz2 : s.size ≤ 1099511627776 := HSZ.out
   have l0 : (0 : Int) ≤ (lr.length : Int) := Int.natCast_nonneg _
   have l1 : (lr.length : Int) ≤ 1099511629000 := by omega
   by_cases hlt : z < (119 - s.size % 64) % 64
   · have hd : ((lr.length : Int) % 64 != 56) = true := by rw [bne_iff_ne]; omega
     obtain ⟨lr2, hlr2⟩ : ∃ L, L = lr ++ [0] := ⟨_, rfl⟩
     have HLR2 : Aside0 (lr2 = bytesL s ++ 128 :: List.replicate (z + 1) 0) := ⟨by rw [hlr2, HLR.out, List.replicate_succ']; simp⟩
     have HE := Aside0.mk hlr2
     have hlen2 : lr2.length = lr.length + 1 := by rw [hlr2]; simp
     have HLEN := Aside0.mk hlen
     have HLEN2 := Aside0.mk hlen2
     clear hlen hlr2 hlen2 hsz2
     go_wp2_with ((with_reducible refine gate_dst (N := 21) rfl ?_); refine wpList_append_rowB (by rfl) (.tmp 19) (.tmp 20) 22 5 (by rfl) Try.underlying22 info5 [0] (by rfl) (rowB_below H1.out (below_alloc (Below.refl _ _) _)) (below_step H2.out (below_alloc (Below.refl _ _) _)) (by have := H3.out; simp; omega) ⟨wr.heap.size, 0, none⟩ 1 1 (by rfl) rfl (cell_lit1 _ _ _ _) (by have := HLEN.out; have := HSZ.out; simp; omega) lr2 HE.out ?_; intro v2 w2 K1 K2 K3; obtain ⟨g2, c2, rfl, hc2⟩ := rowB_form K1.out)
     go_roundw
     case rel => exact ⟨lr2, z + 1, g2, c2, rfl, by omega, HLR2, K1, K2, K3⟩
     case measure => simp [sliceLen]; have := HLEN.out; have := HLEN2.out; have := HSZ.out; omega
   · have hd : ((lr.length : Int) % 64 != 56) = false := by rw [bne_eq_false_iff_eq]; omega
     have hsz3 : (s.size : Int) ≤ 1099511627776 := by omega
     obtain ⟨lf, hlf⟩ : ∃ L, L = Sha.full (bytesL s) := ⟨_, rfl⟩
     have hbe : ∀ x ∈ Sha.be8 (8 * (s.size : Int)), 0 ≤ x ∧ x ≤ 255 := by
       intro x hx
       simp only [Sha.be8, List.mem_cons, List.not_mem_nil, or_false] at hx
       omega
     have HE : Aside0 (lf = lr ++ bytesL (strOfNums (Sha.be8 (8 * (s.size : Int))))) := ⟨by
       have ez : z = (119 - s.size % 64) % 64 := by omega
       rw [bytesL_str _ hbe, hlf, HLR.out, Sha.full, Sha.fillTo, HBL.out, ez]⟩
     have HSb : Aside0 ((strOfNums (Sha.be8 (8 * (s.size : Int)))).size = 8) := ⟨by rw [strOfNums_size]; rfl⟩
     have HLF := Aside0.mk hlf
     have hlenf : lf.length % 64 = 0 ∧ lf.length ≤ 1099511629000 := by
       have e1 : lf.length = lr.length + 8 := by rw [HE.out, List.length_append, bytesL_length, HSb.out]
       omega
     have HLENF := Aside0.mk hlenf
     have HLEN := Aside0.mk hlen
     clear hlen hsz2 hlf hbe hlenf
     go_wp2_with (first
       | (go_at_call 85; refine (bo8_calls _ _).mono ?_; rintro e w2 ⟨rfl, hb⟩; have K1 := Aside0.mk (rowB_below H1.out hb); have K2 := Aside0.mk (below_then H2.out H3.out hb); have K3 := Aside0.mk (Nat.le_trans H3.out hb.size); clear hb)
       | ((with_reducible refine gate_dst (N := 27) rfl ?_); refine wpList_append_rowB_string (by rfl) (.tmp 22) (.tmp 26) 22 9 5 (by rfl) Try.underlying22 Try.underlying9 info5 _ (by rfl) K1.out K2.out K3.out (by rfl) (by rw [HSb.out]; have := HLEN.out; have := HSZ.out; omega) lf HE.out ?_; intro v3 w3 J1 J2 J3; obtain ⟨g3, c3, rfl, hc3⟩ := rowB_form J1.out; clear H1 H2 H3 K1 K2 K3)
       | ((with_reducible refine gate_ (.store 94 (.tmp 4) (.tmp 28)) rfl ?_); refine wpList_store_row (by rfl) 94 (.tmp 4) (.tmp 28) (by rfl) w3.heap.size (nums .u32 Sha.H0.l).toArray (by rfl) (by rfl) 94 _ (blk_new w3 _) (by exact info8w) (by rfl) (nums_one _ _) ?_)
       | (go_at_call 89; refine (rounds_calls _).mono ?_; rintro e w4 ⟨rfl, hb4⟩)
       | ((with_reducible refine gate_ (.store 95 (.tmp 5) (.tmp 29)) rfl ?_); refine wpList_store_row (by rfl) 95 (.tmp 5) (.tmp 29) (by rfl) w4.heap.size (nums .u32 Sha.K).toArray (by rfl) (by rfl) 95 _ (blk_new w4 _) (by exact info64w) (by rfl) (nums_one _ _) ?_)
       | (go_at_call 90; refine (chunk_calls _ _ _ 64 (by decide) _).mono ?_; rintro e w5 ⟨rfl, rfl⟩))
     obtain ⟨m, hm⟩ : ∃ m, 64 * m = lf.length := ⟨lf.length / 64, by have := HLENF.out; omega⟩
     have HM := Aside0.mk hm
     refine wp_cuts (α := Fin m) (p := 32) (d := 6) rfl rfl rfl (by simp) (gf := 104) (lb := #[.pointer (some ⟨w4.heap.size + 1, 0, none⟩), .pointer (some ⟨w4.heap.size + 1 + 1, 0, none⟩)]) rfl (enters_of Try.func104 (by kernel_rfl) rfl)
       (chunk_stops Fence.wide 2 trivial rfl (by decide) (w4.heap.size + 1) (w4.heap.size + 1 + 1) ⟨g3, 0, none⟩ 64 m c3 (by decide) (by omega) (by have := HLENF.out; omega) _ (by simp) (by simp) ?hbs ?hbn)
       (fun h k => KpB.trans h k) (KpB.put (by simp) (by simp))
       (hashI w3.heap.size w4.heap.size w3 lf m) (hashI_own _ _ _ _ _ _ (Nat.le_refl _) ?hle) ?h0 ?body ?done
     case hbs =>
       rw [hm]
       exact box_one _ _ _ _ _ (by simp)
     case hbn => exact box_two _ _ _ _ _ (by simp)
     case hle => have := hb4.size; simp at this; simp; omega
     case h0 =>
       have h34 : w3.heap.size < w4.heap.size := by have := hb4.size; simp at this; omega
       refine ⟨⟨?_⟩, ⟨?_⟩, ⟨?_⟩, ⟨by simp⟩⟩
       · refine blk_alloc (blk_alloc ((setRow_other _ _ _ _ (by omega)).trans (blk_alloc ?_ _)) _) _
         exact (hb4.block _ (by simp)).trans (setRow_heap _ _ _ _ _ _ (blk_new w3 _))
       · exact blk_alloc (blk_alloc (setRow_heap _ _ _ _ _ _ (blk_new w4 _)) _) _
       · have b1 : Below w3.heap.size w3 ((w3.alloc (Obj.cells (nums IntKind.u32 [0, 0, 0, 0, 0, 0, 0, 0]).toArray 94 (0, 0))).setRow w3.heap.size (nums .u32 Sha.H0.l).toArray) := below_row (below_alloc (Below.refl _ _) _) (Nat.le_refl _) _
         have b2 : Below w3.heap.size w3 w4 := below_then b1 b1.size hb4
         exact below_alloc (below_alloc (below_row (below_alloc b2 _) (by omega) _) _) _
     case body =>
       rintro l pre x W ⟨I1, I2, I3, I4⟩ hlen
       simp only [List.setIfInBounds_toArray, List.set_cons_succ, List.set_cons_zero]
       refine wpIn_block ?_
       refine region_round_any (by kernel_rfl) (by rintro ⟨_, _, h⟩; exact h) (by kernel_rfl) ?_
       change wpAny _ _ _ _ _ _ _ W.drew
       have hx : 64 * x.1 + 64 ≤ lf.length := by have := x.2; omega
       have CX : Aside0 (Kd.C (Kd.int .u8) W.drew (some ⟨g3, 64 * x.1, none⟩) (Sha.chunk lf x.1).length (Sha.chunk lf x.1)) := ⟨by
         have h1 : Kd.C (Kd.int .u8) w3 (some ⟨g3, 0, none⟩) lf.length lf := rowB_C J1.out (by have := HLENF.out; omega)
         have h2 : Kd.C (Kd.int .u8) W.drew (some ⟨g3, 0, none⟩) lf.length lf := Kd.C_below h1 (I3.out.drew)
         have h3 := C_cut (b := Sha.chunk lf x.1) h2 rfl (by rw [Sha.chunk_length lf x.1 hx]; omega) (64 * x.1) (by rw [Sha.chunk_length lf x.1 hx]; exact hx) (fun j hj => by rw [Sha.chunk_length lf x.1 hx] at hj; exact Sha.chunk_at lf x.1 j hx hj)
         rw [add_plain] at h3
         exact h3⟩
       have CL := Aside0.mk (Sha.chunk_length lf x.1 hx)
       obtain ⟨WD, hWD⟩ : ∃ WD, WD = W.drew := ⟨_, rfl⟩
       have I1' : Aside0 (WD.heap[w3.heap.size]? = some (.cells (nums .u32 (Sha.foldl lf (pre.map (·.1))).l).toArray 94 (0, 0))) := ⟨by rw [hWD]; exact I1.out⟩
       have I2' : Aside0 (WD.heap[w4.heap.size]? = some (.cells (nums .u32 Sha.K).toArray 95 (0, 0))) := ⟨by rw [hWD]; exact I2.out⟩
       have I3' : Aside0 (Below w3.heap.size w3 WD) := ⟨by rw [hWD]; exact I3.out.drew⟩
       have KW : Aside0 (∀ B V, KeepsFrom B WD V → KeepsFrom B W V) := ⟨fun B V h => by rw [hWD] at h; exact (keepsFrom_drew _ _).trans h⟩
       have I4' : Aside0 (w4.heap.size + 2 < WD.heap.size) := ⟨by rw [hWD]; exact I4.out⟩
       have KC : Aside0 (∀ a, WD.cell? a = W.cell? a) := ⟨fun a => by rw [hWD]; rfl⟩
       rw [← hWD] at CX ⊢
       clear hWD I1 I2 I3
       refine wpAny_of_N (S := fun V => Below WD.heap.size WD V) (N := 5) _ _ _ _ ?_
       refine wpAnyN_take (i := 0) rfl (by kernel_rfl) (by kernel_rfl) (by kernel_rfl) (by kernel_rfl) (fun _ _ _ h => h) (yields_load_row rfl 94 (.tmp 4) rfl w3.heap.size rfl 94 _ (0, 0) _ (fun V hV => (hV.block _ (blk_lt I1'.out)).trans I1'.out) Try.underlying94 rfl (by exact info8w)) (Below.refl _ _) ?_
       refine wpAnyN_take (i := 1) rfl (by kernel_rfl) (by kernel_rfl) (by kernel_rfl) (by kernel_rfl) (fun _ _ _ h => h) (yields_load_row rfl 95 (.tmp 5) rfl w4.heap.size rfl 95 _ (0, 0) _ (fun V hV => (hV.block _ (blk_lt I2'.out)).trans I2'.out) Try.underlying95 rfl (by exact info64w)) (Below.refl _ _) ?_
       refine wpAnyN_take (i := 2) rfl (by kernel_rfl) (by kernel_rfl) (by kernel_rfl) (by kernel_rfl) (fun _ _ _ h => h) (yields_move rfl (.tmp 6) rfl) (Below.refl _ _) ?_
       refine wpAnyN_one (i := 3) (by kernel_rfl) rfl rfl (fun K hK => ?_)
       go_simp
       refine (impl_schedule_in _ _ _ _ CX.out (by decide) CL.out).mono ?_
       rintro e w6 ⟨rfl, hb6⟩
       refine hK _ _ (fun _ => hb6) ?_
       clear hK K
       refine wpAnyN_one (i := 4) (by kernel_rfl) rfl rfl (fun K hK => ?_)
       go_simp
       with_reducible refine (turn_u (Sha.foldl lf (pre.map (·.1))) Sha.K (Sha.sched (Sha.chunk lf x.1) 64) _ K_length (Sha.sched_length _ _)).mono ?_
       rintro e w7 ⟨rfl, hb7⟩
       refine hK _ _ (fun _ => below_then hb6 hb6.size hb7) ?_
       clear hK K
       have h34 : w3.heap.size < w4.heap.size := by have := hb4.size; simp at this; omega
       have HH : w7.heap[w3.heap.size]? = some (.cells (nums .u32 (Sha.foldl lf (pre.map (·.1))).l).toArray 94 (0, 0)) := (hb7.block _ (Nat.lt_of_lt_of_le (blk_lt I1'.out) hb6.size)).trans ((hb6.block _ (blk_lt I1'.out)).trans I1'.out)
       refine wpAnyN_one (i := 5) (by kernel_rfl) rfl rfl (fun K hK => ?_)
       refine wp_store_row 94 (.tmp 4) (.tmp 37) (by rfl) w3.heap.size (nums .u32 (Sha.turn Sha.K (Sha.sched (Sha.chunk lf x.1) 64) (Sha.foldl lf (pre.map (·.1)))).l).toArray (by rfl) (by rfl) 94 _ HH (by exact info8w) (by rfl) (nums_one _ _) ?_
       refine hK _ _ (fun h => absurd rfl h) ?_
       refine wpAnyN_done (by kernel_rfl) ?_ _
       refine ⟨KW.out _ _ (((keepsFrom_below hb6).trans (keepsFrom_below hb7)).trans (keepsFrom_row HH)), fun ad ha => ?_, ⟨?_⟩, ⟨?_⟩, ⟨?_⟩, ⟨?_⟩⟩
       · have h4 := I4'.out
         have hne : ad.block ≠ w3.heap.size := by omega
         have hlt : ad.block < WD.heap.size := by omega
         rw [World.cell?_of_block (setRow_other _ _ _ _ hne), hb7.cell (Nat.lt_of_lt_of_le hlt hb6.size), hb6.cell hlt, KC.out]
       · rw [List.map_append, List.map_cons, List.map_nil, Sha.foldl_snoc]
         exact setRow_heap _ _ _ _ _ _ HH
       · refine (setRow_other _ _ _ _ (by omega)).trans ?_
         exact (hb7.block _ (Nat.lt_of_lt_of_le (blk_lt I2'.out) hb6.size)).trans ((hb6.block _ (blk_lt I2'.out)).trans I2'.out)
       · exact below_row (below_then (below_then I3'.out I3'.out.size hb6) (Nat.le_trans I3'.out.size hb6.size) hb7) (Nat.le_refl _) _
       · have := I4'.out; have := hb6.size; have := hb7.size; simp; omega
     case done =>
       rintro D xs W hD hxs ⟨I1, I2, I3, I4⟩ hK
       rw [hxs, Sha.foldl_range] at I1
       obtain ⟨u, hu⟩ : ∃ u, u = Sha.fold lf m := ⟨_, rfl⟩
       have HU : Aside0 (Sha.shaL (bytesL s) = Sha.outTo u 8) := ⟨by
         have e1 : (Sha.full (bytesL s)).length / 64 = m := by rw [← HLF.out, ← HM.out]; omega
         rw [Sha.shaL, e1, ← HLF.out, ← hu]
         rfl⟩
       rw [← hu] at I1
       clear hu hxs
       have hD3 : w3.heap.size < D := by
         have := hb4.size
         simp at this hD
         omega
       have HDD := Aside0.mk hK
       have HD3 := Aside0.mk hD3
       have HBW := Aside0.mk (below_then J2.out J3.out I3.out)
       have HWZ : Aside0 (w0.heap.size ≤ D) := ⟨by have := J3.out; omega⟩
       have HDW : Aside0 (D < W.heap.size) := ⟨blk_lt hK⟩
       clear hK hD hD3 I3 I2 I4
       go_wp2_with ((with_reducible refine gate_ (.load 94 (.tmp 4)) rfl ?_); refine wpList_load_row (by rfl) 94 (.tmp 4) (by rfl) _ (by rfl) 94 _ (0, 0) _ I1.out Try.underlying94 rfl (by exact info8w) ?_)
       clear I1
       have HI := fun (i : Nat) (hi : i < 8) (w : World) => run_index_aggK (P := Try.prog) (k := .u32) (T := 94) (E := 90) (xs := u.l) Try.underlying94 Try.underlying90 (by kernel_rfl) i hi rfl w
       have HIA := Aside0.mk HI
       clear HI
       go_loopw [7, 39] (fun o n wr => ∃ j : Nat, j ≤ 8 ∧ n = .int .i64 j ∧ o = .string (strOfNums (Sha.outTo u j)) ∧ Aside0 (wr.heap[D]? = some (.deferred (some []))) ∧ Aside0 (Below w0.heap.size w0 wr)) (fun _ n _ => 8 - (intOf n).toNat)
       case atStart => exact ⟨0, by omega, rfl, rfl, HDD, HBW⟩
       case round =>
         clear HDD HBW HDW
         obtain ⟨j, hj, rfl, rfl, HDD, HBW⟩ := hrel
         by_cases hlt : j < 8
         · have j0 : (0 : Int) ≤ (j : Int) := Int.natCast_nonneg j
           have j1 : (j : Int) < 8 := by omega
           have hdj : decide ((j : Int) < 8) = true := decide_eq_true j1
           have kx := HIA.out j hlt
           obtain ⟨y, hy⟩ : ∃ y, y = u.l.getD j 0 := ⟨_, rfl⟩
           have HO : Aside0 (strOfNums (Sha.outTo u (j + 1)) = strOfNums (Sha.outTo u j) ++ strOfNums (Sha.four (wrap64 y))) := ⟨by
             rw [Sha.four_wrap, hy, Sha.outTo_succ u j hlt, strOfNums_append]⟩
           rw [← hy] at kx
           clear hy
           have so : ((strOfNums (Sha.outTo u j)).size : Int) ≤ 100 := by
             rw [strOfNums_size, Sha.outTo_length u j (by omega)]; omega
           obtain ⟨os, hos⟩ : ∃ os, os = strOfNums (Sha.outTo u j) := ⟨_, rfl⟩
           rw [← hos] at so HO ⊢
           clear hos
           have sf : ((strOfNums (Sha.four (wrap64 y))).size : Int) ≤ 4 := by rw [strOfNums_size]; exact Int.le_refl _
           go_wp2_with (go_at_call 85; refine (bo4_calls _ _).mono ?_; rintro e w8 ⟨rfl, hb8⟩)
           go_roundw
           case rel =>
             refine ⟨j + 1, by omega, by go_num, by rw [HO.out], ⟨(hb8.block _ (blk_lt HDD.out)).trans HDD.out⟩, ⟨below_step HBW.out hb8⟩⟩
           case measure => simp [intOf]; omega
         · have hdj : decide ((j : Int) < 8) = false := decide_eq_false (by omega)
           have eO : strOfNums (Sha.outTo u j) = strOfNums (Sha.shaL (bytesL s)) := by
             rw [HU.out]
             obtain rfl : j = 8 := by omega
             rfl
           rw [eO]
           clear eO
           go_wp2
           refine ⟨by simp, .inl ⟨_, _, rfl, run_takeDeferred HDD.out, ?_⟩⟩
           exact ⟨_, results_tmp rfl _ _ _, rfl, HBW.out.trans (belowK_b (w := w0) (Nat.le_refl _) wr D _ _ HWZ.out HDD.out rfl rfl)⟩
end
theorem impl_hash.calls (a0 : ByteArray) (r : ByteArray) (w : World) (h : impl_hash.f a0 = some r) :
   Calls Try.prog 69 #[.string a0] w fun e w' => e = .returned (.string r) ∧ Below w.heap.size w w' := by
 unfold impl_hash.f at h
 split at h
 · rename_i h1
   injection h with h
   subst h
   exact impl_hash_in a0 w h1
 · cases h
def impl_masked.f (a0 : ByteArray) (a1 : Int) : Option ByteArray := if a0.size ≤ 64 then some (strOfNums (Sha.maskL (bytesL a0) a1)) else none
theorem maskB (w : World) (s : ByteArray) (W : World) (g : Nat) (hs : s.size ≤ 64) (hg : W.heap[g]? = some (.cells (nums .u8 (List.replicate 64 0)).toArray 5 (0, 0))) (ty : TypeId) :
   (Builtin.copy_ #[22, 9] ty #[.slice (some ⟨g, 0, none⟩) 64 64, .string s]).run Try.prog W = .ok (.int .i64 (s.size : Int)) (W.setRow g (nums .u8 (bytesL s ++ List.replicate (64 - s.size) 0)).toArray) := by
 have h := Lib.run_copy_row_string (P := Try.prog) W 22 9 ty 5 g 0 64 64 s _ _ Try.underlying22 (by kernel_rfl) hg hs (by simp [nums]; exact hs)
 rw [h]
 have e : ∀ n : Nat, (List.take 0 (nums IntKind.u8 (List.replicate n 0)).toArray.toList ++ Lib.byteCells s.data.toList ++ List.drop (0 + s.size) (nums IntKind.u8 (List.replicate n 0)).toArray.toList) = nums .u8 (bytesL s ++ List.replicate (n - s.size) 0) := fun n => by
   simp [nums, bytesL, Lib.byteCells, List.map_map, Function.comp_def]
 rw [e 64]
 rfl
set_option maxHeartbeats 4000000 in
set_option maxRecDepth 100000 in
theorem impl_masked_in (s : ByteArray) (m : Int) (w : World) (hs : s.size ≤ 64) :
   Calls Try.prog 93 #[.string s, .int .u8 m] w fun e w' => e = .returned (.string (strOfNums (Sha.maskL (bytesL s) m))) ∧ Below w.heap.size w w' := by
 have HSZ := Aside0.mk hs
 clear hs
 obtain ⟨L0, hL0⟩ : ∃ L, L = bytesL s ++ List.replicate (64 - s.size) (0 : Int) := ⟨_, rfl⟩
 obtain ⟨M, hM⟩ : ∃ M, M = Sha.maskL (bytesL s) m := ⟨_, rfl⟩
 have hl0 : L0.length = 64 := by rw [hL0, List.length_append, bytesL_length, List.length_replicate]; have := HSZ.out; omega
 have hlm : M.length = 64 := by rw [hM]; simp [Sha.maskL]
 have HMat : Aside0 (∀ j, j < 64 → M.getD j 0 = Go.bits .xor .u8 (L0.getD j 0) m) := ⟨fun j hj => by
   have e : L0.getD j 0 = (bytesL s).getD j 0 := by
     rw [hL0, List.getD_eq_getElem?_getD, List.getD_eq_getElem?_getD]
     rcases Nat.lt_or_ge j (bytesL s).length with h | h
     · rw [List.getElem?_append_left h]
     · rw [List.getElem?_append_right h, List.getElem?_eq_none h, List.getElem?_replicate]
       split <;> rfl
   rw [e, hM]
   simp [Sha.maskL, List.getD_eq_getElem?_getD, hj]⟩
 rw [← hM]
 have HL0 := Aside0.mk hl0
 have HLM := Aside0.mk hlm
 have HLL : Aside0 (M.length = L0.length) := ⟨by rw [hl0, hlm]⟩
 have HE0 := Aside0.mk hL0
 clear hL0 hM hl0 hlm
 have HCP := Aside0.mk (fun (W : World) (hg : W.heap[w.heap.size]? = some (.cells (nums .u8 (List.replicate 64 0)).toArray 5 (0, 0))) (ty : TypeId) => maskB w s W w.heap.size HSZ.out hg ty)
 rw [← HE0.out] at HCP
 have HR1 := Aside0.mk (setRow_heap _ w.heap.size _ (nums .u8 L0).toArray _ _ (blk_new w (Obj.cells (nums .u8 (List.replicate 64 0)).toArray 5 (0, 0))))
 have HB1 : Aside0 (Below w.heap.size w ((w.alloc (Obj.cells (nums .u8 (List.replicate 64 0)).toArray 5 (0, 0))).setRow w.heap.size (nums .u8 L0).toArray)) := ⟨below_row (below_alloc (Below.refl _ _) _) (Nat.le_refl _) _⟩
 have kmk : ∀ V : World, (Instr.makeSlice 22 (.int .i64 64) (.int .i64 64)).run Try.prog V = .ok (.slice (some ⟨V.heap.size, 0, none⟩) 64 64) (V.alloc (.cells (nums .u8 (List.replicate 64 0)).toArray 5)) := fun V => run_make_nums (m := 64) Try.underlying22 (.inl (by kernel_rfl)) (by decide) V
 go_enter Try.func93, Try.ntmps93
 go_wp2_with ((with_reducible refine gate_builtin (b := .copy) (xs := #[.tmp 8, .tmp 9]) rfl ?_); refine Lib.wpList_copy_run _ rfl (.tmp 8) (.tmp 9) 22 9 rfl _ _ (by rfl) (by rfl) (HCP.out _ (by exact blk_new w _) _) ?_)
 clear kmk
 go_loopw [13] (fun i wr => ∃ j : Nat, j ≤ 64 ∧ i = .int .i64 j ∧ Aside0 (wr.heap[w.heap.size]? = some (.cells (nums .u8 (M.take j ++ L0.drop j)).toArray 5 (0, 0))) ∧ Aside0 (Below w.heap.size w wr)) (fun i _ => 64 - (intOf i).toNat)
 case atStart => exact ⟨0, by omega, rfl, HR1, HB1⟩
 case round =>
   obtain ⟨j, hj, rfl, G, HB⟩ := hrel
   by_cases hlt : j < 64
   · have j0 : (0 : Int) ≤ (j : Int) := Int.natCast_nonneg j
     have j1 : (j : Int) < 64 := by omega
     have hd : decide ((j : Int) < 64) = true := decide_eq_true j1
     obtain ⟨x, hx⟩ : ∃ x, x = L0.getD j 0 := ⟨_, rfl⟩
     have HX : Aside0 (M.getD j 0 = Go.bits .xor .u8 x m) := ⟨by rw [hx]; exact HMat.out j hlt⟩
     have cA : wr.cell? ⟨w.heap.size, j, none⟩ = some (.int .u8 x) := by
       rw [blk_cell G.out j]
       exact nums_at? _ _ _ _ (by rw [td_at M L0 HLL.out j (by rw [HLM.out]; exact hlt), hx])
     have zA := blk_frozen G.out j
     have HTD := Aside0.mk (td_set M L0 HLL.out j (by rw [HLM.out]; exact hlt))
     clear hx
     go_wp2
     go_roundw
     case rel =>
       refine ⟨j + 1, by omega, by go_num, ⟨?_⟩, ⟨below_set HB.out (Nat.le_refl _)⟩⟩
       rw [← HTD.out, HX.out, ← nums_set]
       exact blk_set G.out j _
     case measure => simp [intOf]; omega
   · have hd : decide ((j : Int) < 64) = false := decide_eq_false (by omega)
     have e64 : M.take j ++ L0.drop j = M := by
       have h1 := HLM.out
       have h2 := HL0.out
       rw [List.take_of_length_le (by omega), List.drop_eq_nil_of_le (by omega), List.append_nil]
     rw [e64] at G
     clear e64
     have HC : Aside0 (Kd.C (Kd.int .u8) wr (some ⟨w.heap.size, 0, none⟩) 64 M) := ⟨by
       have h := C_cells (W := wr) (ad := ⟨w.heap.size, 0, none⟩) (b := M) (by rw [HLM.out]; decide) (fun i hi => by
         rw [add_plain, blk_cell G.out i]
         exact nums_at? _ _ _ _ (by rw [List.getD_eq_getElem?_getD, List.getElem?_eq_getElem hi]; rfl))
       rw [HLM.out] at h
       exact h⟩
     have ks := Kd.C_string (P := Try.prog) (dst := 9) (src := 22) (c := 64) Try.underlying22 Try.underlying5 Try.underlying9 HC.out
     go_wp2
     go_ret
     exact ⟨rfl, HB.out⟩
theorem impl_masked.calls (a0 : ByteArray) (a1 : Int) (r : ByteArray) (w : World) (h : impl_masked.f a0 a1 = some r) :
   Calls Try.prog 93 #[.string a0, .int .u8 a1] w fun e w' => e = .returned (.string r) ∧ Below w.heap.size w w' := by
 unfold impl_masked.f at h
 split at h
 · rename_i h1
   injection h with h
   subst h
   exact impl_masked_in a0 a1 w h1
 · cases h
def impl_hmac.j0 : Nat → ByteArray → ByteArray → Option (ByteArray)
 | 0, _, _ => none
 | k + 1, x0, x1 => (impl_masked.f x0 92).bind fun t220 => ((impl_masked.f x0 54).bind fun t221 => (if t221.size + x1.size ≤ 9223372036854775807 then ((impl_hash.f (t221 ++ x1)).bind fun t222 => (if t220.size + t222.size ≤ 9223372036854775807 then ((impl_hash.f (t220 ++ t222)).bind fun t223 => (some t223)) else (none))) else (none)))
def impl_hmac.f (k : Nat) (a0 : ByteArray) (a1 : ByteArray) : Option (ByteArray) := if (a0.size : Int) > 64 then ((impl_hash.f a0).bind fun t219 => (impl_hmac.j0 k t219 a1)) else (impl_hmac.j0 k a0 a1)
set_option maxHeartbeats 8000000 in
set_option maxRecDepth 100000 in
theorem impl_hmac.calls (k : Nat) (a0 : ByteArray) (a1 : ByteArray) (r : ByteArray) (w : World) (h : impl_hmac.f k a0 a1 = some r) :
   Calls Try.prog 71 #[.string a0, .string a1] w fun e w' => e = .returned (.string r) ∧ Below w.heap.size w w' := by
 have HB := Aside0.mk (Below.refl w.heap.size w)
 have H : (if (a0.size : Int) > 64 then ((impl_hash.f a0).bind fun t219 => (impl_hmac.j0 k t219 a1)) else (impl_hmac.j0 k a0 a1)) = some r := h
 clear h
 have HC3 := Aside0.mk H
 clear H
 go_enter Try.func71, Try.ntmps71
 go_upto_if 7 with (fail)
 go_cut [0] (fun v0 wc => ∃ (kq : Nat) (x0_2 : ByteArray), v0 = .string x0_2 ∧ Aside0 (impl_hmac.j0 kq x0_2 a1 = some r) ∧ Aside0 (kq ≤ k) ∧ Aside0 (Below w.heap.size w wc))
 case first =>
   have H := HC3.out
   clear HC3
   by_cases c4 : (a0.size : Int) > 64
   · rw [if_pos c4] at H
     have c4b0 : decide (64 < (a0.size : Int)) = true := decide_eq_true c4
     have c4b1 : decide (64 < a0.size) = true := decide_eq_true (by omega)
     clear c4
     (first | rw [c4b0] | (simp only [i64_w, i32_w]; rw [c4b0]) | skip)
     replace H := Option.bind_eq_some_iff.mp H
     obtain ⟨t219, A50, H⟩ := H
     replace H : (impl_hmac.j0 k t219 a1) = some r := H
     have A5 := Aside0.mk A50
     clear A50
     have H' := Aside0.mk H
     clear H
     go_wp2_with (first | ((with_reducible refine gate_callee (f := 69) rfl ?_); refine goesL_ (some 9) rfl rfl Try.func69 (by kernel_rfl) rfl #[.string a0] rfl (by (try simp only [List.map_toArray, List.map_cons, List.map_nil]); first | done | rfl | (simp only [List.length_drop, List.length_take]; rfl)) ?_; (with_reducible refine (impl_hash.calls a0 t219 _ A5.out).mono ?_); rintro e w6 ⟨rfl, hb⟩; refine ⟨_, rfl, ?_⟩; have n0_ := Aside0.mk (below_step (by repeat (first | (with_reducible first | exact HB.out | apply below_alloc | apply pw_below_drewN | apply below_drew1) | exact HB.out)) hb); clear HB; have HB := n0_; clear n0_; (try clear hb); (try clear hb2); (try clear hk); (try clear hi)))
     go_meet
     case rel => exact ⟨_, (t219), (by first | rfl | (simp; done) | (simp [*]; done)), H', ⟨by first | omega | exact Nat.le_refl _⟩, ⟨by repeat (first | (with_reducible first | exact HB.out | apply below_alloc | apply pw_below_drewN | apply below_drew1) | exact HB.out)⟩⟩
   · rw [if_neg c4] at H
     have c4b0 : decide (64 < (a0.size : Int)) = false := decide_eq_false c4
     have c4b1 : decide (64 < a0.size) = false := decide_eq_false (by omega)
     clear c4
     (first | rw [c4b0] | (simp only [i64_w, i32_w]; rw [c4b0]) | skip)
     have H' := Aside0.mk H
     clear H
     go_wp2
     go_meet
     case rel => exact ⟨_, (a0), (by first | rfl | (simp; done) | (simp [*]; done)), H', ⟨by first | omega | exact Nat.le_refl _⟩, ⟨by repeat (first | (with_reducible first | exact HB.out | apply below_alloc | apply pw_below_drewN | apply below_drew1) | exact HB.out)⟩⟩
 case rest =>
   clear HC3
   try clear p2
   try clear c4
   try clear c4b0
   try clear c4b1
   try clear c6
   obtain ⟨kq, x0_2, rfl, HA, HJ2, HB⟩ := hcut
   cases kq with
   | zero => exact absurd HA.out (by simp [impl_hmac.j0])
   | succ kj2 =>
     have H := HA.out
     clear HA
     simp only [impl_hmac.j0] at H
     replace H := Option.bind_eq_some_iff.mp H
     obtain ⟨t220, A70, H⟩ := H
     replace H : ((impl_masked.f x0_2 54).bind fun t221 => (if t221.size + a1.size ≤ 9223372036854775807 then ((impl_hash.f (t221 ++ a1)).bind fun t222 => (if t220.size + t222.size ≤ 9223372036854775807 then ((impl_hash.f (t220 ++ t222)).bind fun t223 => (some t223)) else (none))) else (none))) = some r := H
     have A7 := Aside0.mk A70
     clear A70
     replace H := Option.bind_eq_some_iff.mp H
     obtain ⟨t221, A80, H⟩ := H
     replace H : (if t221.size + a1.size ≤ 9223372036854775807 then ((impl_hash.f (t221 ++ a1)).bind fun t222 => (if t220.size + t222.size ≤ 9223372036854775807 then ((impl_hash.f (t220 ++ t222)).bind fun t223 => (some t223)) else (none))) else (none)) = some r := H
     have A8 := Aside0.mk A80
     clear A80
     by_cases c9 : t221.size + a1.size ≤ 9223372036854775807
     · rw [if_pos c9] at H
       have c9b0 := eq_true c9
       have c9b1 : decide (t221.size + a1.size ≤ 9223372036854775807) = true := decide_eq_true c9
       try have c9b2 : (9223372036854775807 < t221.size + a1.size) = False := eq_false (Nat.not_lt.2 c9)
       replace H := Option.bind_eq_some_iff.mp H
       obtain ⟨t222, A100, H⟩ := H
       replace H : (if t220.size + t222.size ≤ 9223372036854775807 then ((impl_hash.f (t220 ++ t222)).bind fun t223 => (some t223)) else (none)) = some r := H
       have A10 := Aside0.mk A100
       clear A100
       by_cases c11 : t220.size + t222.size ≤ 9223372036854775807
       · rw [if_pos c11] at H
         have c11b0 := eq_true c11
         have c11b1 : decide (t220.size + t222.size ≤ 9223372036854775807) = true := decide_eq_true c11
         try have c11b2 : (9223372036854775807 < t220.size + t222.size) = False := eq_false (Nat.not_lt.2 c11)
         replace H := Option.bind_eq_some_iff.mp H
         obtain ⟨t223, A120, H⟩ := H
         replace H : (some t223) = some r := H
         have A12 := Aside0.mk A120
         clear A120
         obtain rfl := Option.some.inj H
         go_wp2_with (first | ((with_reducible refine gate_callee (f := 93) rfl ?_); refine goesL_ (some 11) rfl rfl Try.func93 (by kernel_rfl) rfl #[.string x0_2, .int .u8 92] rfl (by (try simp only [List.map_toArray, List.map_cons, List.map_nil]); first | done | rfl | (simp only [List.length_drop, List.length_take]; rfl)) ?_; (with_reducible refine (impl_masked.calls x0_2 92 t220 _ A7.out).mono ?_); rintro e w13 ⟨rfl, hb⟩; refine ⟨_, rfl, ?_⟩; have n0_ := Aside0.mk (below_step (by repeat (first | (with_reducible first | exact HB.out | apply below_alloc | apply pw_below_drewN | apply below_drew1) | exact HB.out)) hb); clear HB; have HB := n0_; clear n0_; (try clear hb); (try clear hb2); (try clear hk); (try clear hi)) | ((with_reducible refine gate_callee (f := 93) rfl ?_); refine goesL_ (some 13) rfl rfl Try.func93 (by kernel_rfl) rfl #[.string x0_2, .int .u8 54] rfl (by (try simp only [List.map_toArray, List.map_cons, List.map_nil]); first | done | rfl | (simp only [List.length_drop, List.length_take]; rfl)) ?_; (with_reducible refine (impl_masked.calls x0_2 54 t221 _ A8.out).mono ?_); rintro e w14 ⟨rfl, hb⟩; refine ⟨_, rfl, ?_⟩; have n0_ := Aside0.mk (below_step (by repeat (first | (with_reducible first | exact HB.out | apply below_alloc | apply pw_below_drewN | apply below_drew1) | exact HB.out)) hb); clear HB; have HB := n0_; clear n0_; (try clear hb); (try clear hb2); (try clear hk); (try clear hi)) | ((with_reducible refine gate_callee (f := 69) rfl ?_); refine goesL_ (some 16) rfl rfl Try.func69 (by kernel_rfl) rfl #[.string (t221 ++ a1)] rfl (by (try simp only [List.map_toArray, List.map_cons, List.map_nil]); first | done | rfl | (simp only [List.length_drop, List.length_take]; rfl)) ?_; (with_reducible refine (impl_hash.calls (t221 ++ a1) t222 _ A10.out).mono ?_); rintro e w15 ⟨rfl, hb⟩; refine ⟨_, rfl, ?_⟩; have n0_ := Aside0.mk (below_step (by repeat (first | (with_reducible first | exact HB.out | apply below_alloc | apply pw_below_drewN | apply below_drew1) | exact HB.out)) hb); clear HB; have HB := n0_; clear n0_; (try clear hb); (try clear hb2); (try clear hk); (try clear hi)) | ((with_reducible refine gate_callee (f := 69) rfl ?_); refine goesL_ (some 18) rfl rfl Try.func69 (by kernel_rfl) rfl #[.string (t220 ++ t222)] rfl (by (try simp only [List.map_toArray, List.map_cons, List.map_nil]); first | done | rfl | (simp only [List.length_drop, List.length_take]; rfl)) ?_; (with_reducible refine (impl_hash.calls (t220 ++ t222) t223 _ A12.out).mono ?_); rintro e w16 ⟨rfl, hb⟩; refine ⟨_, rfl, ?_⟩; have n0_ := Aside0.mk (below_step (by repeat (first | (with_reducible first | exact HB.out | apply below_alloc | apply pw_below_drewN | apply below_drew1) | exact HB.out)) hb); clear HB; have HB := n0_; clear n0_; (try clear hb); (try clear hb2); (try clear hk); (try clear hi)))
         go_ret
         exact ⟨by first | rfl | (simp [errW_none, errW_some] <;> rfl) | (simp [*, errW_none, errW_some] <;> rfl), by repeat (first | (with_reducible first | exact HB.out | apply below_alloc | apply pw_below_drewN | apply below_drew1) | exact HB.out)⟩
       · rw [if_neg c11] at H
         exact absurd H (by simp)
     · rw [if_neg c9] at H
       exact absurd H (by simp)
def impl_expand.l0 : Nat → ByteArray → ByteArray → Int → ByteArray → ByteArray → Int → Option (ByteArray)
 | 0, _, _, _, _, _, _ => none
 | k + 1, x0, x1, x2, x7, x8, x9 => if (x7.size : Int) < x2 then (if x8.size + x1.size ≤ 9223372036854775807 then ((impl_bytesOf.f k x9 1).bind fun t224 => (if (x8 ++ x1).size + t224.size ≤ 9223372036854775807 then ((impl_hmac.f k x0 ((x8 ++ x1) ++ t224)).bind fun t225 => (if x7.size + t225.size ≤ 9223372036854775807 then (impl_expand.l0 k x0 x1 x2 (x7 ++ t225) t225 (wrap64 (x9 + 1))) else (none))) else (none))) else (none)) else (if 0 ≤ x2 then (if x2 ≤ (x7.size : Int) then (some (x7.extract 0 (x2 : Int).toNat)) else (none)) else (none))
def impl_expand.f (k : Nat) (a0 : ByteArray) (a1 : ByteArray) (a2 : Int) : Option (ByteArray) := impl_expand.l0 k a0 a1 a2 (⟨#[]⟩ : ByteArray) (⟨#[]⟩ : ByteArray) 1
set_option maxHeartbeats 8000000 in
set_option maxRecDepth 100000 in
theorem impl_expand.calls (k : Nat) (a0 : ByteArray) (a1 : ByteArray) (a2 : Int) (r : ByteArray) (w : World) (h : impl_expand.f k a0 a1 a2 = some r) :
   Calls Try.prog 74 #[.string a0, .string a1, .int .i64 a2] w fun e w' => e = .returned (.string r) ∧ Below w.heap.size w w' := by
 have HB := Aside0.mk (Below.refl w.heap.size w)
 have H : (impl_expand.l0 k a0 a1 a2 (⟨#[]⟩ : ByteArray) (⟨#[]⟩ : ByteArray) 1) = some r := h
 clear h
 have H' := Aside0.mk H
 clear H
 go_enter Try.func74, Try.ntmps74
 go_wp2
 go_loopg [7, 8, 9] k (fun kq v7 v8 v9 w' => ∃ (x7_1 : ByteArray) (x8_1 : ByteArray) (x9_1 : Int), v7 = .string x7_1 ∧ v8 = .string x8_1 ∧ v9 = .int .i64 x9_1 ∧ Aside0 (impl_expand.l0 kq a0 a1 a2 x7_1 x8_1 x9_1 = some r) ∧ Aside0 (kq ≤ k) ∧ Aside0 (Below w.heap.size w w'))
 case atStart => exact ⟨((⟨#[]⟩ : ByteArray)), ((⟨#[]⟩ : ByteArray)), (1), (by first | rfl | (simp; done) | (simp [*]; done)), (by first | rfl | (simp; done) | (simp [*]; done)), (by first | rfl | (simp; done) | (simp [*]; done)), H', ⟨Nat.le_refl _⟩, ⟨by repeat (first | (with_reducible first | exact HB.out | apply below_alloc | apply pw_below_drewN | apply below_drew1) | exact HB.out)⟩⟩
 case round =>
   clear H'
   try clear p2
   obtain ⟨x7_1, x8_1, x9_1, rfl, rfl, rfl, HA, HK1, HB⟩ := hrel
   cases gk with
   | zero => exact absurd HA.out (by simp [impl_expand.l0])
   | succ k1 =>
     have H := HA.out
     clear HA
     simp only [impl_expand.l0] at H
     by_cases c4 : (x7_1.size : Int) < a2
     · rw [if_pos c4] at H
       have c4b0 : decide ((x7_1.size : Int) < a2) = true := decide_eq_true c4
       clear c4
       by_cases c5 : x8_1.size + a1.size ≤ 9223372036854775807
       · rw [if_pos c5] at H
         have c5b0 := eq_true c5
         have c5b1 : decide (x8_1.size + a1.size ≤ 9223372036854775807) = true := decide_eq_true c5
         try have c5b2 : (9223372036854775807 < x8_1.size + a1.size) = False := eq_false (Nat.not_lt.2 c5)
         replace H := Option.bind_eq_some_iff.mp H
         obtain ⟨t224, A60, H⟩ := H
         replace H : (if (x8_1 ++ a1).size + t224.size ≤ 9223372036854775807 then ((impl_hmac.f k1 a0 ((x8_1 ++ a1) ++ t224)).bind fun t225 => (if x7_1.size + t225.size ≤ 9223372036854775807 then (impl_expand.l0 k1 a0 a1 a2 (x7_1 ++ t225) t225 (wrap64 (x9_1 + 1))) else (none))) else (none)) = some r := H
         have A6 := Aside0.mk A60
         clear A60
         by_cases c7 : (x8_1 ++ a1).size + t224.size ≤ 9223372036854775807
         · rw [if_pos c7] at H
           have c7b0 := eq_true c7
           have c7b1 : decide ((x8_1 ++ a1).size + t224.size ≤ 9223372036854775807) = true := decide_eq_true c7
           try have c7b2 : (9223372036854775807 < (x8_1 ++ a1).size + t224.size) = False := eq_false (Nat.not_lt.2 c7)
           try (have c7b4 := Nat.not_lt.2 c7; simp only [ByteArray.size_append] at c7b4; replace c7b4 := eq_false c7b4)
           replace H := Option.bind_eq_some_iff.mp H
           obtain ⟨t225, A80, H⟩ := H
           replace H : (if x7_1.size + t225.size ≤ 9223372036854775807 then (impl_expand.l0 k1 a0 a1 a2 (x7_1 ++ t225) t225 (wrap64 (x9_1 + 1))) else (none)) = some r := H
           have A8 := Aside0.mk A80
           clear A80
           by_cases c9 : x7_1.size + t225.size ≤ 9223372036854775807
           · rw [if_pos c9] at H
             have c9b0 := eq_true c9
             have c9b1 : decide (x7_1.size + t225.size ≤ 9223372036854775807) = true := decide_eq_true c9
             try have c9b2 : (9223372036854775807 < x7_1.size + t225.size) = False := eq_false (Nat.not_lt.2 c9)
             have H' := Aside0.mk H
             clear H
             go_wp2_with (first | ((with_reducible refine gate_callee (f := 85) rfl ?_); refine goesL_ (some 21) rfl rfl Try.func85 (by kernel_rfl) rfl #[.int .i64 x9_1, .int .i64 1] rfl (by (try simp only [List.map_toArray, List.map_cons, List.map_nil]); first | done | rfl | (simp only [List.length_drop, List.length_take]; rfl)) ?_; (with_reducible refine (impl_bytesOf.calls k1 x9_1 1 t224 _ A6.out).mono ?_); rintro e w10 ⟨rfl, hb⟩; refine ⟨_, rfl, ?_⟩; have n0_ := Aside0.mk (below_step (by repeat (first | (with_reducible first | exact HB.out | apply below_alloc | apply pw_below_drewN | apply below_drew1) | exact HB.out)) hb); clear HB; have HB := n0_; clear n0_; (try clear hb); (try clear hb2); (try clear hk); (try clear hi)) | ((with_reducible refine gate_callee (f := 71) rfl ?_); refine goesL_ (some 23) rfl rfl Try.func71 (by kernel_rfl) rfl #[.string a0, .string ((x8_1 ++ a1) ++ t224)] rfl (by (try simp only [List.map_toArray, List.map_cons, List.map_nil]); first | done | rfl | (simp only [List.length_drop, List.length_take]; rfl)) ?_; (with_reducible refine (impl_hmac.calls k1 a0 ((x8_1 ++ a1) ++ t224) t225 _ A8.out).mono ?_); rintro e w11 ⟨rfl, hb⟩; refine ⟨_, rfl, ?_⟩; have n0_ := Aside0.mk (below_step (by repeat (first | (with_reducible first | exact HB.out | apply below_alloc | apply pw_below_drewN | apply below_drew1) | exact HB.out)) hb); clear HB; have HB := n0_; clear n0_; (try clear hb); (try clear hb2); (try clear hk); (try clear hi)))
             go_roundg k1
             case measure => have := HK1.out; omega
             case rel => exact ⟨(x7_1 ++ t225), (t225), (wrap64 (x9_1 + 1)), (by first | rfl | (simp; done) | (simp [*]; done)), (by first | rfl | (simp; done) | (simp [*]; done)), (by first | rfl | (simp; done) | (simp [*]; done)), H', ⟨by have := HK1.out; omega⟩, ⟨by repeat (first | (with_reducible first | exact HB.out | apply below_alloc | apply pw_below_drewN | apply below_drew1) | exact HB.out)⟩⟩
           · rw [if_neg c9] at H
             exact absurd H (by simp)
         · rw [if_neg c7] at H
           exact absurd H (by simp)
       · rw [if_neg c5] at H
         exact absurd H (by simp)
     · rw [if_neg c4] at H
       have c4b0 : decide ((x7_1.size : Int) < a2) = false := decide_eq_false c4
       clear c4
       by_cases c12 : 0 ≤ a2
       · rw [if_pos c12] at H
         have c12b0 := eq_true c12
         have c12b1 : decide (0 ≤ a2) = true := decide_eq_true c12
         clear c12
         by_cases c13 : a2 ≤ (x7_1.size : Int)
         · rw [if_pos c13] at H
           have c13b0 := eq_true c13
           have c13b1 : decide (a2 ≤ (x7_1.size : Int)) = true := decide_eq_true c13
           clear c13
           obtain rfl := Option.some.inj H
           go_wp2
           go_ret
           exact ⟨by first | rfl | (simp [errW_none, errW_some] <;> rfl) | (simp [*, errW_none, errW_some] <;> rfl), by repeat (first | (with_reducible first | exact HB.out | apply below_alloc | apply pw_below_drewN | apply below_drew1) | exact HB.out)⟩
         · rw [if_neg c13] at H
           exact absurd H (by simp)
       · rw [if_neg c12] at H
         exact absurd H (by simp)
def impl_sealKeys.f (k : Nat) (a0 : ByteArray) : Option (ByteArray × ByteArray) := (impl_hmac.f k (⟨#[115, 101, 97, 108]⟩ : ByteArray) a0).bind fun t226 => ((impl_expand.f k t226 (⟨#[107, 101, 121, 115]⟩ : ByteArray) 64).bind fun t227 => (if 0 ≤ 32 then (if 32 ≤ (t227.size : Int) then (some (t227.extract 0 32, t227.extract 32 t227.size)) else (none)) else (none)))
set_option maxHeartbeats 8000000 in
set_option maxRecDepth 100000 in
theorem impl_sealKeys.calls (k : Nat) (a0 : ByteArray) (r1 : ByteArray) (r2 : ByteArray) (w : World) (h : impl_sealKeys.f k a0 = some (r1, r2)) :
   Calls Try.prog 61 #[.string a0] w fun e w' => e = .returned (.tuple #[.string r1, .string r2]) ∧ Below w.heap.size w w' := by
 have HB := Aside0.mk (Below.refl w.heap.size w)
 have H : ((impl_hmac.f k (⟨#[115, 101, 97, 108]⟩ : ByteArray) a0).bind fun t226 => ((impl_expand.f k t226 (⟨#[107, 101, 121, 115]⟩ : ByteArray) 64).bind fun t227 => (if 0 ≤ 32 then (if 32 ≤ (t227.size : Int) then (some (t227.extract 0 32, t227.extract 32 t227.size)) else (none)) else (none)))) = some (r1, r2) := h
 clear h
 replace H := Option.bind_eq_some_iff.mp H
 obtain ⟨t226, A20, H⟩ := H
 replace H : ((impl_expand.f k t226 (⟨#[107, 101, 121, 115]⟩ : ByteArray) 64).bind fun t227 => (if 0 ≤ 32 then (if 32 ≤ (t227.size : Int) then (some (t227.extract 0 32, t227.extract 32 t227.size)) else (none)) else (none))) = some (r1, r2) := H
 have A2 := Aside0.mk A20
 clear A20
 replace H := Option.bind_eq_some_iff.mp H
 obtain ⟨t227, A30, H⟩ := H
 replace H : (if 0 ≤ 32 then (if 32 ≤ (t227.size : Int) then (some (t227.extract 0 32, t227.extract 32 t227.size)) else (none)) else (none)) = some (r1, r2) := H
 have A3 := Aside0.mk A30
 clear A30
 by_cases c4 : 0 ≤ 32
 · rw [if_pos c4] at H
   have c4b0 := eq_true c4
   have c4b1 : decide (0 ≤ 32) = true := decide_eq_true c4
   clear c4
   by_cases c5 : 32 ≤ (t227.size : Int)
   · rw [if_pos c5] at H
     have c5b0 := eq_true c5
     have c5b1 : decide (32 ≤ (t227.size : Int)) = true := decide_eq_true c5
     clear c5
     have c6b0 := eq_true (of_decide_eq_true (by first | (with_reducible assumption) | assumption) : 32 ≤ (t227.size : Int))
     simp only [Option.some.injEq, Prod.mk.injEq] at H
     obtain ⟨rfl, rfl⟩ := H
     go_enter Try.func61, Try.ntmps61
     go_wp2_with (first | (go_at_call 71; (with_reducible refine (impl_hmac.calls k (⟨#[115, 101, 97, 108]⟩ : ByteArray) a0 t226 _ A2.out).mono ?_); rintro e w7 ⟨rfl, hb⟩; have n0_ := Aside0.mk (below_step (by repeat (first | (with_reducible first | exact HB.out | apply below_alloc | apply pw_below_drewN | apply below_drew1) | exact HB.out)) hb); clear HB; have HB := n0_; clear n0_; (try clear hb); (try clear hb2); (try clear hk); (try clear hi)) | (go_at_call 74; (with_reducible refine (impl_expand.calls k t226 (⟨#[107, 101, 121, 115]⟩ : ByteArray) 64 t227 _ A3.out).mono ?_); rintro e w8 ⟨rfl, hb⟩; have n0_ := Aside0.mk (below_step (by repeat (first | (with_reducible first | exact HB.out | apply below_alloc | apply pw_below_drewN | apply below_drew1) | exact HB.out)) hb); clear HB; have HB := n0_; clear n0_; (try clear hb); (try clear hb2); (try clear hk); (try clear hi)))
     repeat (go_quiet (first | (go_at_call 71; (with_reducible refine (impl_hmac.calls k (⟨#[115, 101, 97, 108]⟩ : ByteArray) a0 t226 _ A2.out).mono ?_); rintro e w7 ⟨rfl, hb⟩; have n0_ := Aside0.mk (below_step (by repeat (first | (with_reducible first | exact HB.out | apply below_alloc | apply pw_below_drewN | apply below_drew1) | exact HB.out)) hb); clear HB; have HB := n0_; clear n0_; (try clear hb); (try clear hb2); (try clear hk); (try clear hi)) | (go_at_call 74; (with_reducible refine (impl_expand.calls k t226 (⟨#[107, 101, 121, 115]⟩ : ByteArray) 64 t227 _ A3.out).mono ?_); rintro e w8 ⟨rfl, hb⟩; have n0_ := Aside0.mk (below_step (by repeat (first | (with_reducible first | exact HB.out | apply below_alloc | apply pw_below_drewN | apply below_drew1) | exact HB.out)) hb); clear HB; have HB := n0_; clear n0_; (try clear hb); (try clear hb2); (try clear hk); (try clear hi))); try go_wp2_with (first | (go_at_call 71; (with_reducible refine (impl_hmac.calls k (⟨#[115, 101, 97, 108]⟩ : ByteArray) a0 t226 _ A2.out).mono ?_); rintro e w7 ⟨rfl, hb⟩; have n0_ := Aside0.mk (below_step (by repeat (first | (with_reducible first | exact HB.out | apply below_alloc | apply pw_below_drewN | apply below_drew1) | exact HB.out)) hb); clear HB; have HB := n0_; clear n0_; (try clear hb); (try clear hb2); (try clear hk); (try clear hi)) | (go_at_call 74; (with_reducible refine (impl_expand.calls k t226 (⟨#[107, 101, 121, 115]⟩ : ByteArray) 64 t227 _ A3.out).mono ?_); rintro e w8 ⟨rfl, hb⟩; have n0_ := Aside0.mk (below_step (by repeat (first | (with_reducible first | exact HB.out | apply below_alloc | apply pw_below_drewN | apply below_drew1) | exact HB.out)) hb); clear HB; have HB := n0_; clear n0_; (try clear hb); (try clear hb2); (try clear hk); (try clear hi))))
     go_ret2
     exact ⟨by first | rfl | (simp [errW_none, errW_some] <;> rfl) | (simp [*, errW_none, errW_some] <;> rfl), by repeat (first | (with_reducible first | exact HB.out | apply below_alloc | apply pw_below_drewN | apply below_drew1) | exact HB.out)⟩
   · rw [if_neg c5] at H
     exact absurd H (by simp)
 · rw [if_neg c4] at H
   exact absurd H (by simp)
def impl_times.l0 : Nat → Int → Int → Int → Option (Int)
 | 0, _, _, _ => none
 | k + 1, x1, x5, x6 => if x1 > 0 then (if (Go.bits .and .u8 x1 1) = 1 then (if (wrap64 (x6 * 2)) > 255 then (impl_times.l0 k (x1 / 2) (Go.bits .xor .i64 x5 x6) (Go.bits .xor .i64 (wrap64 (x6 * 2)) 283)) else (impl_times.l0 k (x1 / 2) (Go.bits .xor .i64 x5 x6) (wrap64 (x6 * 2)))) else (if (wrap64 (x6 * 2)) > 255 then (impl_times.l0 k (x1 / 2) x5 (Go.bits .xor .i64 (wrap64 (x6 * 2)) 283)) else (impl_times.l0 k (x1 / 2) x5 (wrap64 (x6 * 2))))) else (some ((x5) % 256))
def impl_times.f (k : Nat) (a0 : Int) (a1 : Int) : Option (Int) := impl_times.l0 k a1 0 (wrap64 (a0))
set_option maxHeartbeats 8000000 in
set_option maxRecDepth 100000 in
theorem impl_times.calls (k : Nat) (a0 : Int) (a1 : Int) (r : Int) (w : World) (h : impl_times.f k a0 a1 = some r) :
   Calls Try.prog 116 #[.int .u8 a0, .int .u8 a1] w fun e w' => e = .returned (.int .u8 r) ∧ Drawn0 w w' := by
 have H : (impl_times.l0 k a1 0 (wrap64 (a0))) = some r := h
 clear h
 have H' := Aside0.mk H
 clear H
 go_enter Try.func116, Try.ntmps116
 go_wp2
 go_loopg [1, 5, 6] k (fun kq v1 v5 v6 w' => ∃ (x1_1 : Int) (x5_1 : Int) (x6_1 : Int), v1 = .int .u8 x1_1 ∧ v5 = .int .i64 x5_1 ∧ v6 = .int .i64 x6_1 ∧ Aside0 (impl_times.l0 kq x1_1 x5_1 x6_1 = some r) ∧ Aside0 (kq ≤ k) ∧ Drawn0 w w')
 case atStart => exact ⟨(a1), (0), (wrap64 (a0)), (by first | rfl | (simp; done) | (simp [*]; done)), (by first | rfl | (simp; done) | (simp [*]; done)), (by first | rfl | (simp; done) | (simp [*]; done)), H', ⟨Nat.le_refl _⟩, by repeat (first | exact Drawn0.refl _ | apply Drawn0.step)⟩
 case round =>
   clear H'
   try clear c1
   try clear p2
   obtain ⟨x1_1, x5_1, x6_1, rfl, rfl, rfl, HA, HK1, ⟨m1, rfl⟩⟩ := hrel
   cases gk with
   | zero => exact absurd HA.out (by simp [impl_times.l0])
   | succ k1 =>
     have H := HA.out
     clear HA
     simp only [impl_times.l0] at H
     by_cases c3 : x1_1 > 0
     · rw [if_pos c3] at H
       have c3b0 : decide (0 < x1_1) = true := decide_eq_true c3
       clear c3
       by_cases c4 : (Go.bits .and .u8 x1_1 1) = 1
       · rw [if_pos c4] at H
         have c4b0 : ((Go.bits .and .u8 x1_1 1) == 1) = true := beq_iff_eq.mpr c4
         have c4b1 : ((Go.bits .and .u8 x1_1 1) != 1) = false := bne_eq_false_iff_eq.mpr c4
         clear c4
         by_cases c5 : (wrap64 (x6_1 * 2)) > 255
         · rw [if_pos c5] at H
           have c5b0 : decide (255 < (wrap64 (x6_1 * 2))) = true := decide_eq_true c5
           clear c5
           have H' := Aside0.mk H
           clear H
           go_wp2
           go_roundg k1
           case measure => have := HK1.out; omega
           case rel => exact ⟨(x1_1 / 2), (Go.bits .xor .i64 x5_1 x6_1), (Go.bits .xor .i64 (wrap64 (x6_1 * 2)) 283), (by first | rfl | (simp; done) | (simp [*]; done)), (by first | rfl | (simp; done) | (simp [*]; done)), (by first | rfl | (simp; done) | (simp [*]; done)), H', ⟨by have := HK1.out; omega⟩, by repeat (first | exact Drawn0.refl _ | apply Drawn0.step)⟩
         · rw [if_neg c5] at H
           have c5b0 : decide (255 < (wrap64 (x6_1 * 2))) = false := decide_eq_false c5
           clear c5
           have H' := Aside0.mk H
           clear H
           go_wp2
           go_roundg k1
           case measure => have := HK1.out; omega
           case rel => exact ⟨(x1_1 / 2), (Go.bits .xor .i64 x5_1 x6_1), (wrap64 (x6_1 * 2)), (by first | rfl | (simp; done) | (simp [*]; done)), (by first | rfl | (simp; done) | (simp [*]; done)), (by first | rfl | (simp; done) | (simp [*]; done)), H', ⟨by have := HK1.out; omega⟩, by repeat (first | exact Drawn0.refl _ | apply Drawn0.step)⟩
       · rw [if_neg c4] at H
         have c4b0 : ((Go.bits .and .u8 x1_1 1) == 1) = false := beq_eq_false_iff_ne.mpr c4
         have c4b1 : ((Go.bits .and .u8 x1_1 1) != 1) = true := bne_iff_ne.mpr c4
         by_cases c6 : (wrap64 (x6_1 * 2)) > 255
         · rw [if_pos c6] at H
           have c6b0 : decide (255 < (wrap64 (x6_1 * 2))) = true := decide_eq_true c6
           clear c6
           have H' := Aside0.mk H
           clear H
           go_wp2
           go_roundg k1
           case measure => have := HK1.out; omega
           case rel => exact ⟨(x1_1 / 2), (x5_1), (Go.bits .xor .i64 (wrap64 (x6_1 * 2)) 283), (by first | rfl | (simp; done) | (simp [*]; done)), (by first | rfl | (simp; done) | (simp [*]; done)), (by first | rfl | (simp; done) | (simp [*]; done)), H', ⟨by have := HK1.out; omega⟩, by repeat (first | exact Drawn0.refl _ | apply Drawn0.step)⟩
         · rw [if_neg c6] at H
           have c6b0 : decide (255 < (wrap64 (x6_1 * 2))) = false := decide_eq_false c6
           clear c6
           have H' := Aside0.mk H
           clear H
           go_wp2
           go_roundg k1
           case measure => have := HK1.out; omega
           case rel => exact ⟨(x1_1 / 2), (x5_1), (wrap64 (x6_1 * 2)), (by first | rfl | (simp; done) | (simp [*]; done)), (by first | rfl | (simp; done) | (simp [*]; done)), (by first | rfl | (simp; done) | (simp [*]; done)), H', ⟨by have := HK1.out; omega⟩, by repeat (first | exact Drawn0.refl _ | apply Drawn0.step)⟩
     · rw [if_neg c3] at H
       have c3b0 : decide (0 < x1_1) = false := decide_eq_false c3
       clear c3
       obtain rfl := Option.some.inj H
       go_wp2
       go_ret
       exact ⟨by first | rfl | (simp; done) | (simp [*]; done), by repeat (first | exact Drawn0.refl _ | apply Drawn0.step)⟩
end Go.Proofs.Ytlfpogbonmddmaa.P
namespace Go.Proofs.Ytlfpogbonmddmaa.P
open Go.RowKit Go.Proofs.YtlfpogbonmddmaaW.PrintWords Go.Proofs.YtlfpogbonmddmaaW.PrintLast Go.Proofs.YtlfpogbonmddmaaW.PrintMore
attribute [local go_sem] min2_int min_two
set_option linter.unusedVariables false
set_option linter.unusedSimpArgs false
def impl_inverse.l0 : Nat → Int → Int → Int → Option (Int)
 | 0, _, _, _ => none
 | k + 1, x3, x4, x6 => if x6 < 7 then ((impl_times.f k x4 x4).bind fun t228 => ((impl_times.f k x3 t228).bind fun t229 => (impl_inverse.l0 k t229 t228 (wrap64 (x6 + 1))))) else (some x3)
def impl_inverse.f (k : Nat) (a0 : Int) : Option (Int) := impl_inverse.l0 k 1 a0 0
set_option maxHeartbeats 8000000 in
set_option maxRecDepth 100000 in
theorem impl_inverse.calls (k : Nat) (a0 : Int) (r : Int) (w : World) (h : impl_inverse.f k a0 = some r) :
   Calls Try.prog 121 #[.int .u8 a0] w fun e w' => e = .returned (.int .u8 r) ∧ Drawn0 w w' := by
 have H : (impl_inverse.l0 k 1 a0 0) = some r := h
 clear h
 have H' := Aside0.mk H
 clear H
 go_enter Try.func121, Try.ntmps121
 go_wp2
 go_loopg [3, 4, 6] k (fun kq v3 v4 v6 w' => ∃ (x3_1 : Int) (x4_1 : Int) (x6_1 : Int), v3 = .int .u8 x3_1 ∧ v4 = .int .u8 x4_1 ∧ v6 = .int .i64 x6_1 ∧ Aside0 (impl_inverse.l0 kq x3_1 x4_1 x6_1 = some r) ∧ Aside0 (kq ≤ k) ∧ Drawn0 w w')
 case atStart => exact ⟨(1), (a0), (0), (by first | rfl | (simp; done) | (simp [*]; done)), (by first | rfl | (simp; done) | (simp [*]; done)), (by first | rfl | (simp; done) | (simp [*]; done)), H', ⟨Nat.le_refl _⟩, by repeat (first | exact Drawn0.refl _ | apply Drawn0.step)⟩
 case round =>
   clear H'
   try clear c1
   obtain ⟨x3_1, x4_1, x6_1, rfl, rfl, rfl, HA, HK1, ⟨m1, rfl⟩⟩ := hrel
   cases gk with
   | zero => exact absurd HA.out (by simp [impl_inverse.l0])
   | succ k1 =>
     have H := HA.out
     clear HA
     simp only [impl_inverse.l0] at H
     by_cases c2 : x6_1 < 7
     · rw [if_pos c2] at H
       have c2b0 : decide (x6_1 < 7) = true := decide_eq_true c2
       clear c2
       replace H := Option.bind_eq_some_iff.mp H
       obtain ⟨t228, A30, H⟩ := H
       replace H : ((impl_times.f k1 x3_1 t228).bind fun t229 => (impl_inverse.l0 k1 t229 t228 (wrap64 (x6_1 + 1)))) = some r := H
       have A3 := Aside0.mk A30
       clear A30
       replace H := Option.bind_eq_some_iff.mp H
       obtain ⟨t229, A40, H⟩ := H
       replace H : (impl_inverse.l0 k1 t229 t228 (wrap64 (x6_1 + 1))) = some r := H
       have A4 := Aside0.mk A40
       clear A40
       have H' := Aside0.mk H
       clear H
       go_wp2_with (first | ((with_reducible refine gate_callee (f := 116) rfl ?_); refine goesL_ (some 10) rfl rfl Try.func116 (by kernel_rfl) rfl #[.int .u8 x4_1, .int .u8 x4_1] rfl (by (try simp only [List.map_toArray, List.map_cons, List.map_nil]); first | done | rfl | (simp only [List.length_drop, List.length_take]; rfl)) ?_; (with_reducible refine (impl_times.calls k1 x4_1 x4_1 t228 _ A3.out).mono ?_); rintro e w' ⟨rfl, ⟨nd, rfl⟩⟩; refine ⟨_, rfl, ?_⟩) | ((with_reducible refine gate_callee (f := 116) rfl ?_); refine goesL_ (some 13) rfl rfl Try.func116 (by kernel_rfl) rfl #[.int .u8 x3_1, .int .u8 t228] rfl (by (try simp only [List.map_toArray, List.map_cons, List.map_nil]); first | done | rfl | (simp only [List.length_drop, List.length_take]; rfl)) ?_; (with_reducible refine (impl_times.calls k1 x3_1 t228 t229 _ A4.out).mono ?_); rintro e w' ⟨rfl, ⟨nd, rfl⟩⟩; refine ⟨_, rfl, ?_⟩))
       go_roundg k1
       case measure => have := HK1.out; omega
       case rel => exact ⟨(t229), (t228), (wrap64 (x6_1 + 1)), (by first | rfl | (simp; done) | (simp [*]; done)), (by first | rfl | (simp; done) | (simp [*]; done)), (by first | rfl | (simp; done) | (simp [*]; done)), H', ⟨by have := HK1.out; omega⟩, by repeat (first | exact Drawn0.refl _ | apply Drawn0.step)⟩
     · rw [if_neg c2] at H
       have c2b0 : decide (x6_1 < 7) = false := decide_eq_false c2
       clear c2
       obtain rfl := Option.some.inj H
       go_wp2
       go_ret
       exact ⟨by first | rfl | (simp; done) | (simp [*]; done), by repeat (first | exact Drawn0.refl _ | apply Drawn0.step)⟩
def bits_RotateLeft8.f (a0 : Int) (a1 : Int) : Option (Int) := if 0 ≤ (Go.bits .and .u64 (IntKind.u64.wrap (a1)) 7) then (if 0 ≤ (IntKind.u64.wrap (8 - (Go.bits .and .u64 (IntKind.u64.wrap (a1)) 7))) then (some (Go.bits .or .u8 (shl .u8 a0 (Go.bits .and .u64 (IntKind.u64.wrap (a1)) 7)) (shr .u8 a0 (IntKind.u64.wrap (8 - (Go.bits .and .u64 (IntKind.u64.wrap (a1)) 7)))))) else (none)) else (none)
set_option maxHeartbeats 8000000 in
set_option maxRecDepth 100000 in
theorem bits_RotateLeft8.calls (a0 : Int) (a1 : Int) (r : Int) (w : World) (h : bits_RotateLeft8.f a0 a1 = some r) :
   Calls Try.prog 122 #[.int .u8 a0, .int .i64 a1] w fun e w' => e = .returned (.int .u8 r) ∧ Drawn0 w w' := by
 have H : (if 0 ≤ (Go.bits .and .u64 (IntKind.u64.wrap (a1)) 7) then (if 0 ≤ (IntKind.u64.wrap (8 - (Go.bits .and .u64 (IntKind.u64.wrap (a1)) 7))) then (some (Go.bits .or .u8 (shl .u8 a0 (Go.bits .and .u64 (IntKind.u64.wrap (a1)) 7)) (shr .u8 a0 (IntKind.u64.wrap (8 - (Go.bits .and .u64 (IntKind.u64.wrap (a1)) 7)))))) else (none)) else (none)) = some r := h
 clear h
 obtain ⟨ji3, hji3⟩ : ∃ j_ : Int, (Go.bits .and .u64 (IntKind.u64.wrap (a1)) 7) = j_ := ⟨_, rfl⟩
 replace H : (if 0 ≤ (ji3) then (if 0 ≤ (IntKind.u64.wrap (8 - (ji3))) then (some (Go.bits .or .u8 (shl .u8 a0 (ji3)) (shr .u8 a0 (IntKind.u64.wrap (8 - (ji3)))))) else (none)) else (none)) = some r := by first | (rw [hji3] at H; exact H) | (simp only [hji3] at H ⊢; exact H)
 by_cases c4 : 0 ≤ (ji3)
 · rw [if_pos c4] at H
   have c4b0 := eq_true c4
   have c4b1 : decide (0 ≤ (ji3)) = true := decide_eq_true c4
   clear c4
   obtain ⟨ji5, hji5⟩ : ∃ j_ : Int, (shl .u8 a0 (ji3)) = j_ := ⟨_, rfl⟩
   replace H : (if 0 ≤ (IntKind.u64.wrap (8 - (ji3))) then (some (Go.bits .or .u8 (ji5) (shr .u8 a0 (IntKind.u64.wrap (8 - (ji3)))))) else (none)) = some r := by first | (rw [hji5] at H; exact H) | (simp only [hji5] at H ⊢; exact H)
   have hji5_ : (IntKind.u8.wrap (a0 * 2 ^ min (ji3).toNat 8)) = ji5 := hji5
   have hji5z : (ji3) ≤ 8 → (IntKind.u8.wrap (a0 * 2 ^ (ji3).toNat)) = ji5 := shl_small hji5
   obtain ⟨ji6, hji6⟩ : ∃ j_ : Int, (IntKind.u64.wrap (8 - (ji3))) = j_ := ⟨_, rfl⟩
   replace H : (if 0 ≤ (ji6) then (some (Go.bits .or .u8 (ji5) (shr .u8 a0 (ji6)))) else (none)) = some r := by first | (rw [hji6] at H; exact H) | (simp only [hji6] at H ⊢; exact H)
   by_cases c7 : 0 ≤ (ji6)
   · rw [if_pos c7] at H
     have c7b0 := eq_true c7
     have c7b1 : decide (0 ≤ (ji6)) = true := decide_eq_true c7
     clear c7
     obtain ⟨ji8, hji8⟩ : ∃ j_ : Int, (shr .u8 a0 (ji6)) = j_ := ⟨_, rfl⟩
     replace H : (some (Go.bits .or .u8 (ji5) (ji8))) = some r := by first | (rw [hji8] at H; exact H) | (simp only [hji8] at H ⊢; exact H)
     have hji8_ : (a0 / 2 ^ min (ji6).toNat 8) = ji8 := hji8
     have hji8z : (ji6) ≤ 8 → (a0 / 2 ^ (ji6).toNat) = ji8 := shr_small hji8
     obtain rfl := Option.some.inj H
     go_enter Try.func122, Try.ntmps122
     go_wp2
     go_ret
     exact ⟨by first | rfl | (simp; done) | (simp only [← hji3, ← hji5, ← hji6, ← hji8] <;> (first | rfl | simp)) | (simp [*]; done), by repeat (first | exact Drawn0.refl _ | apply Drawn0.step)⟩
   · rw [if_neg c7] at H
     exact absurd H (by simp)
 · rw [if_neg c4] at H
   exact absurd H (by simp)
def impl_substitute.f (k : Nat) (a0 : Int) : Option (Int) := (impl_inverse.f k a0).bind fun t230 => ((bits_RotateLeft8.f t230 1).bind fun t231 => ((bits_RotateLeft8.f t230 2).bind fun t232 => ((bits_RotateLeft8.f t230 3).bind fun t233 => ((bits_RotateLeft8.f t230 4).bind fun t234 => (some (Go.bits .xor .u8 (Go.bits .xor .u8 (Go.bits .xor .u8 (Go.bits .xor .u8 (Go.bits .xor .u8 t230 t231) t232) t233) t234) 99))))))
set_option maxHeartbeats 8000000 in
set_option maxRecDepth 100000 in
theorem impl_substitute.calls (k : Nat) (a0 : Int) (r : Int) (w : World) (h : impl_substitute.f k a0 = some r) :
   Calls Try.prog 115 #[.int .u8 a0] w fun e w' => e = .returned (.int .u8 r) ∧ Drawn0 w w' := by
 have H : ((impl_inverse.f k a0).bind fun t230 => ((bits_RotateLeft8.f t230 1).bind fun t231 => ((bits_RotateLeft8.f t230 2).bind fun t232 => ((bits_RotateLeft8.f t230 3).bind fun t233 => ((bits_RotateLeft8.f t230 4).bind fun t234 => (some (Go.bits .xor .u8 (Go.bits .xor .u8 (Go.bits .xor .u8 (Go.bits .xor .u8 (Go.bits .xor .u8 t230 t231) t232) t233) t234) 99))))))) = some r := h
 clear h
 replace H := Option.bind_eq_some_iff.mp H
 obtain ⟨t230, A20, H⟩ := H
 replace H : ((bits_RotateLeft8.f t230 1).bind fun t231 => ((bits_RotateLeft8.f t230 2).bind fun t232 => ((bits_RotateLeft8.f t230 3).bind fun t233 => ((bits_RotateLeft8.f t230 4).bind fun t234 => (some (Go.bits .xor .u8 (Go.bits .xor .u8 (Go.bits .xor .u8 (Go.bits .xor .u8 (Go.bits .xor .u8 t230 t231) t232) t233) t234) 99)))))) = some r := H
 have A2 := Aside0.mk A20
 clear A20
 replace H := Option.bind_eq_some_iff.mp H
 obtain ⟨t231, A30, H⟩ := H
 replace H : ((bits_RotateLeft8.f t230 2).bind fun t232 => ((bits_RotateLeft8.f t230 3).bind fun t233 => ((bits_RotateLeft8.f t230 4).bind fun t234 => (some (Go.bits .xor .u8 (Go.bits .xor .u8 (Go.bits .xor .u8 (Go.bits .xor .u8 (Go.bits .xor .u8 t230 t231) t232) t233) t234) 99))))) = some r := H
 have A3 := Aside0.mk A30
 clear A30
 replace H := Option.bind_eq_some_iff.mp H
 obtain ⟨t232, A40, H⟩ := H
 replace H : ((bits_RotateLeft8.f t230 3).bind fun t233 => ((bits_RotateLeft8.f t230 4).bind fun t234 => (some (Go.bits .xor .u8 (Go.bits .xor .u8 (Go.bits .xor .u8 (Go.bits .xor .u8 (Go.bits .xor .u8 t230 t231) t232) t233) t234) 99)))) = some r := H
 have A4 := Aside0.mk A40
 clear A40
 replace H := Option.bind_eq_some_iff.mp H
 obtain ⟨t233, A50, H⟩ := H
 replace H : ((bits_RotateLeft8.f t230 4).bind fun t234 => (some (Go.bits .xor .u8 (Go.bits .xor .u8 (Go.bits .xor .u8 (Go.bits .xor .u8 (Go.bits .xor .u8 t230 t231) t232) t233) t234) 99))) = some r := H
 have A5 := Aside0.mk A50
 clear A50
 replace H := Option.bind_eq_some_iff.mp H
 obtain ⟨t234, A60, H⟩ := H
 replace H : (some (Go.bits .xor .u8 (Go.bits .xor .u8 (Go.bits .xor .u8 (Go.bits .xor .u8 (Go.bits .xor .u8 t230 t231) t232) t233) t234) 99)) = some r := H
 have A6 := Aside0.mk A60
 clear A60
 obtain rfl := Option.some.inj H
 go_enter Try.func115, Try.ntmps115
 go_wp2_with (first | ((with_reducible refine gate_callee (f := 121) rfl ?_); refine goesL_ (some 5) rfl rfl Try.func121 (by kernel_rfl) rfl #[.int .u8 a0] rfl (by (try simp only [List.map_toArray, List.map_cons, List.map_nil]); first | done | rfl | (simp only [List.length_drop, List.length_take]; rfl)) ?_; (with_reducible refine (impl_inverse.calls k a0 t230 _ A2.out).mono ?_); rintro e w' ⟨rfl, ⟨nd, rfl⟩⟩; refine ⟨_, rfl, ?_⟩) | ((with_reducible refine gate_callee (f := 122) rfl ?_); refine goesL_ (some 8) rfl rfl Try.func122 (by kernel_rfl) rfl #[.int .u8 t230, .int .i64 1] rfl (by (try simp only [List.map_toArray, List.map_cons, List.map_nil]); first | done | rfl | (simp only [List.length_drop, List.length_take]; rfl)) ?_; (with_reducible refine (bits_RotateLeft8.calls t230 1 t231 _ A3.out).mono ?_); rintro e w' ⟨rfl, ⟨nd, rfl⟩⟩; refine ⟨_, rfl, ?_⟩) | ((with_reducible refine gate_callee (f := 122) rfl ?_); refine goesL_ (some 11) rfl rfl Try.func122 (by kernel_rfl) rfl #[.int .u8 t230, .int .i64 2] rfl (by (try simp only [List.map_toArray, List.map_cons, List.map_nil]); first | done | rfl | (simp only [List.length_drop, List.length_take]; rfl)) ?_; (with_reducible refine (bits_RotateLeft8.calls t230 2 t232 _ A4.out).mono ?_); rintro e w' ⟨rfl, ⟨nd, rfl⟩⟩; refine ⟨_, rfl, ?_⟩) | ((with_reducible refine gate_callee (f := 122) rfl ?_); refine goesL_ (some 14) rfl rfl Try.func122 (by kernel_rfl) rfl #[.int .u8 t230, .int .i64 3] rfl (by (try simp only [List.map_toArray, List.map_cons, List.map_nil]); first | done | rfl | (simp only [List.length_drop, List.length_take]; rfl)) ?_; (with_reducible refine (bits_RotateLeft8.calls t230 3 t233 _ A5.out).mono ?_); rintro e w' ⟨rfl, ⟨nd, rfl⟩⟩; refine ⟨_, rfl, ?_⟩) | ((with_reducible refine gate_callee (f := 122) rfl ?_); refine goesL_ (some 17) rfl rfl Try.func122 (by kernel_rfl) rfl #[.int .u8 t230, .int .i64 4] rfl (by (try simp only [List.map_toArray, List.map_cons, List.map_nil]); first | done | rfl | (simp only [List.length_drop, List.length_take]; rfl)) ?_; (with_reducible refine (bits_RotateLeft8.calls t230 4 t234 _ A6.out).mono ?_); rintro e w' ⟨rfl, ⟨nd, rfl⟩⟩; refine ⟨_, rfl, ?_⟩))
 go_ret
 exact ⟨by first | rfl | (simp; done) | (simp [*]; done), by repeat (first | exact Drawn0.refl _ | apply Drawn0.step)⟩
end Go.Proofs.Ytlfpogbonmddmaa.P

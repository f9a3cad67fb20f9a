-- Laid by a program of this session (wip/prn) over the translation: functions and their contracts. Lean checks it.
import Derived.Test.YtlfpogbonmddmaaPx0
import Derived.Test.YtlfpogbonmddmaaPx3
namespace Go.Proofs.Ytlfpogbonmddmaa.P
open Go.RowKit Go.Proofs.YtlfpogbonmddmaaW.PrintWords Go.Proofs.YtlfpogbonmddmaaW.PrintLast Go.Proofs.YtlfpogbonmddmaaW.PrintMore
attribute [local go_sem] max2_int min2_int max_two min_two max_three min_three max_four min_four   -- for this text's walks alone
set_option linter.unusedVariables false
set_option linter.unusedSimpArgs false

/-! ### impl_schedule: function 92 -/
-- HAND rounds=0 making=1
set_option maxHeartbeats 8000000 in
set_option maxRecDepth 100000 in
theorem impl_schedule_in (ad : Addr) (c0 : Nat) (b : List Int) (W : World) (hr0 : Kd.C (Kd.int .u8) W (some ad) b.length b) (hc0 : 64 ≤ c0) (hb : b.length = 64) :
    Calls Try.prog 92 #[.slice (some ad) 64 c0] W fun e w' => e = .returned (arr32 (Sha.sched b 64)) ∧ Below W.heap.size W w' := by
  have HR := Aside0.mk hr0
  have HBL := Aside0.mk hb
  have HC := Aside0.mk hc0
  clear hr0 hb
  unfold arr32
  go_enter Try.func92, Try.ntmps92
  go_wp2
  go_loopw [11] (fun i wr => ∃ j : Nat, j ≤ 64 ∧ i = .int .i64 j ∧ Aside0 (wr.heap[W.heap.size]? = some (.cells (nums .u32 (List.replicate 64 0)).toArray 95 (0, 0)))
      ∧ Aside0 (wr.heap[W.heap.size + 1]? = some (.cells (nums .u32 (Sha.sched b j ++ List.replicate (64 - j) 0)).toArray 95 (0, 0))) ∧ Aside0 (Below W.heap.size W wr)) (fun i _ => 64 - (intOf i).toNat)
  case atStart => exact ⟨0, by omega, rfl, ⟨blk_alloc (blk_new W _) _⟩, ⟨blk_new2 W _ _⟩, ⟨below_alloc (below_alloc (Below.refl W.heap.size W) _) _⟩⟩
  case round =>
    obtain ⟨i, hi, rfl, G0, G1, HB⟩ := hrel
    by_cases hlt : i < 64
    · have i0 : (0 : Int) ≤ (i : Int) := Int.natCast_nonneg i
      have i1 : (i : Int) < 64 := by omega
      have hd : decide ((i : Int) < 64) = true := decide_eq_true i1
      by_cases h16 : i < 16
      · have i2 : (i : Int) < 16 := by omega
        have hd2 : decide ((i : Int) < 16) = true := decide_eq_true i2
        have hl4 : (i + 1) * 4 - i * 4 = 4 := by omega
        go_wp2
        clear hl4
        rw [upd_zero _ i hlt] at G1
        go_loopw [24] (fun n wr => ∃ k : Nat, k ≤ 4 ∧ n = .int .i64 k ∧ Aside0 (wr.heap[W.heap.size]? = some (.cells (nums .u32 (List.replicate 64 0)).toArray 95 (0, 0)))
          ∧ Aside0 (wr.heap[W.heap.size + 1]? = some (.cells (nums .u32 (Sha.sched b i ++ Sha.pw b i k :: List.replicate (63 - i) 0)).toArray 95 (0, 0))) ∧ Aside0 (Below W.heap.size W wr)) (fun n _ => 4 - (intOf n).toNat)
        case atStart => exact ⟨0, by omega, rfl, G0, G1, HB⟩
        case round =>
          clear G0 G1 HB
          obtain ⟨k, hk, rfl, G0, G1, HB⟩ := hrel
          by_cases hlk : k < 4
          · have k0 : (0 : Int) ≤ (k : Int) := Int.natCast_nonneg k
            have k1 : (k : Int) < 4 := by omega
            have hdk : decide ((k : Int) < 4) = true := decide_eq_true k1
            obtain ⟨x, hx⟩ : ∃ x, x = Sha.pw b i k := ⟨_, rfl⟩
            have HP : Aside0 (Sha.pw b i (k + 1) = Go.bits .or .u32 ((x * 256) % 4294967296) (b.getD (4 * i + k) 0 % 4294967296)) := ⟨by rw [hx]; rfl⟩
            rw [← hx] at G1
            clear hx
            have cA : wr.cell? ⟨W.heap.size + 1, i, none⟩ = some (.int .u32 x) := by
              rw [blk_cell G1.out i]
              exact nums_at? _ _ _ _ (upd_at _ _ _ _ (Sha.sched_length b i))
            have zA := blk_frozen G1.out i
            obtain ⟨y, hy⟩ : ∃ y, y = b.getD (4 * i + k) 0 := ⟨_, rfl⟩
            have cB : wr.cell? ((ad.add (i * 4)).add k) = some (.int .u8 y) := by
              rw [add_add, hy]
              have h1 := C_u8_cell (Kd.C_below HR.out HB.out) rfl (i * 4 + k) (by have := HBL.out; omega)
              rw [show 4 * i + k = i * 4 + k from by omega]
              exact h1
            rw [← hy] at HP
            clear hy
            go_wp2
            go_roundw
            case rel =>
              refine ⟨k + 1, by omega, by go_num, ⟨blk_far G0.out (by simp <;> omega) _⟩, ⟨?_⟩, ⟨below_set HB.out (by omega)⟩⟩
              rw [HP.out, ← upd_set (Sha.sched b i) x _ _ i (Sha.sched_length b i), ← nums_set]
              exact blk_set G1.out i _
            case measure => simp [intOf]; omega
          · have hdk : decide ((k : Int) < 4) = false := decide_eq_false (by omega)
            have e4 : Sha.sched b i ++ Sha.pw b i k :: List.replicate (63 - i) 0 = Sha.sched b (i + 1) ++ List.replicate (64 - (i + 1)) 0 := by
              obtain rfl : k = 4 := by omega
              rw [← upd_next b i hlt, Sha.wordAt, if_pos h16]
            rw [e4] at G1
            clear e4
            go_wp2
            go_roundw
            case rel => exact ⟨i + 1, by omega, by go_num, G0, G1, HB⟩
            case measure => simp [intOf]; omega
      · have i2 : (16 : Int) ≤ (i : Int) := by omega
        have hd2 : decide ((i : Int) < 16) = false := decide_eq_false (by omega)
        rw [upd_zero _ i hlt] at G1
        obtain ⟨xa, hxa⟩ : ∃ x, x = (Sha.sched b i).getD (i - 15) 0 := ⟨_, rfl⟩
        obtain ⟨xb, hxb⟩ : ∃ x, x = (Sha.sched b i).getD (i - 2) 0 := ⟨_, rfl⟩
        obtain ⟨xc, hxc⟩ : ∃ x, x = (Sha.sched b i).getD (i - 16) 0 := ⟨_, rfl⟩
        obtain ⟨xd, hxd⟩ : ∃ x, x = (Sha.sched b i).getD (i - 7) 0 := ⟨_, rfl⟩
        have HWd : Aside0 (Sha.wordAt b (Sha.sched b i) i = (xc + Sha.sg0 xa + xd + Sha.sg1 xb) % 4294967296) := ⟨by rw [Sha.wordAt, if_neg h16, hxa, hxb, hxc, hxd]; rfl⟩
        have cOld : ∀ j, j < i → wr.cell? ⟨W.heap.size + 1, j, none⟩ = some (.int .u32 ((Sha.sched b i).getD j 0)) := fun j hj => by
          rw [blk_cell G1.out j]
          exact nums_at? _ _ _ _ (upd_old _ _ _ (by rw [Sha.sched_length]; exact hj))
        have cA := cOld (i - 15) (by omega)
        have cB := cOld (i - 2) (by omega)
        have cC := cOld (i - 16) (by omega)
        have cD := cOld (i - 7) (by omega)
        rw [← hxa] at cA
        rw [← hxb] at cB
        rw [← hxc] at cC
        rw [← hxd] at cD
        clear hxa hxb hxc hxd cOld
        have cI : wr.cell? ⟨W.heap.size + 1, i, none⟩ = some (.int .u32 0) := by
          rw [blk_cell G1.out i]
          exact nums_at? _ _ _ _ (upd_at _ _ _ _ (Sha.sched_length b i))
        have zI := blk_frozen G1.out i
        go_wp2
        go_quiet (fail)
        go_wp2_with (go_at_call 105; refine (right_calls _ _ (by decide) (by decide) _).mono ?_; rintro e w' ⟨rfl, ⟨⟨n, rfl⟩⟩⟩)
        go_region
        all_goals go_wp2
        go_roundw
        case rel =>
          refine ⟨i + 1, by omega, by go_num, ⟨blk_far (blk_drewN G0.out _) (by simp <;> omega) _⟩, ⟨?_⟩, ⟨below_set (pw_below_drewN HB.out _) (by omega)⟩⟩
          rw [← upd_next b i hlt, HWd.out, ← upd_set (Sha.sched b i) 0 _ _ i (Sha.sched_length b i), ← nums_set]
          exact blk_set (blk_drewN G1.out _) i _
        case measure => simp [intOf]; omega
    · have hd : decide ((i : Int) < 64) = false := decide_eq_false (by omega)
      have e64 : Sha.sched b i ++ List.replicate (64 - i) 0 = Sha.sched b 64 := by
        obtain rfl : i = 64 := by omega
        simp
      rw [e64] at G1
      clear e64
      have HLs : Aside0 ((nums IntKind.u32 (Sha.sched b 64)).toArray.size = 64) := ⟨by simp [nums, Sha.sched_length]⟩
      have GR := Aside0.mk (setRow_heap wr W.heap.size _ (nums IntKind.u32 (Sha.sched b 64)).toArray _ _ G0.out)
      go_wp2_with (first
        | ((with_reducible refine gate_ (.load 95 (.tmp 3)) rfl ?_); refine wpList_load_row (by rfl) 95 (.tmp 3) (by rfl) _ (by rfl) 95 _ (0, 0) _ G1.out Try.underlying95 rfl (by rw [HLs.out]; exact info64w) ?_)
        | ((with_reducible refine gate_ (.store 95 (.tmp 2) (.tmp 78)) rfl ?_); refine wpList_store_row (by rfl) 95 (.tmp 2) (.tmp 78) (by rfl) W.heap.size _ (by rfl) (by rfl) 95 _ G0.out (by rw [HLs.out]; exact info64w) (by rw [HLs.out]; simp [nums]) (nums_one _ _) ?_))
      refine bodyPost_ret (v := arr32 (Sha.sched b 64)) ?_ rfl ?_
      · exact results_cell_row (fn := Try.f92) (p := 2) (ty := 95) Try.results92 _ _ _ 95 _ (0, 0) _ (by rfl) GR.out Try.underlying95 rfl (by rw [HLs.out]; exact info64w)
      · exact ⟨rfl, below_row HB.out (by omega) _⟩

/-! ### impl_hash: function 69 -/
-- HAND rounds=0 making=1
def impl_hash.f (s : ByteArray) : Option ByteArray := if s.size ≤ 1099511627776 then some (strOfNums (Sha.shaL (bytesL s))) else none
def hashI (h k : Nat) (w3 : World) (lf : List Int) (m : Nat) (pre : List (Fin m)) (W : World) : Prop :=
  Aside0 (W.heap[h]? = some (.cells (nums .u32 (Sha.foldl lf (pre.map (·.1))).l).toArray 94 (0, 0))) ∧ Aside0 (W.heap[k]? = some (.cells (nums .u32 Sha.K).toArray 95 (0, 0))) ∧ Aside0 (Below h w3 W) ∧ Aside0 (k + 2 < W.heap.size)
theorem hashI_own (B h k : Nat) (w3 : World) (lf : List Int) (m : Nat) (hn : h ≤ w3.heap.size) (hB : h ≤ B) : OwnFrom B (hashI h k w3 lf m) :=
  OwnFrom.and (ownFrom_blk B h _ _) (OwnFrom.and (ownFrom_blk B k _ _) (OwnFrom.and (ownFrom_belowA hn hB) (ownFrom_size B _)))
theorem turn_u (v : Sha.V8) (k w : List Int) (W : World) (hk : k.length = 64) (hw : w.length = 64) :
    Calls Try.prog 91 #[.agg (nums .u32 v.l).toArray, .agg (nums .u32 k).toArray, arr32 w] W fun e w' => e = .returned (.agg (nums .u32 (Sha.turn k w v).l).toArray) ∧ Below W.heap.size W w' := impl_turn_in v k w W hk hw
section
attribute [local go_sem] Oper.semAt_some
set_option maxHeartbeats 8000000 in
set_option maxRecDepth 100000 in
theorem impl_hash_in (s : ByteArray) (w0 : World) (hs : s.size ≤ 1099511627776) :
    Calls Try.prog 69 #[.string s] w0 fun e w' => e = .returned (.string (strOfNums (Sha.shaL (bytesL s)))) ∧ Below w0.heap.size w0 w' := by
  have HSZ := Aside0.mk hs
  have hsz : (s.size : Int) ≤ 1099511627776 := by omega
  refine (callsIn_wide (n := 3)).1 ?_
  refine callsIn_of_wp_marks Try.func69 rfl trivial ?_ rfl
  refine wpIn_wide.2 ?_
  simp only [Try.ntmps69, List.size_toArray, List.length_cons, List.length_nil, Nat.reduceAdd, Nat.reduceSub, Array.replicate_succ, Array.replicate_zero, List.push_toArray, List.append_toArray, List.nil_append, List.cons_append]
  have kc := Lib.run_convert_string_bytes (P := Try.prog) w0 9 22 5 s Try.underlying9 Try.underlying22 Try.underlying5
  have HR0 := Aside0.mk (conv_rowB w0 w0.heap.size 5 s (Nat.le_refl _))
  have HB0 := Aside0.mk (conv_below (B := w0.heap.size) w0 w0 5 s (Below.refl _ _) (Nat.le_refl _))
  have HZ0 : Aside0 (w0.heap.size ≤ (Lib.bytesWorld w0 5 s).heap.size) := ⟨by rw [Lib.bytesWorld_size]; omega⟩
  generalize hW1 : Lib.bytesWorld w0 5 s = W1 at *
  generalize hcap : grownCap w0 s.size 0 5 = cap1 at *
  obtain ⟨L1, hL1⟩ : ∃ L, L = bytesL s ++ [128] := ⟨_, rfl⟩
  have HL1 := Aside0.mk hL1
  have HBL := Aside0.mk (bytesL_length s)
  clear hL1 hs
  go_wp2_with ((with_reducible refine gate_dst (N := 14) rfl ?_); refine wpList_append_rowB (by rfl) (.tmp 12) (.tmp 13) 22 5 (by rfl) Try.underlying22 info5 [128] (by rfl) (rowB_below HR0.out (below_alloc (Below.refl _ _) _)) (below_step HB0.out (below_alloc (Below.refl _ _) _)) (by have := HZ0.out; simp; omega) ⟨W1.heap.size, 0, none⟩ 1 1 (by rfl) rfl (cell_lit1 _ _ _ _) (by rw [HBL.out]; simp; have := HSZ.out; omega) L1 HL1.out ?_; intro v2 w2 H1 H2 H3; obtain ⟨g1, c1, rfl, hc1⟩ := rowB_form H1.out)
  clear hsz
  go_loopw [3] (fun v wr => ∃ (lr : List Int) (z g c : Nat), v = .slice (some ⟨g, 0, none⟩) lr.length c ∧ z ≤ (119 - s.size % 64) % 64 ∧ Aside0 (lr = bytesL s ++ 128 :: List.replicate z 0) ∧ Aside0 (rowB wr w0.heap.size (.slice (some ⟨g, 0, none⟩) lr.length c) lr) ∧ Aside0 (Below w0.heap.size w0 wr) ∧ Aside0 (w0.heap.size ≤ wr.heap.size))
    (fun v _ => s.size + 200 - sliceLen v)
  case atStart => exact ⟨L1, 0, g1, c1, rfl, by omega, ⟨HL1.out⟩, H1, H2, H3⟩
  case round =>
    clear H1 H2 H3 HL1 HB0 HR0 HZ0 kc
    obtain ⟨lr, z, g, c, rfl, hz, HLR, H1, H2, H3⟩ := hrel
    have hlen : lr.length = s.size + 1 + z := by rw [HLR.out]; simp [HBL.out]; omega
    have hsz2 : s.size ≤ 1099511627776 := HSZ.out
    have l0 : (0 : Int) ≤ (lr.length : Int) := Int.natCast_nonneg _
    have l1 : (lr.length : Int) ≤ 1099511629000 := by omega
    by_cases hlt : z < (119 - s.size % 64) % 64
    · have hd : ((lr.length : Int) % 64 != 56) = true := by rw [bne_iff_ne]; omega
      obtain ⟨lr2, hlr2⟩ : ∃ L, L = lr ++ [0] := ⟨_, rfl⟩
      have HLR2 : Aside0 (lr2 = bytesL s ++ 128 :: List.replicate (z + 1) 0) := ⟨by rw [hlr2, HLR.out, List.replicate_succ']; simp⟩
      have HE := Aside0.mk hlr2
      have hlen2 : lr2.length = lr.length + 1 := by rw [hlr2]; simp
      have HLEN := Aside0.mk hlen
      have HLEN2 := Aside0.mk hlen2
      clear hlen hlr2 hlen2 hsz2
      go_wp2_with ((with_reducible refine gate_dst (N := 21) rfl ?_); refine wpList_append_rowB (by rfl) (.tmp 19) (.tmp 20) 22 5 (by rfl) Try.underlying22 info5 [0] (by rfl) (rowB_below H1.out (below_alloc (Below.refl _ _) _)) (below_step H2.out (below_alloc (Below.refl _ _) _)) (by have := H3.out; simp; omega) ⟨wr.heap.size, 0, none⟩ 1 1 (by rfl) rfl (cell_lit1 _ _ _ _) (by have := HLEN.out; have := HSZ.out; simp; omega) lr2 HE.out ?_; intro v2 w2 K1 K2 K3; obtain ⟨g2, c2, rfl, hc2⟩ := rowB_form K1.out)
      go_roundw
      case rel => exact ⟨lr2, z + 1, g2, c2, rfl, by omega, HLR2, K1, K2, K3⟩
      case measure => simp [sliceLen]; have := HLEN.out; have := HLEN2.out; have := HSZ.out; omega
    · have hd : ((lr.length : Int) % 64 != 56) = false := by rw [bne_eq_false_iff_eq]; omega
      have hsz3 : (s.size : Int) ≤ 1099511627776 := by omega
      obtain ⟨lf, hlf⟩ : ∃ L, L = Sha.full (bytesL s) := ⟨_, rfl⟩
      have hbe : ∀ x ∈ Sha.be8 (8 * (s.size : Int)), 0 ≤ x ∧ x ≤ 255 := by
        intro x hx
        simp only [Sha.be8, List.mem_cons, List.not_mem_nil, or_false] at hx
        omega
      have HE : Aside0 (lf = lr ++ bytesL (strOfNums (Sha.be8 (8 * (s.size : Int))))) := ⟨by
        have ez : z = (119 - s.size % 64) % 64 := by omega
        rw [bytesL_str _ hbe, hlf, HLR.out, Sha.full, Sha.fillTo, HBL.out, ez]⟩
      have HSb : Aside0 ((strOfNums (Sha.be8 (8 * (s.size : Int)))).size = 8) := ⟨by rw [strOfNums_size]; rfl⟩
      have HLF := Aside0.mk hlf
      have hlenf : lf.length % 64 = 0 ∧ lf.length ≤ 1099511629000 := by
        have e1 : lf.length = lr.length + 8 := by rw [HE.out, List.length_append, bytesL_length, HSb.out]
        omega
      have HLENF := Aside0.mk hlenf
      have HLEN := Aside0.mk hlen
      clear hlen hsz2 hlf hbe hlenf
      go_wp2_with (first
        | (go_at_call 85; refine (bo8_calls _ _).mono ?_; rintro e w2 ⟨rfl, hb⟩; have K1 := Aside0.mk (rowB_below H1.out hb); have K2 := Aside0.mk (below_then H2.out H3.out hb); have K3 := Aside0.mk (Nat.le_trans H3.out hb.size); clear hb)
        | ((with_reducible refine gate_dst (N := 27) rfl ?_); refine wpList_append_rowB_string (by rfl) (.tmp 22) (.tmp 26) 22 9 5 (by rfl) Try.underlying22 Try.underlying9 info5 _ (by rfl) K1.out K2.out K3.out (by rfl) (by rw [HSb.out]; have := HLEN.out; have := HSZ.out; omega) lf HE.out ?_; intro v3 w3 J1 J2 J3; obtain ⟨g3, c3, rfl, hc3⟩ := rowB_form J1.out; clear H1 H2 H3 K1 K2 K3)
        | ((with_reducible refine gate_ (.store 94 (.tmp 4) (.tmp 28)) rfl ?_); refine wpList_store_row (by rfl) 94 (.tmp 4) (.tmp 28) (by rfl) w3.heap.size (nums .u32 Sha.H0.l).toArray (by rfl) (by rfl) 94 _ (blk_new w3 _) (by exact info8w) (by rfl) (nums_one _ _) ?_)
        | (go_at_call 89; refine (rounds_calls _).mono ?_; rintro e w4 ⟨rfl, hb4⟩)
        | ((with_reducible refine gate_ (.store 95 (.tmp 5) (.tmp 29)) rfl ?_); refine wpList_store_row (by rfl) 95 (.tmp 5) (.tmp 29) (by rfl) w4.heap.size (nums .u32 Sha.K).toArray (by rfl) (by rfl) 95 _ (blk_new w4 _) (by exact info64w) (by rfl) (nums_one _ _) ?_)
        | (go_at_call 90; refine (chunk_calls _ _ _ 64 (by decide) _).mono ?_; rintro e w5 ⟨rfl, rfl⟩))
      obtain ⟨m, hm⟩ : ∃ m, 64 * m = lf.length := ⟨lf.length / 64, by have := HLENF.out; omega⟩
      have HM := Aside0.mk hm
      refine wp_cuts (α := Fin m) (p := 32) (d := 6) rfl rfl rfl (by simp) (gf := 104) (lb := #[.pointer (some ⟨w4.heap.size + 1, 0, none⟩), .pointer (some ⟨w4.heap.size + 1 + 1, 0, none⟩)]) rfl (enters_of Try.func104 (by kernel_rfl) rfl)
        (chunk_stops Fence.wide 2 trivial rfl (by decide) (w4.heap.size + 1) (w4.heap.size + 1 + 1) ⟨g3, 0, none⟩ 64 m c3 (by decide) (by omega) (by have := HLENF.out; omega) _ (by simp) (by simp) ?hbs ?hbn)
        (fun h k => KpB.trans h k) (KpB.put (by simp) (by simp))
        (hashI w3.heap.size w4.heap.size w3 lf m) (hashI_own _ _ _ _ _ _ (Nat.le_refl _) ?hle) ?h0 ?body ?done
      case hbs =>
        rw [hm]
        exact box_one _ _ _ _ _ (by simp)
      case hbn => exact box_two _ _ _ _ _ (by simp)
      case hle => have := hb4.size; simp at this; simp; omega
      case h0 =>
        have h34 : w3.heap.size < w4.heap.size := by have := hb4.size; simp at this; omega
        refine ⟨⟨?_⟩, ⟨?_⟩, ⟨?_⟩, ⟨by simp⟩⟩
        · refine blk_alloc (blk_alloc ((setRow_other _ _ _ _ (by omega)).trans (blk_alloc ?_ _)) _) _
          exact (hb4.block _ (by simp)).trans (setRow_heap _ _ _ _ _ _ (blk_new w3 _))
        · exact blk_alloc (blk_alloc (setRow_heap _ _ _ _ _ _ (blk_new w4 _)) _) _
        · have b1 : Below w3.heap.size w3 ((w3.alloc (Obj.cells (nums IntKind.u32 [0, 0, 0, 0, 0, 0, 0, 0]).toArray 94 (0, 0))).setRow w3.heap.size (nums .u32 Sha.H0.l).toArray) := below_row (below_alloc (Below.refl _ _) _) (Nat.le_refl _) _
          have b2 : Below w3.heap.size w3 w4 := below_then b1 b1.size hb4
          exact below_alloc (below_alloc (below_row (below_alloc b2 _) (by omega) _) _) _
      case body =>
        rintro l pre x W ⟨I1, I2, I3, I4⟩ hlen
        simp only [List.setIfInBounds_toArray, List.set_cons_succ, List.set_cons_zero]
        refine wpIn_block ?_
        refine region_round_any (by kernel_rfl) (by rintro ⟨_, _, h⟩; exact h) (by kernel_rfl) ?_
        change wpAny _ _ _ _ _ _ _ W.drew
        have hx : 64 * x.1 + 64 ≤ lf.length := by have := x.2; omega
        have CX : Aside0 (Kd.C (Kd.int .u8) W.drew (some ⟨g3, 64 * x.1, none⟩) (Sha.chunk lf x.1).length (Sha.chunk lf x.1)) := ⟨by
          have h1 : Kd.C (Kd.int .u8) w3 (some ⟨g3, 0, none⟩) lf.length lf := rowB_C J1.out (by have := HLENF.out; omega)
          have h2 : Kd.C (Kd.int .u8) W.drew (some ⟨g3, 0, none⟩) lf.length lf := Kd.C_below h1 (I3.out.drew)
          have h3 := C_cut (b := Sha.chunk lf x.1) h2 rfl (by rw [Sha.chunk_length lf x.1 hx]; omega) (64 * x.1) (by rw [Sha.chunk_length lf x.1 hx]; exact hx) (fun j hj => by rw [Sha.chunk_length lf x.1 hx] at hj; exact Sha.chunk_at lf x.1 j hx hj)
          rw [add_plain] at h3
          exact h3⟩
        have CL := Aside0.mk (Sha.chunk_length lf x.1 hx)
        obtain ⟨WD, hWD⟩ : ∃ WD, WD = W.drew := ⟨_, rfl⟩
        have I1' : Aside0 (WD.heap[w3.heap.size]? = some (.cells (nums .u32 (Sha.foldl lf (pre.map (·.1))).l).toArray 94 (0, 0))) := ⟨by rw [hWD]; exact I1.out⟩
        have I2' : Aside0 (WD.heap[w4.heap.size]? = some (.cells (nums .u32 Sha.K).toArray 95 (0, 0))) := ⟨by rw [hWD]; exact I2.out⟩
        have I3' : Aside0 (Below w3.heap.size w3 WD) := ⟨by rw [hWD]; exact I3.out.drew⟩
        have KW : Aside0 (∀ B V, KeepsFrom B WD V → KeepsFrom B W V) := ⟨fun B V h => by rw [hWD] at h; exact (keepsFrom_drew _ _).trans h⟩
        have I4' : Aside0 (w4.heap.size + 2 < WD.heap.size) := ⟨by rw [hWD]; exact I4.out⟩
        have KC : Aside0 (∀ a, WD.cell? a = W.cell? a) := ⟨fun a => by rw [hWD]; rfl⟩
        rw [← hWD] at CX ⊢
        clear hWD I1 I2 I3
        refine wpAny_of_N (S := fun V => Below WD.heap.size WD V) (N := 5) _ _ _ _ ?_
        refine wpAnyN_take (i := 0) rfl (by kernel_rfl) (by kernel_rfl) (by kernel_rfl) (by kernel_rfl) (fun _ _ _ h => h) (yields_load_row rfl 94 (.tmp 4) rfl w3.heap.size rfl 94 _ (0, 0) _ (fun V hV => (hV.block _ (blk_lt I1'.out)).trans I1'.out) Try.underlying94 rfl (by exact info8w)) (Below.refl _ _) ?_
        refine wpAnyN_take (i := 1) rfl (by kernel_rfl) (by kernel_rfl) (by kernel_rfl) (by kernel_rfl) (fun _ _ _ h => h) (yields_load_row rfl 95 (.tmp 5) rfl w4.heap.size rfl 95 _ (0, 0) _ (fun V hV => (hV.block _ (blk_lt I2'.out)).trans I2'.out) Try.underlying95 rfl (by exact info64w)) (Below.refl _ _) ?_
        refine wpAnyN_take (i := 2) rfl (by kernel_rfl) (by kernel_rfl) (by kernel_rfl) (by kernel_rfl) (fun _ _ _ h => h) (yields_move rfl (.tmp 6) rfl) (Below.refl _ _) ?_
        refine wpAnyN_one (i := 3) (by kernel_rfl) rfl rfl (fun K hK => ?_)
        go_simp

        refine (impl_schedule_in _ _ _ _ CX.out (by decide) CL.out).mono ?_
        rintro e w6 ⟨rfl, hb6⟩
        refine hK _ _ (fun _ => hb6) ?_
        clear hK K
        refine wpAnyN_one (i := 4) (by kernel_rfl) rfl rfl (fun K hK => ?_)
        go_simp

        with_reducible refine (turn_u (Sha.foldl lf (pre.map (·.1))) Sha.K (Sha.sched (Sha.chunk lf x.1) 64) _ K_length (Sha.sched_length _ _)).mono ?_
        rintro e w7 ⟨rfl, hb7⟩
        refine hK _ _ (fun _ => below_then hb6 hb6.size hb7) ?_
        clear hK K
        have h34 : w3.heap.size < w4.heap.size := by have := hb4.size; simp at this; omega
        have HH : w7.heap[w3.heap.size]? = some (.cells (nums .u32 (Sha.foldl lf (pre.map (·.1))).l).toArray 94 (0, 0)) := (hb7.block _ (Nat.lt_of_lt_of_le (blk_lt I1'.out) hb6.size)).trans ((hb6.block _ (blk_lt I1'.out)).trans I1'.out)
        refine wpAnyN_one (i := 5) (by kernel_rfl) rfl rfl (fun K hK => ?_)
        refine wp_store_row 94 (.tmp 4) (.tmp 37) (by rfl) w3.heap.size (nums .u32 (Sha.turn Sha.K (Sha.sched (Sha.chunk lf x.1) 64) (Sha.foldl lf (pre.map (·.1)))).l).toArray (by rfl) (by rfl) 94 _ HH (by exact info8w) (by rfl) (nums_one _ _) ?_
        refine hK _ _ (fun h => absurd rfl h) ?_
        refine wpAnyN_done (by kernel_rfl) ?_ _
        refine ⟨KW.out _ _ (((keepsFrom_below hb6).trans (keepsFrom_below hb7)).trans (keepsFrom_row HH)), fun ad ha => ?_, ⟨?_⟩, ⟨?_⟩, ⟨?_⟩, ⟨?_⟩⟩
        · have h4 := I4'.out
          have hne : ad.block ≠ w3.heap.size := by omega
          have hlt : ad.block < WD.heap.size := by omega
          rw [World.cell?_of_block (setRow_other _ _ _ _ hne), hb7.cell (Nat.lt_of_lt_of_le hlt hb6.size), hb6.cell hlt, KC.out]
        · rw [List.map_append, List.map_cons, List.map_nil, Sha.foldl_snoc]
          exact setRow_heap _ _ _ _ _ _ HH
        · refine (setRow_other _ _ _ _ (by omega)).trans ?_
          exact (hb7.block _ (Nat.lt_of_lt_of_le (blk_lt I2'.out) hb6.size)).trans ((hb6.block _ (blk_lt I2'.out)).trans I2'.out)
        · exact below_row (below_then (below_then I3'.out I3'.out.size hb6) (Nat.le_trans I3'.out.size hb6.size) hb7) (Nat.le_refl _) _
        · have := I4'.out; have := hb6.size; have := hb7.size; simp; omega
      case done =>
        rintro D xs W hD hxs ⟨I1, I2, I3, I4⟩ hK
        rw [hxs, Sha.foldl_range] at I1
        obtain ⟨u, hu⟩ : ∃ u, u = Sha.fold lf m := ⟨_, rfl⟩
        have HU : Aside0 (Sha.shaL (bytesL s) = Sha.outTo u 8) := ⟨by
          have e1 : (Sha.full (bytesL s)).length / 64 = m := by rw [← HLF.out, ← HM.out]; omega
          rw [Sha.shaL, e1, ← HLF.out, ← hu]
          rfl⟩
        rw [← hu] at I1
        clear hu hxs
        have hD3 : w3.heap.size < D := by
          have := hb4.size
          simp at this hD
          omega
        have HDD := Aside0.mk hK
        have HD3 := Aside0.mk hD3
        have HBW := Aside0.mk (below_then J2.out J3.out I3.out)
        have HWZ : Aside0 (w0.heap.size ≤ D) := ⟨by have := J3.out; omega⟩
        have HDW : Aside0 (D < W.heap.size) := ⟨blk_lt hK⟩
        clear hK hD hD3 I3 I2 I4
        go_wp2_with ((with_reducible refine gate_ (.load 94 (.tmp 4)) rfl ?_); refine wpList_load_row (by rfl) 94 (.tmp 4) (by rfl) _ (by rfl) 94 _ (0, 0) _ I1.out Try.underlying94 rfl (by exact info8w) ?_)
        clear I1
        have HI := fun (i : Nat) (hi : i < 8) (w : World) => run_index_aggK (P := Try.prog) (k := .u32) (T := 94) (E := 90) (xs := u.l) Try.underlying94 Try.underlying90 (by kernel_rfl) i hi rfl w
        have HIA := Aside0.mk HI
        clear HI
        go_loopw [7, 39] (fun o n wr => ∃ j : Nat, j ≤ 8 ∧ n = .int .i64 j ∧ o = .string (strOfNums (Sha.outTo u j)) ∧ Aside0 (wr.heap[D]? = some (.deferred (some []))) ∧ Aside0 (Below w0.heap.size w0 wr)) (fun _ n _ => 8 - (intOf n).toNat)
        case atStart => exact ⟨0, by omega, rfl, rfl, HDD, HBW⟩
        case round =>
          clear HDD HBW HDW
          obtain ⟨j, hj, rfl, rfl, HDD, HBW⟩ := hrel
          by_cases hlt : j < 8
          · have j0 : (0 : Int) ≤ (j : Int) := Int.natCast_nonneg j
            have j1 : (j : Int) < 8 := by omega
            have hdj : decide ((j : Int) < 8) = true := decide_eq_true j1
            have kx := HIA.out j hlt
            obtain ⟨y, hy⟩ : ∃ y, y = u.l.getD j 0 := ⟨_, rfl⟩
            have HO : Aside0 (strOfNums (Sha.outTo u (j + 1)) = strOfNums (Sha.outTo u j) ++ strOfNums (Sha.four (wrap64 y))) := ⟨by
              rw [Sha.four_wrap, hy, Sha.outTo_succ u j hlt, strOfNums_append]⟩
            rw [← hy] at kx
            clear hy
            have so : ((strOfNums (Sha.outTo u j)).size : Int) ≤ 100 := by
              rw [strOfNums_size, Sha.outTo_length u j (by omega)]; omega
            obtain ⟨os, hos⟩ : ∃ os, os = strOfNums (Sha.outTo u j) := ⟨_, rfl⟩
            rw [← hos] at so HO ⊢
            clear hos
            have sf : ((strOfNums (Sha.four (wrap64 y))).size : Int) ≤ 4 := by rw [strOfNums_size]; exact Int.le_refl _
            go_wp2_with (go_at_call 85; refine (bo4_calls _ _).mono ?_; rintro e w8 ⟨rfl, hb8⟩)
            go_roundw
            case rel =>
              refine ⟨j + 1, by omega, by go_num, by rw [HO.out], ⟨(hb8.block _ (blk_lt HDD.out)).trans HDD.out⟩, ⟨below_step HBW.out hb8⟩⟩
            case measure => simp [intOf]; omega
          · have hdj : decide ((j : Int) < 8) = false := decide_eq_false (by omega)
            have eO : strOfNums (Sha.outTo u j) = strOfNums (Sha.shaL (bytesL s)) := by
              rw [HU.out]
              obtain rfl : j = 8 := by omega
              rfl
            rw [eO]
            clear eO
            go_wp2
            refine ⟨by simp, .inl ⟨_, _, rfl, run_takeDeferred HDD.out, ?_⟩⟩
            exact ⟨_, results_tmp rfl _ _ _, rfl, HBW.out.trans (belowK_b (w := w0) (Nat.le_refl _) wr D _ _ HWZ.out HDD.out rfl rfl)⟩
end
theorem impl_hash.calls (a0 : ByteArray) (r : ByteArray) (w : World) (h : impl_hash.f a0 = some r) :
    Calls Try.prog 69 #[.string a0] w fun e w' => e = .returned (.string r) ∧ Below w.heap.size w w' := by
  unfold impl_hash.f at h
  split at h
  · rename_i h1
    injection h with h
    subst h
    exact impl_hash_in a0 w h1
  · cases h

/-! ### impl_masked: function 93 -/
-- HAND rounds=0 making=1
def impl_masked.f (a0 : ByteArray) (a1 : Int) : Option ByteArray := if a0.size ≤ 64 then some (strOfNums (Sha.maskL (bytesL a0) a1)) else none
theorem maskB (w : World) (s : ByteArray) (W : World) (g : Nat) (hs : s.size ≤ 64) (hg : W.heap[g]? = some (.cells (nums .u8 (List.replicate 64 0)).toArray 5 (0, 0))) (ty : TypeId) :
    (Builtin.copy_ #[22, 9] ty #[.slice (some ⟨g, 0, none⟩) 64 64, .string s]).run Try.prog W = .ok (.int .i64 (s.size : Int)) (W.setRow g (nums .u8 (bytesL s ++ List.replicate (64 - s.size) 0)).toArray) := by
  have h := Lib.run_copy_row_string (P := Try.prog) W 22 9 ty 5 g 0 64 64 s _ _ Try.underlying22 (by kernel_rfl) hg hs (by simp [nums]; exact hs)
  rw [h]
  have e : ∀ n : Nat, (List.take 0 (nums IntKind.u8 (List.replicate n 0)).toArray.toList ++ Lib.byteCells s.data.toList ++ List.drop (0 + s.size) (nums IntKind.u8 (List.replicate n 0)).toArray.toList) = nums .u8 (bytesL s ++ List.replicate (n - s.size) 0) := fun n => by
    simp [nums, bytesL, Lib.byteCells, List.map_map, Function.comp_def]
  rw [e 64]
  rfl
set_option maxHeartbeats 4000000 in
set_option maxRecDepth 100000 in
theorem impl_masked_in (s : ByteArray) (m : Int) (w : World) (hs : s.size ≤ 64) :
    Calls Try.prog 93 #[.string s, .int .u8 m] w fun e w' => e = .returned (.string (strOfNums (Sha.maskL (bytesL s) m))) ∧ Below w.heap.size w w' := by
  have HSZ := Aside0.mk hs
  clear hs
  obtain ⟨L0, hL0⟩ : ∃ L, L = bytesL s ++ List.replicate (64 - s.size) (0 : Int) := ⟨_, rfl⟩
  obtain ⟨M, hM⟩ : ∃ M, M = Sha.maskL (bytesL s) m := ⟨_, rfl⟩
  have hl0 : L0.length = 64 := by rw [hL0, List.length_append, bytesL_length, List.length_replicate]; have := HSZ.out; omega
  have hlm : M.length = 64 := by rw [hM]; simp [Sha.maskL]
  have HMat : Aside0 (∀ j, j < 64 → M.getD j 0 = Go.bits .xor .u8 (L0.getD j 0) m) := ⟨fun j hj => by
    have e : L0.getD j 0 = (bytesL s).getD j 0 := by
      rw [hL0, List.getD_eq_getElem?_getD, List.getD_eq_getElem?_getD]
      rcases Nat.lt_or_ge j (bytesL s).length with h | h
      · rw [List.getElem?_append_left h]
      · rw [List.getElem?_append_right h, List.getElem?_eq_none h, List.getElem?_replicate]
        split <;> rfl
    rw [e, hM]
    simp [Sha.maskL, List.getD_eq_getElem?_getD, hj]⟩
  rw [← hM]
  have HL0 := Aside0.mk hl0
  have HLM := Aside0.mk hlm
  have HLL : Aside0 (M.length = L0.length) := ⟨by rw [hl0, hlm]⟩
  have HE0 := Aside0.mk hL0
  clear hL0 hM hl0 hlm
  have HCP := Aside0.mk (fun (W : World) (hg : W.heap[w.heap.size]? = some (.cells (nums .u8 (List.replicate 64 0)).toArray 5 (0, 0))) (ty : TypeId) => maskB w s W w.heap.size HSZ.out hg ty)
  rw [← HE0.out] at HCP
  have HR1 := Aside0.mk (setRow_heap _ w.heap.size _ (nums .u8 L0).toArray _ _ (blk_new w (Obj.cells (nums .u8 (List.replicate 64 0)).toArray 5 (0, 0))))
  have HB1 : Aside0 (Below w.heap.size w ((w.alloc (Obj.cells (nums .u8 (List.replicate 64 0)).toArray 5 (0, 0))).setRow w.heap.size (nums .u8 L0).toArray)) := ⟨below_row (below_alloc (Below.refl _ _) _) (Nat.le_refl _) _⟩
  have kmk : ∀ V : World, (Instr.makeSlice 22 (.int .i64 64) (.int .i64 64)).run Try.prog V = .ok (.slice (some ⟨V.heap.size, 0, none⟩) 64 64) (V.alloc (.cells (nums .u8 (List.replicate 64 0)).toArray 5)) := fun V => run_make_nums (m := 64) Try.underlying22 (.inl (by kernel_rfl)) (by decide) V
  go_enter Try.func93, Try.ntmps93
  go_wp2_with ((with_reducible refine gate_builtin (b := .copy) (xs := #[.tmp 8, .tmp 9]) rfl ?_); refine Lib.wpList_copy_run _ rfl (.tmp 8) (.tmp 9) 22 9 rfl _ _ (by rfl) (by rfl) (HCP.out _ (by exact blk_new w _) _) ?_)
  clear kmk
  go_loopw [13] (fun i wr => ∃ j : Nat, j ≤ 64 ∧ i = .int .i64 j ∧ Aside0 (wr.heap[w.heap.size]? = some (.cells (nums .u8 (M.take j ++ L0.drop j)).toArray 5 (0, 0))) ∧ Aside0 (Below w.heap.size w wr)) (fun i _ => 64 - (intOf i).toNat)
  case atStart => exact ⟨0, by omega, rfl, HR1, HB1⟩
  case round =>
    obtain ⟨j, hj, rfl, G, HB⟩ := hrel
    by_cases hlt : j < 64
    · have j0 : (0 : Int) ≤ (j : Int) := Int.natCast_nonneg j
      have j1 : (j : Int) < 64 := by omega
      have hd : decide ((j : Int) < 64) = true := decide_eq_true j1
      obtain ⟨x, hx⟩ : ∃ x, x = L0.getD j 0 := ⟨_, rfl⟩
      have HX : Aside0 (M.getD j 0 = Go.bits .xor .u8 x m) := ⟨by rw [hx]; exact HMat.out j hlt⟩
      have cA : wr.cell? ⟨w.heap.size, j, none⟩ = some (.int .u8 x) := by
        rw [blk_cell G.out j]
        exact nums_at? _ _ _ _ (by rw [td_at M L0 HLL.out j (by rw [HLM.out]; exact hlt), hx])
      have zA := blk_frozen G.out j
      have HTD := Aside0.mk (td_set M L0 HLL.out j (by rw [HLM.out]; exact hlt))
      clear hx
      go_wp2
      go_roundw
      case rel =>
        refine ⟨j + 1, by omega, by go_num, ⟨?_⟩, ⟨below_set HB.out (Nat.le_refl _)⟩⟩
        rw [← HTD.out, HX.out, ← nums_set]
        exact blk_set G.out j _
      case measure => simp [intOf]; omega
    · have hd : decide ((j : Int) < 64) = false := decide_eq_false (by omega)
      have e64 : M.take j ++ L0.drop j = M := by
        have h1 := HLM.out
        have h2 := HL0.out
        rw [List.take_of_length_le (by omega), List.drop_eq_nil_of_le (by omega), List.append_nil]
      rw [e64] at G
      clear e64
      have HC : Aside0 (Kd.C (Kd.int .u8) wr (some ⟨w.heap.size, 0, none⟩) 64 M) := ⟨by
        have h := C_cells (W := wr) (ad := ⟨w.heap.size, 0, none⟩) (b := M) (by rw [HLM.out]; decide) (fun i hi => by
          rw [add_plain, blk_cell G.out i]
          exact nums_at? _ _ _ _ (by rw [List.getD_eq_getElem?_getD, List.getElem?_eq_getElem hi]; rfl))
        rw [HLM.out] at h
        exact h⟩
      have ks := Kd.C_string (P := Try.prog) (dst := 9) (src := 22) (c := 64) Try.underlying22 Try.underlying5 Try.underlying9 HC.out
      go_wp2
      go_ret
      exact ⟨rfl, HB.out⟩
theorem impl_masked.calls (a0 : ByteArray) (a1 : Int) (r : ByteArray) (w : World) (h : impl_masked.f a0 a1 = some r) :
    Calls Try.prog 93 #[.string a0, .int .u8 a1] w fun e w' => e = .returned (.string r) ∧ Below w.heap.size w w' := by
  unfold impl_masked.f at h
  split at h
  · rename_i h1
    injection h with h
    subst h
    exact impl_masked_in a0 a1 w h1
  · cases h

/-! ### impl_hmac: function 71 -/
def impl_hmac.j0 : Nat → ByteArray → ByteArray → Option (ByteArray)
  | 0, _, _ => none
  | k + 1, x0, x1 => (impl_masked.f x0 92).bind fun t120 => ((impl_masked.f x0 54).bind fun t121 => (if t121.size + x1.size ≤ 9223372036854775807 then ((impl_hash.f (t121 ++ x1)).bind fun t122 => (if t120.size + t122.size ≤ 9223372036854775807 then ((impl_hash.f (t120 ++ t122)).bind fun t123 => (some t123)) else (none))) else (none)))
def impl_hmac.f (k : Nat) (a0 : ByteArray) (a1 : ByteArray) : Option (ByteArray) := if (a0.size : Int) > 64 then ((impl_hash.f a0).bind fun t119 => (impl_hmac.j0 k t119 a1)) else (impl_hmac.j0 k a0 a1)
theorem impl_hmac.mono_l : ∀ k, (∀ y0 y1, LeO (impl_hmac.j0 k y0 y1) (impl_hmac.j0 (k + 1) y0 y1))
  | 0 => fun _ _ r h => by simp [impl_hmac.j0] at h
  | k + 1 => by
    have ih0 := impl_hmac.mono_l k
    · intro y0 y1
      unfold impl_hmac.j0
      repeat' first
      | (with_reducible exact ih0 _ _)
      | (with_reducible exact LeO.refl _)
      | (with_reducible exact LeO.none _)
      | (with_reducible refine LeO.ite ?_ ?_)
      | (with_reducible refine LeO.bind ?_ (fun _ => ?_))
      | exact ih0 _ _
      | exact LeO.none _
      | refine LeO.ite ?_ ?_
      | refine LeO.bind ?_ (fun _ => ?_)
theorem impl_hmac.mono : ∀ a0 a1 k, LeO (impl_hmac.f k a0 a1) (impl_hmac.f (k + 1) a0 a1) := by
  intro a0 a1 k
  have ih0 := impl_hmac.mono_l k
  unfold impl_hmac.f
  repeat' first
      | (with_reducible exact ih0 _ _)
      | (with_reducible exact LeO.refl _)
      | (with_reducible exact LeO.none _)
      | (with_reducible refine LeO.ite ?_ ?_)
      | (with_reducible refine LeO.bind ?_ (fun _ => ?_))
      | exact ih0 _ _
      | exact LeO.none _
      | refine LeO.ite ?_ ?_
      | refine LeO.bind ?_ (fun _ => ?_)
set_option maxHeartbeats 8000000 in
set_option maxRecDepth 100000 in
theorem impl_hmac.calls (k : Nat) (a0 : ByteArray) (a1 : ByteArray) (r : ByteArray) (w : World) (h : impl_hmac.f k a0 a1 = some r) :
    Calls Try.prog 71 #[.string a0, .string a1] w fun e w' => e = .returned (.string r) ∧ Below w.heap.size w w' := by
  have HB := Aside0.mk (Below.refl w.heap.size w)
  have H : (if (a0.size : Int) > 64 then ((impl_hash.f a0).bind fun t119 => (impl_hmac.j0 k t119 a1)) else (impl_hmac.j0 k a0 a1)) = some r := h
  clear h
  have HC3 := Aside0.mk H
  clear H
  go_enter Try.func71, Try.ntmps71
  go_upto_if 7 with (fail)
  go_cut [0] (fun v0 wc => ∃ (kq : Nat) (x0_2 : ByteArray), v0 = .string x0_2 ∧ Aside0 (impl_hmac.j0 kq x0_2 a1 = some r) ∧ Aside0 (kq ≤ k) ∧ Aside0 (Below w.heap.size w wc))
  case first =>
    have H := HC3.out
    clear HC3
    by_cases c4 : (a0.size : Int) > 64
    · rw [if_pos c4] at H
      have c4b0 : decide (64 < (a0.size : Int)) = true := decide_eq_true c4
      have c4b1 : decide (64 < a0.size) = true := decide_eq_true (by omega)
      clear c4
      (first | rw [c4b0] | (simp only [i64_w, i32_w]; rw [c4b0]) | skip)
      replace H := Option.bind_eq_some_iff.mp H
      obtain ⟨t119, A50, H⟩ := H
      replace H : (impl_hmac.j0 k t119 a1) = some r := H
      have A5 := Aside0.mk A50
      clear A50
      have H' := Aside0.mk H
      clear H
      go_wp2_with (first | ((with_reducible refine gate_callee (f := 69) rfl ?_); refine goesL_ (some 9) rfl rfl Try.func69 (by kernel_rfl) rfl #[.string a0] rfl (by (try simp only [List.map_toArray, List.map_cons, List.map_nil]); first | done | rfl | (simp only [List.length_drop, List.length_take]; rfl)) ?_; (with_reducible refine (impl_hash.calls a0 t119 _ A5.out).mono ?_); rintro e w6 ⟨rfl, hb⟩; refine ⟨_, rfl, ?_⟩; have n0_ := Aside0.mk (below_step (by repeat (first | (with_reducible first | exact HB.out | apply below_alloc | apply pw_below_drewN | apply below_drew1) | exact HB.out)) hb); clear HB; have HB := n0_; clear n0_; (try clear hb); (try clear hb2); (try clear hk); (try clear hi)))
      go_meet
      case rel => exact ⟨_, (t119), (by first | rfl | (simp; done) | (simp [*]; done)), H', ⟨by first | omega | exact Nat.le_refl _⟩, ⟨by repeat (first | (with_reducible first | exact HB.out | apply below_alloc | apply pw_below_drewN | apply below_drew1) | exact HB.out)⟩⟩
    · rw [if_neg c4] at H
      have c4b0 : decide (64 < (a0.size : Int)) = false := decide_eq_false c4
      have c4b1 : decide (64 < a0.size) = false := decide_eq_false (by omega)
      clear c4
      (first | rw [c4b0] | (simp only [i64_w, i32_w]; rw [c4b0]) | skip)
      have H' := Aside0.mk H
      clear H
      go_wp2
      go_meet
      case rel => exact ⟨_, (a0), (by first | rfl | (simp; done) | (simp [*]; done)), H', ⟨by first | omega | exact Nat.le_refl _⟩, ⟨by repeat (first | (with_reducible first | exact HB.out | apply below_alloc | apply pw_below_drewN | apply below_drew1) | exact HB.out)⟩⟩
  case rest =>
    clear HC3
    try clear p2
    try clear c4
    try clear c4b0
    try clear c4b1
    try clear c6
    obtain ⟨kq, x0_2, rfl, HA, HJ2, HB⟩ := hcut
    cases kq with
    | zero => exact absurd HA.out (by simp [impl_hmac.j0])
    | succ kj2 =>
      have H := HA.out
      clear HA
      simp only [impl_hmac.j0] at H
      replace H := Option.bind_eq_some_iff.mp H
      obtain ⟨t120, A70, H⟩ := H
      replace H : ((impl_masked.f x0_2 54).bind fun t121 => (if t121.size + a1.size ≤ 9223372036854775807 then ((impl_hash.f (t121 ++ a1)).bind fun t122 => (if t120.size + t122.size ≤ 9223372036854775807 then ((impl_hash.f (t120 ++ t122)).bind fun t123 => (some t123)) else (none))) else (none))) = some r := H
      have A7 := Aside0.mk A70
      clear A70
      replace H := Option.bind_eq_some_iff.mp H
      obtain ⟨t121, A80, H⟩ := H
      replace H : (if t121.size + a1.size ≤ 9223372036854775807 then ((impl_hash.f (t121 ++ a1)).bind fun t122 => (if t120.size + t122.size ≤ 9223372036854775807 then ((impl_hash.f (t120 ++ t122)).bind fun t123 => (some t123)) else (none))) else (none)) = some r := H
      have A8 := Aside0.mk A80
      clear A80
      by_cases c9 : t121.size + a1.size ≤ 9223372036854775807
      · rw [if_pos c9] at H
        have c9b0 := eq_true c9
        have c9b1 : decide (t121.size + a1.size ≤ 9223372036854775807) = true := decide_eq_true c9
        try have c9b2 : (9223372036854775807 < t121.size + a1.size) = False := eq_false (Nat.not_lt.2 c9)
        replace H := Option.bind_eq_some_iff.mp H
        obtain ⟨t122, A100, H⟩ := H
        replace H : (if t120.size + t122.size ≤ 9223372036854775807 then ((impl_hash.f (t120 ++ t122)).bind fun t123 => (some t123)) else (none)) = some r := H
        have A10 := Aside0.mk A100
        clear A100
        by_cases c11 : t120.size + t122.size ≤ 9223372036854775807
        · rw [if_pos c11] at H
          have c11b0 := eq_true c11
          have c11b1 : decide (t120.size + t122.size ≤ 9223372036854775807) = true := decide_eq_true c11
          try have c11b2 : (9223372036854775807 < t120.size + t122.size) = False := eq_false (Nat.not_lt.2 c11)
          replace H := Option.bind_eq_some_iff.mp H
          obtain ⟨t123, A120, H⟩ := H
          replace H : (some t123) = some r := H
          have A12 := Aside0.mk A120
          clear A120
          obtain rfl := Option.some.inj H
          go_wp2_with (first | ((with_reducible refine gate_callee (f := 93) rfl ?_); refine goesL_ (some 11) rfl rfl Try.func93 (by kernel_rfl) rfl #[.string x0_2, .int .u8 92] rfl (by (try simp only [List.map_toArray, List.map_cons, List.map_nil]); first | done | rfl | (simp only [List.length_drop, List.length_take]; rfl)) ?_; (with_reducible refine (impl_masked.calls x0_2 92 t120 _ A7.out).mono ?_); rintro e w13 ⟨rfl, hb⟩; refine ⟨_, rfl, ?_⟩; have n0_ := Aside0.mk (below_step (by repeat (first | (with_reducible first | exact HB.out | apply below_alloc | apply pw_below_drewN | apply below_drew1) | exact HB.out)) hb); clear HB; have HB := n0_; clear n0_; (try clear hb); (try clear hb2); (try clear hk); (try clear hi)) | ((with_reducible refine gate_callee (f := 93) rfl ?_); refine goesL_ (some 13) rfl rfl Try.func93 (by kernel_rfl) rfl #[.string x0_2, .int .u8 54] rfl (by (try simp only [List.map_toArray, List.map_cons, List.map_nil]); first | done | rfl | (simp only [List.length_drop, List.length_take]; rfl)) ?_; (with_reducible refine (impl_masked.calls x0_2 54 t121 _ A8.out).mono ?_); rintro e w14 ⟨rfl, hb⟩; refine ⟨_, rfl, ?_⟩; have n0_ := Aside0.mk (below_step (by repeat (first | (with_reducible first | exact HB.out | apply below_alloc | apply pw_below_drewN | apply below_drew1) | exact HB.out)) hb); clear HB; have HB := n0_; clear n0_; (try clear hb); (try clear hb2); (try clear hk); (try clear hi)) | ((with_reducible refine gate_callee (f := 69) rfl ?_); refine goesL_ (some 16) rfl rfl Try.func69 (by kernel_rfl) rfl #[.string (t121 ++ a1)] rfl (by (try simp only [List.map_toArray, List.map_cons, List.map_nil]); first | done | rfl | (simp only [List.length_drop, List.length_take]; rfl)) ?_; (with_reducible refine (impl_hash.calls (t121 ++ a1) t122 _ A10.out).mono ?_); rintro e w15 ⟨rfl, hb⟩; refine ⟨_, rfl, ?_⟩; have n0_ := Aside0.mk (below_step (by repeat (first | (with_reducible first | exact HB.out | apply below_alloc | apply pw_below_drewN | apply below_drew1) | exact HB.out)) hb); clear HB; have HB := n0_; clear n0_; (try clear hb); (try clear hb2); (try clear hk); (try clear hi)) | ((with_reducible refine gate_callee (f := 69) rfl ?_); refine goesL_ (some 18) rfl rfl Try.func69 (by kernel_rfl) rfl #[.string (t120 ++ t122)] rfl (by (try simp only [List.map_toArray, List.map_cons, List.map_nil]); first | done | rfl | (simp only [List.length_drop, List.length_take]; rfl)) ?_; (with_reducible refine (impl_hash.calls (t120 ++ t122) t123 _ A12.out).mono ?_); rintro e w16 ⟨rfl, hb⟩; refine ⟨_, rfl, ?_⟩; have n0_ := Aside0.mk (below_step (by repeat (first | (with_reducible first | exact HB.out | apply below_alloc | apply pw_below_drewN | apply below_drew1) | exact HB.out)) hb); clear HB; have HB := n0_; clear n0_; (try clear hb); (try clear hb2); (try clear hk); (try clear hi)))
          go_ret
          exact ⟨by first | rfl | (simp [errW_none, errW_some] <;> rfl) | (simp [*, errW_none, errW_some] <;> rfl), by repeat (first | (with_reducible first | exact HB.out | apply below_alloc | apply pw_below_drewN | apply below_drew1) | exact HB.out)⟩
        · rw [if_neg c11] at H
          exact absurd H (by simp)
      · rw [if_neg c9] at H
        exact absurd H (by simp)

/-! ### impl_within: function 73 -/
def impl_within.f (a0 : Int) (a1 : Int) (a2 : Int) : Option (Bool) := if a1 ≤ a0 then (some (decide (a0 ≤ a2))) else (some false)
set_option maxHeartbeats 8000000 in
set_option maxRecDepth 100000 in
theorem impl_within.calls (a0 : Int) (a1 : Int) (a2 : Int) (r : Bool) (w : World) (h : impl_within.f a0 a1 a2 = some r) :
    Calls Try.prog 73 #[.int .i64 a0, .int .i64 a1, .int .i64 a2] w fun e w' => e = .returned (.bool r) ∧ Drawn0 w w' := by
  have H : (if a1 ≤ a0 then (some (decide (a0 ≤ a2))) else (some false)) = some r := h
  clear h
  by_cases c4 : a1 ≤ a0
  · rw [if_pos c4] at H
    have c4b0 : decide (a1 ≤ a0) = true := decide_eq_true c4
    clear c4
    obtain rfl := Option.some.inj H
    go_enter Try.func73, Try.ntmps73
    go_wp2
    go_ret
    exact ⟨by first | rfl | (simp; done) | (simp [*]; done), by repeat (first | exact Drawn0.refl _ | apply Drawn0.step)⟩
  · rw [if_neg c4] at H
    have c4b0 : decide (a1 ≤ a0) = false := decide_eq_false c4
    clear c4
    obtain rfl := Option.some.inj H
    go_enter Try.func73, Try.ntmps73
    go_wp2
    go_ret
    exact ⟨by first | rfl | (simp; done) | (simp [*]; done), by repeat (first | exact Drawn0.refl _ | apply Drawn0.step)⟩

/-! ### impl_expand: function 74 -/
def impl_expand.l0 : Nat → ByteArray → ByteArray → Int → ByteArray → ByteArray → Int → Option (ByteArray)
  | 0, _, _, _, _, _, _ => none
  | k + 1, x0, x1, x2, x7, x8, x9 => if (x7.size : Int) < x2 then (if x8.size + x1.size ≤ 9223372036854775807 then ((impl_bytesOf.f k x9 1).bind fun t124 => (if (x8 ++ x1).size + t124.size ≤ 9223372036854775807 then ((impl_hmac.f k x0 ((x8 ++ x1) ++ t124)).bind fun t125 => (if x7.size + t125.size ≤ 9223372036854775807 then (impl_expand.l0 k x0 x1 x2 (x7 ++ t125) t125 (wrap64 (x9 + 1))) else (none))) else (none))) else (none)) else (if 0 ≤ x2 then (if x2 ≤ (x7.size : Int) then (some (x7.extract 0 (x2 : Int).toNat)) else (none)) else (none))
def impl_expand.f (k : Nat) (a0 : ByteArray) (a1 : ByteArray) (a2 : Int) : Option (ByteArray) := impl_expand.l0 k a0 a1 a2 (⟨#[]⟩ : ByteArray) (⟨#[]⟩ : ByteArray) 1
theorem impl_expand.mono_l : ∀ k, (∀ y0 y1 y2 y3 y4 y5, LeO (impl_expand.l0 k y0 y1 y2 y3 y4 y5) (impl_expand.l0 (k + 1) y0 y1 y2 y3 y4 y5))
  | 0 => fun _ _ _ _ _ _ r h => by simp [impl_expand.l0] at h
  | k + 1 => by
    have ih0 := impl_expand.mono_l k
    · intro y0 y1 y2 y3 y4 y5
      unfold impl_expand.l0
      repeat' first
      | (with_reducible exact ih0 _ _ _ _ _ _)
      | (with_reducible exact impl_bytesOf.mono _ _ _)
      | (with_reducible exact impl_hmac.mono _ _ _)
      | (with_reducible exact LeO.refl _)
      | (with_reducible exact LeO.none _)
      | (with_reducible refine LeO.ite ?_ ?_)
      | (with_reducible refine LeO.bind ?_ (fun _ => ?_))
      | exact ih0 _ _ _ _ _ _
      | exact impl_bytesOf.mono _ _ _
      | exact impl_hmac.mono _ _ _
      | exact LeO.none _
      | refine LeO.ite ?_ ?_
      | refine LeO.bind ?_ (fun _ => ?_)
theorem impl_expand.mono : ∀ a0 a1 a2 k, LeO (impl_expand.f k a0 a1 a2) (impl_expand.f (k + 1) a0 a1 a2) := by
  intro a0 a1 a2 k
  have ih0 := impl_expand.mono_l k
  unfold impl_expand.f
  repeat' first
      | (with_reducible exact ih0 _ _ _ _ _ _)
      | (with_reducible exact impl_bytesOf.mono _ _ _)
      | (with_reducible exact impl_hmac.mono _ _ _)
      | (with_reducible exact LeO.refl _)
      | (with_reducible exact LeO.none _)
      | (with_reducible refine LeO.ite ?_ ?_)
      | (with_reducible refine LeO.bind ?_ (fun _ => ?_))
      | exact ih0 _ _ _ _ _ _
      | exact impl_bytesOf.mono _ _ _
      | exact impl_hmac.mono _ _ _
      | exact LeO.none _
      | refine LeO.ite ?_ ?_
      | refine LeO.bind ?_ (fun _ => ?_)
set_option maxHeartbeats 8000000 in
set_option maxRecDepth 100000 in
theorem impl_expand.calls (k : Nat) (a0 : ByteArray) (a1 : ByteArray) (a2 : Int) (r : ByteArray) (w : World) (h : impl_expand.f k a0 a1 a2 = some r) :
    Calls Try.prog 74 #[.string a0, .string a1, .int .i64 a2] w fun e w' => e = .returned (.string r) ∧ Below w.heap.size w w' := by
  have HB := Aside0.mk (Below.refl w.heap.size w)
  have H : (impl_expand.l0 k a0 a1 a2 (⟨#[]⟩ : ByteArray) (⟨#[]⟩ : ByteArray) 1) = some r := h
  clear h
  have H' := Aside0.mk H
  clear H
  go_enter Try.func74, Try.ntmps74
  go_wp2
  go_loopg [7, 8, 9] k (fun kq v7 v8 v9 w' => ∃ (x7_1 : ByteArray) (x8_1 : ByteArray) (x9_1 : Int), v7 = .string x7_1 ∧ v8 = .string x8_1 ∧ v9 = .int .i64 x9_1 ∧ Aside0 (impl_expand.l0 kq a0 a1 a2 x7_1 x8_1 x9_1 = some r) ∧ Aside0 (kq ≤ k) ∧ Aside0 (Below w.heap.size w w'))
  case atStart => exact ⟨((⟨#[]⟩ : ByteArray)), ((⟨#[]⟩ : ByteArray)), (1), (by first | rfl | (simp; done) | (simp [*]; done)), (by first | rfl | (simp; done) | (simp [*]; done)), (by first | rfl | (simp; done) | (simp [*]; done)), H', ⟨Nat.le_refl _⟩, ⟨by repeat (first | (with_reducible first | exact HB.out | apply below_alloc | apply pw_below_drewN | apply below_drew1) | exact HB.out)⟩⟩
  case round =>
    clear H'
    try clear p2
    obtain ⟨x7_1, x8_1, x9_1, rfl, rfl, rfl, HA, HK1, HB⟩ := hrel
    cases gk with
    | zero => exact absurd HA.out (by simp [impl_expand.l0])
    | succ k1 =>
      have H := HA.out
      clear HA
      simp only [impl_expand.l0] at H
      by_cases c4 : (x7_1.size : Int) < a2
      · rw [if_pos c4] at H
        have c4b0 : decide ((x7_1.size : Int) < a2) = true := decide_eq_true c4
        clear c4
        by_cases c5 : x8_1.size + a1.size ≤ 9223372036854775807
        · rw [if_pos c5] at H
          have c5b0 := eq_true c5
          have c5b1 : decide (x8_1.size + a1.size ≤ 9223372036854775807) = true := decide_eq_true c5
          try have c5b2 : (9223372036854775807 < x8_1.size + a1.size) = False := eq_false (Nat.not_lt.2 c5)
          replace H := Option.bind_eq_some_iff.mp H
          obtain ⟨t124, A60, H⟩ := H
          replace H : (if (x8_1 ++ a1).size + t124.size ≤ 9223372036854775807 then ((impl_hmac.f k1 a0 ((x8_1 ++ a1) ++ t124)).bind fun t125 => (if x7_1.size + t125.size ≤ 9223372036854775807 then (impl_expand.l0 k1 a0 a1 a2 (x7_1 ++ t125) t125 (wrap64 (x9_1 + 1))) else (none))) else (none)) = some r := H
          have A6 := Aside0.mk A60
          clear A60
          by_cases c7 : (x8_1 ++ a1).size + t124.size ≤ 9223372036854775807
          · rw [if_pos c7] at H
            have c7b0 := eq_true c7
            have c7b1 : decide ((x8_1 ++ a1).size + t124.size ≤ 9223372036854775807) = true := decide_eq_true c7
            try have c7b2 : (9223372036854775807 < (x8_1 ++ a1).size + t124.size) = False := eq_false (Nat.not_lt.2 c7)
            try (have c7b4 := Nat.not_lt.2 c7; simp only [ByteArray.size_append] at c7b4; replace c7b4 := eq_false c7b4)
            replace H := Option.bind_eq_some_iff.mp H
            obtain ⟨t125, A80, H⟩ := H
            replace H : (if x7_1.size + t125.size ≤ 9223372036854775807 then (impl_expand.l0 k1 a0 a1 a2 (x7_1 ++ t125) t125 (wrap64 (x9_1 + 1))) else (none)) = some r := H
            have A8 := Aside0.mk A80
            clear A80
            by_cases c9 : x7_1.size + t125.size ≤ 9223372036854775807
            · rw [if_pos c9] at H
              have c9b0 := eq_true c9
              have c9b1 : decide (x7_1.size + t125.size ≤ 9223372036854775807) = true := decide_eq_true c9
              try have c9b2 : (9223372036854775807 < x7_1.size + t125.size) = False := eq_false (Nat.not_lt.2 c9)
              have H' := Aside0.mk H
              clear H
              go_wp2_with (first | ((with_reducible refine gate_callee (f := 85) rfl ?_); refine goesL_ (some 21) rfl rfl Try.func85 (by kernel_rfl) rfl #[.int .i64 x9_1, .int .i64 1] rfl (by (try simp only [List.map_toArray, List.map_cons, List.map_nil]); first | done | rfl | (simp only [List.length_drop, List.length_take]; rfl)) ?_; (with_reducible refine (impl_bytesOf.calls k1 x9_1 1 t124 _ A6.out).mono ?_); rintro e w10 ⟨rfl, hb⟩; refine ⟨_, rfl, ?_⟩; have n0_ := Aside0.mk (below_step (by repeat (first | (with_reducible first | exact HB.out | apply below_alloc | apply pw_below_drewN | apply below_drew1) | exact HB.out)) hb); clear HB; have HB := n0_; clear n0_; (try clear hb); (try clear hb2); (try clear hk); (try clear hi)) | ((with_reducible refine gate_callee (f := 71) rfl ?_); refine goesL_ (some 23) rfl rfl Try.func71 (by kernel_rfl) rfl #[.string a0, .string ((x8_1 ++ a1) ++ t124)] rfl (by (try simp only [List.map_toArray, List.map_cons, List.map_nil]); first | done | rfl | (simp only [List.length_drop, List.length_take]; rfl)) ?_; (with_reducible refine (impl_hmac.calls k1 a0 ((x8_1 ++ a1) ++ t124) t125 _ A8.out).mono ?_); rintro e w11 ⟨rfl, hb⟩; refine ⟨_, rfl, ?_⟩; have n0_ := Aside0.mk (below_step (by repeat (first | (with_reducible first | exact HB.out | apply below_alloc | apply pw_below_drewN | apply below_drew1) | exact HB.out)) hb); clear HB; have HB := n0_; clear n0_; (try clear hb); (try clear hb2); (try clear hk); (try clear hi)))
              go_roundg k1
              case measure => have := HK1.out; omega
              case rel => exact ⟨(x7_1 ++ t125), (t125), (wrap64 (x9_1 + 1)), (by first | rfl | (simp; done) | (simp [*]; done)), (by first | rfl | (simp; done) | (simp [*]; done)), (by first | rfl | (simp; done) | (simp [*]; done)), H', ⟨by have := HK1.out; omega⟩, ⟨by repeat (first | (with_reducible first | exact HB.out | apply below_alloc | apply pw_below_drewN | apply below_drew1) | exact HB.out)⟩⟩
            · rw [if_neg c9] at H
              exact absurd H (by simp)
          · rw [if_neg c7] at H
            exact absurd H (by simp)
        · rw [if_neg c5] at H
          exact absurd H (by simp)
      · rw [if_neg c4] at H
        have c4b0 : decide ((x7_1.size : Int) < a2) = false := decide_eq_false c4
        clear c4
        by_cases c12 : 0 ≤ a2
        · rw [if_pos c12] at H
          have c12b0 := eq_true c12
          have c12b1 : decide (0 ≤ a2) = true := decide_eq_true c12
          clear c12
          by_cases c13 : a2 ≤ (x7_1.size : Int)
          · rw [if_pos c13] at H
            have c13b0 := eq_true c13
            have c13b1 : decide (a2 ≤ (x7_1.size : Int)) = true := decide_eq_true c13
            clear c13
            obtain rfl := Option.some.inj H
            go_wp2
            go_ret
            exact ⟨by first | rfl | (simp [errW_none, errW_some] <;> rfl) | (simp [*, errW_none, errW_some] <;> rfl), by repeat (first | (with_reducible first | exact HB.out | apply below_alloc | apply pw_below_drewN | apply below_drew1) | exact HB.out)⟩
          · rw [if_neg c13] at H
            exact absurd H (by simp)
        · rw [if_neg c12] at H
          exact absurd H (by simp)

end Go.Proofs.Ytlfpogbonmddmaa.P

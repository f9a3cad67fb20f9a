/- Laid by a program of this session: of Ph2 what this law uses. -/
import Derived.Test.YtlfpogbonmddmaaZHkM9
import Derived.Test.YtlfpogbonmddmaaZHkPh1
namespace Go.Proofs.Ytlfpogbonmddmaa.P
open Go.RowKit Go.Proofs.YtlfpogbonmddmaaW.PrintWords Go.Proofs.YtlfpogbonmddmaaW.PrintLast Go.Proofs.YtlfpogbonmddmaaW.PrintMore
attribute [local go_sem] min2_int min_two
set_option linter.unusedVariables false
set_option linter.unusedSimpArgs false
theorem u8ok_getD {l : List Int} (h : u8ok l) (i : Nat) : ∃ n : Nat, n < 256 ∧ l.getD i 0 = (n : Int) := by
  rcases Nat.lt_or_ge i l.length with hi | hi
  · have := h l[i] (List.getElem_mem hi)
    refine ⟨l[i].toNat, by omega, ?_⟩
    rw [List.getD_eq_getElem?_getD, List.getElem?_eq_getElem hi]
    show l[i] = _
    omega
  · exact ⟨0, by decide, by rw [List.getD_eq_getElem?_getD, List.getElem?_eq_none hi]; rfl⟩
theorem or_low (i a b : Nat) (h : b < 2 ^ i) : 2 ^ i * a ||| b = 2 ^ i * a + b := (Nat.two_pow_add_eq_or_of_lt h a).symm
theorem word_eq (b : List Int) (hb : u8ok b) (i : Nat) : Go.bits .or .u32 (Go.bits .or .u32 (Go.bits .or .u32 (((b.getD (4 * i) 0 % 4294967296) * 16777216) % 4294967296) (((b.getD (4 * i + 1) 0 % 4294967296) * 65536) % 4294967296)) (((b.getD (4 * i + 2) 0 % 4294967296) * 256) % 4294967296)) (b.getD (4 * i + 3) 0 % 4294967296) = Sha.pw b i 4 := by
  obtain ⟨n0, h0, e0⟩ := u8ok_getD hb (4 * i)
  obtain ⟨n1, h1, e1⟩ := u8ok_getD hb (4 * i + 1)
  obtain ⟨n2, h2, e2⟩ := u8ok_getD hb (4 * i + 2)
  obtain ⟨n3, h3, e3⟩ := u8ok_getD hb (4 * i + 3)
  have p1 : Sha.pw b i 1 = (n0 : Nat) := by
    show Go.bits .or .u32 ((0 * 256) % 4294967296) (b.getD (4 * i + 0) 0 % 4294967296) = _
    rw [Nat.add_zero, e0, show ((0 : Int) * 256) % 4294967296 = ((0 : Nat) : Int) from rfl, show (n0 : Int) % 4294967296 = n0 from by omega, Gf.or_u32 0 n0 (by omega) (by omega), Nat.zero_or]
  have st : ∀ (a n : Nat), a < 16777216 → n < 256 → Go.bits .or .u32 (((a : Int) * 256) % 4294967296) ((n : Int) % 4294967296) = ((256 * a + n : Nat) : Int) := fun a n ha hn => by
    rw [show ((a : Int) * 256) % 4294967296 = ((2 ^ 8 * a : Nat) : Int) from by omega, show (n : Int) % 4294967296 = n from by omega, Gf.or_u32 (2 ^ 8 * a) n (by omega) (by omega), or_low 8 a n (by omega)]
  have p2 : Sha.pw b i 2 = ((256 * n0 + n1 : Nat) : Int) := by
    show Go.bits .or .u32 ((Sha.pw b i 1 * 256) % 4294967296) (b.getD (4 * i + 1) 0 % 4294967296) = _
    rw [p1, e1, st n0 n1 (by omega) h1]
  have p3 : Sha.pw b i 3 = ((256 * (256 * n0 + n1) + n2 : Nat) : Int) := by
    show Go.bits .or .u32 ((Sha.pw b i 2 * 256) % 4294967296) (b.getD (4 * i + 2) 0 % 4294967296) = _
    rw [p2, e2, st _ n2 (by omega) h2]
  have p4 : Sha.pw b i 4 = ((256 * (256 * (256 * n0 + n1) + n2) + n3 : Nat) : Int) := by
    show Go.bits .or .u32 ((Sha.pw b i 3 * 256) % 4294967296) (b.getD (4 * i + 3) 0 % 4294967296) = _
    rw [p3, e3, st _ n3 (by omega) h3]
  rw [p4, e0, e1, e2, e3, show ((n0 : Int) % 4294967296 * 16777216) % 4294967296 = ((2 ^ 24 * n0 : Nat) : Int) from by omega, show ((n1 : Int) % 4294967296 * 65536) % 4294967296 = ((2 ^ 16 * n1 : Nat) : Int) from by omega,
    show ((n2 : Int) % 4294967296 * 256) % 4294967296 = ((2 ^ 8 * n2 : Nat) : Int) from by omega, show (n3 : Int) % 4294967296 = (n3 : Nat) from by omega,
    Gf.or_u32 _ _ (by omega) (by omega), or_low 24 n0 (2 ^ 16 * n1) (by omega), show 2 ^ 24 * n0 + 2 ^ 16 * n1 = 2 ^ 16 * (256 * n0 + n1) from by omega,
    Gf.or_u32 _ _ (by omega) (by omega), or_low 16 _ (2 ^ 8 * n2) (by omega), show 2 ^ 16 * (256 * n0 + n1) + 2 ^ 8 * n2 = 2 ^ 8 * (256 * (256 * n0 + n1) + n2) from by omega,
    Gf.or_u32 _ _ (by omega) (by omega), or_low 8 _ n3 (by omega)]
def sblockPost (gh : Nat) (r : List Int) (W : World) (e : Ending) (w' : World) : Prop :=
  e = .returned (.tuple #[]) ∧ w'.heap[gh]? = some (.cells (nums .u32 r).toArray 90 (0, 0)) ∧ (∀ k, k < W.heap.size → k ≠ gh → w'.heap[k]? = W.heap[k]?) ∧ Below gh W w' ∧ W.heap.size ≤ w'.heap.size
set_option maxHeartbeats 8000000 in
set_option maxRecDepth 100000 in
theorem sblock_in (v : Sha.V8) (gh : Nat) (ad : Addr) (cb : Nat) (b kk : List Int) (ak : Addr) (c2 : Nat) (W : World) (hh : W.heap[gh]? = some (.cells (nums .u32 v.l).toArray 90 (0, 0))) (hb : Kd.C (Kd.int .u8) W (some ad) b.length b) (hbl : b.length = 64) (hub : u8ok b) (hcb : 64 ≤ cb)
    (hk : ∀ j, j < 64 → W.cell? (ak.add j) = some (.int .u32 (kk.getD j 0))) (hc2 : 64 ≤ c2) :
    Calls Try.prog 88 #[.slice (some ⟨gh, 0, none⟩) 8 8, .slice (some ad) 64 cb, .slice (some ak) 64 c2] W (sblockPost gh (Sha.turn kk (Sha.sched b 64) v).l W) := by
  have HH := Aside0.mk hh
  have HC := Aside0.mk hb
  have HBL := Aside0.mk hbl
  have HUB := Aside0.mk hub
  have HK := Aside0.mk hk
  have HLT := Aside0.mk (blk_lt hh)
  have HKL : Aside0 (∀ j, j < 64 → (ak.add j).block < W.heap.size) := ⟨fun j hj => cell_lt (by rw [hk j hj]; rfl)⟩
  clear hh hb hbl hub hk
  have kmk : ∀ V : World, (Instr.makeSlice 91 (.int .i64 64) (.int .i64 64)).run Try.prog V = .ok (.slice (some ⟨V.heap.size, 0, none⟩) 64 64) (V.alloc (.cells (nums .u32 (List.replicate 64 0)).toArray 90)) := fun V => run_make_nums (m := 64) Try.underlying91 (.inr (.inl (by kernel_rfl))) (by decide) V
  go_enter Try.func88, Try.ntmps88
  go_wp2
  clear kmk
  go_loopw [7] (fun i wr => ∃ j : Nat, j ≤ 16 ∧ i = .int .i64 j ∧ Aside0 (wr.heap[W.heap.size]? = some (.cells (nums .u32 (Sha.sched b j ++ List.replicate (64 - j) 0)).toArray 90 (0, 0))) ∧ Aside0 (Below W.heap.size W wr)) (fun i _ => 16 - (intOf i).toNat)
  case atStart => exact ⟨0, by omega, rfl, ⟨blk_new W _⟩, ⟨below_alloc (Below.refl _ _) _⟩⟩
  case round =>
    obtain ⟨i, hi, rfl, G, HB⟩ := hrel
    by_cases hlt : i < 16
    · have i0 : (0 : Int) ≤ (i : Int) := Int.natCast_nonneg i
      have i1 : (i : Int) < 16 := by omega
      have hd : decide ((i : Int) < 16) = true := decide_eq_true i1
      rw [upd_zero _ i (by omega)] at G
      have HW : Aside0 (Sha.wordAt b (Sha.sched b i) i = Go.bits .or .u32 (Go.bits .or .u32 (Go.bits .or .u32 (((b.getD (4 * i) 0 % 4294967296) * 16777216) % 4294967296) (((b.getD (4 * i + 1) 0 % 4294967296) * 65536) % 4294967296)) (((b.getD (4 * i + 2) 0 % 4294967296) * 256) % 4294967296)) (b.getD (4 * i + 3) 0 % 4294967296)) := ⟨by
        rw [word_eq b HUB.out i, Sha.wordAt, if_pos hlt]⟩
      have cI : wr.cell? ⟨W.heap.size, i, none⟩ = some (.int .u32 0) := by
        rw [blk_cell G.out i]
        exact nums_at? _ _ _ _ (upd_at _ _ _ _ (Sha.sched_length b i))
      have zI := blk_frozen G.out i
      have hcell : ∀ j, j < 64 → wr.cell? (ad.add j) = some (.int .u8 (b.getD j 0)) := fun j hj => C_u8_cell (Kd.C_below HC.out HB.out) rfl j (by rw [HBL.out]; exact hj)
      obtain ⟨y0, hy0⟩ : ∃ y, y = b.getD (4 * i) 0 := ⟨_, rfl⟩
      obtain ⟨y1, hy1⟩ : ∃ y, y = b.getD (4 * i + 1) 0 := ⟨_, rfl⟩
      obtain ⟨y2, hy2⟩ : ∃ y, y = b.getD (4 * i + 2) 0 := ⟨_, rfl⟩
      obtain ⟨y3, hy3⟩ : ∃ y, y = b.getD (4 * i + 3) 0 := ⟨_, rfl⟩
      rw [← hy0, ← hy1, ← hy2, ← hy3] at HW
      have c0 := hcell (4 * i) (by omega)
      have c1 := hcell (4 * i + 1) (by omega)
      have c2' := hcell (4 * i + 2) (by omega)
      have c3 := hcell (4 * i + 3) (by omega)
      rw [← hy0] at c0
      rw [← hy1] at c1
      rw [← hy2] at c2'
      rw [← hy3] at c3
      have c3x : wr.cell? ⟨ad.block, ad.off + (4 * i + 2 + 1), none⟩ = some (.int .u8 y3) := by
        rw [← c3]
        simp only [Addr.add]
        split
        · rename_i h0
          exact absurd h0 (by omega)
        · rfl
      have c2x : wr.cell? ⟨ad.block, ad.off + (4 * i + 1 + 1), none⟩ = some (.int .u8 y2) := by
        rw [← c2']
        simp only [Addr.add]
        split
        · rename_i h0
          exact absurd h0 (by omega)
        · rfl
      have c1x : wr.cell? ⟨ad.block, ad.off + (4 * i + 1), none⟩ = some (.int .u8 y1) := by
        rw [← c1]
        simp only [Addr.add]
        split
        · rename_i h0
          exact absurd h0 (by omega)
        · rfl
      clear hy0 hy1 hy2 hy3 hcell
      have m0 : (4 * (i : Int)).toNat = 4 * i := by omega
      have m1 : (4 * (i : Int) + 1).toNat = 4 * i + 1 := by omega
      have m2 : (4 * (i : Int) + 2).toNat = 4 * i + 2 := by omega
      have m3 : (4 * (i : Int) + 3).toNat = 4 * i + 3 := by omega
      go_wp2
      have q0 : IntKind.i64.wrap (4 * (i : Int)) = 4 * (i : Int) := IntWalk.i64_in _ (by omega)
      have q1 : IntKind.i64.wrap (4 * (i : Int) + 1) = 4 * (i : Int) + 1 := IntWalk.i64_in _ (by omega)
      have q2 : IntKind.i64.wrap (4 * (i : Int) + 2) = 4 * (i : Int) + 2 := IntWalk.i64_in _ (by omega)
      have q3 : IntKind.i64.wrap (4 * (i : Int) + 3) = 4 * (i : Int) + 3 := IntWalk.i64_in _ (by omega)
      go_region
      all_goals clear q0 q1 q2 q3
      all_goals go_wp2
      go_roundw
      case rel =>
        refine ⟨i + 1, by omega, by go_num, ⟨?_⟩, ⟨below_set (below_drew1 HB.out) (Nat.le_refl _)⟩⟩
        rw [← upd_next b i (by omega), HW.out, ← upd_set (Sha.sched b i) 0 _ _ i (Sha.sched_length b i), ← nums_set]
        exact blk_set (blk_drew G.out) i _
      case measure => simp [intOf]; omega
    · have hd : decide ((i : Int) < 16) = false := decide_eq_false (by omega)
      have e16 : i = 16 := by omega
      rw [e16] at G
      clear e16
      go_wp2
      go_loopw [8] (fun i wr => ∃ j : Nat, 16 ≤ j ∧ j ≤ 64 ∧ i = .int .i64 j ∧ Aside0 (wr.heap[W.heap.size]? = some (.cells (nums .u32 (Sha.sched b j ++ List.replicate (64 - j) 0)).toArray 90 (0, 0))) ∧ Aside0 (Below W.heap.size W wr)) (fun i _ => 64 - (intOf i).toNat)
      case atStart => exact ⟨16, by omega, by omega, rfl, G, HB⟩
      case round =>
        clear G HB hd
        obtain ⟨i, h16, hi, rfl, G, HB⟩ := hrel
        by_cases hlt : i < 64
        · have i0 : (16 : Int) ≤ (i : Int) := by omega
          have i1 : (i : Int) < 64 := by omega
          have hd : decide ((i : Int) < 64) = true := decide_eq_true i1
          rw [upd_zero _ i hlt] at G
          obtain ⟨xa, hxa⟩ : ∃ x, x = (Sha.sched b i).getD (i - 15) 0 := ⟨_, rfl⟩
          obtain ⟨xb, hxb⟩ : ∃ x, x = (Sha.sched b i).getD (i - 2) 0 := ⟨_, rfl⟩
          obtain ⟨xc, hxc⟩ : ∃ x, x = (Sha.sched b i).getD (i - 16) 0 := ⟨_, rfl⟩
          obtain ⟨xd, hxd⟩ : ∃ x, x = (Sha.sched b i).getD (i - 7) 0 := ⟨_, rfl⟩
          have HWd : Aside0 (Sha.wordAt b (Sha.sched b i) i = (xc + Sha.sg0 xa + xd + Sha.sg1 xb) % 4294967296) := ⟨by rw [Sha.wordAt, if_neg (by omega), hxa, hxb, hxc, hxd]; rfl⟩
          have cOld : ∀ j, j < i → wr.cell? ⟨W.heap.size, j, none⟩ = some (.int .u32 ((Sha.sched b i).getD j 0)) := fun j hj => by
            rw [blk_cell G.out j]
            exact nums_at? _ _ _ _ (upd_old _ _ _ (by rw [Sha.sched_length]; exact hj))
          have cA := cOld (i - 15) (by omega)
          have cB := cOld (i - 2) (by omega)
          have cC := cOld (i - 16) (by omega)
          have cD := cOld (i - 7) (by omega)
          rw [← hxa] at cA
          rw [← hxb] at cB
          rw [← hxc] at cC
          rw [← hxd] at cD
          clear hxa hxb hxc hxd cOld
          have cI : wr.cell? ⟨W.heap.size, i, none⟩ = some (.int .u32 0) := by
            rw [blk_cell G.out i]
            exact nums_at? _ _ _ _ (upd_at _ _ _ _ (Sha.sched_length b i))
          have zI := blk_frozen G.out i
          go_wp2
          have q0 : IntKind.i64.wrap ((i : Int) - 16) = (i : Int) - 16 := IntWalk.i64_in _ (by omega)
          have q1 : IntKind.i64.wrap ((i : Int) - 7) = (i : Int) - 7 := IntWalk.i64_in _ (by omega)
          have b0 : (i : Int) - 16 < 64 := by omega
          have b1 : (i : Int) - 7 < 64 := by omega
          have b2 : (0 : Int) ≤ (i : Int) - 16 := by omega
          have b3 : (0 : Int) ≤ (i : Int) - 7 := by omega
          have b4 : (7 : Int) ≤ (i : Int) := by omega
          have b5 : (0 : Int) ≤ (i : Int) := by omega
          have n0 : ((i : Int) - 16).toNat = i - 16 := by omega
          have n1 : ((i : Int) - 7).toNat = i - 7 := by omega
          refine wp_region_still_tail 32 (by kernel_rfl) (by kernel_rfl) ?_
          simp only [List.take_succ_cons, List.take_zero, List.drop_succ_cons, List.drop_zero]
          change wpStill _ _ wr.drew _ _ _
          repeat (first | still_step | still_call (sturn_calls _ _ (by decide) (by decide) _))
          refine wpStill_nil ?_
          change wpList _ _ _ _ _ wr.drew
          clear q0 q1 n0 n1
          go_wp2
          go_roundw
          case rel =>
            refine ⟨i + 1, by omega, by omega, by go_num, ⟨?_⟩, ⟨below_set (below_drew1 HB.out) (Nat.le_refl _)⟩⟩
            rw [← upd_next b i hlt, HWd.out, ← upd_set (Sha.sched b i) 0 _ _ i (Sha.sched_length b i), ← nums_set]
            exact blk_set (blk_drew G.out) i _
          case measure => simp [intOf]; omega
        · have hd : decide ((i : Int) < 64) = false := decide_eq_false (by omega)
          have e64 : Sha.sched b i ++ List.replicate (64 - i) 0 = Sha.sched b 64 := by
            obtain rfl : i = 64 := by omega
            simp
          rw [e64] at G
          clear e64
          have HV : Aside0 (∀ j, j < v.l.length → wr.cell? ((⟨gh, 0, none⟩ : Addr).add j) = some (.int .u32 (v.l.getD j 0))) := ⟨fun j hj => by
            have h1 := blk_cell ((HB.out.block _ HLT.out).trans HH.out) j
            rw [add_plain, h1]
            exact nums_at? _ _ _ _ (V8l_at v j hj)⟩
          go_wp2_with ((with_reducible refine gate_dst (N := 107) rfl ?_); refine wpList_append_fresh (k := .u32) (by rfl) (.tmp 105) (.tmp 106) 91 90 (by rfl) Try.underlying91 4 (by kernel_rfl) (by decide) v.l _ (by rfl) ⟨gh, 0, none⟩ 8 8 (by rfl) rfl (fun j hj => cell_alloc_keep (HV.out j hj) _) (by show 0 < 8; decide) (by show 8 ≤ 4096; decide) ?_; intro gv cv w2 K1 K2 K3 K4)
          go_loopw [11, 12] (fun a n wr => ∃ (j g c : Nat), j ≤ 64 ∧ n = .int .i64 j ∧ a = .slice (some ⟨g, 0, none⟩) 8 c ∧ 8 ≤ c ∧ Aside0 (W.heap.size ≤ g) ∧ Aside0 (∀ q, q < 8 → wr.cell? ⟨g, q, none⟩ = some (.int .u32 ((Sha.rnd kk (Sha.sched b 64) v j).l.getD q 0)))
            ∧ Aside0 (wr.heap[W.heap.size]? = some (.cells (nums .u32 (Sha.sched b 64)).toArray 90 (0, 0))) ∧ Aside0 (Below W.heap.size W wr)) (fun _ n _ => 64 - (intOf n).toNat)
          case atStart =>
            refine ⟨0, gv, cv, by omega, rfl, rfl, K2, ⟨?_⟩, ⟨fun q hq => K3.out q hq⟩, ⟨?_⟩, ⟨?_⟩⟩
            · have h1 := K1.out; have h2 := HB.out.size; simp at h1; omega
            · exact (K4.out.block _ (by have := blk_lt G.out; simp; omega)).trans (blk_alloc G.out _)
            · exact below_step (below_alloc HB.out _) K4.out
          case round =>
            clear K1 K2 K3 K4 G HB HV hd
            obtain ⟨j, gv, cv, hj, rfl, rfl, hcv, K1, K3, G, HB⟩ := hrel
            by_cases hlj : j < 64
            · have i0 : (0 : Int) ≤ (j : Int) := Int.natCast_nonneg j
              have i1 : (j : Int) < 64 := by omega
              have hd : decide ((j : Int) < 64) = true := decide_eq_true i1
              obtain ⟨u, hu⟩ : ∃ u, u = Sha.rnd kk (Sha.sched b 64) v j := ⟨_, rfl⟩
              have HS : Aside0 (Sha.rnd kk (Sha.sched b 64) v (j + 1) = Sha.step u (kk.getD j 0) ((Sha.sched b 64).getD j 0)) := ⟨by rw [hu]; rfl⟩
              rw [← hu] at K3
              clear hu
              obtain ⟨xa, xb, xc, xd, xe, xf, xg, xh⟩ := u
              have d0 : wr.cell? ⟨gv, 0, none⟩ = some (.int .u32 xa) := K3.out 0 (by decide)
              have d1 : wr.cell? ⟨gv, 1, none⟩ = some (.int .u32 xb) := K3.out 1 (by decide)
              have d2 : wr.cell? ⟨gv, 2, none⟩ = some (.int .u32 xc) := K3.out 2 (by decide)
              have d3 : wr.cell? ⟨gv, 3, none⟩ = some (.int .u32 xd) := K3.out 3 (by decide)
              have d4 : wr.cell? ⟨gv, 4, none⟩ = some (.int .u32 xe) := K3.out 4 (by decide)
              have d5 : wr.cell? ⟨gv, 5, none⟩ = some (.int .u32 xf) := K3.out 5 (by decide)
              have d6 : wr.cell? ⟨gv, 6, none⟩ = some (.int .u32 xg) := K3.out 6 (by decide)
              have d7 : wr.cell? ⟨gv, 7, none⟩ = some (.int .u32 xh) := K3.out 7 (by decide)
              obtain ⟨ki, hki⟩ : ∃ x, x = kk.getD j 0 := ⟨_, rfl⟩
              obtain ⟨wi, hwi⟩ : ∃ x, x = (Sha.sched b 64).getD j 0 := ⟨_, rfl⟩
              have cK : wr.cell? (ak.add j) = some (.int .u32 ki) := by
                rw [hki, ← HK.out j hlj]
                exact HB.out.cell (HKL.out j hlj)
              have cW : wr.cell? ⟨W.heap.size, j, none⟩ = some (.int .u32 wi) := by
                rw [blk_cell G.out j, hwi]
                exact nums_at? _ _ _ _ (by rw [List.getD_eq_getElem?_getD, List.getElem?_eq_getElem (by rw [Sha.sched_length]; exact hlj)]; rfl)
              rw [← hki, ← hwi] at HS
              clear hki hwi K3
              go_wp2
              go_quiet ((go_at_call 103; first | exact sturn_q2 _ _ (by decide) (by decide) _ _ _ | exact sturn_q _ _ (by decide) (by decide) _ _))
              go_wp2
              go_quiet ((go_at_call 103; first | exact sturn_q2 _ _ (by decide) (by decide) _ _ _ | exact sturn_q _ _ (by decide) (by decide) _ _))
              go_wp2
              refine wp_region_still_tail 26 (by kernel_rfl) (by kernel_rfl) ?_
              simp only [List.take_succ_cons, List.take_zero, List.drop_succ_cons, List.drop_zero]
              change wpStill _ _ (World.drew _) _ _ _
              repeat still_step
              refine wpStill_nil ?_
              change wpList _ _ _ _ _ (World.drew _)
              go_wp2
              go_roundw
              case rel =>
                refine ⟨j + 1, _, _, by omega, by go_num, rfl, by decide, ⟨HB.out.size⟩, ⟨fun q hq => ?_⟩, ⟨blk_alloc (blk_drewN G.out _) _⟩, ⟨below_alloc (pw_below_drewN HB.out _) _⟩⟩
                refine (blk_cell (blk_new (wr.drewN _) _) q).trans ?_
                rw [HS.out, Sha.step_l]
                match q, hq with
                | 0, _ => rfl
                | 1, _ => rfl
                | 2, _ => rfl
                | 3, _ => rfl
                | 4, _ => rfl
                | 5, _ => rfl
                | 6, _ => rfl
                | 7, _ => rfl
              case measure => simp [intOf]; omega
            · have hd : decide ((j : Int) < 64) = false := decide_eq_false (by omega)
              obtain ⟨u, hu⟩ : ∃ u, u = Sha.rnd kk (Sha.sched b 64) v 64 := ⟨_, rfl⟩
              have HU : Aside0 (Sha.turn kk (Sha.sched b 64) v = v.add u) := ⟨by rw [hu]; rfl⟩
              have e64 : j = 64 := by omega
              rw [e64, ← hu] at K3
              clear hu e64
              go_wp2
              go_loopw [17] (fun n wr => ∃ m : Nat, m ≤ 8 ∧ n = .int .i64 m ∧ Aside0 (wr.heap[gh]? = some (.cells (nums .u32 (addTo v u m)).toArray 90 (0, 0))) ∧ Aside0 (∀ q, q < 8 → wr.cell? ⟨gv, q, none⟩ = some (.int .u32 (u.l.getD q 0)))
                ∧ Aside0 (∀ k, k < W.heap.size → k ≠ gh → wr.heap[k]? = W.heap[k]?) ∧ Aside0 (Below gh W wr) ∧ Aside0 (W.heap.size ≤ wr.heap.size)) (fun n _ => 8 - (intOf n).toNat)
              case atStart => exact ⟨0, by omega, rfl, ⟨(HB.out.block _ HLT.out).trans HH.out⟩, K3, ⟨fun k hk _ => HB.out.block k hk⟩, ⟨HB.out.mono (Nat.le_of_lt HLT.out)⟩, ⟨HB.out.size⟩⟩
              case round =>
                clear K3 G HB hd
                obtain ⟨m, hm, rfl, G, K3, OT, BG, SZ⟩ := hrel
                by_cases hlm : m < 8
                · have m0 : (0 : Int) ≤ (m : Int) := Int.natCast_nonneg m
                  have m1 : (m : Int) < 8 := by omega
                  have hdm : decide ((m : Int) < 8) = true := decide_eq_true m1
                  obtain ⟨vj, hvj⟩ : ∃ x, x = v.l.getD m 0 := ⟨_, rfl⟩
                  obtain ⟨uj, huj⟩ : ∃ x, x = u.l.getD m 0 := ⟨_, rfl⟩
                  have HA := Aside0.mk (addTo_set v u m hlm)
                  rw [← hvj, ← huj] at HA
                  have cH : wr.cell? ⟨gh, m, none⟩ = some (.int .u32 vj) := by
                    rw [blk_cell G.out m, hvj]
                    exact nums_at? _ _ _ _ (addTo_at v u m hlm)
                  have cX : wr.cell? ⟨gv, m, none⟩ = some (.int .u32 uj) := by rw [huj]; exact K3.out m hlm
                  have zH := blk_frozen G.out m
                  clear hvj huj
                  go_wp2
                  go_region
                  all_goals go_wp2
                  go_roundw
                  case rel =>
                    refine ⟨m + 1, by omega, by go_num, ⟨?_⟩, ⟨fun q hq => ?_⟩, ⟨fun k hk hne => ?_⟩, ⟨BG.out.drew.setCell (p := ⟨gh, m, none⟩) (Nat.le_refl _) _⟩, ⟨by simp; exact SZ.out⟩⟩
                    · rw [← HA.out, ← nums_set]
                      exact blk_set (blk_drew G.out) m _
                    · show (World.setCell wr _ _).cell? _ = _
                      rw [World.cell?_setCell_other _ _ _ _ (by have := K1.out; have := HLT.out; simp <;> omega)]
                      exact K3.out q hq
                    · exact (Below.heap_setCell _ _ _ k (by simpa using hne)).trans (OT.out k hk hne)
                  case measure => simp [intOf]; omega
                · have hdm : decide ((m : Int) < 8) = false := decide_eq_false (by omega)
                  have e8 : addTo v u m = (Sha.turn kk (Sha.sched b 64) v).l := by
                    obtain rfl : m = 8 := by omega
                    rw [HU.out]; rfl
                  rw [e8] at G
                  clear e8
                  have FIN : Aside0 (sblockPost gh (Sha.turn kk (Sha.sched b 64) v).l W (.returned (.tuple #[])) wr) := ⟨⟨rfl, G.out, OT.out, BG.out, SZ.out⟩⟩
                  go_wp2
                  go_end0
                  exact FIN.out
def spec_l03Hash.f (l0 : List Int) : Option ByteArray := if u8b l0 = true then (if l0.length ≤ 1099511627776 then some (strOfNums (Sha.shaL l0)) else none) else none
def sizeTo (n : Int) (j : Nat) : List Int := (Sha.be8 n).take j
theorem sizeTo_succ (n : Int) (j : Nat) (hj : j < 8) : sizeTo n (j + 1) = sizeTo n j ++ [n / 2 ^ (8 * (7 - j)) % 256] := by
  match j, hj with
  | 0, _ => rfl
  | 1, _ => rfl
  | 2, _ => rfl
  | 3, _ => rfl
  | 4, _ => rfl
  | 5, _ => rfl
  | 6, _ => rfl
  | 7, _ => simp [sizeTo, Sha.be8]
theorem below_lit (w : World) (o1 o2 : Obj) : Below (w.heap.size + 1) (w.alloc o1) ((w.alloc o1).alloc o2) := by
  have h := below_alloc (Below.refl (w.alloc o1).heap.size (w.alloc o1)) o2
  have e : (w.alloc o1).heap.size = w.heap.size + 1 := by simp
  rwa [e] at h
theorem consts_calls (w : World) : Calls Try.prog 87 #[] w fun e w' => e = .returned (.slice (some ⟨w.heap.size, 0, none⟩) 64 64) ∧ w' = w.alloc (.cells (nums .u32 Sha.K).toArray 90) := by
  go_enter Try.func87, Try.ntmps87
  go_wp2
  go_ret
  exact ⟨rfl, rfl⟩
theorem K_cells (w : World) (j : Nat) (hj : j < 64) : (w.alloc (.cells (nums .u32 Sha.K).toArray 90)).cell? ((⟨w.heap.size, 0, none⟩ : Addr).add j) = some (.int .u32 (Sha.K.getD j 0)) := by
  rw [add_plain]
  refine (blk_cell (blk_new w _) _).trans ?_
  exact nums_at? _ _ _ _ (by rw [List.getD_eq_getElem?_getD, List.getElem?_eq_getElem (by rw [K_length]; exact hj)]; rfl)
theorem u8ok_chunk {l : List Int} (h : u8ok l) (j : Nat) : u8ok (Sha.chunk l j) := fun x hx => h x (List.mem_of_mem_drop (List.mem_of_mem_take hx))
theorem u8ok_full {l : List Int} (h : u8ok l) : u8ok (Sha.full l) := fun x hx => by
  simp only [Sha.full, Sha.fillTo, List.mem_append, List.mem_cons, List.mem_replicate] at hx
  rcases hx with (hx | rfl | ⟨_, rfl⟩) | hx
  · exact h x hx
  · omega
  · omega
  · simp only [Sha.be8, List.mem_cons, List.not_mem_nil, or_false] at hx
    omega
def shash_T18 : Bool × List (List Nat × List Nat) := (true, [([], []), ([], []), ([], []), ([1, 2], [1, 2]), ([3], [3]), ([4], [4]), ([5], [5]), ([], []), ([], []), ([7, 8], [7, 8]), ([9], [9]), ([10], [10]), ([11], [11]), ([], []), ([], []), ([13, 14], [13, 14]), ([15], [15]), ([16], [16]), ([17], [17]), ([], []), ([], []), ([19, 20], [19, 20]), ([21], [21]), ([22], [22]), ([6, 12, 18, 23], [6, 12, 18, 23]), ([0, 24], [0, 24]), ([25, 25, 0, 1, 2, 3, 4, 5, 6, 7, 8, 9, 10, 11, 12, 13, 14, 15, 16, 17, 18, 19, 20, 21, 22, 23, 24, 25], [0, 25])])
def shash_B18 : List Nat := [0, 0, 0, 6, 14, 30, 62, 0, 0, 384, 896, 1920, 3968, 0, 0, 24576, 57344, 122880, 253952, 0, 0, 1572864, 3670016, 7864320, 16777214, 33554431, 67108863]
theorem shash_tab18 : rtab .any (opsOf Try.f68 18) = shash_T18 := by kernel_rfl
theorem shash_bits18 : waitsOk shash_T18.2 shash_B18 = true := by kernel_rfl
theorem full_mod (l : List Int) : (Sha.full l).length % 64 = 0 := by simp [Sha.full, Sha.fillTo, Sha.be8]; omega
theorem below_of_lit (w wr : World) (o : Obj) (h : Below (w.heap.size + 1) (w.alloc o) wr) : Below w.heap.size w wr := by
  exact (below_alloc (Below.refl w.heap.size w) o).trans (h.mono (Nat.le_succ _))
theorem consts_world (w wr : World) (o : Obj) (h : Below (w.heap.size + 1) (w.alloc o) wr) (hs : w.heap.size + 1 ≤ wr.heap.size) : wr.heap[w.heap.size]? = some o := by
  exact (h.block w.heap.size (by omega)).trans (blk_new w o)
set_option maxHeartbeats 8000000 in
set_option maxRecDepth 100000 in
theorem spec_l03Hash_in (A0 : Option Addr) (c0 : Nat) (l0 : List Int) (w0 : World) (hr0 : Kd.C (Kd.int .u8) w0 A0 l0.length l0) (hc0 : l0.length ≤ c0) (hu : u8ok l0) (hl : l0.length ≤ 1099511627776) :
    Calls Try.prog 68 #[.slice A0 l0.length c0] w0 fun e w' => e = .returned (.string (strOfNums (Sha.shaL l0))) ∧ Below w0.heap.size w0 w' := by
  have HR0 := Aside0.mk hr0
  have HC0 := Aside0.mk hc0
  have HU := Aside0.mk hu
  have HSZ := Aside0.mk hl
  obtain ⟨L1, hL1⟩ : ∃ L, L = l0 ++ [128] := ⟨_, rfl⟩
  have HL1 := Aside0.mk hL1
  clear hr0 hc0 hu hl hL1
  go_enter Try.func68, Try.ntmps68
  go_wp2_with (first
    | ((with_reducible refine gate_dst (N := 13) rfl ?_); refine wpList_append_rowB_C (by rfl) (.tmp 11) (.tmp 12) 22 5 (by rfl) Try.underlying22 info5 l0 (l := []) (w0 := w0.alloc (Obj.cells (nums .u32 Sha.H0.l).toArray 90 (0, 0))) (B := w0.heap.size + 1) (by rfl) (rowB_empty _ _ _ _ (by simp) rfl) (below_lit w0 _ _) (by simp) A0 _ _ (by rfl) (Kd.C_alloc (Kd.C_alloc HR0.out _) _) (by have := HSZ.out; simp; omega) l0 (by simp) ?_; intro v2 w2 H1 H2 H3; obtain ⟨g1, c1, rfl, hc1⟩ := rowB_form H1.out)
    | ((with_reducible refine gate_dst (N := 15) rfl ?_); refine wpList_append_rowB (by rfl) (.tmp 13) (.tmp 14) 22 5 (by rfl) Try.underlying22 info5 [128] (by rfl) (rowB_below H1.out (below_alloc (Below.refl _ _) _)) (H2.out.alloc H3.out _) (by have := H3.out; simp; omega) ⟨w2.heap.size, 0, none⟩ 1 1 (by rfl) rfl (cell_lit1 _ _ _ _) (by have := HSZ.out; simp; omega) L1 HL1.out ?_; intro v3 w3 K1 K2 K3; obtain ⟨g2, c2, rfl, hc2⟩ := rowB_form K1.out))
  go_loopw [4] (fun v wr => ∃ (lr : List Int) (z g c : Nat), v = .slice (some ⟨g, 0, none⟩) lr.length c ∧ z ≤ (119 - l0.length % 64) % 64 ∧ Aside0 (lr = l0 ++ 128 :: List.replicate z 0) ∧ Aside0 (rowB wr (w0.heap.size + 1) (.slice (some ⟨g, 0, none⟩) lr.length c) lr) ∧ Aside0 (Below (w0.heap.size + 1) (w0.alloc (Obj.cells (nums .u32 Sha.H0.l).toArray 90 (0, 0))) wr) ∧ Aside0 (w0.heap.size + 1 ≤ wr.heap.size))
    (fun v _ => l0.length + 200 - sliceLen v)
  case atStart => exact ⟨L1, 0, g2, c2, rfl, by omega, ⟨HL1.out⟩, K1, K2, K3⟩
  case round =>
    clear K1 K2 K3 H1 H2 H3 HL1
    obtain ⟨lr, z, g, c, rfl, hz, HLR, H1, H2, H3⟩ := hrel
    have hlen : lr.length = l0.length + 1 + z := by rw [HLR.out]; simp; omega
    have hsz2 : l0.length ≤ 1099511627776 := HSZ.out
    have l00 : (0 : Int) ≤ (lr.length : Int) := Int.natCast_nonneg _
    have l01 : (lr.length : Int) ≤ 1099511629000 := by omega
    by_cases hlt : z < (119 - l0.length % 64) % 64
    · have hd : ((lr.length : Int) % 64 != 56) = true := by rw [bne_iff_ne]; omega
      obtain ⟨lr2, hlr2⟩ : ∃ L, L = lr ++ [0] := ⟨_, rfl⟩
      have HLR2 : Aside0 (lr2 = l0 ++ 128 :: List.replicate (z + 1) 0) := ⟨by rw [hlr2, HLR.out, List.replicate_succ']; simp⟩
      have HE := Aside0.mk hlr2
      have hlen2 : lr2.length = lr.length + 1 := by rw [hlr2]; simp
      have HLEN := Aside0.mk hlen
      have HLEN2 := Aside0.mk hlen2
      clear hlen hlr2 hlen2 hsz2
      go_wp2_with ((with_reducible refine gate_dst (N := 22) rfl ?_); refine wpList_append_rowB (by rfl) (.tmp 20) (.tmp 21) 22 5 (by rfl) Try.underlying22 info5 [0] (by rfl) (rowB_below H1.out (below_alloc (Below.refl _ _) _)) (H2.out.alloc H3.out _) (by have := H3.out; simp; omega) ⟨wr.heap.size, 0, none⟩ 1 1 (by rfl) rfl (cell_lit1 _ _ _ _) (by have := HLEN.out; have := HSZ.out; simp; omega) lr2 HE.out ?_; intro v2 w2 K1 K2 K3; obtain ⟨g2, c2, rfl, hc2⟩ := rowB_form K1.out)
      go_roundw
      case rel => exact ⟨lr2, z + 1, g2, c2, rfl, by omega, HLR2, K1, K2, K3⟩
      case measure => simp [sliceLen]; have := HLEN.out; have := HLEN2.out; have := HSZ.out; omega
    · have hd : ((lr.length : Int) % 64 != 56) = false := by rw [bne_eq_false_iff_eq]; omega
      have HLR3 : Aside0 (lr = Sha.fillTo l0 ++ sizeTo (8 * (l0.length : Int)) 0) := ⟨by
        have ez : z = (119 - l0.length % 64) % 64 := by omega
        rw [HLR.out, Sha.fillTo, ez]
        simp [sizeTo]⟩
      have HFL : Aside0 ((Sha.fillTo l0).length = lr.length) := ⟨by rw [HLR3.out]; simp [sizeTo]⟩
      have HLEN : Aside0 (lr.length ≤ 1099511628000) := ⟨by omega⟩
      clear hlen hsz2 hlt hz l00 l01 HLR
      go_wp2
      go_loopw [4, 5] (fun v n wr => ∃ (lr : List Int) (j g c : Nat) (p : Int), v = .slice (some ⟨g, 0, none⟩) lr.length c ∧ n = .int .i64 p ∧ j ≤ 8 ∧ p = 7 - (j : Int) ∧ Aside0 (lr = Sha.fillTo l0 ++ sizeTo (8 * (l0.length : Int)) j) ∧ Aside0 (rowB wr (w0.heap.size + 1) (.slice (some ⟨g, 0, none⟩) lr.length c) lr) ∧ Aside0 (Below (w0.heap.size + 1) (w0.alloc (Obj.cells (nums .u32 Sha.H0.l).toArray 90 (0, 0))) wr) ∧ Aside0 (w0.heap.size + 1 ≤ wr.heap.size))
        (fun _ n _ => (intOf n + 1).toNat)
      case atStart => exact ⟨lr, 0, g, c, 7, rfl, rfl, by omega, rfl, HLR3, H1, H2, H3⟩
      case round =>
        clear H1 H2 H3 HLR3 hd
        obtain ⟨lr2, j, g, c, p, rfl, rfl, hj, hp, HLR, H1, H2, H3⟩ := hrel
        have HLEN2 : Aside0 (lr2.length = lr.length + j) := ⟨by rw [HLR.out, List.length_append, HFL.out]; simp [sizeTo, Sha.be8]; omega⟩
        have hsz2 : (l0.length : Int) ≤ 1099511627776 := by have := HSZ.out; omega
        by_cases hlt : j < 8
        · obtain ⟨q, hq⟩ : ∃ q : Nat, p = (q : Int) := ⟨p.toNat, by omega⟩
          subst hq
          have hqj : q = 7 - j := by omega
          have q7 : (q : Int) ≤ 7 := by omega
          have q0 : (0 : Int) ≤ (q : Int) := by omega
          have hd : decide ((q : Int) ≥ 0) = true := decide_eq_true q0
          obtain ⟨lr3, hlr3⟩ : ∃ L, L = lr2 ++ [(8 * (l0.length : Int)) / 2 ^ (8 * q) % 256] := ⟨_, rfl⟩
          have HLR3 : Aside0 (lr3 = Sha.fillTo l0 ++ sizeTo (8 * (l0.length : Int)) (j + 1)) := ⟨by
            rw [hlr3, HLR.out, sizeTo_succ _ j hlt, hqj]
            simp⟩
          have HE := Aside0.mk hlr3
          have HQ := Aside0.mk hqj
          have HP := Aside0.mk hp
          clear hlr3 hqj hp
          go_wp2_with ((with_reducible refine gate_dst (N := 37) rfl ?_); refine wpList_append_rowB (by rfl) (.tmp 27) (.tmp 36) 22 5 (by rfl) Try.underlying22 info5 [(8 * (l0.length : Int)) / 2 ^ (8 * q) % 256] (by rfl) (rowB_below H1.out (below_alloc (Below.refl _ _) _)) (H2.out.alloc H3.out _) (by have := H3.out; simp; omega) ⟨wr.heap.size, 0, none⟩ 1 1 (by rfl) rfl (cell_lit1 _ _ _ _) (by have := HLEN.out; have := HLEN2.out; have := HSZ.out; simp; omega) lr3 HE.out ?_; intro v2 w2 K1 K2 K3; obtain ⟨g2, c2, rfl, hc2⟩ := rowB_form K1.out)
          go_roundw
          case rel => exact ⟨lr3, j + 1, g2, c2, _, rfl, rfl, by omega, by have := HP.out; omega, HLR3, K1, K2, K3⟩
          case measure => simp [intOf]
        · have hj8 : j = 8 := by omega
          have hd : decide (p ≥ 0) = false := decide_eq_false (by omega)
          have HFU : Aside0 (lr2 = Sha.full l0) := ⟨by rw [HLR.out, hj8]; rfl⟩
          have HL2 : Aside0 (lr2.length ≤ 1099511628100) := ⟨by have := HLEN.out; have := HLEN2.out; omega⟩
          have HM : Aside0 (lr2.length % 64 = 0) := ⟨by rw [HFU.out]; exact full_mod l0⟩
          have HW := Aside0.mk (consts_world w0 wr _ H2.out H3.out)
          have HB0 : Aside0 (Below w0.heap.size w0 wr) := ⟨below_of_lit _ _ _ H2.out⟩
          have hc2 := rowB_form' H1.out
          clear HLR hp hlt hsz2 hj8 HLEN HLEN2 HFL
          go_wp2_with ((with_reducible refine gate_callee (f := 87) rfl ?_); refine goesL_ (some 38) rfl rfl Try.func87 (by kernel_rfl) rfl #[] rfl (by (try simp only [List.map_toArray, List.map_cons, List.map_nil]); first | done | rfl) ?_; (with_reducible refine (consts_calls _).mono ?_); rintro e w19 ⟨rfl, K1⟩; refine ⟨_, rfl, ?_⟩)
          obtain ⟨gk, hgk⟩ : ∃ n, n = wr.heap.size := ⟨_, rfl⟩
          have HGK : Aside0 (w0.heap.size + 1 ≤ gk) := ⟨by have := H3.out; omega⟩
          have HKC : Aside0 (∀ j, j < 64 → (wr.alloc (.cells (nums .u32 Sha.K).toArray 90)).cell? ((⟨gk, 0, none⟩ : Addr).add j) = some (.int .u32 (Sha.K.getD j 0))) := ⟨fun j hj => by rw [hgk]; exact K_cells wr j hj⟩
          rw [← hgk]
          clear hgk
          go_loopw [7] (fun v wq => ∃ (j p : Nat), v = .int .i64 (p : Int) ∧ p = 64 * j ∧ p ≤ lr2.length ∧ Aside0 (wq.heap[w0.heap.size]? = some (.cells (nums .u32 (Sha.fold lr2 j).l).toArray 90)) ∧ Aside0 (rowB wq (w0.heap.size + 1) (.slice (some ⟨g, 0, none⟩) lr2.length c) lr2) ∧ Aside0 (∀ j, j < 64 → wq.cell? ((⟨gk, 0, none⟩ : Addr).add j) = some (.int .u32 (Sha.K.getD j 0))) ∧ Aside0 (Below w0.heap.size w0 wq) ∧ Aside0 (w0.heap.size + 1 ≤ wq.heap.size))
            (fun v _ => lr2.length - (intOf v).toNat)
          case atStart => exact ⟨0, 0, rfl, rfl, by omega, ⟨blk_alloc HW.out _⟩, ⟨rowB_below H1.out (below_alloc (Below.refl _ _) _)⟩, HKC, ⟨HB0.out.alloc (by have := H3.out; omega) _⟩, ⟨by have := H3.out; simp; omega⟩⟩
          case round =>
            clear H1 H2 H3 HKC HW HB0
            obtain ⟨j, p2, rfl, hp2, hle, G1, G2, G3, G4, G5⟩ := hrel
            have hm2 := HM.out
            have hl2 := HL2.out
            by_cases hlt : p2 < lr2.length
            · have hn : p2 + 64 ≤ lr2.length := by omega
              have hd : decide ((p2 : Int) < (lr2.length : Int)) = true := decide_eq_true (by omega)
              have hw : wrap64 ((p2 : Int) + 64) = ((p2 + 64 : Nat) : Int) := by unfold wrap64; omega
              have HP2 := Aside0.mk hp2
              have hcap : p2 + 64 ≤ c := by omega
              have hw0 : (0 : Int) ≤ (p2 : Int) := by omega
              clear hm2 hl2 hp2
              have hchl : (Sha.chunk lr2 j).length = 64 := Sha.chunk_length lr2 j (by have := HP2.out; omega)
              have HCB : Aside0 (Kd.C (Kd.int .u8) wr (some ⟨g, p2, none⟩) (Sha.chunk lr2 j).length (Sha.chunk lr2 j)) := ⟨rowB_cut G2.out p2 _ (by omega) (by omega) (fun q hq => by rw [Sha.chunk_at lr2 j q (by have := HP2.out; omega) (by omega), HP2.out])⟩
              have HUB : Aside0 (u8ok (Sha.chunk lr2 j)) := ⟨by rw [HFU.out]; exact u8ok_chunk (u8ok_full HU.out) j⟩
              have HCL := Aside0.mk hchl
              clear hchl
              go_wp2_with fail
              refine (sblock_in (Sha.fold lr2 j) w0.heap.size ⟨g, p2, none⟩ (c - p2) (Sha.chunk lr2 j) Sha.K ⟨gk, 0, none⟩ 64 wr G1.out HCB.out HCL.out HUB.out (by omega) G3.out (by decide)).mono ?_
              rintro e wz ⟨rfl, Z1, Z2, Z3, Z4⟩
              have Z1 := Aside0.mk Z1; have Z2 := Aside0.mk Z2; have Z3 := Aside0.mk Z3; have Z4 := Aside0.mk Z4
              go_wp2
              rw [hw]
              clear hw
              go_roundw
              case rel => exact ⟨j + 1, p2 + 64, rfl, by have := HP2.out; omega, by omega, Z1, ⟨rowB_same G2.out (fun k h1 h2 => Z2.out k h2 (by omega))⟩, ⟨fun q hq => cell_keep_at (G3.out q hq) (fun h => Z2.out gk h (by have := HGK.out; omega))⟩, ⟨G4.out.trans Z3.out⟩, ⟨by have := G5.out; have := Z4.out; omega⟩⟩
              case measure => simp [intOf]; omega
            · have hd : decide ((p2 : Int) < (lr2.length : Int)) = false := decide_eq_false (by omega)
              obtain ⟨U, hU⟩ : ∃ U, U = Sha.fold lr2 j := ⟨_, rfl⟩
              have HUU : Aside0 (U = Sha.fold (Sha.full l0) ((Sha.full l0).length / 64)) := ⟨by rw [hU, ← HFU.out]; congr 1; omega⟩
              rw [← hU] at G1
              have hd2 : decide (p2 < lr2.length) = false := decide_eq_false hlt
              clear hU hm2 hl2 hp2 hle
              go_wp2
              go_loopw [8, 9] (fun v n wq => ∃ (lr : List Int) (i g c : Nat), v = .slice (some ⟨g, 0, none⟩) lr.length c ∧ n = .int .i64 (i : Int) ∧ i ≤ 8 ∧ Aside0 (lr = Sha.outTo U i) ∧ Aside0 (rowB wq (w0.heap.size + 1) (.slice (some ⟨g, 0, none⟩) lr.length c) lr) ∧ Aside0 (wq.heap[w0.heap.size]? = some (.cells (nums .u32 U.l).toArray 90)) ∧ Aside0 (Below w0.heap.size w0 wq) ∧ Aside0 (w0.heap.size + 1 ≤ wq.heap.size))
                (fun _ n _ => 8 - (intOf n).toNat)
              case atStart => exact ⟨[], 0, wr.heap.size, 0, rfl, rfl, by omega, ⟨rfl⟩, ⟨rowB_empty _ _ _ _ G5.out rfl⟩, ⟨blk_alloc G1.out _⟩, ⟨G4.out.alloc (by have := G5.out; omega) _⟩, ⟨by have := G5.out; simp; omega⟩⟩
              case round =>
                clear G1 G2 G3 G4 G5 HM HFU hd
                obtain ⟨lo, i, go, co, rfl, rfl, hi8, L1', G2, G1, G4, G5⟩ := hrel
                by_cases hlt : i < 8
                · have i0 : (0 : Int) ≤ (i : Int) := Int.natCast_nonneg i
                  have i1 : (i : Int) < 8 := by omega
                  have hd : decide ((i : Int) < 8) = true := decide_eq_true i1
                  obtain ⟨x, hx⟩ : ∃ x, x = U.l.getD i 0 := ⟨_, rfl⟩
                  have cI : wr.cell? ⟨w0.heap.size, i, none⟩ = some (.int .u32 x) := by
                    rw [blk_cell G1.out i, hx]
                    exact nums_at? _ _ _ _ (V8l_at U i hlt)
                  obtain ⟨lr3, hlr3⟩ : ∃ L, L = lo ++ [x / 16777216 % 256, x / 65536 % 256, x / 256 % 256, x % 256] := ⟨_, rfl⟩
                  have HLR3 : Aside0 (lr3 = Sha.outTo U (i + 1)) := ⟨by rw [hlr3, L1'.out, Sha.outTo_succ U i hlt, hx]; rfl⟩
                  have HLL : Aside0 (lo.length ≤ 32) := ⟨by rw [L1'.out, Sha.outTo_length U i hi8]; omega⟩
                  have HE := Aside0.mk hlr3
                  clear hx hlr3
                  go_wp2
                  refine start_ (n := 27) (S := fun w' => w'.cell? ⟨w0.heap.size, i, none⟩ = some (.int .u32 x)) (ds := [25]) #[false, false, false, false, false, false, false, false, false, false, false, false, false, false, false, false, false, false, false, false, false, false, false, false, false, false, false] (by kernel_rfl) rfl rfl (show wr.drew.cell? ⟨w0.heap.size, i, none⟩ = some (.int .u32 x) from cI) (fun hHeld => ?_); refine with_tabW shash_tab18 shash_bits18 (fun HT_ HW_ => ?_)
                  refine pure_ (i := 0) (N := some 58) (v := ?_) (a' := ?_) #[true, false, false, false, false, false, false, false, false, false, false, false, false, false, false, false, false, false, false, false, false, false, false, false, false, false, false] rfl rfl (any_of HT_.out (by kernel_rfl)) (fun _ _ _ h => h) (Or.inl ⟨by rfl, ?_⟩) ?_ ?_
                  rotate_left
                  · intro w'
                    go_simp
                    with_reducible rfl
                  rotate_left
                  · simp only [Act.put, List.setIfInBounds_toArray, List.set_cons_zero, List.set_cons_succ, i64_w, i32_w]
                    rfl
                  refine pure_ (i := 1) (N := some 59) (v := ?_) (a' := ?_) #[true, true, false, false, false, false, false, false, false, false, false, false, false, false, false, false, false, false, false, false, false, false, false, false, false, false, false] rfl rfl (any_of HT_.out (by kernel_rfl)) (fun _ _ _ h => h) (Or.inl ⟨by rfl, ?_⟩) ?_ ?_
                  rotate_left
                  · intro w'
                    go_simp
                    with_reducible rfl
                  rotate_left
                  · simp only [Act.put, List.setIfInBounds_toArray, List.set_cons_zero, List.set_cons_succ, i64_w, i32_w]
                    rfl
                  refine pure_ (i := 2) (N := some 60) (v := ?_) (a' := ?_) #[true, true, true, false, false, false, false, false, false, false, false, false, false, false, false, false, false, false, false, false, false, false, false, false, false, false, false] rfl rfl (any_of HT_.out (by kernel_rfl)) (fun _ _ _ h => h) (Or.inl ⟨by rfl, ?_⟩) ?_ ?_
                  rotate_left
                  · intro w'
                    go_simp
                    with_reducible rfl
                  rotate_left
                  · simp only [Act.put, List.setIfInBounds_toArray, List.set_cons_zero, List.set_cons_succ, i64_w, i32_w]
                    rfl
                  refine pure_ (i := 3) (N := some 61) (v := ?_) (a' := ?_) #[true, true, true, true, false, false, false, false, false, false, false, false, false, false, false, false, false, false, false, false, false, false, false, false, false, false, false] rfl rfl (any_of HT_.out (by kernel_rfl)) (fun _ _ _ h => h) (Or.inl ⟨by rfl, ?_⟩) ?_ ?_
                  rotate_left
                  · intro w'
                    go_simp
                    with_reducible rfl
                  rotate_left
                  · simp only [Act.put, List.setIfInBounds_toArray, List.set_cons_zero, List.set_cons_succ, i64_w, i32_w]
                    rfl
                  refine pure_ (i := 7) (N := some 65) (v := ?_) (a' := ?_) #[true, true, true, true, false, false, false, true, false, false, false, false, false, false, false, false, false, false, false, false, false, false, false, false, false, false, false] rfl rfl (any_of HT_.out (by kernel_rfl)) (fun _ _ _ h => h) (Or.inl ⟨by rfl, ?_⟩) ?_ ?_
                  rotate_left
                  · intro w'
                    go_simp
                    with_reducible rfl
                  rotate_left
                  · simp only [Act.put, List.setIfInBounds_toArray, List.set_cons_zero, List.set_cons_succ, i64_w, i32_w]
                    rfl
                  refine pure_ (i := 8) (N := some 66) (v := ?_) (a' := ?_) #[true, true, true, true, false, false, false, true, true, false, false, false, false, false, false, false, false, false, false, false, false, false, false, false, false, false, false] rfl rfl (any_of HT_.out (by kernel_rfl)) (fun _ _ _ h => h) (Or.inl ⟨by rfl, ?_⟩) ?_ ?_
                  rotate_left
                  · intro w'
                    go_simp
                    with_reducible rfl
                  rotate_left
                  · simp only [Act.put, List.setIfInBounds_toArray, List.set_cons_zero, List.set_cons_succ, i64_w, i32_w]
                    rfl
                  refine pure_ (i := 9) (N := some 67) (v := ?_) (a' := ?_) #[true, true, true, true, false, false, false, true, true, true, false, false, false, false, false, false, false, false, false, false, false, false, false, false, false, false, false] rfl rfl (any_of HT_.out (by kernel_rfl)) (fun _ _ _ h => h) (Or.inl ⟨by rfl, ?_⟩) ?_ ?_
                  rotate_left
                  · intro w'
                    go_simp
                    with_reducible rfl
                  rotate_left
                  · simp only [Act.put, List.setIfInBounds_toArray, List.set_cons_zero, List.set_cons_succ, i64_w, i32_w]
                    rfl
                  refine pure_ (i := 13) (N := some 71) (v := ?_) (a' := ?_) #[true, true, true, true, false, false, false, true, true, true, false, false, false, true, false, false, false, false, false, false, false, false, false, false, false, false, false] rfl rfl (any_of HT_.out (by kernel_rfl)) (fun _ _ _ h => h) (Or.inl ⟨by rfl, ?_⟩) ?_ ?_
                  rotate_left
                  · intro w'
                    go_simp
                    with_reducible rfl
                  rotate_left
                  · simp only [Act.put, List.setIfInBounds_toArray, List.set_cons_zero, List.set_cons_succ, i64_w, i32_w]
                    rfl
                  refine pure_ (i := 14) (N := some 72) (v := ?_) (a' := ?_) #[true, true, true, true, false, false, false, true, true, true, false, false, false, true, true, false, false, false, false, false, false, false, false, false, false, false, false] rfl rfl (any_of HT_.out (by kernel_rfl)) (fun _ _ _ h => h) (Or.inl ⟨by rfl, ?_⟩) ?_ ?_
                  rotate_left
                  · intro w'
                    go_simp
                    with_reducible rfl
                  rotate_left
                  · simp only [Act.put, List.setIfInBounds_toArray, List.set_cons_zero, List.set_cons_succ, i64_w, i32_w]
                    rfl
                  refine pure_ (i := 15) (N := some 73) (v := ?_) (a' := ?_) #[true, true, true, true, false, false, false, true, true, true, false, false, false, true, true, true, false, false, false, false, false, false, false, false, false, false, false] rfl rfl (any_of HT_.out (by kernel_rfl)) (fun _ _ _ h => h) (Or.inl ⟨by rfl, ?_⟩) ?_ ?_
                  rotate_left
                  · intro w'
                    go_simp
                    with_reducible rfl
                  rotate_left
                  · simp only [Act.put, List.setIfInBounds_toArray, List.set_cons_zero, List.set_cons_succ, i64_w, i32_w]
                    rfl
                  refine pure_ (i := 19) (N := some 77) (v := ?_) (a' := ?_) #[true, true, true, true, false, false, false, true, true, true, false, false, false, true, true, true, false, false, false, true, false, false, false, false, false, false, false] rfl rfl (any_of HT_.out (by kernel_rfl)) (fun _ _ _ h => h) (Or.inl ⟨by rfl, ?_⟩) ?_ ?_
                  rotate_left
                  · intro w'
                    go_simp
                    with_reducible rfl
                  rotate_left
                  · simp only [Act.put, List.setIfInBounds_toArray, List.set_cons_zero, List.set_cons_succ, i64_w, i32_w]
                    rfl
                  refine pure_ (i := 20) (N := some 78) (v := ?_) (a' := ?_) #[true, true, true, true, false, false, false, true, true, true, false, false, false, true, true, true, false, false, false, true, true, false, false, false, false, false, false] rfl rfl (any_of HT_.out (by kernel_rfl)) (fun _ _ _ h => h) (Or.inl ⟨by rfl, ?_⟩) ?_ ?_
                  rotate_left
                  · intro w'
                    go_simp
                    with_reducible rfl
                  rotate_left
                  · simp only [Act.put, List.setIfInBounds_toArray, List.set_cons_zero, List.set_cons_succ, i64_w, i32_w]
                    rfl
                  refine pure_ (i := 21) (N := some 79) (v := ?_) (a' := ?_) #[true, true, true, true, false, false, false, true, true, true, false, false, false, true, true, true, false, false, false, true, true, true, false, false, false, false, false] rfl rfl (any_of HT_.out (by kernel_rfl)) (fun _ _ _ h => h) (Or.inl ⟨by rfl, ?_⟩) ?_ ?_
                  rotate_left
                  · intro w'
                    go_simp
                    with_reducible rfl
                  rotate_left
                  · simp only [Act.put, List.setIfInBounds_toArray, List.set_cons_zero, List.set_cons_succ, i64_w, i32_w]
                    rfl
                  refine take_ (i := 4) (N := some 62) (v := ?_) (a' := ?_) #[true, true, true, true, true, false, false, true, true, true, false, false, false, true, true, true, false, false, false, true, true, true, false, false, false, false, false] rfl rfl (take_ofW HT_.out HW_.out (by kernel_rfl)) (fun _ _ _ h => h) (Or.inl ⟨by rfl, ?_⟩) hHeld ?_ ?_
                  rotate_left
                  · rintro w' s0
                    go_simp
                    with_reducible rfl
                  rotate_left
                  · simp only [Act.put, List.setIfInBounds_toArray, List.set_cons_zero, List.set_cons_succ, i64_w, i32_w]
                    rfl
                  refine pure_ (i := 5) (N := some 63) (v := ?_) (a' := ?_) #[true, true, true, true, true, true, false, true, true, true, false, false, false, true, true, true, false, false, false, true, true, true, false, false, false, false, false] rfl rfl (any_of HT_.out (by kernel_rfl)) (fun _ _ _ h => h) (Or.inl ⟨by rfl, ?_⟩) ?_ ?_
                  rotate_left
                  · intro w'
                    go_simp
                    with_reducible rfl
                  rotate_left
                  · simp only [Act.put, List.setIfInBounds_toArray, List.set_cons_zero, List.set_cons_succ, i64_w, i32_w]
                    rfl
                  refine pure_ (i := 6) (N := some 64) (v := ?_) (a' := ?_) #[true, true, true, true, true, true, true, true, true, true, false, false, false, true, true, true, false, false, false, true, true, true, false, false, false, false, false] rfl rfl (any_of HT_.out (by kernel_rfl)) (fun _ _ _ h => h) (Or.inl ⟨by rfl, ?_⟩) ?_ ?_
                  rotate_left
                  · intro w'
                    go_simp
                    with_reducible rfl
                  rotate_left
                  · simp only [Act.put, List.setIfInBounds_toArray, List.set_cons_zero, List.set_cons_succ, i64_w, i32_w]
                    rfl
                  refine take_ (i := 10) (N := some 68) (v := ?_) (a' := ?_) #[true, true, true, true, true, true, true, true, true, true, true, false, false, true, true, true, false, false, false, true, true, true, false, false, false, false, false] rfl rfl (take_ofW HT_.out HW_.out (by kernel_rfl)) (fun _ _ _ h => h) (Or.inl ⟨by rfl, ?_⟩) hHeld ?_ ?_
                  rotate_left
                  · rintro w' s0
                    go_simp
                    with_reducible rfl
                  rotate_left
                  · simp only [Act.put, List.setIfInBounds_toArray, List.set_cons_zero, List.set_cons_succ, i64_w, i32_w]
                    rfl
                  refine pure_ (i := 11) (N := some 69) (v := ?_) (a' := ?_) #[true, true, true, true, true, true, true, true, true, true, true, true, false, true, true, true, false, false, false, true, true, true, false, false, false, false, false] rfl rfl (any_of HT_.out (by kernel_rfl)) (fun _ _ _ h => h) (Or.inl ⟨by rfl, ?_⟩) ?_ ?_
                  rotate_left
                  · intro w'
                    go_simp
                    with_reducible rfl
                  rotate_left
                  · simp only [Act.put, List.setIfInBounds_toArray, List.set_cons_zero, List.set_cons_succ, i64_w, i32_w]
                    rfl
                  refine pure_ (i := 12) (N := some 70) (v := ?_) (a' := ?_) #[true, true, true, true, true, true, true, true, true, true, true, true, true, true, true, true, false, false, false, true, true, true, false, false, false, false, false] rfl rfl (any_of HT_.out (by kernel_rfl)) (fun _ _ _ h => h) (Or.inl ⟨by rfl, ?_⟩) ?_ ?_
                  rotate_left
                  · intro w'
                    go_simp
                    with_reducible rfl
                  rotate_left
                  · simp only [Act.put, List.setIfInBounds_toArray, List.set_cons_zero, List.set_cons_succ, i64_w, i32_w]
                    rfl
                  refine take_ (i := 16) (N := some 74) (v := ?_) (a' := ?_) #[true, true, true, true, true, true, true, true, true, true, true, true, true, true, true, true, true, false, false, true, true, true, false, false, false, false, false] rfl rfl (take_ofW HT_.out HW_.out (by kernel_rfl)) (fun _ _ _ h => h) (Or.inl ⟨by rfl, ?_⟩) hHeld ?_ ?_
                  rotate_left
                  · rintro w' s0
                    go_simp
                    with_reducible rfl
                  rotate_left
                  · simp only [Act.put, List.setIfInBounds_toArray, List.set_cons_zero, List.set_cons_succ, i64_w, i32_w]
                    rfl
                  refine pure_ (i := 17) (N := some 75) (v := ?_) (a' := ?_) #[true, true, true, true, true, true, true, true, true, true, true, true, true, true, true, true, true, true, false, true, true, true, false, false, false, false, false] rfl rfl (any_of HT_.out (by kernel_rfl)) (fun _ _ _ h => h) (Or.inl ⟨by rfl, ?_⟩) ?_ ?_
                  rotate_left
                  · intro w'
                    go_simp
                    with_reducible rfl
                  rotate_left
                  · simp only [Act.put, List.setIfInBounds_toArray, List.set_cons_zero, List.set_cons_succ, i64_w, i32_w]
                    rfl
                  refine pure_ (i := 18) (N := some 76) (v := ?_) (a' := ?_) #[true, true, true, true, true, true, true, true, true, true, true, true, true, true, true, true, true, true, true, true, true, true, false, false, false, false, false] rfl rfl (any_of HT_.out (by kernel_rfl)) (fun _ _ _ h => h) (Or.inl ⟨by rfl, ?_⟩) ?_ ?_
                  rotate_left
                  · intro w'
                    go_simp
                    with_reducible rfl
                  rotate_left
                  · simp only [Act.put, List.setIfInBounds_toArray, List.set_cons_zero, List.set_cons_succ, i64_w, i32_w]
                    rfl
                  refine take_ (i := 22) (N := some 80) (v := ?_) (a' := ?_) #[true, true, true, true, true, true, true, true, true, true, true, true, true, true, true, true, true, true, true, true, true, true, true, false, false, false, false] rfl rfl (take_ofW HT_.out HW_.out (by kernel_rfl)) (fun _ _ _ h => h) (Or.inl ⟨by rfl, ?_⟩) hHeld ?_ ?_
                  rotate_left
                  · rintro w' s0
                    go_simp
                    with_reducible rfl
                  rotate_left
                  · simp only [Act.put, List.setIfInBounds_toArray, List.set_cons_zero, List.set_cons_succ, i64_w, i32_w]
                    rfl
                  refine pure_ (i := 23) (N := some 81) (v := ?_) (a' := ?_) #[true, true, true, true, true, true, true, true, true, true, true, true, true, true, true, true, true, true, true, true, true, true, true, true, false, false, false] rfl rfl (any_of HT_.out (by kernel_rfl)) (fun _ _ _ h => h) (Or.inl ⟨by rfl, ?_⟩) ?_ ?_
                  rotate_left
                  · intro w'
                    go_simp
                    with_reducible rfl
                  rotate_left
                  · simp only [Act.put, List.setIfInBounds_toArray, List.set_cons_zero, List.set_cons_succ, i64_w, i32_w]
                    rfl
                  refine one_ (i := 24) (N := some 82) #[true, true, true, true, true, true, true, true, true, true, true, true, true, true, true, true, true, true, true, true, true, true, true, true, true, false, false] rfl rfl (one_of HT_.out (by kernel_rfl)) (by decide) (fun K hK => ?_)
                  go_simp
                  refine hK.out _ _ (cell_alloc_keep hHeld _) (fun hHeld => ?_)
                  clear hK K
                  refine last_ (i := 25) (N := some 83) #[true, true, true, true, true, true, true, true, true, true, true, true, true, true, true, true, true, true, true, true, true, true, true, true, true, true, false] rfl rfl (one_of HT_.out (by kernel_rfl)) (by decide) (fun K hK => ?_)
                  refine opWp_append_rowB (.tmp 58) (.tmp 82) 22 5 (by rfl) Try.underlying22 info5 [x / 16777216 % 256, x / 65536 % 256, x / 256 % 256, x % 256] (by rfl) (rowB_below G2.out ((Below.refl wr.heap.size wr).drew.alloc (Nat.le_refl _) _)) (w0 := wr) ((Below.refl (w0.heap.size + 1) wr).drew.alloc G5.out _) (by have := G5.out; show w0.heap.size + 1 ≤ (wr.alloc _).heap.size; simp; omega) ⟨wr.heap.size, 0, none⟩ 4 4 (by rfl) rfl (cell_lit4 wr.drew _ _ _ _ _ _) (by have := HLL.out; simp; omega) lr3 HE.out ?_
                  intro v2 w2 K1 K2 K3
                  obtain ⟨g2, c2, rfl, hc2⟩ := rowB_form K1.out
                  refine hK.out _ _ ?_
                  clear hK K
                  refine norm_ (a' := ?_) ?_ ?_
                  rotate_left
                  · show Act.put _ (some 83) _ = _
                    simp only [Act.put, List.setIfInBounds_toArray, List.set_cons_zero, List.set_cons_succ, i64_w, i32_w]
                    rfl
                  refine pure_ (i := 26) (N := some 8) (v := ?_) (a' := ?_) #[true, true, true, true, true, true, true, true, true, true, true, true, true, true, true, true, true, true, true, true, true, true, true, true, true, true, true] rfl rfl (any_of HT_.out (by kernel_rfl)) (fun _ _ _ h => h) (Or.inl ⟨by rfl, ?_⟩) ?_ ?_
                  rotate_left
                  · intro w'
                    go_simp
                    with_reducible rfl
                  rotate_left
                  · simp only [Act.put, List.setIfInBounds_toArray, List.set_cons_zero, List.set_cons_succ, i64_w, i32_w]
                    rfl
                  refine done_ (done_of HT_.out (by kernel_rfl)) ?_
                  go_wp2
                  go_roundw
                  case rel => exact ⟨lr3, i + 1, g2, c2, rfl, by go_num, by omega, HLR3, K1, ⟨(K2.out.block w0.heap.size (by omega)).trans G1.out⟩, ⟨G4.out.trans (K2.out.mono (by omega))⟩, K3⟩
                  case measure => simp [intOf]; omega
                · have hd : decide ((i : Int) < 8) = false := decide_eq_false (by omega)
                  have HFI : Aside0 (lo = Sha.shaL l0) := ⟨by rw [L1'.out, show i = 8 from by omega, HUU.out]; rfl⟩
                  have HLL : Aside0 (lo.length ≤ 32) := ⟨by rw [L1'.out, Sha.outTo_length U i hi8]; omega⟩
                  clear L1'
                  have ks := Kd.C_string (P := Try.prog) (dst := 9) (src := 22) (c := co) Try.underlying22 Try.underlying5 Try.underlying9 (rowB_C G2.out (by have := HLL.out; omega))
                  go_wp2
                  go_ret
                  exact ⟨congrArg (fun l => Ending.returned (.string (strOfNums l))) HFI.out, G4.out⟩
theorem spec_l03Hash.calls (A0 : Option Addr) (c0 : Nat) (l0 : List Int) (r : ByteArray) (w : World) (hr0 : Kd.C (Kd.int .u8) w A0 l0.length l0) (hc0 : l0.length ≤ c0) (h : spec_l03Hash.f l0 = some r) :
    Calls Try.prog 68 #[.slice A0 l0.length c0] w fun e w' => e = .returned (.string r) ∧ Below w.heap.size w w' := by
  unfold spec_l03Hash.f at h
  split at h
  · rename_i h1
    split at h
    · rename_i h2
      injection h with h
      subst h
      exact spec_l03Hash_in A0 c0 l0 w hr0 hc0 (u8b_ok h1) h2
    · cases h
  · cases h
def spec_Hash.f (l0 : List Int) : Option (ByteArray) := if (l0.length : Int) > 65536 then (some (⟨#[]⟩ : ByteArray)) else ((spec_l03Hash.f l0).bind fun t140 => (some t140))
set_option maxHeartbeats 8000000 in
set_option maxRecDepth 100000 in
theorem spec_Hash.calls (A0 : Option Addr) (c0 : Nat) (l0 : List Int) (r : ByteArray) (w : World) (hr0 : Kd.C (Kd.int .u8) w A0 l0.length l0) (hc0 : l0.length ≤ c0) (h : spec_Hash.f l0 = some r) :
    Calls Try.prog 34 #[.slice A0 l0.length c0] w fun e w' => e = .returned (.string r) ∧ Below w.heap.size w w' := by
  have HR0 := Aside0.mk hr0
  have HC0 := Aside0.mk hc0
  clear hr0 hc0
  have HB := Aside0.mk (Below.refl w.heap.size w)
  have H : (if (l0.length : Int) > 65536 then (some (⟨#[]⟩ : ByteArray)) else ((spec_l03Hash.f l0).bind fun t140 => (some t140))) = some r := h
  clear h
  by_cases c2 : (l0.length : Int) > 65536
  · rw [if_pos c2] at H
    have c2b0 : decide (65536 < (l0.length : Int)) = true := decide_eq_true c2
    have c2b1 : decide (65536 < l0.length) = true := decide_eq_true (by omega)
    clear c2
    obtain rfl := Option.some.inj H
    go_enter Try.func34, Try.ntmps34
    go_wp2
    go_ret
    exact ⟨by first | rfl | (simp [errW_none, errW_some] <;> rfl) | (simp [*, errW_none, errW_some] <;> rfl), by repeat (first | (with_reducible first | exact HB.out | apply below_alloc | apply pw_below_drewN | apply below_drew1) | exact HB.out)⟩
  · rw [if_neg c2] at H
    have c2b0 : decide (65536 < (l0.length : Int)) = false := decide_eq_false c2
    have c2b1 : decide (65536 < l0.length) = false := decide_eq_false (by omega)
    clear c2
    replace H := Option.bind_eq_some_iff.mp H
    obtain ⟨t140, A30, H⟩ := H
    replace H : (some t140) = some r := H
    have A3 := Aside0.mk A30
    clear A30
    obtain rfl := Option.some.inj H
    go_enter Try.func34, Try.ntmps34
    go_wp2_with (first | ((with_reducible refine gate_callee (f := 68) rfl ?_); refine goesL_ (some 7) rfl rfl Try.func68 (by kernel_rfl) rfl #[.slice A0 l0.length c0] rfl (by (try simp only [List.map_toArray, List.map_cons, List.map_nil]); first | done | rfl | (simp only [List.length_drop, List.length_take]; rfl)) ?_; (with_reducible refine (spec_l03Hash.calls _ _ l0 t140 _ ?side1 ?side2 A3.out).mono ?_); (case side1 => repeat (first | exact HR0.out | (with_reducible refine Kd.C_alloc ?_ _) | (with_reducible refine Kd.C_drewN ?_ _) | (with_reducible refine Kd.C_drew ?_))); (case side2 => exact HC0.out); rintro e w4 ⟨rfl, hb⟩; refine ⟨_, rfl, ?_⟩; have n0_ := Aside0.mk (below_step (by repeat (first | (with_reducible first | exact HB.out | apply below_alloc | apply pw_below_drewN | apply below_drew1) | exact HB.out)) hb); clear HB; have HB := n0_; clear n0_; (try clear hb); (try clear hb2); (try clear hk); (try clear hi)))
    go_ret
    exact ⟨by first | rfl | (simp [errW_none, errW_some] <;> rfl) | (simp [*, errW_none, errW_some] <;> rfl), by repeat (first | (with_reducible first | exact HB.out | apply below_alloc | apply pw_below_drewN | apply below_drew1) | exact HB.out)⟩
theorem isLong_byte_1.calls (A : Option Addr) (n c : Nat) (w : World) : Calls Try.prog 81 #[.slice A n c] w fun e w' => e = .returned (.bool (decide (65536 < (n : Int)))) ∧ w = w' := by
  go_enter Try.func81, Try.ntmps81
  go_wp2
  go_ret
  exact ⟨rfl, rfl⟩
def isLong_byte_idx (l0 : List (List Int)) (w : World) (e : Ending) (w' : World) : Prop :=
  ∃ i : Int, e = .returned (.int .i64 i) ∧ decide (0 ≤ i) = (l0.any fun t => decide (65536 < (t.length : Int))) ∧ w = w'
theorem isLong_byte_at {w : World} {A0 : Option Addr} {l0 : List (List Int)} (hr0 : Kd.C (Kd.slice 5 (Kd.int .u8)) w A0 l0.length l0) (k : Nat) (hk : k < l0.length) :
    ∃ ad A c, A0 = some ad ∧ w.cell? (ad.add k) = some (.slice A l0[k].length c) := by
  obtain ⟨ad, c, rfl, _, ⟨A, cap, hc, _⟩, hw⟩ := Kd.C_get hr0 ([] : List Int) (k : Int) (by omega) (by omega)
  refine ⟨ad, A, cap, rfl, ?_⟩
  subst hc
  have := hw 0 _ rfl
  simpa [Kd.slice, List.getD_eq_getElem?_getD, hk] using this
theorem IndexFunc_byte.calls (A0 : Option Addr) (c0 : Nat) (l0 : List (List Int)) (w : World) (hr0 : Kd.C (Kd.slice 5 (Kd.int .u8)) w A0 l0.length l0) :
    Calls Try.prog 98 #[.slice A0 l0.length c0, .func (.func 81) #[] #[]] w (isLong_byte_idx l0 w) := by
  have HR0 := Aside0.mk hr0
  clear hr0
  have hm : l0.length ≤ 9223372036854775807 := HR0.out.2.1
  go_enter Try.func98, Try.ntmps98
  go_wp2
  go_loop [8] (fun i => ∃ k : Nat, k ≤ l0.length ∧ i = .int .i64 k ∧ Aside0 (∀ j (hj : j < l0.length), j < k → ¬ 65536 < l0[j].length)) (fun i => l0.length - (intOf i).toNat)
  case atStart => exact ⟨0, Nat.zero_le _, rfl, ⟨fun _ _ h => absurd h (by omega)⟩⟩
  case round =>
    obtain ⟨k, hk, rfl, HA⟩ := hrel
    by_cases hlt : k < l0.length
    · obtain ⟨ad, A, c, had, hcell⟩ := isLong_byte_at HR0.out k hlt
      subst had
      by_cases hbig : 65536 < l0[k].length
      · have HF : Aside0 (isLong_byte_idx l0 w (.returned (.int .i64 (k : Int))) w) := ⟨⟨k, rfl, by
          rw [show decide ((0 : Int) ≤ (k : Int)) = true from decide_eq_true (by omega)]
          exact (List.any_eq_true.2 ⟨l0[k], List.getElem_mem hlt, by simp; omega⟩).symm, rfl⟩⟩
        have hd : decide (65536 < (l0[k].length : Int)) = true := decide_eq_true (by omega)
        go_wp2_with (go_at_call 81; refine (isLong_byte_1.calls _ _ _ _).mono ?_; rintro e w' ⟨rfl, rfl⟩)
        go_ret
        exact HF.out
      · have hd : decide (65536 < (l0[k].length : Int)) = false := decide_eq_false (by omega)
        have HA1 : Aside0 (∀ j (hj : j < l0.length), j < k + 1 → ¬ 65536 < l0[j].length) := ⟨fun j hj hjk => by
          rcases Nat.lt_or_ge j k with h | h
          · exact HA.out j hj h
          · obtain rfl : j = k := by omega
            exact hbig⟩
        go_wp2_with (go_at_call 81; refine (isLong_byte_1.calls _ _ _ _).mono ?_; rintro e w' ⟨rfl, rfl⟩)
        go_round
        case rel => exact ⟨k + 1, by omega, by go_num, HA1⟩
        case measure => simp [intOf]; omega
    · have HF : Aside0 (isLong_byte_idx l0 w (.returned (.int .i64 (-1))) w) := ⟨⟨-1, rfl, by
        rw [show decide ((0 : Int) ≤ -1) = false from rfl]
        refine (List.any_eq_false.2 fun x hx => ?_).symm
        obtain ⟨j, hj, rfl⟩ := List.mem_iff_getElem.1 hx
        have := HA.out j hj (by omega)
        simp; omega, rfl⟩⟩
      go_wp2
      go_ret
      exact HF.out
theorem ContainsFunc_byte.calls (A0 : Option Addr) (c0 : Nat) (l0 : List (List Int)) (w : World) (hr0 : Kd.C (Kd.slice 5 (Kd.int .u8)) w A0 l0.length l0) :
    Calls Try.prog 80 #[.slice A0 l0.length c0, .func (.func 81) #[] #[]] w fun e w' => e = .returned (.bool (l0.any fun t => decide (65536 < (t.length : Int)))) ∧ w = w' := by
  go_enter Try.func80, Try.ntmps80
  go_wp2_with (go_at_call 98; refine (IndexFunc_byte.calls _ _ _ _ hr0).mono ?_; rintro e w' ⟨i, rfl, hi, rfl⟩)
  go_ret
  exact ⟨by rw [← hi]; simp, rfl⟩
def impl_isLong_byte.f (l0 : List (List Int)) : Option (Bool) := some (l0.any fun t => decide (65536 < (t.length : Int)))
theorem impl_isLong_byte.calls (A0 : Option Addr) (c0 : Nat) (l0 : List (List Int)) (r : Bool) (w : World) (hr0 : Kd.C (Kd.slice 5 (Kd.int .u8)) w A0 l0.length l0) (hc0 : l0.length ≤ c0) (h : impl_isLong_byte.f l0 = some r) :
    Calls Try.prog 49 #[.slice A0 l0.length c0] w fun e w' => e = .returned (.bool r) ∧ Drawn0 w w' := by
  unfold impl_isLong_byte.f at h
  injection h with h
  have H := Aside0.mk h
  clear h
  go_enter Try.func49, Try.ntmps49
  go_wp2_with (go_at_call 80; refine (ContainsFunc_byte.calls _ _ _ _ hr0).mono ?_; rintro e w' ⟨rfl, rfl⟩)
  go_ret
  exact ⟨by rw [← H.out]; rfl, Drawn0.refl _⟩
end Go.Proofs.Ytlfpogbonmddmaa.P

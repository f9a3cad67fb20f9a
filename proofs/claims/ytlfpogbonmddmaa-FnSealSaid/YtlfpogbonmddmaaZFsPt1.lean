/- Laid by a program of this session: of Pt1 what this law uses. -/
import Derived.Test.YtlfpogbonmddmaaZFsM11
namespace Go.Proofs.Ytlfpogbonmddmaa.P
open Go.RowKit Go.Proofs.YtlfpogbonmddmaaW.PrintWords Go.Proofs.YtlfpogbonmddmaaW.PrintLast Go.Proofs.YtlfpogbonmddmaaW.PrintMore
attribute [local go_sem] min2_int min_two
set_option linter.unusedVariables false
set_option linter.unusedSimpArgs false
def spec_l04Code.j0 : Nat → ByteArray → ByteArray → Bool → Option (Int)
 | 0, _, _, _ => none
 | k + 1, x0, x1, x20 => if x20 = true then (some 2) else (if (x0.size : Int) = 32 then (if (x1.size : Int) = 12 then (some 0) else (some 1)) else (some 1))
def spec_l04Code.f (k : Nat) (a0 : ByteArray) (a1 : ByteArray) (l2 : List Int) (l3 : List Int) (a4 : Int) : Option (Int) := if (l2.length : Int) > 65536 then (spec_l04Code.j0 k a0 a1 true) else (spec_l04Code.j0 k a0 a1 (decide ((l3.length : Int) > (wrap64 (65536 - a4)))))
set_option maxHeartbeats 8000000 in
set_option maxRecDepth 100000 in
theorem spec_l04Code.calls (k : Nat) (a0 : ByteArray) (a1 : ByteArray) (A2 : Option Addr) (c2 : Nat) (l2 : List Int) (A3 : Option Addr) (c3 : Nat) (l3 : List Int) (a4 : Int) (r : Int) (w : World) (hr2 : Kd.C (Kd.int .u8) w A2 l2.length l2) (hc2 : l2.length ≤ c2) (hr3 : Kd.C (Kd.int .u8) w A3 l3.length l3) (hc3 : l3.length ≤ c3) (h : spec_l04Code.f k a0 a1 l2 l3 a4 = some r) :
   Calls Try.prog 46 #[.string a0, .string a1, .slice A2 l2.length c2, .slice A3 l3.length c3, .int .i64 a4] w fun e w' => e = .returned (.int .i64 r) ∧ Drawn0 w w' := by
 have HR2 := Aside0.mk hr2
 have HC2 := Aside0.mk hc2
 clear hr2 hc2
 have HR3 := Aside0.mk hr3
 have HC3 := Aside0.mk hc3
 clear hr3 hc3
 have H : (if (l2.length : Int) > 65536 then (spec_l04Code.j0 k a0 a1 true) else (spec_l04Code.j0 k a0 a1 (decide ((l3.length : Int) > (wrap64 (65536 - a4)))))) = some r := h
 clear h
 have HC6 := Aside0.mk H
 clear H
 go_enter Try.func46, Try.ntmps46
 go_upto_region 1 with (fail)
 go_cut [20] (fun v20 wc => ∃ (kq : Nat) (x20_5 : Bool), v20 = .bool x20_5 ∧ Aside0 (spec_l04Code.j0 kq a0 a1 x20_5 = some r) ∧ Aside0 (kq ≤ k) ∧ Drawn0 w wc)
 case first =>
   have H := HC6.out
   clear HC6
   by_cases c7 : (l2.length : Int) > 65536
   · rw [if_pos c7] at H
     have c7b0 : decide (65536 < (l2.length : Int)) = true := decide_eq_true c7
     have c7b1 : decide (65536 < l2.length) = true := decide_eq_true (by omega)
     clear c7
     (first | rw [c7b0] | (simp only [i64_w, i32_w]; rw [c7b0]) | skip)
     have H' := Aside0.mk H
     clear H
     go_wp2
     go_meet
     case rel => exact ⟨_, (true), (by first | rfl | (simp; done) | (simp [*]; done)), H', ⟨by first | omega | exact Nat.le_refl _⟩, by repeat (first | exact Drawn0.refl _ | apply Drawn0.step)⟩
   · rw [if_neg c7] at H
     have c7b0 : decide (65536 < (l2.length : Int)) = false := decide_eq_false c7
     have c7b1 : decide (65536 < l2.length) = false := decide_eq_false (by omega)
     clear c7
     (first | rw [c7b0] | (simp only [i64_w, i32_w]; rw [c7b0]) | skip)
     have H' := Aside0.mk H
     clear H
     go_wp2
     go_meet
     case rel => exact ⟨_, (decide ((l3.length : Int) > (wrap64 (65536 - a4)))), (by first | rfl | (simp; done) | (simp [*]; done)), H', ⟨by first | omega | exact Nat.le_refl _⟩, by repeat (first | exact Drawn0.refl _ | apply Drawn0.step)⟩
 case rest =>
   clear HC6
   try clear c2
   try clear p2
   try clear c3
   try clear c4
   try clear p6
   try clear c7
   try clear c7b0
   try clear c7b1
   obtain ⟨kq, x20_5, rfl, HA, HJ5, ⟨mc5, rfl⟩⟩ := hcut
   cases kq with
   | zero => exact absurd HA.out (by simp [spec_l04Code.j0])
   | succ kj5 =>
     have H := HA.out
     clear HA
     simp only [spec_l04Code.j0] at H
     by_cases c8 : x20_5 = true
     · subst c8
       have H1 : (some 2) = some r := by rw [if_pos rfl] at H; exact H
       clear H
       have H := H1
       clear H1
       obtain rfl := Option.some.inj H
       go_wp2
       go_ret
       exact ⟨by first | rfl | (simp; done) | (simp [*]; done), by repeat (first | exact Drawn0.refl _ | apply Drawn0.step)⟩
     · replace c8 := Bool.eq_false_iff.mpr c8
       subst c8
       have H1 : (if (a0.size : Int) = 32 then (if (a1.size : Int) = 12 then (some 0) else (some 1)) else (some 1)) = some r := by rw [if_neg (show ¬ (false = true) by decide)] at H; exact H
       clear H
       have H := H1
       clear H1
       by_cases c9 : (a0.size : Int) = 32
       · rw [if_pos c9] at H
         have c9b0 : ((a0.size : Int) == 32) = true := beq_iff_eq.mpr c9
         have c9b1 : ((a0.size : Int) != 32) = false := bne_eq_false_iff_eq.mpr c9
         clear c9
         by_cases c10 : (a1.size : Int) = 12
         · rw [if_pos c10] at H
           have c10b0 : ((a1.size : Int) == 12) = true := beq_iff_eq.mpr c10
           have c10b1 : ((a1.size : Int) != 12) = false := bne_eq_false_iff_eq.mpr c10
           clear c10
           obtain rfl := Option.some.inj H
           go_wp2
           go_ret
           exact ⟨by first | rfl | (simp; done) | (simp [*]; done), by repeat (first | exact Drawn0.refl _ | apply Drawn0.step)⟩
         · rw [if_neg c10] at H
           have c10b0 : ((a1.size : Int) == 12) = false := beq_eq_false_iff_ne.mpr c10
           have c10b1 : ((a1.size : Int) != 12) = true := bne_iff_ne.mpr c10
           obtain rfl := Option.some.inj H
           go_wp2
           go_ret
           exact ⟨by first | rfl | (simp; done) | (simp [*]; done), by repeat (first | exact Drawn0.refl _ | apply Drawn0.step)⟩
       · rw [if_neg c9] at H
         have c9b0 : ((a0.size : Int) == 32) = false := beq_eq_false_iff_ne.mpr c9
         have c9b1 : ((a0.size : Int) != 32) = true := bne_iff_ne.mpr c9
         obtain rfl := Option.some.inj H
         go_wp2
         go_ret
         exact ⟨by first | rfl | (simp; done) | (simp [*]; done), by repeat (first | exact Drawn0.refl _ | apply Drawn0.step)⟩
def spec_l03Turn.f (a0 : Int) (a1 : Int) : Option (Int) := if 0 ≤ a1 then (if 0 ≤ (IntKind.u64.wrap (32 - a1)) then (some (Go.bits .or .u32 (shr .u32 a0 a1) (shl .u32 a0 (IntKind.u64.wrap (32 - a1))))) else (none)) else (none)
theorem sturn_is (x n : Int) (h1 : 1 ≤ n) (h2 : n ≤ 31) : spec_l03Turn.f x n = some (Sha.rr x n.toNat) := by
 obtain ⟨m, rfl⟩ := Int.eq_ofNat_of_zero_le (show 0 ≤ n by omega)
 have m1 : 1 ≤ m := by omega
 have m2 : m < 32 := by omega
 have e2 : ∀ m : Nat, m < 32 → 1 ≤ m → IntKind.u64.wrap (32 - (m : Int)) = ((32 - m : Nat) : Int) := by decide +kernel
 have b : min (32 - m) IntKind.u32.bits = 32 - m := Nat.min_eq_left (by show 32 - m ≤ 32; omega)
 have b2 : min m IntKind.u32.bits = m := Nat.min_eq_left (by show m ≤ 32; omega)
 unfold spec_l03Turn.f
 rw [e2 m m2 m1, if_pos (Int.natCast_nonneg _), if_pos (Int.natCast_nonneg _)]
 unfold shl shr Sha.rr
 rw [Int.toNat_natCast, Int.toNat_natCast, b, b2]
theorem sturn_calls (x n : Int) (h1 : 1 ≤ n) (h2 : n ≤ 31) (w : World) :
   Calls Try.prog 103 #[.int .u32 x, .int .u64 n] w fun e w' => e = .returned (.int .u32 (Sha.rr x n.toNat)) ∧ w' = w := by
 have H := Aside0.mk (sturn_is x n h1 h2)
 have hw : IntKind.u64.wrap (32 - n) = 32 - n := by
   obtain ⟨m, rfl⟩ := Int.eq_ofNat_of_zero_le (show 0 ≤ n by omega)
   have e2 : ∀ m : Nat, m < 32 → 1 ≤ m → IntKind.u64.wrap (32 - (m : Int)) = 32 - (m : Int) := by decide +kernel
   exact e2 m (by omega) (by omega)
 go_enter Try.func103, Try.ntmps103
 go_wp2
 go_ret
 refine ⟨?_, rfl⟩
 rw [Sha.rr_mod, show (32 - n).toNat = 32 - n.toNat from by omega]
 rfl
theorem sturn_q (x n : Int) (h1 : 1 ≤ n) (h2 : n ≤ 31) (w : World) (m : Nat) :
   Calls Try.prog 103 #[.int .u32 x, .int .u64 n] (w.drewN m) fun e w' => e = .returned (.int .u32 (Sha.rr x n.toNat)) ∧ ∃ q, w' = w.drewN q :=
 (sturn_calls x n h1 h2 _).mono fun _ _ ⟨he, hd⟩ => ⟨he, m, hd⟩
theorem sturn_q2 (x n : Int) (h1 : 1 ≤ n) (h2 : n ≤ 31) (w : World) (a m : Nat) :
   Calls Try.prog 103 #[.int .u32 x, .int .u64 n] (w.drewN (a + m)) fun e w' => e = .returned (.int .u32 (Sha.rr x n.toNat)) ∧ ∃ q, w' = w.drewN (a + q) :=
 (sturn_calls x n h1 h2 _).mono fun _ _ ⟨he, hd⟩ => ⟨he, m, hd⟩
theorem u8ok_getD {l : List Int} (h : u8ok l) (i : Nat) : ∃ n : Nat, n < 256 ∧ l.getD i 0 = (n : Int) := by
 rcases Nat.lt_or_ge i l.length with hi | hi
 · have := h l[i] (List.getElem_mem hi)
   refine ⟨l[i].toNat, by omega, ?_⟩
   rw [List.getD_eq_getElem?_getD, List.getElem?_eq_getElem hi]
   show l[i] = _
   omega
 · exact ⟨0, by decide, by rw [List.getD_eq_getElem?_getD, List.getElem?_eq_none hi]; rfl⟩
theorem or_low (i a b : Nat) (h : b < 2 ^ i) : 2 ^ i * a ||| b = 2 ^ i * a + b := (Nat.two_pow_add_eq_or_of_lt h a).symm
theorem word_eq (b : List Int) (hb : u8ok b) (i : Nat) : Go.bits .or .u32 (Go.bits .or .u32 (Go.bits .or .u32 (((b.getD (4 * i) 0 % 4294967296) * 16777216) % 4294967296) (((b.getD (4 * i + 1) 0 % 4294967296) * 65536) % 4294967296)) (((b.getD (4 * i + 2) 0 % 4294967296) * 256) % 4294967296)) (b.getD (4 * i + 3) 0 % 4294967296) = Sha.pw b i 4 := by
 obtain ⟨n0, h0, e0⟩ := u8ok_getD hb (4 * i)
 obtain ⟨n1, h1, e1⟩ := u8ok_getD hb (4 * i + 1)
 obtain ⟨n2, h2, e2⟩ := u8ok_getD hb (4 * i + 2)
 obtain ⟨n3, h3, e3⟩ := u8ok_getD hb (4 * i + 3)
 have p1 : Sha.pw b i 1 = (n0 : Nat) := by
   show Go.bits .or .u32 ((0 * 256) % 4294967296) (b.getD (4 * i + 0) 0 % 4294967296) = _
   rw [Nat.add_zero, e0, show ((0 : Int) * 256) % 4294967296 = ((0 : Nat) : Int) from rfl, show (n0 : Int) % 4294967296 = n0 from by omega, Gf.or_u32 0 n0 (by omega) (by omega), Nat.zero_or]
 have st : ∀ (a n : Nat), a < 16777216 → n < 256 → Go.bits .or .u32 (((a : Int) * 256) % 4294967296) ((n : Int) % 4294967296) = ((256 * a + n : Nat) : Int) := fun a n ha hn => by
   rw [show ((a : Int) * 256) % 4294967296 = ((2 ^ 8 * a : Nat) : Int) from by omega, show (n : Int) % 4294967296 = n from by omega, Gf.or_u32 (2 ^ 8 * a) n (by omega) (by omega), or_low 8 a n (by omega)]
 have p2 : Sha.pw b i 2 = ((256 * n0 + n1 : Nat) : Int) := by
   show Go.bits .or .u32 ((Sha.pw b i 1 * 256) % 4294967296) (b.getD (4 * i + 1) 0 % 4294967296) = _
   rw [p1, e1, st n0 n1 (by omega) h1]
 have p3 : Sha.pw b i 3 = ((256 * (256 * n0 + n1) + n2 : Nat) : Int) := by
   show Go.bits .or .u32 ((Sha.pw b i 2 * 256) % 4294967296) (b.getD (4 * i + 2) 0 % 4294967296) = _
   rw [p2, e2, st _ n2 (by omega) h2]
 have p4 : Sha.pw b i 4 = ((256 * (256 * (256 * n0 + n1) + n2) + n3 : Nat) : Int) := by
   show Go.bits .or .u32 ((Sha.pw b i 3 * 256) % 4294967296) (b.getD (4 * i + 3) 0 % 4294967296) = _
   rw [p3, e3, st _ n3 (by omega) h3]
 rw [p4, e0, e1, e2, e3, show ((n0 : Int) % 4294967296 * 16777216) % 4294967296 = ((2 ^ 24 * n0 : Nat) : Int) from by omega, show ((n1 : Int) % 4294967296 * 65536) % 4294967296 = ((2 ^ 16 * n1 : Nat) : Int) from by omega,
   show ((n2 : Int) % 4294967296 * 256) % 4294967296 = ((2 ^ 8 * n2 : Nat) : Int) from by omega, show (n3 : Int) % 4294967296 = (n3 : Nat) from by omega,
   Gf.or_u32 _ _ (by omega) (by omega), or_low 24 n0 (2 ^ 16 * n1) (by omega), show 2 ^ 24 * n0 + 2 ^ 16 * n1 = 2 ^ 16 * (256 * n0 + n1) from by omega,
   Gf.or_u32 _ _ (by omega) (by omega), or_low 16 _ (2 ^ 8 * n2) (by omega), show 2 ^ 16 * (256 * n0 + n1) + 2 ^ 8 * n2 = 2 ^ 8 * (256 * (256 * n0 + n1) + n2) from by omega,
   Gf.or_u32 _ _ (by omega) (by omega), or_low 8 _ n3 (by omega)]
def sblockPost (gh : Nat) (r : List Int) (W : World) (e : Ending) (w' : World) : Prop :=
 e = .returned (.tuple #[]) ∧ w'.heap[gh]? = some (.cells (nums .u32 r).toArray 90 (0, 0)) ∧ (∀ k, k < W.heap.size → k ≠ gh → w'.heap[k]? = W.heap[k]?) ∧ Below gh W w' ∧ W.heap.size ≤ w'.heap.size
set_option maxHeartbeats 8000000 in
set_option maxRecDepth 100000 in
theorem sblock_in (v : Sha.V8) (gh : Nat) (ad : Addr) (cb : Nat) (b kk : List Int) (ak : Addr) (c2 : Nat) (W : World) (hh : W.heap[gh]? = some (.cells (nums .u32 v.l).toArray 90 (0, 0))) (hb : Kd.C (Kd.int .u8) W (some ad) b.length b) (hbl : b.length = 64) (hub : u8ok b) (hcb : 64 ≤ cb)
   (hk : ∀ j, j < 64 → W.cell? (ak.add j) = some (.int .u32 (kk.getD j 0))) (hc2 : 64 ≤ c2) :
   Calls Try.prog 88 #[.slice (some ⟨gh, 0, none⟩) 8 8, .slice (some ad) 64 cb, .slice (some ak) 64 c2] W (sblockPost gh (Sha.turn kk (Sha.sched b 64) v).l W) := by
 have HH := Aside0.mk hh
 have HC := Aside0.mk hb
 have HBL := Aside0.mk hbl
 have HUB := Aside0.mk hub
 have HK := Aside0.mk hk
 have HLT := Aside0.mk (blk_lt hh)
 have HKL : Aside0 (∀ j, j < 64 → (ak.add j).block < W.heap.size) := ⟨fun j hj => cell_lt (by rw [hk j hj]; rfl)⟩
 clear hh hb hbl hub hk
 have kmk : ∀ V : World, (Instr.makeSlice 91 (.int .i64 64) (.int .i64 64)).run Try.prog V = .ok (.slice (some ⟨V.heap.size, 0, none⟩) 64 64) (V.alloc (.cells (nums .u32 (List.replicate 64 0)).toArray 90)) := fun V => run_make_nums (m := 64) Try.underlying91 (.inr (.inl (by kernel_rfl))) (by decide) V
 go_enter Try.func88, Try.ntmps88
 go_wp2
 clear kmk
 go_loopw [7] (fun i wr => ∃ j : Nat, j ≤ 16 ∧ i = .int .i64 j ∧ Aside0 (wr.heap[W.heap.size]? = some (.cells (nums .u32 (Sha.sched b j ++ List.replicate (64 - j) 0)).toArray 90 (0, 0))) ∧ Aside0 (Below W.heap.size W wr)) (fun i _ => 16 - (intOf i).toNat)
 case atStart => exact ⟨0, by omega, rfl, ⟨blk_new W _⟩, ⟨below_alloc (Below.refl _ _) _⟩⟩
 case round =>
   obtain ⟨i, hi, rfl, G, HB⟩ := hrel
   by_cases hlt : i < 16
   · have i0 : (0 : Int) ≤ (i : Int) := Int.natCast_nonneg i
     have i1 : (i : Int) < 16 := by omega
     have hd : decide ((i : Int) < 16) = true := decide_eq_true i1
     rw [upd_zero _ i (by omega)] at G
     have HW : Aside0 (Sha.wordAt b (Sha.sched b i) i = Go.bits .or .u32 (Go.bits .or .u32 (Go.bits .or .u32 (((b.getD (4 * i) 0 % 4294967296) * 16777216) % 4294967296) (((b.getD (4 * i + 1) 0 % 4294967296) * 65536) % 4294967296)) (((b.getD (4 * i + 2) 0 % 4294967296) * 256) % 4294967296)) (b.getD (4 * i + 3) 0 % 4294967296)) := ⟨by
       rw [word_eq b HUB.out i, Sha.wordAt, if_pos hlt]⟩
     have cI : wr.cell? ⟨W.heap.size, i, none⟩ = some (.int .u32 0) := by
       rw [blk_cell G.out i]
       exact nums_at? _ _ _ _ (upd_at _ _ _ _ (Sha.sched_length b i))
     have zI := blk_frozen G.out i
     have hcell : ∀ j, j < 64 → wr.cell? (ad.add j) = some (.int .u8 (b.getD j 0)) := fun j hj => C_u8_cell (Kd.C_below HC.out HB.out) rfl j (by rw [HBL.out]; exact hj)
     obtain ⟨y0, hy0⟩ : ∃ y, y = b.getD (4 * i) 0 := ⟨_, rfl⟩
     obtain ⟨y1, hy1⟩ : ∃ y, y = b.getD (4 * i + 1) 0 := ⟨_, rfl⟩
     obtain ⟨y2, hy2⟩ : ∃ y, y = b.getD (4 * i + 2) 0 := ⟨_, rfl⟩
     obtain ⟨y3, hy3⟩ : ∃ y, y = b.getD (4 * i + 3) 0 := ⟨_, rfl⟩
     rw [← hy0, ← hy1, ← hy2, ← hy3] at HW
     have c0 := hcell (4 * i) (by omega)
     have c1 := hcell (4 * i + 1) (by omega)
     have c2' := hcell (4 * i + 2) (by omega)
     have c3 := hcell (4 * i + 3) (by omega)
     rw [← hy0] at c0
     rw [← hy1] at c1
     rw [← hy2] at c2'
     rw [← hy3] at c3
     have c3x : wr.cell? ⟨ad.block, ad.off + (4 * i + 2 + 1), none⟩ = some (.int .u8 y3) := by
       rw [← c3]
       simp only [Addr.add]
       split
       · rename_i h0
         exact absurd h0 (by omega)
       · rfl
     have c2x : wr.cell? ⟨ad.block, ad.off + (4 * i + 1 + 1), none⟩ = some (.int .u8 y2) := by
       rw [← c2']
       simp only [Addr.add]
       split
       · rename_i h0
         exact absurd h0 (by omega)
       · rfl
     have c1x : wr.cell? ⟨ad.block, ad.off + (4 * i + 1), none⟩ = some (.int .u8 y1) := by
       rw [← c1]
       simp only [Addr.add]
       split
       · rename_i h0
         exact absurd h0 (by omega)
       · rfl
     clear hy0 hy1 hy2 hy3 hcell
     have m0 : (4 * (i : Int)).toNat = 4 * i := by omega
     have m1 : (4 * (i : Int) + 1).toNat = 4 * i + 1 := by omega
     have m2 : (4 * (i : Int) + 2).toNat = 4 * i + 2 := by omega
     have m3 : (4 * (i : Int) + 3).toNat = 4 * i + 3 := by omega
     go_wp2
     have q0 : IntKind.i64.wrap (4 * (i : Int)) = 4 * (i : Int) := IntWalk.i64_in _ (by omega)
     have q1 : IntKind.i64.wrap (4 * (i : Int) + 1) = 4 * (i : Int) + 1 := IntWalk.i64_in _ (by omega)
     have q2 : IntKind.i64.wrap (4 * (i : Int) + 2) = 4 * (i : Int) + 2 := IntWalk.i64_in _ (by omega)
     have q3 : IntKind.i64.wrap (4 * (i : Int) + 3) = 4 * (i : Int) + 3 := IntWalk.i64_in _ (by omega)
     go_region
     all_goals clear q0 q1 q2 q3
     all_goals go_wp2
     go_roundw
     case rel =>
       refine ⟨i + 1, by omega, by go_num, ⟨?_⟩, ⟨below_set (below_drew1 HB.out) (Nat.le_refl _)⟩⟩
       rw [← upd_next b i (by omega), HW.out, ← upd_set (Sha.sched b i) 0 _ _ i (Sha.sched_length b i), ← nums_set]
       exact blk_set (blk_drew G.out) i _
     case measure => simp [intOf]; omega
   · have hd : decide ((i : Int) < 16) = false := decide_eq_false (by omega)
     have e16 : i = 16 := by omega
     rw [e16] at G
     clear e16
     go_wp2
     go_loopw [8] (fun i wr => ∃ j : Nat, 16 ≤ j ∧ j ≤ 64 ∧ i = .int .i64 j ∧ Aside0 (wr.heap[W.heap.size]? = some (.cells (nums .u32 (Sha.sched b j ++ List.replicate (64 - j) 0)).toArray 90 (0, 0))) ∧ Aside0 (Below W.heap.size W wr)) (fun i _ => 64 - (intOf i).toNat)
     case atStart => exact ⟨16, by omega, by omega, rfl, G, HB⟩
     case round =>
       clear G HB hd
       obtain ⟨i, h16, hi, rfl, G, HB⟩ := hrel
       by_cases hlt : i < 64
       · have i0 : (16 : Int) ≤ (i : Int) := by omega
         have i1 : (i : Int) < 64 := by omega
         have hd : decide ((i : Int) < 64) = true := decide_eq_true i1
         rw [upd_zero _ i hlt] at G
         obtain ⟨xa, hxa⟩ : ∃ x, x = (Sha.sched b i).getD (i - 15) 0 := ⟨_, rfl⟩
         obtain ⟨xb, hxb⟩ : ∃ x, x = (Sha.sched b i).getD (i - 2) 0 := ⟨_, rfl⟩
         obtain ⟨xc, hxc⟩ : ∃ x, x = (Sha.sched b i).getD (i - 16) 0 := ⟨_, rfl⟩
         obtain ⟨xd, hxd⟩ : ∃ x, x = (Sha.sched b i).getD (i - 7) 0 := ⟨_, rfl⟩
         have HWd : Aside0 (Sha.wordAt b (Sha.sched b i) i = (xc + Sha.sg0 xa + xd + Sha.sg1 xb) % 4294967296) := ⟨by rw [Sha.wordAt, if_neg (by omega), hxa, hxb, hxc, hxd]; rfl⟩
         have cOld : ∀ j, j < i → wr.cell? ⟨W.heap.size, j, none⟩ = some (.int .u32 ((Sha.sched b i).getD j 0)) := fun j hj => by
           rw [blk_cell G.out j]
           exact nums_at? _ _ _ _ (upd_old _ _ _ (by rw [Sha.sched_length]; exact hj))
         have cA := cOld (i - 15) (by omega)
         have cB := cOld (i - 2) (by omega)
         have cC := cOld (i - 16) (by omega)
         have cD := cOld (i - 7) (by omega)
         rw [← hxa] at cA
         rw [← hxb] at cB
         rw [← hxc] at cC
         rw [← hxd] at cD
         clear hxa hxb hxc hxd cOld
         have cI : wr.cell? ⟨W.heap.size, i, none⟩ = some (.int .u32 0) := by
           rw [blk_cell G.out i]
           exact nums_at? _ _ _ _ (upd_at _ _ _ _ (Sha.sched_length b i))
         have zI := blk_frozen G.out i
         go_wp2
         have q0 : IntKind.i64.wrap ((i : Int) - 16) = (i : Int) - 16 := IntWalk.i64_in _ (by omega)
         have q1 : IntKind.i64.wrap ((i : Int) - 7) = (i : Int) - 7 := IntWalk.i64_in _ (by omega)
         have b0 : (i : Int) - 16 < 64 := by omega
         have b1 : (i : Int) - 7 < 64 := by omega
         have b2 : (0 : Int) ≤ (i : Int) - 16 := by omega
         have b3 : (0 : Int) ≤ (i : Int) - 7 := by omega
         have b4 : (7 : Int) ≤ (i : Int) := by omega
         have b5 : (0 : Int) ≤ (i : Int) := by omega
         have n0 : ((i : Int) - 16).toNat = i - 16 := by omega
         have n1 : ((i : Int) - 7).toNat = i - 7 := by omega
         refine wp_region_still_tail 32 (by kernel_rfl) (by kernel_rfl) ?_
         simp only [List.take_succ_cons, List.take_zero, List.drop_succ_cons, List.drop_zero]
         change wpStill _ _ wr.drew _ _ _
         repeat (first | still_step | still_call (sturn_calls _ _ (by decide) (by decide) _))
         refine wpStill_nil ?_
         change wpList _ _ _ _ _ wr.drew
         clear q0 q1 n0 n1
         go_wp2
         go_roundw
         case rel =>
           refine ⟨i + 1, by omega, by omega, by go_num, ⟨?_⟩, ⟨below_set (below_drew1 HB.out) (Nat.le_refl _)⟩⟩
           rw [← upd_next b i hlt, HWd.out, ← upd_set (Sha.sched b i) 0 _ _ i (Sha.sched_length b i), ← nums_set]
           exact blk_set (blk_drew G.out) i _
         case measure => simp [intOf]; omega
       · have hd : decide ((i : Int) < 64) = false := decide_eq_false (by omega)
         have e64 : Sha.sched b i ++ List.replicate (64 - i) 0 = Sha.sched b 64 := by
           obtain rfl : i = 64 := by omega
           simp
         rw [e64] at G
         clear e64
         have HV : Aside0 (∀ j, j < v.l.length → wr.cell? ((⟨gh, 0, none⟩ : Addr).add j) = some (.int .u32 (v.l.getD j 0))) := ⟨fun j hj => by
           have h1 := blk_cell ((HB.out.block _ HLT.out).trans HH.out) j
           rw [add_plain, h1]
           exact nums_at? _ _ _ _ (V8l_at v j hj)⟩
         go_wp2_with ((with_reducible refine gate_dst (N := 107) rfl ?_); refine wpList_append_fresh (k := .u32) (by rfl) (.tmp 105) (.tmp 106) 91 90 (by rfl) Try.underlying91 4 (by kernel_rfl) (by decide) v.l _ (by rfl) ⟨gh, 0, none⟩ 8 8 (by rfl) rfl (fun j hj => cell_alloc_keep (HV.out j hj) _) (by show 0 < 8; decide) (by show 8 ≤ 4096; decide) ?_; intro gv cv w2 K1 K2 K3 K4)
         go_loopw [11, 12] (fun a n wr => ∃ (j g c : Nat), j ≤ 64 ∧ n = .int .i64 j ∧ a = .slice (some ⟨g, 0, none⟩) 8 c ∧ 8 ≤ c ∧ Aside0 (W.heap.size ≤ g) ∧ Aside0 (∀ q, q < 8 → wr.cell? ⟨g, q, none⟩ = some (.int .u32 ((Sha.rnd kk (Sha.sched b 64) v j).l.getD q 0)))
           ∧ Aside0 (wr.heap[W.heap.size]? = some (.cells (nums .u32 (Sha.sched b 64)).toArray 90 (0, 0))) ∧ Aside0 (Below W.heap.size W wr)) (fun _ n _ => 64 - (intOf n).toNat)
         case atStart =>
           refine ⟨0, gv, cv, by omega, rfl, rfl, K2, ⟨?_⟩, ⟨fun q hq => K3.out q hq⟩, ⟨?_⟩, ⟨?_⟩⟩
           · have h1 := K1.out; have h2 := HB.out.size; simp at h1; omega
           · exact (K4.out.block _ (by have := blk_lt G.out; simp; omega)).trans (blk_alloc G.out _)
           · exact below_step (below_alloc HB.out _) K4.out
         case round =>
           clear K1 K2 K3 K4 G HB HV hd
           obtain ⟨j, gv, cv, hj, rfl, rfl, hcv, K1, K3, G, HB⟩ := hrel
           by_cases hlj : j < 64
           · have i0 : (0 : Int) ≤ (j : Int) := Int.natCast_nonneg j
             have i1 : (j : Int) < 64 := by omega
             have hd : decide ((j : Int) < 64) = true := decide_eq_true i1
             obtain ⟨u, hu⟩ : ∃ u, u = Sha.rnd kk (Sha.sched b 64) v j := ⟨_, rfl⟩
             have HS : Aside0 (Sha.rnd kk (Sha.sched b 64) v (j + 1) = Sha.step u (kk.getD j 0) ((Sha.sched b 64).getD j 0)) := ⟨by rw [hu]; rfl⟩
             rw [← hu] at K3
             clear hu
             obtain ⟨xa, xb, xc, xd, xe, xf, xg, xh⟩ := u
             have d0 : wr.cell? ⟨gv, 0, none⟩ = some (.int .u32 xa) := K3.out 0 (by decide)
             have d1 : wr.cell? ⟨gv, 1, none⟩ = some (.int .u32 xb) := K3.out 1 (by decide)
             have d2 : wr.cell? ⟨gv, 2, none⟩ = some (.int .u32 xc) := K3.out 2 (by decide)
             have d3 : wr.cell? ⟨gv, 3, none⟩ = some (.int .u32 xd) := K3.out 3 (by decide)
             have d4 : wr.cell? ⟨gv, 4, none⟩ = some (.int .u32 xe) := K3.out 4 (by decide)
             have d5 : wr.cell? ⟨gv, 5, none⟩ = some (.int .u32 xf) := K3.out 5 (by decide)
             have d6 : wr.cell? ⟨gv, 6, none⟩ = some (.int .u32 xg) := K3.out 6 (by decide)
             have d7 : wr.cell? ⟨gv, 7, none⟩ = some (.int .u32 xh) := K3.out 7 (by decide)
             obtain ⟨ki, hki⟩ : ∃ x, x = kk.getD j 0 := ⟨_, rfl⟩
             obtain ⟨wi, hwi⟩ : ∃ x, x = (Sha.sched b 64).getD j 0 := ⟨_, rfl⟩
             have cK : wr.cell? (ak.add j) = some (.int .u32 ki) := by
               rw [hki, ← HK.out j hlj]
               exact HB.out.cell (HKL.out j hlj)
             have cW : wr.cell? ⟨W.heap.size, j, none⟩ = some (.int .u32 wi) := by
               rw [blk_cell G.out j, hwi]
               exact nums_at? _ _ _ _ (by rw [List.getD_eq_getElem?_getD, List.getElem?_eq_getElem (by rw [Sha.sched_length]; exact hlj)]; rfl)
             rw [← hki, ← hwi] at HS
             clear hki hwi K3
             go_wp2
             go_quiet ((go_at_call 103; first | exact sturn_q2 _ _ (by decide) (by decide) _ _ _ | exact sturn_q _ _ (by decide) (by decide) _ _))
             go_wp2
             go_quiet ((go_at_call 103; first | exact sturn_q2 _ _ (by decide) (by decide) _ _ _ | exact sturn_q _ _ (by decide) (by decide) _ _))
             go_wp2
             refine wp_region_still_tail 26 (by kernel_rfl) (by kernel_rfl) ?_
             simp only [List.take_succ_cons, List.take_zero, List.drop_succ_cons, List.drop_zero]
             change wpStill _ _ (World.drew _) _ _ _
             repeat still_step
             refine wpStill_nil ?_
             change wpList _ _ _ _ _ (World.drew _)
             go_wp2
             go_roundw
             case rel =>
               refine ⟨j + 1, _, _, by omega, by go_num, rfl, by decide, ⟨HB.out.size⟩, ⟨fun q hq => ?_⟩, ⟨blk_alloc (blk_drewN G.out _) _⟩, ⟨below_alloc (pw_below_drewN HB.out _) _⟩⟩
               refine (blk_cell (blk_new (wr.drewN _) _) q).trans ?_
               rw [HS.out, Sha.step_l]
               match q, hq with
               | 0, _ => rfl
               | 1, _ => rfl
               | 2, _ => rfl
               | 3, _ => rfl
               | 4, _ => rfl
               | 5, _ => rfl
               | 6, _ => rfl
               | 7, _ => rfl
             case measure => simp [intOf]; omega
           · have hd : decide ((j : Int) < 64) = false := decide_eq_false (by omega)
             obtain ⟨u, hu⟩ : ∃ u, u = Sha.rnd kk (Sha.sched b 64) v 64 := ⟨_, rfl⟩
             have HU : Aside0 (Sha.turn kk (Sha.sched b 64) v = v.add u) := ⟨by rw [hu]; rfl⟩
             have e64 : j = 64 := by omega
             rw [e64, ← hu] at K3
             clear hu e64
             go_wp2
             go_loopw [17] (fun n wr => ∃ m : Nat, m ≤ 8 ∧ n = .int .i64 m ∧ Aside0 (wr.heap[gh]? = some (.cells (nums .u32 (addTo v u m)).toArray 90 (0, 0))) ∧ Aside0 (∀ q, q < 8 → wr.cell? ⟨gv, q, none⟩ = some (.int .u32 (u.l.getD q 0)))
               ∧ Aside0 (∀ k, k < W.heap.size → k ≠ gh → wr.heap[k]? = W.heap[k]?) ∧ Aside0 (Below gh W wr) ∧ Aside0 (W.heap.size ≤ wr.heap.size)) (fun n _ => 8 - (intOf n).toNat)
             case atStart => exact ⟨0, by omega, rfl, ⟨(HB.out.block _ HLT.out).trans HH.out⟩, K3, ⟨fun k hk _ => HB.out.block k hk⟩, ⟨HB.out.mono (Nat.le_of_lt HLT.out)⟩, ⟨HB.out.size⟩⟩
             case round =>
               clear K3 G HB hd
               obtain ⟨m, hm, rfl, G, K3, OT, BG, SZ⟩ := hrel
               by_cases hlm : m < 8
               · have m0 : (0 : Int) ≤ (m : Int) := Int.natCast_nonneg m
                 have m1 : (m : Int) < 8 := by omega
                 have hdm : decide ((m : Int) < 8) = true := decide_eq_true m1
                 obtain ⟨vj, hvj⟩ : ∃ x, x = v.l.getD m 0 := ⟨_, rfl⟩
                 obtain ⟨uj, huj⟩ : ∃ x, x = u.l.getD m 0 := ⟨_, rfl⟩
                 have HA := Aside0.mk (addTo_set v u m hlm)
                 rw [← hvj, ← huj] at HA
                 have cH : wr.cell? ⟨gh, m, none⟩ = some (.int .u32 vj) := by
                   rw [blk_cell G.out m, hvj]
                   exact nums_at? _ _ _ _ (addTo_at v u m hlm)
                 have cX : wr.cell? ⟨gv, m, none⟩ = some (.int .u32 uj) := by rw [huj]; exact K3.out m hlm
                 have zH := blk_frozen G.out m
                 clear hvj huj
                 go_wp2
                 go_region
                 all_goals go_wp2
                 go_roundw
                 case rel =>
                   refine ⟨m + 1, by omega, by go_num, ⟨?_⟩, ⟨fun q hq => ?_⟩, ⟨fun k hk hne => ?_⟩, ⟨BG.out.drew.setCell (p := ⟨gh, m, none⟩) (Nat.le_refl _) _⟩, ⟨by simp; exact SZ.out⟩⟩
                   · rw [← HA.out, ← nums_set]
                     exact blk_set (blk_drew G.out) m _
                   · show (World.setCell wr _ _).cell? _ = _
                     rw [World.cell?_setCell_other _ _ _ _ (by have := K1.out; have := HLT.out; simp <;> omega)]
                     exact K3.out q hq
                   · exact (Below.heap_setCell _ _ _ k (by simpa using hne)).trans (OT.out k hk hne)
                 case measure => simp [intOf]; omega
               · have hdm : decide ((m : Int) < 8) = false := decide_eq_false (by omega)
                 have e8 : addTo v u m = (Sha.turn kk (Sha.sched b 64) v).l := by
                   obtain rfl : m = 8 := by omega
                   rw [HU.out]; rfl
                 rw [e8] at G
                 clear e8
                 have FIN : Aside0 (sblockPost gh (Sha.turn kk (Sha.sched b 64) v).l W (.returned (.tuple #[])) wr) := ⟨⟨rfl, G.out, OT.out, BG.out, SZ.out⟩⟩
                 go_wp2
                 go_end0
                 exact FIN.out
end Go.Proofs.Ytlfpogbonmddmaa.P

/- Laid by a program of this session: of Pm12 what this law uses. -/
import Derived.Test.YtfbggdlidelliaaZCmbPm0
import Derived.Test.YtfbggdlidelliaaZCmbPm7
import Derived.Test.YtfbggdlidelliaaZCmbPm9
import Derived.Test.YtfbggdlidelliaaZCmbPm10
import Derived.Test.YtfbggdlidelliaaZCmbPm11
namespace Go.Proofs.Ytfbggdlidelliaa.P
open Go.RowKit Go.Proofs.YtfbggdlidelliaaW.PrintWords Go.Proofs.YtfbggdlidelliaaW.PrintLast Go.Proofs.YtfbggdlidelliaaW.PrintMore
attribute [local go_sem] max2_int min2_int max_two min_two
set_option linter.unusedVariables false
set_option linter.unusedSimpArgs false
theorem isLong_byte_1.calls (A : Option Addr) (n c : Nat) (w : World) : Calls Try.prog 88 #[.slice A n c] w fun e w' => e = .returned (.bool (decide (65536 < (n : Int)))) ∧ w = w' := by
  go_enter Try.func88, Try.ntmps88
  go_wp2
  go_ret
  exact ⟨rfl, rfl⟩
def isLong_byte_idx (l0 : List (List Int)) (w : World) (e : Ending) (w' : World) : Prop :=
  ∃ i : Int, e = .returned (.int .i64 i) ∧ decide (0 ≤ i) = (l0.any fun t => decide (65536 < (t.length : Int))) ∧ w = w'
theorem isLong_byte_at {w : World} {A0 : Option Addr} {l0 : List (List Int)} (hr0 : Kd.C (Kd.slice 5 (Kd.int .u8)) w A0 l0.length l0) (k : Nat) (hk : k < l0.length) :
    ∃ ad A c, A0 = some ad ∧ w.cell? (ad.add k) = some (.slice A l0[k].length c) := by
  obtain ⟨ad, c, rfl, _, ⟨A, cap, hc, _⟩, hw⟩ := Kd.C_get hr0 ([] : List Int) (k : Int) (by omega) (by omega)
  refine ⟨ad, A, cap, rfl, ?_⟩
  subst hc
  have := hw 0 _ rfl
  simpa [Kd.slice, List.getD_eq_getElem?_getD, hk] using this
theorem IndexFunc_byte.calls (A0 : Option Addr) (c0 : Nat) (l0 : List (List Int)) (w : World) (hr0 : Kd.C (Kd.slice 5 (Kd.int .u8)) w A0 l0.length l0) :
    Calls Try.prog 105 #[.slice A0 l0.length c0, .func (.func 88) #[] #[]] w (isLong_byte_idx l0 w) := by
  have HR0 := Aside0.mk hr0
  clear hr0
  have hm : l0.length ≤ 9223372036854775807 := HR0.out.2.1
  go_enter Try.func105, Try.ntmps105
  go_wp2
  go_loop [8] (fun i => ∃ k : Nat, k ≤ l0.length ∧ i = .int .i64 k ∧ Aside0 (∀ j (hj : j < l0.length), j < k → ¬ 65536 < l0[j].length)) (fun i => l0.length - (intOf i).toNat)
  case atStart => exact ⟨0, Nat.zero_le _, rfl, ⟨fun _ _ h => absurd h (by omega)⟩⟩
  case round =>
    obtain ⟨k, hk, rfl, HA⟩ := hrel
    by_cases hlt : k < l0.length
    · obtain ⟨ad, A, c, had, hcell⟩ := isLong_byte_at HR0.out k hlt
      subst had
      by_cases hbig : 65536 < l0[k].length
      · have HF : Aside0 (isLong_byte_idx l0 w (.returned (.int .i64 (k : Int))) w) := ⟨⟨k, rfl, by
          rw [show decide ((0 : Int) ≤ (k : Int)) = true from decide_eq_true (by omega)]
          exact (List.any_eq_true.2 ⟨l0[k], List.getElem_mem hlt, by simp; omega⟩).symm, rfl⟩⟩
        have hd : decide (65536 < (l0[k].length : Int)) = true := decide_eq_true (by omega)
        go_wp2_with (go_at_call 88; refine (isLong_byte_1.calls _ _ _ _).mono ?_; rintro e w' ⟨rfl, rfl⟩)
        go_ret
        exact HF.out
      · have hd : decide (65536 < (l0[k].length : Int)) = false := decide_eq_false (by omega)
        have HA1 : Aside0 (∀ j (hj : j < l0.length), j < k + 1 → ¬ 65536 < l0[j].length) := ⟨fun j hj hjk => by
          rcases Nat.lt_or_ge j k with h | h
          · exact HA.out j hj h
          · obtain rfl : j = k := by omega
            exact hbig⟩
        go_wp2_with (go_at_call 88; refine (isLong_byte_1.calls _ _ _ _).mono ?_; rintro e w' ⟨rfl, rfl⟩)
        go_round
        case rel => exact ⟨k + 1, by omega, by go_num, HA1⟩
        case measure => simp [intOf]; omega
    · have HF : Aside0 (isLong_byte_idx l0 w (.returned (.int .i64 (-1))) w) := ⟨⟨-1, rfl, by
        rw [show decide ((0 : Int) ≤ -1) = false from rfl]
        refine (List.any_eq_false.2 fun x hx => ?_).symm
        obtain ⟨j, hj, rfl⟩ := List.mem_iff_getElem.1 hx
        have := HA.out j hj (by omega)
        simp; omega, rfl⟩⟩
      go_wp2
      go_ret
      exact HF.out
theorem ContainsFunc_byte.calls (A0 : Option Addr) (c0 : Nat) (l0 : List (List Int)) (w : World) (hr0 : Kd.C (Kd.slice 5 (Kd.int .u8)) w A0 l0.length l0) :
    Calls Try.prog 87 #[.slice A0 l0.length c0, .func (.func 88) #[] #[]] w fun e w' => e = .returned (.bool (l0.any fun t => decide (65536 < (t.length : Int)))) ∧ w = w' := by
  go_enter Try.func87, Try.ntmps87
  go_wp2_with (go_at_call 105; refine (IndexFunc_byte.calls _ _ _ _ hr0).mono ?_; rintro e w' ⟨i, rfl, hi, rfl⟩)
  go_ret
  exact ⟨by rw [← hi]; simp, rfl⟩
def impl_isLong_byte.f (l0 : List (List Int)) : Option (Bool) := some (l0.any fun t => decide (65536 < (t.length : Int)))
theorem impl_isLong_byte.calls (A0 : Option Addr) (c0 : Nat) (l0 : List (List Int)) (r : Bool) (w : World) (hr0 : Kd.C (Kd.slice 5 (Kd.int .u8)) w A0 l0.length l0) (hc0 : l0.length ≤ c0) (h : impl_isLong_byte.f l0 = some r) :
    Calls Try.prog 54 #[.slice A0 l0.length c0] w fun e w' => e = .returned (.bool r) ∧ Drawn0 w w' := by
  unfold impl_isLong_byte.f at h
  injection h with h
  have H := Aside0.mk h
  clear h
  go_enter Try.func54, Try.ntmps54
  go_wp2_with (go_at_call 87; refine (ContainsFunc_byte.calls _ _ _ _ hr0).mono ?_; rintro e w' ⟨rfl, rfl⟩)
  go_ret
  exact ⟨by rw [← H.out]; rfl, Drawn0.refl _⟩
theorem C_one_slice {W : World} {g : Nat} {A : Option Addr} {n c : Nat} {xs : List Int} {T : TypeId} {fr : Nat × Nat} (h : W.heap[g]? = some (.cells #[.slice A n c] T fr)) (hn : xs.length = n) (hc : n ≤ c) (hC : Kd.C (Kd.int .u8) W A xs.length xs) :
    Kd.C (Kd.slice 5 (Kd.int .u8)) W (some ⟨g, 0, none⟩) 1 [xs] := by
  subst hn
  refine ⟨rfl, by decide, fun _ => ⟨⟨g, 0, none⟩, rfl, fun j p hj => ?_⟩⟩
  match j, hj with
  | 0, hj =>
    obtain rfl : xs = p := by simpa using hj
    refine ⟨[.slice A xs.length c], rfl, ⟨A, c, rfl, hc, hC⟩, fun i u hu => ?_⟩
    match i, hu with
    | 0, hu =>
      obtain rfl : Value.slice A xs.length c = u := by simpa using hu
      simp [World.cell?, Addr.add, h]
set_option maxHeartbeats 2000000 in
set_option maxRecDepth 100000 in
theorem impl_doubledBlock.calls (b : List Int) (w : World) (hb : b.length = 16) (ob : Aes.ok b) :
    Calls Try.prog 55 #[.agg (nums .u8 b).toArray] w fun e w' => e = .returned (.agg (nums .u8 (Md.dbl b)).toArray) ∧ Below w.heap.size w w' := by
  have HBL := Aside0.mk hb
  have HOB := Aside0.mk ob
  obtain ⟨D, hD⟩ : ∃ D, D = dbl0 b := ⟨_, rfl⟩
  have HDL : Aside0 (D.length = 16) := ⟨by rw [hD, dbl0_length]⟩
  have HDA : Aside0 (∀ i, i < 16 → D.getD i 0 = if i < 15 then Go.bits .or .u8 (b.getD i 0 * 2 % 256) (b.getD (i + 1) 0 / 128) else b.getD i 0 * 2 % 256) := ⟨fun i hi => by rw [hD]; exact dbl0_at b i hi⟩
  have HDE := Aside0.mk hD
  clear hb ob hD
  go_enter Try.func55, Try.ntmps55
  go_wp2
  go_loopw [5] (fun i wr => ∃ k : Nat, k ≤ 16 ∧ i = .int .i64 (k : Int) ∧ Aside0 (wr.heap[w.heap.size]? = some (.cells (nums .u8 b).toArray 52 (0, 0)))
      ∧ Aside0 (wr.heap[w.heap.size + 1]? = some (.cells (nums .u8 (List.replicate 16 0)).toArray 52 (0, 0))) ∧ Aside0 (wr.heap[w.heap.size + 1 + 1]? = some (.cells (nums .u8 (D.take k ++ (List.replicate 16 (0 : Int)).drop k)).toArray 52 (0, 0))) ∧ Aside0 (Below w.heap.size w wr)) (fun i _ => 16 - (intOf i).toNat)
  case atStart => exact ⟨0, by omega, rfl, ⟨blk_alloc (blk_alloc (blk_new w _) _) _⟩, ⟨blk_alloc (blk_new2 w _ _) _⟩, ⟨blk_new3 w _ _ _⟩, ⟨below_alloc (below_alloc (below_alloc (Below.refl w.heap.size w) _) _) _⟩⟩
  case round =>
    obtain ⟨k, hk, rfl, G0, G1, G2, HB⟩ := hrel
    have CB : ∀ (W : World), W.heap[w.heap.size]? = some (.cells (nums .u8 b).toArray 52 (0, 0)) → ∀ q, q < 16 → W.cell? ⟨w.heap.size, q, none⟩ = some (.int .u8 (b.getD q 0)) := fun W h q hq => by
      rw [blk_cell h q]
      exact nums_at? _ _ _ _ (by rw [List.getD_eq_getElem?_getD, List.getElem?_eq_getElem (by rw [HBL.out]; exact hq)]; rfl)
    by_cases hlt : k < 16
    · have hd : decide (k < 16) = true := decide_eq_true hlt
      have hd2 : decide ((k : Int) < 16) = true := decide_eq_true (by omega)
      have cA := CB wr G0.out k hlt
      have cD : wr.cell? ⟨w.heap.size + 1 + 1, k, none⟩ = some (.int .u8 0) := by
        rw [blk_cell G2.out k]
        exact nums_at? _ _ _ _ (by rw [td_at D _ (by rw [HDL.out]; rfl) k (by rw [HDL.out]; exact hlt)]; rw [zeros_getD])
      have zD := blk_frozen G2.out k
      have TS := Aside0.mk (td_set D (List.replicate 16 (0 : Int)) (by rw [HDL.out]; rfl) k (by rw [HDL.out]; exact hlt))
      obtain ⟨x, hx⟩ : ∃ x, x = b.getD k 0 := ⟨_, rfl⟩
      rw [← hx] at cA
      have HX := Aside0.mk hx
      have i0 : (0 : Int) ≤ (k : Int) := Int.natCast_nonneg k
      have i1 : (k : Int) < 16 := by omega
      have hne : w.heap.size ≠ w.heap.size + 1 + 1 := by omega
      have hlt' := hlt
      have HLT := Aside0.mk hlt
      have ew : wrap64 ((k : Int) + 1) = ((k + 1 : Nat) : Int) := by unfold wrap64; omega
      by_cases hl : k < 15
      · obtain ⟨k1, hk1⟩ : ∃ x, x = k + 1 := ⟨_, rfl⟩
        rw [← hk1] at ew
        have ew3 : (k : Int) + 1 = (k1 : Int) := by omega
        have hc1 : decide (k1 < 16) = true := decide_eq_true (by omega)
        have hc2 : decide ((k1 : Int) < 16) = true := decide_eq_true (by omega)
        have hc3 : decide ((k : Int) + 1 < 16) = true := decide_eq_true (by omega)
        have hc4 : decide (k + 1 < 16) = true := decide_eq_true (by omega)
        have hc5 : decide (k < 15) = true := decide_eq_true hl
        have cB := CB wr G0.out k1 (by omega)
        obtain ⟨y, hy⟩ : ∃ y, y = b.getD k1 0 := ⟨_, rfl⟩
        rw [← hy] at cB
        have HV : Aside0 (D.getD k 0 = Go.bits .or .u8 (x * 2 % 256) (y / 128)) := ⟨by rw [HDA.out k hlt, if_pos hl, hx, hy, hk1]⟩
        have j0 : (0 : Int) ≤ (k1 : Int) := Int.natCast_nonneg k1
        have j1 : (k1 : Int) < 16 := by omega
        have HK1 := Aside0.mk hk1
        clear hx hy hk1 hl hk hlt CB
        go_wp2
        obtain ⟨v, hv⟩ : ∃ v, v = x * 2 % 256 := ⟨_, rfl⟩
        rw [← hv]
        have N0 := Aside0.mk (blk_far G0.out (p := ⟨w.heap.size + 1 + 1, k, none⟩) hne (.int .u8 v))
        have N1 := Aside0.mk (blk_far G1.out (p := ⟨w.heap.size + 1 + 1, k, none⟩) (by simp) (.int .u8 v))
        have N2 := Aside0.mk (blk_set G2.out k (.int .u8 v))
        have NB := Aside0.mk (below_set (g := w.heap.size + 1 + 1) (j := k) (v := .int .u8 v) HB.out (by omega))
        rw [nums_set] at N2
        have cB2 : (wr.setCell ⟨w.heap.size + 1 + 1, k, none⟩ (.int .u8 v)).cell? ⟨w.heap.size, k1, none⟩ = some (.int .u8 y) := by rw [World.cell?_of_block (N0.out.trans G0.out.symm)]; exact cB
        have cD2 : (wr.setCell ⟨w.heap.size + 1 + 1, k, none⟩ (.int .u8 v)).cell? ⟨w.heap.size + 1 + 1, k, none⟩ = some (.int .u8 v) := by
          rw [blk_cell N2.out k]
          exact nums_at? _ _ _ _ (by rw [List.getElem?_set_self]; rw [List.length_append, List.length_take, List.length_drop, HDL.out, List.length_replicate]; have := HLT.out; omega)
        have zD2 := blk_frozen N2.out k
        have HV2 : Aside0 (D.getD k 0 = Go.bits .or .u8 v (y / 128)) := ⟨by rw [HV.out, hv]⟩
        generalize wr.setCell ⟨w.heap.size + 1 + 1, k, none⟩ (.int .u8 v) = w2 at N0 N1 N2 NB cB2 cD2 zD2 ⊢
        clear cA cD zD cB hv HV G0 G1 G2 HB
        go_region
        all_goals go_wp2
        have hw : (k1 : Int) = ((k + 1 : Nat) : Int) := by rw [HK1.out]
        refine ⟨⟨k + 1, HLT.out, ?_, ⟨?_⟩, ⟨?_⟩, ⟨?_⟩, ⟨?_⟩⟩, ?_⟩
        · rw [hw]
        · exact blk_drew (blk_far N0.out hne _)
        · exact blk_drew (blk_far N1.out (by simp) _)
        · rw [← TS.out, HV2.out]
          have h := blk_drew (blk_set N2.out k (.int .u8 (Go.bits .or .u8 v (y / 128))))
          rw [nums_set, List.set_set] at h
          exact h
        · exact below_drew1 (below_set (g := w.heap.size + 1 + 1) (j := k) NB.out (by omega))
        · simp [intOf]; have := HLT.out; have := HK1.out; omega
      · obtain rfl : k = 15 := by omega
        have HV : Aside0 (D.getD 15 0 = x * 2 % 256) := ⟨by rw [HDA.out 15 (by decide), if_neg (by decide), hx]⟩
        clear hx CB
        go_wp2
        refine ⟨⟨16, Nat.le_refl _, rfl, ⟨blk_far G0.out hne _⟩, ⟨blk_far G1.out (by simp) _⟩, ⟨?_⟩, ⟨below_set HB.out (by omega)⟩⟩, by simp [intOf]⟩
        rw [← TS.out, HV.out, ← nums_set]
        exact blk_set G2.out 15 _
    · have hd : decide (k < 16) = false := decide_eq_false hlt
      have hd2 : decide ((k : Int) < 16) = false := decide_eq_false (by omega)
      have e16 : D.take k ++ (List.replicate 16 (0 : Int)).drop k = D := by rw [List.take_of_length_le (by rw [HDL.out]; omega), List.drop_eq_nil_of_le (by simp; omega), List.append_nil]
      rw [e16] at G2
      obtain ⟨x, hx⟩ : ∃ x, x = b.getD 0 0 := ⟨_, rfl⟩
      obtain ⟨y, hy⟩ : ∃ y, y = D.getD 15 0 := ⟨_, rfl⟩
      have cA := CB wr G0.out 0 (by decide)
      rw [← hx] at cA
      have cD : wr.cell? ⟨w.heap.size + 1 + 1, 15, none⟩ = some (.int .u8 y) := by
        rw [blk_cell G2.out 15, hy]
        exact nums_at? _ _ _ _ (by rw [List.getD_eq_getElem?_getD, List.getElem?_eq_getElem (by rw [HDL.out]; decide)]; rfl)
      have zD := blk_frozen G2.out 15
      have HF : Aside0 (D.set 15 (Go.bits .xor .u8 y (x / 128 * 135 % 256)) = Md.dbl b) := ⟨by
        rw [hy, HDA.out 15 (by decide), if_neg (by decide), hx, HDE.out]
        exact dbl0_last b HOB.out⟩
      have hML : Aside0 ((nums IntKind.u8 (Md.dbl b)).toArray.size = 16) := ⟨by simp [nums, Md.dbl_length]⟩
      clear hlt hk e16 hx hy CB
      have N2 := Aside0.mk (blk_set G2.out 15 (.int .u8 (Go.bits .xor .u8 y (x / 128 * 135 % 256))))
      have N1 := Aside0.mk (blk_far G1.out (p := ⟨w.heap.size + 1 + 1, 15, none⟩) (by simp) (.int .u8 (Go.bits .xor .u8 y (x / 128 * 135 % 256))))
      have NB := Aside0.mk (below_set (g := w.heap.size + 1 + 1) (j := 15) (v := .int .u8 (Go.bits .xor .u8 y (x / 128 * 135 % 256))) HB.out (by omega))
      rw [nums_set, HF.out] at N2
      go_wp2_with (first
        | (refine wpList_load_row (by rfl) 52 (.tmp 3) (by rfl) _ (by rfl) 52 _ (0, 0) _ N2.out Try.underlying52 rfl (by rw [hML.out]; kernel_rfl) ?_)
        | (refine wpList_store_row (by rfl) 52 (.tmp 2) (.tmp 36) (by rfl) (w.heap.size + 1) _ (by rfl) (by rfl) 52 _ N1.out (by rw [hML.out]; kernel_rfl) (by rw [hML.out]; rfl) (nums_one _ _) ?_))
      have GR := setRow_heap _ _ _ (nums .u8 (Md.dbl b)).toArray _ _ N1.out
      refine bodyPost_ret (v := .agg (nums .u8 (Md.dbl b)).toArray) ?_ rfl ?_
      · exact results_cell_row (fn := Try.f55) (p := 2) (ty := 52) Try.results55 _ _ _ 52 _ (0, 0) _ (by rfl) GR Try.underlying52 rfl (by rw [hML.out]; kernel_rfl)
      · exact ⟨rfl, below_row NB.out (by omega) _⟩
def KpB (Bs Bn : Nat) (W W' : World) : Prop := ∀ a : Addr, a.block = Bs ∨ a.block = Bn → W'.cell? a = W.cell? a
theorem KpB.refl (Bs Bn : Nat) (W : World) : KpB Bs Bn W W := fun _ _ => rfl
theorem KpB.trans {Bs Bn : Nat} {A B C : World} (h : KpB Bs Bn A B) (k : KpB Bs Bn B C) : KpB Bs Bn A C := fun a ha => (k a ha).trans (h a ha)
theorem KpB.put {Bs Bn b : Nat} (hs : Bs < b) (hn : Bn < b) (W : World) (l : Nat) (o o' : Obj) (hl : b ≤ l) (_ : W.heap[l]? = some o) (_ : o.isCells = false) (_ : o.isWalk = false) : KpB Bs Bn W (W.putObj l o') := fun a ha => by
  have hne : a.block ≠ l := by omega
  exact World.cell?_of_block (World.putObj_heap_other hne)
section
attribute [local go_sem] Oper.semAt_some
set_option maxRecDepth 100000 in
set_option maxHeartbeats 2000000 in
theorem chunk1_in (F : Fence) (n : Nat) (hF : F.fn 89) (hro : F.round = none) (hn : 1 ≤ n) (l Bs Bn : Nat) (ad : Addr) (q m c : Nat) (hq : 0 < q) (hc : q * m ≤ c) (hreach : q * m ≤ 140737488355328) (J Jx : List (Fin m) → World → Prop) (hJd : ∀ s V, J s V → J s V.drew)
    (hY : ∀ pre x W, J pre W → pre.length < m → YieldAt F (n - 1) Try.prog l #[.slice (some (ad.add (q * x.1))) q q] W fun e W' =>
      (e = .returned (.bool true) ∧ J (pre ++ [x]) W' ∧ KpB Bs Bn W W') ∨ (e = .returned (.bool false) ∧ Jx (pre ++ [x]) W'))
    (W : World) (hBs : W.cell? ⟨Bs, 0, none⟩ = some (.slice (some ad) (q * m) c)) (hBn : W.cell? ⟨Bn, 0, none⟩ = some (.int .i64 (q : Int))) (h0 : J [] W) :
    CallsIn F n Try.prog 89 #[.func (.yield l) #[] #[], .pointer (some ⟨Bs, 0, none⟩), .pointer (some ⟨Bn, 0, none⟩)] W fun e W' => (∃ v, e = .returned v) ∧
      ((∃ ys : List (Fin m), ys.map (·.1) = List.range m ∧ J ys W') ∨ (∃ pre : List (Fin m), (∃ k, k ≤ m ∧ pre.map (·.1) = List.range k) ∧ Jx pre W')) := by
  refine callsIn_of_wp Try.func89 rfl hF ?_ hro
  simp only [Try.ntmps89, List.size_toArray, List.length_cons, List.length_nil, Nat.reduceAdd, Nat.reduceSub, Array.replicate_succ, Array.replicate_zero, List.push_toArray, List.append_toArray, List.nil_append, List.cons_append]
  obtain ⟨L, hL⟩ : ∃ L, L = q * m := ⟨_, rfl⟩
  rw [← hL] at hBs hc hreach
  have HL := Aside0.mk hL
  clear hL
  have HBs := Aside0.mk hBs
  have HBn := Aside0.mk hBn
  clear hBs hBn
  gi_wp2
  gi_loopw [4] (fun i wr => ∃ (k j : Nat) (pre : List (Fin m)), k ≤ m ∧ i = .int .i64 (j : Int) ∧ Aside0 (j = q * k) ∧ Aside0 (pre.map (·.1) = List.range k) ∧ J pre wr ∧ Aside0 (KpB Bs Bn W wr)) (fun i _ => L - (intOf i).toNat)
  case atStart => exact ⟨0, 0, [], Nat.zero_le _, rfl, ⟨by simp⟩, ⟨rfl⟩, h0, ⟨KpB.refl _ _ _⟩⟩
  case round =>
    obtain ⟨k, j, pre, hk, rfl, hj, hpre, hJs, hnx⟩ := hrel
    have cS : wr.cell? ⟨Bs, 0, none⟩ = some (.slice (some ad) L c) := (hnx.out _ (.inl rfl)).trans HBs.out
    have cN : wr.cell? ⟨Bn, 0, none⟩ = some (.int .i64 (q : Int)) := (hnx.out _ (.inr rfl)).trans HBn.out
    have j0 : (0 : Int) ≤ (j : Int) := Int.natCast_nonneg j
    have q0 : (0 : Int) < (q : Int) := by omega
    by_cases hlt : k < m
    · have hjq : j + q ≤ L := by
        rw [hj.out, HL.out, ← Nat.mul_succ]
        exact Nat.mul_le_mul_left q hlt
      obtain ⟨fn, tmps, assign, body, hy, hR⟩ := hY pre ⟨k, hlt⟩ wr.drew (hJd _ _ hJs) (by rw [← List.length_map (f := fun x : Fin m => x.1), hpre.out, List.length_range]; exact hlt)
      have hy2 : (Instr.yield l #[.slice (some (ad.add j)) q q]).run Try.prog wr.drew = .ok (.round l fn tmps assign body) wr.drew := by rw [hj.out]; exact hy
      clear hy
      have hd : decide ((j : Int) < (L : Int)) = true := decide_eq_true (by omega)
      have hd2 : decide (j < L) = true := decide_eq_true (by omega)
      gi_wp2
      gi_region
      all_goals gi_wp2
      all_goals
        refine hR.mono ?_
        rintro e W3 (⟨rfl, hJ3, hk3⟩ | ⟨rfl, hJx3⟩)
        · have cN3 : W3.cell? ⟨Bn, 0, none⟩ = some (.int .i64 (q : Int)) := (hk3 _ (.inr rfl)).trans cN
          gi_wp2
          go_roundw
          case rel =>
            refine ⟨k + 1, j + q, pre ++ [⟨k, hlt⟩], by omega, by go_num, ⟨by rw [hj.out, Nat.mul_succ]⟩, ⟨by rw [List.range_succ, List.map_append, hpre.out]; rfl⟩, hJ3, ⟨hnx.out.trans hk3⟩⟩
          case measure => simp [intOf]; omega
        · gi_wp2
          refine bodyPost_ret (results_none rfl _ _ _) rfl ?_
          exact ⟨⟨_, rfl⟩, .inr ⟨_, ⟨k + 1, by omega, by rw [List.range_succ, List.map_append, hpre.out]; rfl⟩, hJx3⟩⟩
    · obtain rfl : k = m := by omega
      have e1 : j = L := by rw [hj.out, HL.out]
      have hd : decide ((j : Int) < (L : Int)) = false := decide_eq_false (by omega)
      have hd2 : decide (j < L) = false := decide_eq_false (by omega)
      clear e1
      gi_wp2
      go_end0
      exact ⟨⟨_, rfl⟩, .inl ⟨_, hpre.out, hJs⟩⟩
set_option maxRecDepth 100000 in
set_option maxHeartbeats 1000000 in
theorem chunk1_nil_in (F : Fence) (n : Nat) (hF : F.fn 89) (hro : F.round = none) (l Bs Bn : Nat) {α : Type} (A0 : Option Addr) (c : Nat) (J : List α → World → Prop) (W : World) (hBs : W.cell? ⟨Bs, 0, none⟩ = some (.slice A0 0 c)) (h0 : J [] W) :
    CallsIn F n Try.prog 89 #[.func (.yield l) #[] #[], .pointer (some ⟨Bs, 0, none⟩), .pointer (some ⟨Bn, 0, none⟩)] W fun e W' => (∃ v, e = .returned v) ∧ J [] W' := by
  refine callsIn_of_wp Try.func89 rfl hF ?_ hro
  simp only [Try.ntmps89, List.size_toArray, List.length_cons, List.length_nil, Nat.reduceAdd, Nat.reduceSub, Array.replicate_succ, Array.replicate_zero, List.push_toArray, List.append_toArray, List.nil_append, List.cons_append]
  have HBs := Aside0.mk hBs
  clear hBs
  gi_wp2
  gi_loopw [4] (fun i wr => i = .int .i64 0 ∧ J [] wr ∧ Aside0 (wr.cell? ⟨Bs, 0, none⟩ = some (.slice A0 0 c))) (fun _ _ => 0)
  case atStart => exact ⟨rfl, h0, HBs⟩
  case round =>
    obtain ⟨rfl, hJs, hcs⟩ := hrel
    have hB := hcs.out
    gi_wp2
    go_end0
    exact ⟨⟨_, rfl⟩, hJs⟩
end
theorem chunk_stops (F : Fence) (n : Nat) (hF : F.fn 89) (hro : F.round = none) (hn : 1 ≤ n) (Bs Bn : Nat) (ad : Addr) (q m c : Nat) (hq : 0 < q) (hc : q * m ≤ c) (hreach : q * m ≤ 140737488355328) (w : World) (hs : Bs < w.heap.size) (hb : Bn < w.heap.size)
    (hBs : w.cell? ⟨Bs, 0, none⟩ = some (.slice (some ad) (q * m) c)) (hBn : w.cell? ⟨Bn, 0, none⟩ = some (.int .i64 (q : Int))) :
    SeqStopsK F n Try.prog 89 #[.pointer (some ⟨Bs, 0, none⟩), .pointer (some ⟨Bn, 0, none⟩)] (fun x : Fin m => #[Value.slice (some (ad.add (q * x.1))) q q]) (KpB Bs Bn) (fun ys => ys.map (·.1) = List.range m) (fun pre => ∃ k, k ≤ m ∧ pre.map (·.1) = List.range k) m w := fun l J Jx W hW hJ _ hY h0 =>
  chunk1_in F n hF hro hn l Bs Bn ad q m c hq hc hreach J Jx (fun s V hV => hJ s V V.drew none hV ⟨rfl, rfl, rfl, Nat.le_refl _, fun _ _ _ => rfl⟩ (fun r e => by cases e)) hY W ((hW.cell (p := ⟨Bs, 0, none⟩) hs).trans hBs) ((hW.cell (p := ⟨Bn, 0, none⟩) hb).trans hBn) h0
theorem chunk_stops_nil (F : Fence) (n : Nat) (hF : F.fn 89) (hro : F.round = none) (Bs Bn : Nat) (A0 : Option Addr) (q c : Nat) (encs : Fin 0 → Array Value) (w : World) (hs : Bs < w.heap.size)
    (hBs : w.cell? ⟨Bs, 0, none⟩ = some (.slice A0 0 c)) :
    SeqStopsK F n Try.prog 89 #[.pointer (some ⟨Bs, 0, none⟩), .pointer (some ⟨Bn, 0, none⟩)] encs (KpB Bs Bn) (fun ys => ys.map (·.1) = List.range 0) (fun pre => ∃ k, k ≤ 0 ∧ pre.map (·.1) = List.range k) 0 w := fun l J Jx W hW hJ _ hY h0 =>
  (chunk1_nil_in F n hF hro l Bs Bn A0 c J W ((hW.cell (p := ⟨Bs, 0, none⟩) hs).trans hBs) h0).mono fun e W' ⟨he, hj⟩ => ⟨he, .inl ⟨_, rfl, hj⟩⟩
theorem chunk_calls (a : Option Addr) (len cap : Nat) (q : Int) (hq : 1 ≤ q) (w : World) :
    Calls Try.prog 56 #[.slice a len cap, .int .i64 q] w fun e w' => e = .returned (.func (.func 89) #[] #[.pointer (some ⟨w.heap.size, 0, none⟩), .pointer (some ⟨w.heap.size + 1, 0, none⟩)]) ∧ w' = (w.alloc (.cells #[.slice a len cap] 28)).alloc (.cells #[.int .i64 q] 3) := by
  have hd : decide (q < 1) = false := decide_eq_false (by omega)
  go_enter Try.func56, Try.ntmps56
  go_wp2
  go_ret
  exact ⟨rfl, rfl⟩
def impl_Cmac.f (a0 : ByteArray) (l1 : List Int) : Option (ByteArray × Int) := if u8b l1 = true then (if 65536 < a0.size ∨ 65536 < l1.length then some (⟨#[]⟩, 2) else if a0.size = 16 ∨ a0.size = 32 then some (strOfNums (Md.cmacL (Aes.keysL (bytesL a0)) l1), 0) else some (⟨#[]⟩, 1)) else none
def macFold (keys : List (List Int)) (b : List Int) (js : List Nat) : List Int := js.foldl (fun v j => Aes.encL keys (Aes.xorS v (Md.blk b j))) Md.zero16
theorem macFold_snoc (keys : List (List Int)) (b : List Int) (js : List Nat) (j : Nat) : macFold keys b (js ++ [j]) = Aes.encL keys (Aes.xorS (macFold keys b js) (Md.blk b j)) := by simp [macFold]
theorem macFold_range (keys : List (List Int)) (b : List Int) (m : Nat) : macFold keys b (List.range m) = Md.macTo keys b m := by
  induction m with
  | zero => rfl
  | succ m ih => rw [List.range_succ, macFold_snoc, ih]; rfl
theorem macFold_ok {keys : List (List Int)} (hk : Aes.keysOk keys) {b : List Int} (hb : Aes.ok b) (js : List Nat) : (macFold keys b js).length = 16 ∧ Aes.ok (macFold keys b js) := by
  have h : ∀ (js : List Nat) (v : List Int), v.length = 16 → Aes.ok v → (js.foldl (fun v j => Aes.encL keys (Aes.xorS v (Md.blk b j))) v).length = 16 ∧ Aes.ok (js.foldl (fun v j => Aes.encL keys (Aes.xorS v (Md.blk b j))) v) := by
    intro js
    induction js with
    | nil => exact fun v h1 h2 => ⟨h1, h2⟩
    | cons j js ih => exact fun v h1 h2 => ih _ (Aes.encL_length _ _) (Aes.encL_ok hk (Aes.xorS_ok h2 (Md.blk_ok hb j)))
  exact h js _ rfl Md.zero16_ok
def cmI (keys : List (List Int)) (l1 K1 : List Int) (gc g6 g7 q : Nat) (w1 : World) (m : Nat) (pre : List (Fin m)) (W : World) : Prop :=
  Aside0 (W.heap[g6]? = some (.cells #[.pointer (some ⟨gc, 0, none⟩)] 50 (0, 0))) ∧ Aside0 (W.heap[g7]? = some (.cells (nums .u8 K1).toArray 52 (0, 0))) ∧ Aside0 (W.heap[g7 + 1]? = some (.cells (nums .u8 (macFold keys l1 (pre.map (·.1)))).toArray 52 (0, 0))) ∧ Aside0 (W.heap[g7 + 1 + 1]? = some (.cells (nums .u8 Md.zero16).toArray 52 (0, 0))) ∧ Aside0 (Below w1.heap.size w1 W) ∧ Aside0 (q < W.heap.size)
theorem cmI_own (keys : List (List Int)) (l1 K1 : List Int) (gc g6 g7 q : Nat) (w1 : World) (m B : Nat) (hB : w1.heap.size ≤ B) : OwnFrom B (cmI keys l1 K1 gc g6 g7 q w1 m) :=
  OwnFrom.and (ownFrom_blk B g6 _ (fun _ => #[.pointer (some ⟨gc, 0, none⟩)])) (OwnFrom.and (ownFrom_blk B g7 _ (fun _ => (nums .u8 K1).toArray)) (OwnFrom.and (ownFrom_blk B (g7 + 1) _ _) (OwnFrom.and (ownFrom_blk B (g7 + 1 + 1) _ (fun _ => (nums .u8 Md.zero16).toArray)) (OwnFrom.and (ownFrom_belowA (Nat.le_refl _) hB) (ownFrom_size B _)))))
theorem zdrop (n : Nat) (h : n < 16) : (List.replicate 16 (0 : Int)).drop n = 0 :: List.replicate (15 - n) 0 := by
  rw [List.drop_replicate, show 16 - n = (15 - n) + 1 from by omega, List.replicate_succ]
theorem copy_nothing {P : Program} (w : World) (dT sT ty elem : TypeId) (hu : P.underlying dT = some (.slice elem)) (hs : (P.info? elem).map (·.size) = some 1) (a : Addr) (n c c2 : Nat) :
    (Builtin.copy_ #[dT, sT] ty #[.slice (some a) n c, .slice none 0 c2]).run P w = .ok (.int .i64 ((0 : Nat) : Int)) w := by
  cases hq : P.info? elem with
  | none => simp [hq] at hs
  | some i =>
    simp [Builtin.copy_, run_underlying hu, Builtin.lenOf, Builtin.firstCells, sizeOf, typeInfo, hq, storeCells, goInt]
section
attribute [local go_sem] Oper.semAt_some
set_option maxHeartbeats 8000000 in
set_option maxRecDepth 100000 in
theorem impl_Cmac_in (a0 : ByteArray) (n : Nat) (A1 : Option Addr) (c1 : Nat) (l1 : List Int) (w0 : World) (hr1 : Kd.C (Kd.int .u8) w0 A1 l1.length l1) (hc1 : l1.length ≤ c1) (hu1 : u8ok l1) (hl1 : l1.length ≤ 65536) (hn : n = 4 ∨ n = 8) (hs0 : a0.size = 4 * n) :
    Calls Try.prog 28 #[.string a0, .slice A1 l1.length c1] w0 fun e w' => e = .returned (.tuple #[.string (strOfNums (Md.cmacL (Aes.keysL (bytesL a0)) l1)), .int .i64 0]) ∧ Below w0.heap.size w0 w' := by
  obtain ⟨keys, hkeys⟩ : ∃ K, K = Aes.keysL (bytesL a0) := ⟨_, rfl⟩
  have HKL : Aside0 (keys.length = n + 7) := ⟨by rw [hkeys, Aes.keysL_length, bytesL_length, hs0]; omega⟩
  have HKN : Aside0 (0 < keys.length ∧ keys.length ≤ 100) := ⟨by rw [HKL.out]; omega⟩
  have HN := Aside0.mk hn
  have HSN := Aside0.mk hs0
  have HKE := Aside0.mk hkeys
  have HR1 := Aside0.mk hr1
  have HC1 := Aside0.mk hc1
  have HU1 := Aside0.mk hu1
  have HL1 := Aside0.mk hl1
  have HF := Aside0.mk (show impl_isLong_string.f [a0] = some false by simp [impl_isLong_string.f]; omega)
  have HF2 := Aside0.mk (show impl_isLong_byte.f [l1] = some false by simp [impl_isLong_byte.f]; omega)
  have HK := Aside0.mk (show impl_isKey.f a0 = some true by unfold impl_isKey.f; rcases hn with e | e <;> simp [hs0, e])
  rw [← hkeys]
  clear hkeys hn hs0 hr1 hc1 hu1 hl1
  refine (callsIn_wide (n := 3)).1 ?_
  refine callsIn_of_wp_marks Try.func28 rfl trivial ?_ rfl
  refine wpIn_wide.2 ?_
  simp only [Try.ntmps28, List.size_toArray, List.length_cons, List.length_nil, Nat.reduceAdd, Nat.reduceSub, Array.replicate_succ, Array.replicate_zero, List.push_toArray, List.append_toArray, List.nil_append, List.cons_append]
  go_wp2_with fail
  refine (impl_isLong_string.calls _ _ [a0] false _ (C_one_string (g := w0.heap.size) (T := 9) (fr := (0, 0)) (blk_new w0 _)) (Nat.le_refl _) HF.out).mono ?_
  rintro e wa ⟨rfl, hd⟩
  have HBa := Aside0.mk (below_then (below_alloc (Below.refl _ _) _) (by simp) hd.below : Below w0.heap.size w0 wa)
  clear hd
  go_wp2_with fail
  have hC := C_one_slice (c := c1) (xs := l1) (blk_new wa (Obj.cells #[Value.slice A1 l1.length c1] 28)) rfl HC1.out (Kd.C_alloc (Kd.C_below HR1.out HBa.out) _)
  refine (impl_isLong_byte.calls _ 1 [l1] _ _ hC (Nat.le_refl _) HF2.out).mono ?_
  rintro e wb ⟨rfl, hd⟩
  have HBb := Aside0.mk (below_then (below_alloc HBa.out _) (by have := HBa.out.size; simp; omega) hd.below : Below w0.heap.size w0 wb)
  clear hd hC HBa
  go_wp2_with fail
  refine (impl_isKey.calls a0 true _ HK.out).mono ?_
  rintro e wc ⟨rfl, ⟨nd, rfl⟩⟩
  go_wp2_with fail
  refine (impl_cipherOf_in a0 n _ HN.out HSN.out).mono ?_
  rintro e w1 ⟨gc, rfl, hC, hb1⟩
  rw [← HKE.out] at hC
  have HC : Aside0 (cipherAt w1 w0.heap.size gc keys) := ⟨by
    obtain ⟨cs, gk, ck, h1, h2, h⟩ := hC
    exact ⟨cs, gk, ck, Nat.le_trans HBb.out.size h1, Nat.le_trans HBb.out.size h2, h⟩⟩
  have HB1 : Aside0 (Below w0.heap.size w0 w1) := ⟨(pw_below_drewN HBb.out nd).trans (hb1.mono (by have := HBb.out.size; exact this))⟩
  clear hC hb1 HBb
  have HCB : Aside0 (∀ W, Below w1.heap.size w1 W → cipherAt W w0.heap.size gc keys) := ⟨fun W h => cipherAt_below HC.out HKN.out.1 h⟩
  have HKO : Aside0 (Aes.keysOk keys) := ⟨cipherAt_ok HC.out⟩
  clear HC
  go_wp2_with (first
    | (refine wpList_build_is (by rfl) 52 #[] (by rfl) (nums .u8 Md.zero16).toArray (by kernel_rfl) ?_))
  have HB2 := Aside0.mk (below_alloc (Below.refl w1.heap.size w1) (Obj.cells #[Value.pointer (some ⟨gc, 0, none⟩)] 50))
  obtain ⟨g6, hg6⟩ : ∃ g, g = w1.heap.size := ⟨_, rfl⟩
  have G6 : Aside0 ((w1.alloc (Obj.cells #[Value.pointer (some ⟨gc, 0, none⟩)] 50)).heap[g6]? = some (.cells #[.pointer (some ⟨gc, 0, none⟩)] 50 (0, 0))) := ⟨by rw [hg6]; exact blk_new w1 _⟩
  have HS6 : Aside0 (w1.heap.size ≤ g6) := ⟨by omega⟩
  have HT6 : Aside0 ((w1.alloc (Obj.cells #[Value.pointer (some ⟨gc, 0, none⟩)] 50)).heap.size = g6 + 1) := ⟨by rw [hg6]; simp⟩
  rw [← hg6]
  generalize w1.alloc (Obj.cells #[Value.pointer (some ⟨gc, 0, none⟩)] 50) = w2 at HB2 G6 HT6 ⊢
  clear hg6
  obtain ⟨K0, hK0⟩ : ∃ K, K = Aes.encL keys Md.zero16 := ⟨_, rfl⟩
  obtain ⟨K1, hK1⟩ : ∃ K, K = Md.dbl K0 := ⟨_, rfl⟩
  have HK0 : Aside0 (K0.length = 16 ∧ Aes.ok K0) := ⟨by rw [hK0]; exact ⟨Aes.encL_length _ _, Aes.encL_ok HKO.out Md.zero16_ok⟩⟩
  have HK1 : Aside0 (K1.length = 16 ∧ Aes.ok K1) := ⟨by rw [hK1]; exact ⟨Md.dbl_length _, Md.dbl_ok HK0.out.2⟩⟩
  have HKE1 : Aside0 (K1 = Md.dbl (Aes.encL keys Md.zero16)) := ⟨by rw [hK1, hK0]⟩
  have HK0E := Aside0.mk hK0
  have HK1E := Aside0.mk hK1
  have HS1 : Aside0 ((nums IntKind.u8 K1).toArray.size = 16) := ⟨by simp [nums, HK1.out.1]⟩
  with_reducible refine (enc_u keys _ gc Md.zero16 _ (HCB.out w2 HB2.out) HKN.out rfl Md.zero16_ok).mono ?_
  rintro e w3 ⟨rfl, hb3⟩
  rw [← HK0E.out]
  clear hK0 hK1
  have HB3 := Aside0.mk (HB2.out.trans (hb3.mono HB2.out.size))
  have G6 := Aside0.mk ((hb3.block g6 (blk_lt G6.out)).trans G6.out)
  have HT6 : Aside0 (g6 < w3.heap.size) := ⟨by have := hb3.size; have := HT6.out; omega⟩
  clear hb3 HB2
  go_wp2_with fail
  with_reducible refine (impl_doubledBlock.calls K0 _ HK0.out.1 HK0.out.2).mono ?_
  rintro e w4 ⟨rfl, hb4⟩
  rw [← HK1E.out]
  have HB4 := Aside0.mk (HB3.out.trans (hb4.mono HB3.out.size))
  have G6 := Aside0.mk ((hb4.block g6 (blk_lt G6.out)).trans G6.out)
  have HT6 : Aside0 (g6 < w4.heap.size) := ⟨Nat.lt_of_lt_of_le HT6.out hb4.size⟩
  clear hb4 HB3
  go_upto_region 8 with (refine wpList_store_row (by rfl) 52 (.tmp 7) (.tmp 31) (by rfl) w4.heap.size (nums .u8 K1).toArray (by rfl) (by rfl) 52 _ (blk_new w4 _) (by rw [HS1.out]; kernel_rfl) (by rw [HS1.out]; rfl) (nums_one _ _) ?_)
  show Code.wp _ _ _ _ ((((w4.alloc (.cells (nums .u8 (List.replicate 16 0)).toArray 52)).setRow w4.heap.size (nums .u8 K1).toArray).alloc (.cells (nums .u8 Md.zero16).toArray 52)).alloc (.cells (nums .u8 Md.zero16).toArray 52))
  obtain ⟨g7, hg7⟩ : ∃ g, g = w4.heap.size := ⟨_, rfl⟩
  obtain ⟨w5, hw5⟩ : ∃ w, w = (((w4.alloc (.cells (nums .u8 (List.replicate 16 0)).toArray 52)).setRow w4.heap.size (nums .u8 K1).toArray).alloc (.cells (nums .u8 Md.zero16).toArray 52)).alloc (.cells (nums .u8 Md.zero16).toArray 52) := ⟨_, rfl⟩
  have hs5 : ((w4.alloc (.cells (nums .u8 (List.replicate 16 0)).toArray 52)).setRow w4.heap.size (nums .u8 K1).toArray).heap.size = w4.heap.size + 1 := by rw [setRow_size]; simp
  have F7 : Aside0 (w5.heap[g7]? = some (.cells (nums .u8 K1).toArray 52 (0, 0))) := ⟨by rw [hw5, hg7]; exact blk_alloc (blk_alloc (setRow_heap _ _ _ _ _ _ (blk_new w4 _)) _) _⟩
  have F8 : Aside0 (w5.heap[g7 + 1]? = some (.cells (nums .u8 Md.zero16).toArray 52 (0, 0))) := ⟨by rw [hw5, hg7, ← hs5]; exact blk_alloc (blk_new _ _) _⟩
  have F9 : Aside0 (w5.heap[g7 + 1 + 1]? = some (.cells (nums .u8 Md.zero16).toArray 52 (0, 0))) := ⟨by rw [hw5, hg7, ← hs5]; exact blk_newB _ _ _⟩
  have hb5 : Below w4.heap.size w4 w5 := by rw [hw5]; exact below_alloc (below_alloc (below_row (below_alloc (Below.refl _ _) _) (Nat.le_refl _) _) _) _
  have HB5 := Aside0.mk (HB4.out.trans (hb5.mono HB4.out.size))
  have F6 := Aside0.mk ((hb5.block g6 (blk_lt G6.out)).trans G6.out)
  have HS7 : Aside0 (g6 < g7 ∧ w1.heap.size ≤ g6 ∧ w5.heap.size = g7 + 3) := ⟨by have := HT6.out; have := HS6.out; refine ⟨by omega, by omega, ?_⟩; rw [hw5, hg7]; simp [hs5]⟩
  rw [← hw5, ← hg7]
  clear hs5 hb5 hw5 hg7 HB4 G6 HT6 HS6
  obtain ⟨m, hm⟩ : ∃ m, m = (l1.length - 1) / 16 := ⟨_, rfl⟩
  obtain ⟨wh, hwh⟩ : ∃ x, x = 16 * m := ⟨_, rfl⟩
  have HM := Aside0.mk hm
  have HWH := Aside0.mk hwh
  have hl := HL1.out
  obtain ⟨x1, hx1⟩ : ∃ x, x = l1.length - 1 := ⟨_, rfl⟩
  have hwl : wh ≤ l1.length := by omega
  have b0 : (0 : Int) ≤ (wh : Int) := Int.natCast_nonneg wh
  have b1 : (wh : Int) ≤ (l1.length : Int) := by omega
  have b2 : (wh : Int) ≤ (c1 : Int) := by have := HC1.out; omega
  have q1 : -1000000 ≤ (l1.length : Int) - 1 ∧ (l1.length : Int) - 1 ≤ 1000000000 := by omega
  have q2 : -1000000 ≤ (m : Int) ∧ (m : Int) ≤ 1000000000 := by omega
  have q3 : -1000000 ≤ (m : Int) * 16 ∧ (m : Int) * 16 ≤ 1000000000 := by omega
  have q4 : (m : Int) * 16 = (wh : Int) := by omega
  have e2 : (if (l1.length : Int) - 1 < 0 then 0 else (l1.length : Int) - 1) = (x1 : Int) := by split <;> omega
  have e3' : (x1 : Int) / 16 = (m : Int) := by omega
  have e3 : Int.tdiv (x1 : Int) 16 = (m : Int) := (Int.tdiv_eq_ediv_of_nonneg (Int.natCast_nonneg _)).trans e3'
  have e1 : wrap64 ((l1.length : Int) - 1) = (l1.length : Int) - 1 := w64s _ q1.1 q1.2
  have e4 : wrap64 (m : Int) = (m : Int) := w64s _ q2.1 q2.2
  have e5 : wrap64 ((m : Int) * 16) = (wh : Int) := (w64s _ q3.1 q3.2).trans q4
  clear q1 q2 q3 q4
  have HWL := Aside0.mk hwl
  clear hm hwh hx1 hl hwl
  go_wp2_with fail
  refine (chunk_calls A1 wh c1 16 (by decide) _).mono ?_
  rintro e w6 ⟨rfl, rfl⟩
  have HE5 := Aside0.mk e5
  clear e1 e2 e3 e3' e4 e5 b0 b1 b2
  go_wp2_with fail
  obtain ⟨ad, had⟩ : ∃ ad : Addr, 0 < m → A1 = some ad := by
    rcases Nat.eq_zero_or_pos m with h | h
    · exact ⟨⟨0, 0, none⟩, fun h2 => absurd h2 (by omega)⟩
    · obtain ⟨ad, e, _⟩ := HR1.out.2.2 (by have := HM.out; omega)
      exact ⟨ad, fun _ => e⟩
  have HSEQ : SeqStopsK Fence.wide 2 Try.prog 89 #[.pointer (some ⟨w5.heap.size, 0, none⟩), .pointer (some ⟨w5.heap.size + 1, 0, none⟩)] (fun x : Fin m => #[Value.slice (some (ad.add (16 * x.1))) 16 16]) (KpB w5.heap.size (w5.heap.size + 1)) (fun ys => ys.map (·.1) = List.range m) (fun pre => ∃ k, k ≤ m ∧ pre.map (·.1) = List.range k) m
      ((w5.alloc (.cells #[.slice A1 wh c1] 28)).alloc (.cells #[.int .i64 16] 3)) := by
    have zz : ((w5.alloc (.cells #[.slice A1 wh c1] 28)).alloc (.cells #[.int .i64 16] 3)).heap.size = w5.heap.size + 2 := by simp
    rcases Nat.eq_zero_or_pos m with h | h
    · subst h
      have h0 : wh = 0 := by rw [HWH.out]
      subst h0
      exact chunk_stops_nil Fence.wide 2 trivial rfl _ _ A1 16 c1 _ _ (by rw [zz]; omega) (box_one _ _ _ _ _ rfl)
    · have e := had h
      subst e
      have h1 : wh = 16 * m := HWH.out
      subst h1
      exact chunk_stops Fence.wide 2 trivial rfl (by decide) _ _ ad 16 m c1 (by decide) (Nat.le_trans HWL.out HC1.out) (by have := HWL.out; have := HL1.out; omega) _ (by rw [zz]; omega) (by rw [zz]; omega) (box_one _ _ _ _ _ rfl) (box_two _ _ _ _ _ rfl)
  refine wp_cuts (α := Fin m) (p := 42) (d := 11) rfl rfl rfl (by simp) (gf := 89) (lb := #[.pointer (some ⟨w5.heap.size, 0, none⟩), .pointer (some ⟨w5.heap.size + 1, 0, none⟩)]) rfl (enters_of Try.func89 (by kernel_rfl) rfl) HSEQ
    (fun h k => KpB.trans h k) (KpB.put (by simp <;> omega) (by simp <;> omega)) (cmI keys l1 K1 gc g6 g7 (w5.heap.size + 1) w1 m) (cmI_own _ _ _ _ _ _ _ _ _ _ ?hle) ?h0 ?body ?done
  case hle => have := HB5.out.size; simp; omega
  case h0 => exact ⟨⟨blk_alloc (blk_alloc F6.out _) _⟩, ⟨blk_alloc (blk_alloc F7.out _) _⟩, ⟨blk_alloc (blk_alloc F8.out _) _⟩, ⟨blk_alloc (blk_alloc F9.out _) _⟩, ⟨below_alloc (below_alloc HB5.out _) _⟩, ⟨by simp⟩⟩
  case body =>
    rintro l pre x W ⟨I1, I2, I3, I4, I5, I6⟩ hlen
    simp only [List.setIfInBounds_toArray, List.set_cons_succ, List.set_cons_zero]
    refine wpIn_block ?_
    refine region_round_any (by kernel_rfl) (by rintro ⟨_, _, h⟩; exact h) (by kernel_rfl) ?_
    change wpAny _ _ _ _ _ _ _ W.drew
    have HX : Aside0 (16 * x.1 + 16 ≤ l1.length) := ⟨by have := x.2; have := HM.out; omega⟩
    have e0 := had (by have := x.2; omega)
    obtain ⟨WD, hWD⟩ : ∃ WD, WD = W.drew := ⟨_, rfl⟩
    have J1 : Aside0 (WD.heap[g6]? = some (.cells #[.pointer (some ⟨gc, 0, none⟩)] 50 (0, 0))) := ⟨by rw [hWD]; exact I1.out⟩
    have J2 : Aside0 (WD.heap[g7]? = some (.cells (nums .u8 K1).toArray 52 (0, 0))) := ⟨by rw [hWD]; exact I2.out⟩
    have J3 : Aside0 (WD.heap[g7 + 1]? = some (.cells (nums .u8 (macFold keys l1 (pre.map (·.1)))).toArray 52 (0, 0))) := ⟨by rw [hWD]; exact I3.out⟩
    have J4 : Aside0 (WD.heap[g7 + 1 + 1]? = some (.cells (nums .u8 Md.zero16).toArray 52 (0, 0))) := ⟨by rw [hWD]; exact I4.out⟩
    have J5 : Aside0 (Below w1.heap.size w1 WD) := ⟨by rw [hWD]; exact I5.out.drew⟩
    have J6 : Aside0 (w5.heap.size + 1 < WD.heap.size) := ⟨by rw [hWD]; exact I6.out⟩
    have KW : Aside0 (∀ B V, KeepsFrom B WD V → KeepsFrom B W V) := ⟨fun B V h => by rw [hWD] at h; exact (keepsFrom_drew _ _).trans h⟩
    have KC : Aside0 (∀ a, WD.cell? a = W.cell? a) := ⟨fun a => by rw [hWD]; rfl⟩
    rw [← hWD]
    clear hWD I1 I2 I3 I4 I5 I6
    obtain ⟨Sx, hSx⟩ : ∃ S, S = macFold keys l1 (pre.map (·.1)) := ⟨_, rfl⟩
    rw [← hSx] at J3
    have HSX := Aside0.mk hSx
    have HSL : Aside0 (Sx.length = 16 ∧ Aes.ok Sx) := ⟨by rw [hSx]; exact macFold_ok HKO.out HU1.out _⟩
    have HSZ : Aside0 ((nums IntKind.u8 Sx).toArray.size = 16) := ⟨by simp [nums, HSL.out.1]⟩
    have HBK : Aside0 ((Md.blk l1 x.1).length = 16 ∧ Aes.ok (Md.blk l1 x.1)) := ⟨Md.blk_length _ _ HX.out, Md.blk_ok HU1.out _⟩
    have HBZ : Aside0 ((nums IntKind.u8 (Md.blk l1 x.1)).length = 16) := ⟨by simp [nums, HBK.out.1]⟩
    have HR1D : Aside0 (∀ V, Below WD.heap.size WD V → ∀ j v, (nums .u8 (Md.blk l1 x.1))[j]? = some v → V.cell? ((ad.add (16 * x.1)).add j) = some v) := ⟨fun V hV => by
      have h1 := HR1.out
      rw [e0] at h1
      exact C_nums (Kd.C_below (Kd.C_below h1 (HB1.out.trans (J5.out.mono HB1.out.size))) hV) rfl x.1 HX.out⟩
    clear hSx e0
    have hYc : ∀ V, Below WD.heap.size WD V → V.cell? ⟨g6, 0, none⟩ = some (.pointer (some ⟨gc, 0, none⟩)) := fun V hV => blk_cell ((hV.block _ (blk_lt J1.out)).trans J1.out) 0
    refine wpAny_of_N (S := fun V => Below WD.heap.size WD V) (N := 7) _ _ _ _ ?_
    refine wpAnyN_take (i := 0) (v := .pointer (some ⟨gc, 0, none⟩)) rfl (by kernel_rfl) (by kernel_rfl) (by kernel_rfl) (by kernel_rfl) (fun _ _ _ h => h) (Or.inl ⟨by rfl, fun V hV => ?_⟩) (Below.refl _ _) ?_
    · have c := hYc V hV
      clear hYc
      go_simp
    clear hYc
    refine wpAnyN_take (i := 1) rfl (by kernel_rfl) (by kernel_rfl) (by kernel_rfl) (by kernel_rfl) (fun _ _ _ h => h) (yields_load_row rfl 52 (.tmp 8) rfl (g7 + 1) rfl 52 _ (0, 0) _ (fun V hV => (hV.block _ (blk_lt J3.out)).trans J3.out) Try.underlying52 rfl (by rw [HSZ.out]; kernel_rfl)) (Below.refl _ _) ?_
    refine wpAnyN_take (i := 2) rfl (by kernel_rfl) (by kernel_rfl) (by kernel_rfl) (by kernel_rfl) (fun _ _ _ h => h) (yields_move rfl (.tmp 11) rfl) (Below.refl _ _) ?_
    refine wpAnyN_take (i := 3) rfl (by kernel_rfl) (by kernel_rfl) (by kernel_rfl) (by kernel_rfl) (fun _ _ _ h => h) (yields_arrayAt rfl 52 (.tmp 45) rfl (some (ad.add (16 * x.1))) 16 16 16 rfl Try.underlying52 (Nat.le_refl _)) (Below.refl _ _) ?_
    refine wpAnyN_take (i := 4) rfl (by kernel_rfl) (by kernel_rfl) (by kernel_rfl) (by kernel_rfl) (fun _ _ _ h => h) (yields_load_any rfl 52 (.tmp 46) rfl (ad.add (16 * x.1)) rfl (nums .u8 (Md.blk l1 x.1)) _ (fun V hV => HR1D.out V hV) Try.underlying52 rfl (key_size _ HBZ.out)) (Below.refl _ _) ?_
    refine wpAnyN_one (i := 5) (by kernel_rfl) rfl rfl (fun K hK => ?_)
    go_simp
    with_reducible refine (xor_u Sx (Md.blk l1 x.1) _ HSL.out.1 HBK.out.1).mono ?_
    rintro e w7 ⟨rfl, hb7⟩
    refine hK _ _ (fun _ => hb7) ?_
    clear hK K
    refine wpAnyN_one (i := 6) (by kernel_rfl) rfl rfl (fun K hK => ?_)
    go_simp
    with_reducible refine (enc_u keys _ gc (Aes.xorS Sx (Md.blk l1 x.1)) _ (HCB.out w7 (J5.out.trans (hb7.mono J5.out.size))) HKN.out (Aes.xorS_length _ _) (Aes.xorS_ok HSL.out.2 HBK.out.2)).mono ?_
    rintro e w8 ⟨rfl, hb8⟩
    refine hK _ _ (fun _ => below_then hb7 hb7.size hb8) ?_
    clear hK K
    obtain ⟨NX, hNX⟩ : ∃ N, N = Aes.encL keys (Aes.xorS Sx (Md.blk l1 x.1)) := ⟨_, rfl⟩
    have HNX : Aside0 (NX = macFold keys l1 ((pre ++ [x]).map (·.1))) := ⟨by rw [hNX, List.map_append, List.map_cons, List.map_nil, macFold_snoc, HSX.out]⟩
    have HNZ : Aside0 ((nums IntKind.u8 NX).toArray.size = 16) := ⟨by rw [hNX]; simp [nums, Aes.encL_length]⟩
    rw [← hNX]
    clear hNX
    have K1' : w8.heap[g6]? = some (.cells #[.pointer (some ⟨gc, 0, none⟩)] 50 (0, 0)) := (hb8.block _ (Nat.lt_of_lt_of_le (blk_lt J1.out) hb7.size)).trans ((hb7.block _ (blk_lt J1.out)).trans J1.out)
    have K2' : w8.heap[g7]? = some (.cells (nums .u8 K1).toArray 52 (0, 0)) := (hb8.block _ (Nat.lt_of_lt_of_le (blk_lt J2.out) hb7.size)).trans ((hb7.block _ (blk_lt J2.out)).trans J2.out)
    have K3' : w8.heap[g7 + 1]? = some (.cells (nums .u8 Sx).toArray 52 (0, 0)) := (hb8.block _ (Nat.lt_of_lt_of_le (blk_lt J3.out) hb7.size)).trans ((hb7.block _ (blk_lt J3.out)).trans J3.out)
    have K4' : w8.heap[g7 + 1 + 1]? = some (.cells (nums .u8 Md.zero16).toArray 52 (0, 0)) := (hb8.block _ (Nat.lt_of_lt_of_le (blk_lt J4.out) hb7.size)).trans ((hb7.block _ (blk_lt J4.out)).trans J4.out)
    refine wpAnyN_one (i := 7) (by kernel_rfl) rfl rfl (fun K hK => ?_)
    refine wp_store_row 52 (.tmp 8) (.tmp 49) (by rfl) (g7 + 1) (nums .u8 NX).toArray (by rfl) (by rfl) 52 _ K3' (by rw [HNZ.out]; kernel_rfl) (by rw [HNZ.out, HSZ.out]) (nums_one _ _) ?_
    refine hK _ _ (fun h => absurd rfl h) ?_
    refine wpAnyN_done (by kernel_rfl) ?_ _
    have hsz := HS7.out
    refine ⟨KW.out _ _ (((keepsFrom_below hb7).trans (keepsFrom_below hb8)).trans (keepsFrom_row K3')), fun a ha => ?_, ⟨?_⟩, ⟨?_⟩, ⟨?_⟩, ⟨?_⟩, ⟨?_⟩, ⟨?_⟩⟩
    · have hne : a.block ≠ g7 + 1 := by omega
      have hlt : a.block < WD.heap.size := by have := J6.out; omega
      rw [World.cell?_of_block (setRow_other _ _ _ _ hne), hb8.cell (Nat.lt_of_lt_of_le hlt hb7.size), hb7.cell hlt, KC.out]
    · exact (setRow_other _ _ _ _ (by omega)).trans K1'
    · exact (setRow_other _ _ _ _ (by omega)).trans K2'
    · rw [← HNX.out]
      exact setRow_heap _ _ _ _ _ _ K3'
    · exact (setRow_other _ _ _ _ (by omega)).trans K4'
    · exact below_row (below_then (below_then J5.out J5.out.size hb7) (Nat.le_trans J5.out.size hb7.size) hb8) (by omega) _
    · have := J6.out; have := hb7.size; have := hb8.size; rw [setRow_size]; omega
  case done =>
    rintro D xs W hD hxs ⟨I1, I2, I3, I4, I5, I6⟩ hK
    rw [hxs, macFold_range] at I3
    obtain ⟨M0, hM0⟩ : ∃ M, M = Md.macTo keys l1 m := ⟨_, rfl⟩
    rw [← hM0] at I3
    have HM0 := Aside0.mk hM0
    have HM0L : Aside0 (M0.length = 16 ∧ Aes.ok M0) := ⟨by rw [hM0]; exact ⟨Md.macTo_length _ _ _, Md.macTo_ok HKO.out HU1.out _⟩⟩
    have HDD := Aside0.mk hK
    have HDG : Aside0 (g7 + 3 ≤ D) := ⟨by have h1 := HS7.out; simp at hD; omega⟩
    clear hK hD hxs hM0
    obtain ⟨n1, hn1⟩ : ∃ n, n = l1.length - wh := ⟨_, rfl⟩
    have HN1 : Aside0 (n1 ≤ 16 ∧ n1 + wh = l1.length) := ⟨by have h1 := HWH.out; have h2 := HM.out; have h3 := HWL.out; omega⟩
    have b0 : (0 : Int) ≤ (wh : Int) := Int.natCast_nonneg wh
    have b1 : (wh : Int) ≤ (l1.length : Int) := by have := HWL.out; omega
    have b2 : (l1.length : Int) ≤ (c1 : Int) := by have := HC1.out; omega
    rw [HE5.out]
    obtain ⟨A3, hA3⟩ : ∃ A, A = (if c1 = wh then A1 else Option.map (fun x => x.add wh) A1) := ⟨_, rfl⟩
    have HA3 : Aside0 (0 < n1 → ∃ a, A3 = some a ∧ ∀ V, Below w0.heap.size w0 V → ∀ j v, (nums .u8 (l1.drop wh))[j]? = some v → V.cell? (a.add j) = some v) := ⟨fun h => by
      have h1 := HN1.out
      have h2 := HC1.out
      obtain ⟨a0', e, _⟩ := HR1.out.2.2 (by omega)
      refine ⟨a0'.add wh, by rw [hA3, if_neg (by omega), e]; rfl, fun V hV j v hv => ?_⟩
      obtain ⟨hj, rfl⟩ := nums_getD _ j v hv
      rw [List.length_drop] at hj
      have hr := HR1.out
      rw [e] at hr
      rw [add_add, C_u8_cell (Kd.C_below hr hV) rfl (wh + j) (by omega)]
      simp only [List.getD_eq_getElem?_getD, List.getElem?_drop]⟩
    have hn1' : l1.length - wh = n1 := hn1.symm
    have HNL : Aside0 ((l1.drop wh).length = n1) := ⟨by rw [List.length_drop]; omega⟩
    have HDr := Aside0.mk (I5.out.drew)
    have HBW : Aside0 (Below w0.heap.size w0 W.drew) := ⟨HB1.out.trans (HDr.out.mono HB1.out.size)⟩
    obtain ⟨w12, hrun, G6, G7, G8, G9, HB12, HDD, HZ12⟩ : ∃ w12, (Builtin.copy_ #[28, 28] 3 #[.slice (some ⟨g7 + 1 + 1, 0, none⟩) 16 16, .slice A3 n1 (c1 - wh)]).run Try.prog W.drew = .ok (.int .i64 (n1 : Int)) w12
        ∧ Aside0 (w12.heap[g6]? = some (.cells #[.pointer (some ⟨gc, 0, none⟩)] 50 (0, 0))) ∧ Aside0 (w12.heap[g7]? = some (.cells (nums .u8 K1).toArray 52 (0, 0))) ∧ Aside0 (w12.heap[g7 + 1]? = some (.cells (nums .u8 M0).toArray 52 (0, 0)))
        ∧ Aside0 (w12.heap[g7 + 1 + 1]? = some (.cells (nums .u8 (l1.drop wh ++ (List.replicate 16 (0 : Int)).drop n1)).toArray 52 (0, 0))) ∧ Aside0 (Below w1.heap.size w1 w12) ∧ Aside0 (w12.heap[D]? = some (.deferred (some []))) ∧ Aside0 (g7 + 3 ≤ w12.heap.size) := by
      have hs := HS7.out
      have hdg := HDG.out
      have hlt := blk_lt HDD.out
      rcases A3 with _ | a
      · have h0 : n1 = 0 := by
          rcases Nat.eq_zero_or_pos n1 with h | h
          · exact h
          · obtain ⟨a, e, _⟩ := HA3.out h
            cases e
        subst h0
        have hl0 : l1.drop wh = [] := List.eq_nil_of_length_eq_zero HNL.out
        refine ⟨W.drew, ?_, ⟨I1.out⟩, ⟨I2.out⟩, ⟨I3.out⟩, ⟨?_⟩, HDr, ⟨HDD.out⟩, ⟨by show g7 + 3 ≤ W.heap.size; omega⟩⟩
        · exact copy_nothing W.drew _ _ _ _ Try.underlying28 (by kernel_rfl) _ _ _ _
        · rw [hl0]; exact I4.out
      · have hsrc : ∀ j v, (nums .u8 (l1.drop wh))[j]? = some v → W.drew.cell? (a.add j) = some v := by
          rcases Nat.eq_zero_or_pos n1 with h | h
          · intro j v hv
            obtain ⟨hj, _⟩ := nums_getD _ j v hv
            have := HNL.out
            omega
          · obtain ⟨a2, e, hc⟩ := HA3.out h
            injection e with e
            subst e
            exact hc _ HBW.out
        have hnn : (nums IntKind.u8 (l1.drop wh)).length = n1 := by simp only [nums, List.length_map]; exact HNL.out
        have hr := run_copy_row (P := Try.prog) W.drew 28 28 3 5 (g7 + 1 + 1) 0 16 16 a n1 (c1 - wh) (nums .u8 Md.zero16).toArray 52 (nums .u8 (l1.drop wh)) Try.underlying28 (by kernel_rfl) (blk_drew I4.out) (by rw [hnn]; exact (Nat.min_eq_left HN1.out.1).symm) hsrc (by rw [hnn]; have := HN1.out.1; simp [nums, Md.zero16]; omega) (fun u hu => nums_oneC hu)
        rw [hnn] at hr
        have hrow : ((nums IntKind.u8 Md.zero16).toArray.toList.take 0 ++ nums .u8 (l1.drop wh) ++ (nums IntKind.u8 Md.zero16).toArray.toList.drop (0 + n1)).toArray = (nums .u8 (l1.drop wh ++ (List.replicate 16 (0 : Int)).drop n1)).toArray := by
          simp [nums, Md.zero16]
        rw [hrow] at hr
        refine ⟨_, hr, ⟨(setRow_other _ _ _ _ (by omega)).trans (blk_drew I1.out)⟩, ⟨(setRow_other _ _ _ _ (by omega)).trans (blk_drew I2.out)⟩, ⟨(setRow_other _ _ _ _ (by omega)).trans (blk_drew I3.out)⟩, ⟨setRow_heap _ _ _ _ _ _ (blk_drew I4.out)⟩, ⟨below_row HDr.out (by omega) _⟩, ⟨(setRow_other _ _ _ _ (by omega)).trans (blk_drew HDD.out)⟩, ⟨by rw [setRow_size]; show g7 + 3 ≤ W.heap.size; omega⟩⟩
    replace hA3 := hA3.symm
    clear I1 I2 I3 I4 I5 I6 hn1 HDr HBW
    go_upto_region 12 with (fail)
    go_region
    clear hrun hA3 hn1' b0 b1 b2
    obtain ⟨L2, hL2⟩ : ∃ L, L = Md.fillB (l1.drop wh) := ⟨_, rfl⟩
    obtain ⟨K2, hK2⟩ : ∃ K, K = Md.macK keys (l1.drop wh) := ⟨_, rfl⟩
    have HL2' : Aside0 (L2.length = 16 ∧ Aes.ok L2) := ⟨by rw [hL2]; exact ⟨Md.fillB_length _, Md.fillB_ok (fun x hx => HU1.out x (List.mem_of_mem_drop hx))⟩⟩
    have HK2 : Aside0 (K2.length = 16 ∧ Aes.ok K2) := ⟨by rw [hK2]; exact ⟨Md.macK_length _ _, Md.macK_ok HKO.out _⟩⟩
    have HK2E : Aside0 (K2 = if n1 < 16 then Md.dbl K1 else K1) := ⟨by rw [hK2, Md.macK, HNL.out, HK1E.out, HK0E.out]⟩
    have HL2E : Aside0 (L2 = if n1 < 16 then (l1.drop wh ++ (List.replicate 16 (0 : Int)).drop n1).set n1 128 else l1.drop wh ++ (List.replicate 16 (0 : Int)).drop n1) := ⟨by
      rw [hL2, Md.fillB]
      split
      · rename_i h
        rw [zdrop n1 h, upd_set _ _ _ _ _ HNL.out]
        rw [List.take_append, HNL.out, List.take_of_length_le (by rw [HNL.out]; omega), show 16 - n1 = (15 - n1) + 1 from by omega, List.take_succ_cons, List.take_replicate]
        congr 3; omega
      · rename_i h
        have hn16 : n1 = 16 := by have := HN1.out; omega
        rw [List.take_append_of_le_length (by rw [HNL.out, hn16]; exact Nat.le_refl _), List.take_of_length_le (by rw [HNL.out]; omega), show (List.replicate 16 (0 : Int)).drop n1 = [] from List.drop_eq_nil_of_le (by rw [List.length_replicate]; omega), List.append_nil]⟩
    have HFIN : Aside0 (Md.cmacL keys l1 = Aes.encL keys (Aes.xorS M0 (Aes.xorS L2 K2))) := ⟨by
      rw [Md.cmacL, ← HM.out, ← HWH.out, ← hL2, ← hK2, ← HM0.out]⟩
    have HSK2 : Aside0 ((nums IntKind.u8 K2).toArray.size = 16) := ⟨by simp [nums, HK2.out.1]⟩
    have HSL2 : Aside0 ((nums IntKind.u8 L2).toArray.size = 16) := ⟨by simp [nums, HL2'.out.1]⟩
    have HSM0 : Aside0 ((nums IntKind.u8 M0).toArray.size = 16) := ⟨by simp [nums, HM0L.out.1]⟩
    clear hL2 hK2
    obtain ⟨wI, hwI⟩ : ∃ w, w = w12 := ⟨_, rfl⟩
    rw [← hwI] at G6 G7 G8 G9 HB12 HDD HZ12 ⊢
    clear hwI
    go_upto_if 56 with (fail)
    go_cut [12] from 55 to 60 (fun v12 wc => v12 = .int .i64 (n1 : Int) ∧ Aside0 (wc.heap[g6]? = some (.cells #[.pointer (some ⟨gc, 0, none⟩)] 50 (0, 0))) ∧ Aside0 (wc.heap[g7]? = some (.cells (nums .u8 K2).toArray 52 (0, 0))) ∧ Aside0 (wc.heap[g7 + 1]? = some (.cells (nums .u8 M0).toArray 52 (0, 0)))
        ∧ Aside0 (wc.heap[g7 + 1 + 1]? = some (.cells (nums .u8 L2).toArray 52 (0, 0))) ∧ Aside0 (Below w1.heap.size w1 wc) ∧ Aside0 (wc.heap[D]? = some (.deferred (some []))))
    case first =>
      by_cases hlt : n1 < 16
      · have hd : decide (n1 < 16) = true := decide_eq_true hlt
        have hd2 : decide ((n1 : Int) < 16) = true := decide_eq_true (by omega)
        have c9 : wI.cell? ⟨g7 + 1 + 1, n1, none⟩ = some (.int .u8 0) := by
          rw [blk_cell G9.out n1]
          exact nums_at? _ _ _ _ (by rw [zdrop n1 hlt]; exact upd_at _ _ _ _ HNL.out)
        have z9 := blk_frozen G9.out n1
        have i0 : (0 : Int) ≤ (n1 : Int) := Int.natCast_nonneg n1
        have i1 : (n1 : Int) < 16 := by omega
        have HLT := Aside0.mk hlt
        have hs7 := HS7.out.1
        have P6 := Aside0.mk (blk_far G6.out (p := ⟨g7 + 1 + 1, n1, none⟩) (by show g6 ≠ g7 + 1 + 1; omega) (.int .u8 128))
        have P7 := Aside0.mk (blk_far G7.out (p := ⟨g7 + 1 + 1, n1, none⟩) (by show g7 ≠ g7 + 1 + 1; omega) (.int .u8 128))
        have P8 := Aside0.mk (blk_far G8.out (p := ⟨g7 + 1 + 1, n1, none⟩) (by show g7 + 1 ≠ g7 + 1 + 1; omega) (.int .u8 128))
        have P9 : Aside0 ((wI.setCell ⟨g7 + 1 + 1, n1, none⟩ (.int .u8 128)).heap[g7 + 1 + 1]? = some (.cells (nums .u8 L2).toArray 52 (0, 0))) := ⟨by
          have h := blk_set G9.out n1 (.int .u8 128)
          rw [nums_set] at h
          rw [HL2E.out, if_pos hlt]
          exact h⟩
        have PB := Aside0.mk (below_set (g := g7 + 1 + 1) (j := n1) (v := .int .u8 128) HB12.out (by have := HS7.out; omega))
        have PD : Aside0 ((wI.setCell ⟨g7 + 1 + 1, n1, none⟩ (.int .u8 128)).heap[D]? = some (.deferred (some []))) := ⟨by rw [Below.heap_setCell _ _ _ D (by show D ≠ g7 + 1 + 1; have := HDG.out; omega)]; exact HDD.out⟩
        clear hlt hs7
        go_wp2_with (refine wpList_load_row (by rfl) 52 (.tmp 7) (by rfl) g7 (by rfl) 52 (nums .u8 K1).toArray (0, 0) _ P7.out Try.underlying52 rfl (by rw [HS1.out]; kernel_rfl) ?_)
        with_reducible refine (impl_doubledBlock.calls K1 _ HK1.out.1 HK1.out.2).mono ?_
        rintro e w14 ⟨rfl, hb⟩
        clear c9 z9
        have eK : Md.dbl K1 = K2 := by rw [HK2E.out, if_pos HLT.out]
        rw [eK]
        have Q6 := Aside0.mk ((hb.block _ (blk_lt P6.out)).trans P6.out)
        have Q7 := Aside0.mk ((hb.block _ (blk_lt P7.out)).trans P7.out)
        have Q8 := Aside0.mk ((hb.block _ (blk_lt P8.out)).trans P8.out)
        have Q9 := Aside0.mk ((hb.block _ (blk_lt P9.out)).trans P9.out)
        have QD := Aside0.mk ((hb.block _ (blk_lt PD.out)).trans PD.out)
        have QB := Aside0.mk (below_then PB.out PB.out.size hb)
        clear hb eK
        go_wp2_with (refine wpList_store_row (by rfl) 52 (.tmp 7) (.tmp 60) (by rfl) g7 (nums .u8 K2).toArray (by rfl) (by rfl) 52 _ Q7.out (by rw [HSK2.out]; kernel_rfl) (by rw [HSK2.out, HS1.out]) (nums_one _ _) ?_)
        go_meet
        case rel => exact ⟨rfl, ⟨(setRow_other _ _ _ _ (by have := HS7.out; omega)).trans Q6.out⟩, ⟨setRow_heap _ _ _ _ _ _ Q7.out⟩, ⟨(setRow_other _ _ _ _ (by omega)).trans Q8.out⟩, ⟨(setRow_other _ _ _ _ (by omega)).trans Q9.out⟩, ⟨below_row QB.out (by have := HS7.out; omega) _⟩, ⟨(setRow_other _ _ _ _ (by have := HDG.out; omega)).trans QD.out⟩⟩
      · have hd : decide (n1 < 16) = false := decide_eq_false hlt
        have hd2 : decide ((n1 : Int) < 16) = false := decide_eq_false (by omega)
        have eK : K1 = K2 := by rw [HK2E.out, if_neg hlt]
        have eL : l1.drop wh ++ (List.replicate 16 (0 : Int)).drop n1 = L2 := by rw [HL2E.out, if_neg hlt]
        rw [eK] at G7
        rw [eL] at G9
        clear eK eL hd hd2
        obtain rfl : n1 = 16 := by have := HN1.out; omega
        clear hlt
        go_wp2
        go_meet
        case rel => exact ⟨rfl, G6, G7, G8, G9, HB12, HDD⟩
    case rest =>
      obtain ⟨rfl, G6, G7, G8, G9, HB12, HDD⟩ := hcut
      go_upto_region 16 with (fail)
      have F8 := Aside0.mk (blk_drew G8.out)
      have FB := Aside0.mk (HB12.out.drew)
      have FD : Aside0 (wc.drew.heap[D]? = some (.deferred (some []))) := ⟨HDD.out⟩
      have hYc : ∀ V, Below wc.drew.heap.size wc.drew V → V.cell? ⟨g6, 0, none⟩ = some (.pointer (some ⟨gc, 0, none⟩)) := fun V hV => blk_cell ((hV.block _ (blk_lt (blk_drew G6.out))).trans (blk_drew G6.out)) 0
      obtain ⟨NX, hNX⟩ : ∃ N, N = Aes.encL keys (Aes.xorS M0 (Aes.xorS L2 K2)) := ⟨_, rfl⟩
      have HNZ : Aside0 ((nums IntKind.u8 NX).toArray.size = 16) := ⟨by rw [hNX]; simp [nums, Aes.encL_length]⟩
      have HNXL : Aside0 (NX.length = 16) := ⟨by rw [hNX]; exact Aes.encL_length _ _⟩
      have HNXE := Aside0.mk hNX
      clear hNX
      refine wp_region_noPanic ?_
      refine wp_region_any (by kernel_rfl) ?_
      change wpAny _ _ _ _ _ _ _ wc.drew
      refine wpAny_of_N (S := fun V => Below wc.drew.heap.size wc.drew V) (N := 7) _ _ _ _ ?_
      refine wpAnyN_take (i := 0) (v := .pointer (some ⟨gc, 0, none⟩)) rfl (by kernel_rfl) (by kernel_rfl) (by kernel_rfl) (by kernel_rfl) (fun _ _ _ h => h) (Or.inl ⟨by rfl, fun V hV => ?_⟩) (Below.refl _ _) ?_
      · have c := hYc V hV
        clear hYc
        go_simp
      clear hYc
      refine wpAnyN_take (i := 1) rfl (by kernel_rfl) (by kernel_rfl) (by kernel_rfl) (by kernel_rfl) (fun _ _ _ h => h) (yields_load_row rfl 52 (.tmp 8) rfl (g7 + 1) rfl 52 _ (0, 0) _ (fun V hV => (hV.block _ (blk_lt F8.out)).trans F8.out) Try.underlying52 rfl (by rw [HSM0.out]; kernel_rfl)) (Below.refl _ _) ?_
      refine wpAnyN_take (i := 2) rfl (by kernel_rfl) (by kernel_rfl) (by kernel_rfl) (by kernel_rfl) (fun _ _ _ h => h) (yields_load_row rfl 52 (.tmp 9) rfl (g7 + 1 + 1) rfl 52 _ (0, 0) _ (fun V hV => (hV.block _ (blk_lt (blk_drew G9.out))).trans (blk_drew G9.out)) Try.underlying52 rfl (by rw [HSL2.out]; kernel_rfl)) (Below.refl _ _) ?_
      refine wpAnyN_take (i := 3) rfl (by kernel_rfl) (by kernel_rfl) (by kernel_rfl) (by kernel_rfl) (fun _ _ _ h => h) (yields_load_row rfl 52 (.tmp 7) rfl g7 rfl 52 _ (0, 0) _ (fun V hV => (hV.block _ (blk_lt (blk_drew G7.out))).trans (blk_drew G7.out)) Try.underlying52 rfl (by rw [HSK2.out]; kernel_rfl)) (Below.refl _ _) ?_
      refine wpAnyN_one (i := 4) (by kernel_rfl) rfl rfl (fun K hK => ?_)
      go_simp
      with_reducible refine (xor_u L2 K2 _ HL2'.out.1 HK2.out.1).mono ?_
      rintro e v1 ⟨rfl, hb1⟩
      refine hK _ _ (fun _ => hb1) ?_
      clear hK K
      refine wpAnyN_one (i := 5) (by kernel_rfl) rfl rfl (fun K hK => ?_)
      go_simp
      with_reducible refine (xor_u M0 (Aes.xorS L2 K2) _ HM0L.out.1 (Aes.xorS_length _ _)).mono ?_
      rintro e v2 ⟨rfl, hb2⟩
      have hb12 := below_then hb1 hb1.size hb2
      refine hK _ _ (fun _ => hb12) ?_
      clear hK K hb1 hb2
      refine wpAnyN_one (i := 6) (by kernel_rfl) rfl rfl (fun K hK => ?_)
      go_simp
      with_reducible refine (enc_u keys _ gc (Aes.xorS M0 (Aes.xorS L2 K2)) _ (HCB.out v2 (FB.out.trans (hb12.mono FB.out.size))) HKN.out (Aes.xorS_length _ _) (Aes.xorS_ok HM0L.out.2 (Aes.xorS_ok HL2'.out.2 HK2.out.2))).mono ?_
      rintro e v3 ⟨rfl, hb3⟩
      have hb := below_then hb12 hb12.size hb3
      refine hK _ _ (fun _ => hb) ?_
      clear hK K hb12 hb3
      rw [← HNXE.out]
      have G8' := Aside0.mk ((hb.block _ (blk_lt F8.out)).trans F8.out)
      have GD' := Aside0.mk ((hb.block _ (blk_lt FD.out)).trans FD.out)
      have GB' := Aside0.mk (FB.out.trans (hb.mono FB.out.size))
      clear hb
      refine wpAnyN_one (i := 7) (by kernel_rfl) rfl rfl (fun K hK => ?_)
      refine wp_store_row 52 (.tmp 8) (.tmp 67) (by rfl) (g7 + 1) (nums .u8 NX).toArray (by rfl) (by rfl) 52 _ G8'.out (by rw [HNZ.out]; kernel_rfl) (by rw [HNZ.out, HSM0.out]) (nums_one _ _) ?_
      refine hK _ _ (fun h => absurd rfl h) ?_
      clear hK K
      refine wpAnyN_done (by kernel_rfl) ?_ _
      have R8 := Aside0.mk (setRow_heap v3 (g7 + 1) _ (nums .u8 NX).toArray _ _ G8'.out)
      have RB := Aside0.mk (below_row GB'.out (show w1.heap.size ≤ g7 + 1 by have := HS7.out; omega) (nums .u8 NX).toArray)
      have RD : Aside0 ((v3.setRow (g7 + 1) (nums .u8 NX).toArray).heap[D]? = some (.deferred (some []))) := ⟨(setRow_other _ _ _ _ (by have := HDG.out; omega)).trans GD'.out⟩
      refine NoPanic.normal ?_
      generalize v3.setRow (g7 + 1) (nums .u8 NX).toArray = wF at R8 RB RD ⊢
      clear G8' GD' GB' G6 G7 G8 G9 HB12 HDD F8 FB FD
      have ks := Kd.C_string (P := Try.prog) (dst := 9) (src := 28) (c := 16) Try.underlying28 Try.underlying5 Try.underlying9 (C_row_int (l := NX) R8.out (by rw [HNXL.out]; decide))
      rw [HNXL.out] at ks
      go_wp2
      refine ⟨by simp, .inl ⟨_, _, rfl, run_takeDeferred RD.out, ?_⟩⟩
      refine ⟨_, results_tmp2 rfl _ _ _, ?_, ?_⟩
      · rw [HFIN.out, ← HNXE.out]
        rfl
      · exact (HB1.out.trans (RB.out.mono HB1.out.size)).trans (belowK_b (w := w0) (Nat.le_refl _) wF D _ _ (by have := HDG.out; have := HS7.out; have := HB1.out.size; omega) RD.out rfl rfl)
end
set_option maxHeartbeats 4000000 in
set_option maxRecDepth 100000 in
theorem impl_Cmac.calls (a0 : ByteArray) (A1 : Option Addr) (c1 : Nat) (l1 : List Int) (r1 : ByteArray) (r2 : Int) (w0 : World) (hr1 : Kd.C (Kd.int .u8) w0 A1 l1.length l1) (hc1 : l1.length ≤ c1) (h : impl_Cmac.f a0 l1 = some (r1, r2)) :
    Calls Try.prog 28 #[.string a0, .slice A1 l1.length c1] w0 fun e w' => e = .returned (.tuple #[.string r1, .int .i64 r2]) ∧ Below w0.heap.size w0 w' := by
  unfold impl_Cmac.f at h
  by_cases hu : u8b l1 = true
  · rw [if_pos hu] at h
    have HR1 := Aside0.mk hr1
    have HC1 := Aside0.mk hc1
    by_cases h1 : 65536 < a0.size
    · rw [if_pos (.inl h1)] at h
      obtain ⟨rfl, rfl⟩ : (⟨#[]⟩ : ByteArray) = r1 ∧ (2 : Int) = r2 := by simpa using h
      have HF := Aside0.mk (show impl_isLong_string.f [a0] = some true by simp [impl_isLong_string.f]; omega)
      clear h h1 hu hr1 hc1
      go_enter Try.func28, Try.ntmps28
      go_wp2_with fail
      refine (impl_isLong_string.calls _ _ [a0] true _ (C_one_string (g := w0.heap.size) (T := 9) (fr := (0, 0)) (blk_new w0 _)) (Nat.le_refl _) HF.out).mono ?_
      rintro e wa ⟨rfl, hd⟩
      have HBa := Aside0.mk (below_then (below_alloc (Below.refl _ _) _) (by simp) hd.below : Below w0.heap.size w0 wa)
      clear hd
      go_wp2
      go_ret2
      exact ⟨rfl, HBa.out⟩
    have HF := Aside0.mk (show impl_isLong_string.f [a0] = some false by simp [impl_isLong_string.f]; omega)
    by_cases h2 : 65536 < l1.length
    · rw [if_pos (.inr h2)] at h
      obtain ⟨rfl, rfl⟩ : (⟨#[]⟩ : ByteArray) = r1 ∧ (2 : Int) = r2 := by simpa using h
      have HF2 := Aside0.mk (show impl_isLong_byte.f [l1] = some true by simp [impl_isLong_byte.f]; omega)
      clear h h1 h2 hu hr1 hc1
      go_enter Try.func28, Try.ntmps28
      go_wp2_with fail
      refine (impl_isLong_string.calls _ _ [a0] false _ (C_one_string (g := w0.heap.size) (T := 9) (fr := (0, 0)) (blk_new w0 _)) (Nat.le_refl _) HF.out).mono ?_
      rintro e wa ⟨rfl, hd⟩
      have HBa := Aside0.mk (below_then (below_alloc (Below.refl _ _) _) (by simp) hd.below : Below w0.heap.size w0 wa)
      clear hd
      go_wp2_with fail
      have hC := C_one_slice (c := c1) (xs := l1) (blk_new wa (Obj.cells #[Value.slice A1 l1.length c1] 28)) rfl HC1.out (Kd.C_alloc (Kd.C_below HR1.out HBa.out) _)
      refine (impl_isLong_byte.calls _ 1 [l1] _ _ hC (Nat.le_refl _) HF2.out).mono ?_
      rintro e wb ⟨rfl, hd⟩
      have HBb := Aside0.mk (below_then (below_alloc HBa.out _) (by have := HBa.out.size; simp; omega) hd.below : Below w0.heap.size w0 wb)
      clear hd hC HBa
      go_wp2
      go_ret2
      exact ⟨rfl, HBb.out⟩
    rw [if_neg (by omega)] at h
    by_cases h3 : a0.size = 16 ∨ a0.size = 32
    · rw [if_pos h3] at h
      obtain ⟨rfl, rfl⟩ : strOfNums (Md.cmacL (Aes.keysL (bytesL a0)) l1) = r1 ∧ (0 : Int) = r2 := by simpa using h
      rcases h3 with e | e
      · exact impl_Cmac_in a0 4 A1 c1 l1 w0 hr1 hc1 (u8b_ok hu) (by omega) (.inl rfl) e
      · exact impl_Cmac_in a0 8 A1 c1 l1 w0 hr1 hc1 (u8b_ok hu) (by omega) (.inr rfl) e
    · rw [if_neg h3] at h
      obtain ⟨rfl, rfl⟩ : (⟨#[]⟩ : ByteArray) = r1 ∧ (1 : Int) = r2 := by simpa using h
      have HF2 := Aside0.mk (show impl_isLong_byte.f [l1] = some false by simp [impl_isLong_byte.f]; omega)
      have HK := Aside0.mk (show impl_isKey.f a0 = some false by
        unfold impl_isKey.f
        rw [if_neg (by omega)]
        congr 1
        rw [beq_eq_false_iff_ne]; omega)
      clear h h1 h2 hu hr1 hc1 h3
      go_enter Try.func28, Try.ntmps28
      go_wp2_with fail
      refine (impl_isLong_string.calls _ _ [a0] false _ (C_one_string (g := w0.heap.size) (T := 9) (fr := (0, 0)) (blk_new w0 _)) (Nat.le_refl _) HF.out).mono ?_
      rintro e wa ⟨rfl, hd⟩
      have HBa := Aside0.mk (below_then (below_alloc (Below.refl _ _) _) (by simp) hd.below : Below w0.heap.size w0 wa)
      clear hd
      go_wp2_with fail
      have hC := C_one_slice (c := c1) (xs := l1) (blk_new wa (Obj.cells #[Value.slice A1 l1.length c1] 28)) rfl HC1.out (Kd.C_alloc (Kd.C_below HR1.out HBa.out) _)
      refine (impl_isLong_byte.calls _ 1 [l1] _ _ hC (Nat.le_refl _) HF2.out).mono ?_
      rintro e wb ⟨rfl, hd⟩
      have HBb := Aside0.mk (below_then (below_alloc HBa.out _) (by have := HBa.out.size; simp; omega) hd.below : Below w0.heap.size w0 wb)
      clear hd hC HBa
      go_wp2_with fail
      refine (impl_isKey.calls a0 false _ HK.out).mono ?_
      rintro e wc ⟨rfl, ⟨nd, rfl⟩⟩
      have HBc : Aside0 (Below w0.heap.size w0 (wb.drewN nd)) := ⟨pw_below_drewN HBb.out nd⟩
      go_wp2
      go_ret2
      exact ⟨rfl, HBc.out⟩
  · rw [if_neg hu] at h
    cases h
end Go.Proofs.Ytfbggdlidelliaa.P

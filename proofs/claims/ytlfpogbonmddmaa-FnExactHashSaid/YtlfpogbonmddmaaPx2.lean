-- Laid by a program of this session (wip/prn) over the translation: functions and their contracts. Lean checks it.
import Derived.Test.YtlfpogbonmddmaaPx0
import Derived.Test.YtlfpogbonmddmaaPx1
namespace Go.Proofs.Ytlfpogbonmddmaa.P
open Go.RowKit Go.Proofs.YtlfpogbonmddmaaW.PrintWords Go.Proofs.YtlfpogbonmddmaaW.PrintLast Go.Proofs.YtlfpogbonmddmaaW.PrintMore
attribute [local go_sem] max2_int min2_int max_two min_two max_three min_three max_four min_four   -- for this text's walks alone
set_option linter.unusedVariables false
set_option linter.unusedSimpArgs false

/-! ### spec_l03Hash: function 68 -/
-- HAND rounds=0 making=1 info=5
def spec_l03Hash.f (l0 : List Int) : Option ByteArray := if u8b l0 = true then (if l0.length ≤ 1099511627776 then some (strOfNums (Sha.shaL l0)) else none) else none
theorem consts_is : spec_l03Consts.f = some Sha.K := rfl
/-- the text so far, with its size's first bytes -/
def sizeTo (n : Int) (j : Nat) : List Int := (Sha.be8 n).take j
theorem sizeTo_succ (n : Int) (j : Nat) (hj : j < 8) : sizeTo n (j + 1) = sizeTo n j ++ [n / 2 ^ (8 * (7 - j)) % 256] := by
  match j, hj with
  | 0, _ => rfl
  | 1, _ => rfl
  | 2, _ => rfl
  | 3, _ => rfl
  | 4, _ => rfl
  | 5, _ => rfl
  | 6, _ => rfl
  | 7, _ => simp [sizeTo, Sha.be8]
theorem below_lit (w : World) (o1 o2 : Obj) : Below (w.heap.size + 1) (w.alloc o1) ((w.alloc o1).alloc o2) := by
  have h := below_alloc (Below.refl (w.alloc o1).heap.size (w.alloc o1)) o2
  have e : (w.alloc o1).heap.size = w.heap.size + 1 := by simp
  rwa [e] at h
theorem consts_calls (w : World) : Calls Try.prog 87 #[] w fun e w' => e = .returned (.slice (some ⟨w.heap.size, 0, none⟩) 64 64) ∧ w' = w.alloc (.cells (nums .u32 Sha.K).toArray 90) := by
  go_enter Try.func87, Try.ntmps87
  go_wp2
  go_ret
  exact ⟨rfl, rfl⟩
theorem K_cells (w : World) (j : Nat) (hj : j < 64) : (w.alloc (.cells (nums .u32 Sha.K).toArray 90)).cell? ((⟨w.heap.size, 0, none⟩ : Addr).add j) = some (.int .u32 (Sha.K.getD j 0)) := by
  rw [add_plain]
  refine (blk_cell (blk_new w _) _).trans ?_
  exact nums_at? _ _ _ _ (by rw [List.getD_eq_getElem?_getD, List.getElem?_eq_getElem (by rw [K_length]; exact hj)]; rfl)
theorem rowB_cut {W : World} {B g n c : Nat} {l : List Int} (h : rowB W B (.slice (some ⟨g, 0, none⟩) n c) l) (o : Nat) (b : List Int) (ho : o + b.length ≤ l.length) (hm : b.length ≤ 140737488355328) (he : ∀ j, j < b.length → b.getD j 0 = l.getD (o + j) 0) : Kd.C (Kd.int .u8) W (some ⟨g, o, none⟩) b.length b := by
  obtain ⟨g2, cap2, e, hg, hl, hc, hv⟩ := h
  injection e with e1 e2 e3
  injection e1 with e1
  injection e1 with e1
  subst e1
  refine C_cells hm fun j hj => ?_
  rw [he j hj]
  exact (congrArg W.cell? (show (⟨g, o, none⟩ : Addr).add j = ⟨g, o + j, none⟩ by unfold Addr.add; split <;> simp_all)).trans (hv (o + j) (by omega))
theorem u8ok_chunk {l : List Int} (h : u8ok l) (j : Nat) : u8ok (Sha.chunk l j) := fun x hx => h x (List.mem_of_mem_drop (List.mem_of_mem_take hx))
theorem u8ok_full {l : List Int} (h : u8ok l) : u8ok (Sha.full l) := fun x hx => by
  simp only [Sha.full, Sha.fillTo, List.mem_append, List.mem_cons, List.mem_replicate] at hx
  rcases hx with (hx | rfl | ⟨_, rfl⟩) | hx
  · exact h x hx
  · omega
  · omega
  · simp only [Sha.be8, List.mem_cons, List.not_mem_nil, or_false] at hx
    omega
theorem cell_keep_at {W W' : World} {g q : Nat} {v : Value} (h : W.cell? ((⟨g, 0, none⟩ : Addr).add q) = some v) (hk : g < W.heap.size → W'.heap[g]? = W.heap[g]?) : W'.cell? ((⟨g, 0, none⟩ : Addr).add q) = some v := by
  rw [add_plain] at h ⊢
  exact (World.cell?_of_block (hk (cell_lt (a := ⟨g, q, none⟩) (by rw [h]; rfl)))).trans h
theorem opWp_append_rowB {P : Program} {W : World} {B : Nat} {w0 : World} {o : Oper} {ac : Act} {K : Act → World → Prop} {Q : Exit → Act → World → Prop} (s x : Operand) (t e : TypeId) (ho : o.op = .call { callee := .builtin .append, args := #[s, x], argTypes := #[t, t] })
    (h1 : P.underlying t = some (.slice e)) (hi : (P.info? e).map (fun i => (i.zero, i.size, i.bytes)) = some (some (.int .u8 0), 1, 1))
    {v : Value} {l : List Int} (r : List Int) (hs : ac.eval s = v) (hv : rowB W B v l) (hb : Below B w0 W) (hB : B ≤ W.heap.size) (ad : Addr) (m c : Nat) (hx : ac.eval x = .slice (some ad) m c) (hm : m = r.length) (hc : ∀ j, j < r.length → W.cell? (ad.add j) = some (.int .u8 (r.getD j 0))) (hfit : l.length + r.length ≤ 140737488355328) (lr : List Int) (hlr : lr = l ++ r)
    (h : ∀ v' w', Aside0 (rowB w' B v' lr) → Aside0 (Below B w0 w') → Aside0 (B ≤ w'.heap.size) → K (ac.put o.dst v') w') : o.wp P ac W K Q := by
  subst hlr
  obtain ⟨i, h2, h3⟩ := Option.map_eq_some_iff.1 hi
  simp only [Prod.mk.injEq] at h3
  obtain ⟨v', w', hr, q1, q2, q3⟩ := run_append_rowB (P := P) t o.type e i h1 h2 h3.1 h3.2.1 h3.2.2 hv hb hB ad m c hm hc hfit
  unfold Oper.wp execOp
  simp only [ho, resolve, invoke, builtin, Sem.run_bind, Sem.run_pure, Result.andThen_ok, List.map_toArray, List.map_cons, List.map_nil, hs, hx, hr]
  exact h v' w' ⟨q1⟩ ⟨q2⟩ ⟨q3⟩
def shash_T18 : Bool × List (List Nat × List Nat) := (true, [([], []), ([], []), ([], []), ([1, 2], [1, 2]), ([3], [3]), ([4], [4]), ([5], [5]), ([], []), ([], []), ([7, 8], [7, 8]), ([9], [9]), ([10], [10]), ([11], [11]), ([], []), ([], []), ([13, 14], [13, 14]), ([15], [15]), ([16], [16]), ([17], [17]), ([], []), ([], []), ([19, 20], [19, 20]), ([21], [21]), ([22], [22]), ([6, 12, 18, 23], [6, 12, 18, 23]), ([0, 24], [0, 24]), ([25, 25, 0, 1, 2, 3, 4, 5, 6, 7, 8, 9, 10, 11, 12, 13, 14, 15, 16, 17, 18, 19, 20, 21, 22, 23, 24, 25], [0, 25])])
def shash_B18 : List Nat := [0, 0, 0, 6, 14, 30, 62, 0, 0, 384, 896, 1920, 3968, 0, 0, 24576, 57344, 122880, 253952, 0, 0, 1572864, 3670016, 7864320, 16777214, 33554431, 67108863]
theorem shash_tab18 : rtab .any (opsOf Try.f68 18) = shash_T18 := by kernel_rfl
theorem shash_bits18 : waitsOk shash_T18.2 shash_B18 = true := by kernel_rfl
theorem full_mod (l : List Int) : (Sha.full l).length % 64 = 0 := by simp [Sha.full, Sha.fillTo, Sha.be8]; omega
theorem below_of_lit (w wr : World) (o : Obj) (h : Below (w.heap.size + 1) (w.alloc o) wr) : Below w.heap.size w wr := by
  exact (below_alloc (Below.refl w.heap.size w) o).trans (h.mono (Nat.le_succ _))
theorem rowB_form' {W : World} {B g n c : Nat} {l : List Int} (h : rowB W B (.slice (some ⟨g, 0, none⟩) n c) l) : n ≤ c := by
  obtain ⟨g, cap, e, _, hl, _⟩ := h
  injection e with e1 e2 e3
  omega
theorem rowB_same {W W' : World} {B : Nat} {v : Value} {l : List Int} (h : rowB W B v l) (hk : ∀ k, B ≤ k → k < W.heap.size → W'.heap[k]? = W.heap[k]?) : rowB W' B v l := by
  obtain ⟨g, cap, e, hg, hl, hc, hv⟩ := h
  refine ⟨g, cap, e, hg, hl, fun j hj => ?_, fun j hj => ?_⟩
  · have hlt := cell_lt (hc j hj).1
    have hb := hk g hg hlt
    have h1 : W'.cell? ⟨g, j, none⟩ = W.cell? ⟨g, j, none⟩ := World.cell?_of_block hb
    have h2 : W'.frozen? ⟨g, j, none⟩ = W.frozen? ⟨g, j, none⟩ := by simp only [World.frozen?, hb]
    exact ⟨by rw [h1]; exact (hc j hj).1, by rw [h2]; exact (hc j hj).2⟩
  · have hlt : g < W.heap.size := cell_lt (a := ⟨g, j, none⟩) (hc j (by omega)).1
    have h1 : W'.cell? ⟨g, j, none⟩ = W.cell? ⟨g, j, none⟩ := World.cell?_of_block (hk g hg hlt)
    rw [h1]; exact hv j hj
theorem consts_world (w wr : World) (o : Obj) (h : Below (w.heap.size + 1) (w.alloc o) wr) (hs : w.heap.size + 1 ≤ wr.heap.size) : wr.heap[w.heap.size]? = some o := by
  exact (h.block w.heap.size (by omega)).trans (blk_new w o)
set_option maxHeartbeats 8000000 in
set_option maxRecDepth 100000 in
theorem spec_l03Hash_in (A0 : Option Addr) (c0 : Nat) (l0 : List Int) (w0 : World) (hr0 : Kd.C (Kd.int .u8) w0 A0 l0.length l0) (hc0 : l0.length ≤ c0) (hu : u8ok l0) (hl : l0.length ≤ 1099511627776) :
    Calls Try.prog 68 #[.slice A0 l0.length c0] w0 fun e w' => e = .returned (.string (strOfNums (Sha.shaL l0))) ∧ Below w0.heap.size w0 w' := by
  have HR0 := Aside0.mk hr0
  have HC0 := Aside0.mk hc0
  have HU := Aside0.mk hu
  have HSZ := Aside0.mk hl
  obtain ⟨L1, hL1⟩ : ∃ L, L = l0 ++ [128] := ⟨_, rfl⟩
  have HL1 := Aside0.mk hL1
  clear hr0 hc0 hu hl hL1
  go_enter Try.func68, Try.ntmps68
  go_wp2_with (first
    | ((with_reducible refine gate_dst (N := 13) rfl ?_); refine wpList_append_rowB_C (by rfl) (.tmp 11) (.tmp 12) 22 5 (by rfl) Try.underlying22 info5 l0 (l := []) (w0 := w0.alloc (Obj.cells (nums .u32 Sha.H0.l).toArray 90 (0, 0))) (B := w0.heap.size + 1) (by rfl) (rowB_empty _ _ _ _ (by simp) rfl) (below_lit w0 _ _) (by simp) A0 _ _ (by rfl) (Kd.C_alloc (Kd.C_alloc HR0.out _) _) (by have := HSZ.out; simp; omega) l0 (by simp) ?_; intro v2 w2 H1 H2 H3; obtain ⟨g1, c1, rfl, hc1⟩ := rowB_form H1.out)
    | ((with_reducible refine gate_dst (N := 15) rfl ?_); refine wpList_append_rowB (by rfl) (.tmp 13) (.tmp 14) 22 5 (by rfl) Try.underlying22 info5 [128] (by rfl) (rowB_below H1.out (below_alloc (Below.refl _ _) _)) (H2.out.alloc H3.out _) (by have := H3.out; simp; omega) ⟨w2.heap.size, 0, none⟩ 1 1 (by rfl) rfl (cell_lit1 _ _ _ _) (by have := HSZ.out; simp; omega) L1 HL1.out ?_; intro v3 w3 K1 K2 K3; obtain ⟨g2, c2, rfl, hc2⟩ := rowB_form K1.out))
  go_loopw [4] (fun v wr => ∃ (lr : List Int) (z g c : Nat), v = .slice (some ⟨g, 0, none⟩) lr.length c ∧ z ≤ (119 - l0.length % 64) % 64 ∧ Aside0 (lr = l0 ++ 128 :: List.replicate z 0) ∧ Aside0 (rowB wr (w0.heap.size + 1) (.slice (some ⟨g, 0, none⟩) lr.length c) lr) ∧ Aside0 (Below (w0.heap.size + 1) (w0.alloc (Obj.cells (nums .u32 Sha.H0.l).toArray 90 (0, 0))) wr) ∧ Aside0 (w0.heap.size + 1 ≤ wr.heap.size))
    (fun v _ => l0.length + 200 - sliceLen v)
  case atStart => exact ⟨L1, 0, g2, c2, rfl, by omega, ⟨HL1.out⟩, K1, K2, K3⟩
  case round =>
    clear K1 K2 K3 H1 H2 H3 HL1
    obtain ⟨lr, z, g, c, rfl, hz, HLR, H1, H2, H3⟩ := hrel
    have hlen : lr.length = l0.length + 1 + z := by rw [HLR.out]; simp; omega
    have hsz2 : l0.length ≤ 1099511627776 := HSZ.out
    have l00 : (0 : Int) ≤ (lr.length : Int) := Int.natCast_nonneg _
    have l01 : (lr.length : Int) ≤ 1099511629000 := by omega
    by_cases hlt : z < (119 - l0.length % 64) % 64
    · have hd : ((lr.length : Int) % 64 != 56) = true := by rw [bne_iff_ne]; omega
      obtain ⟨lr2, hlr2⟩ : ∃ L, L = lr ++ [0] := ⟨_, rfl⟩
      have HLR2 : Aside0 (lr2 = l0 ++ 128 :: List.replicate (z + 1) 0) := ⟨by rw [hlr2, HLR.out, List.replicate_succ']; simp⟩
      have HE := Aside0.mk hlr2
      have hlen2 : lr2.length = lr.length + 1 := by rw [hlr2]; simp
      have HLEN := Aside0.mk hlen
      have HLEN2 := Aside0.mk hlen2
      clear hlen hlr2 hlen2 hsz2
      go_wp2_with ((with_reducible refine gate_dst (N := 22) rfl ?_); refine wpList_append_rowB (by rfl) (.tmp 20) (.tmp 21) 22 5 (by rfl) Try.underlying22 info5 [0] (by rfl) (rowB_below H1.out (below_alloc (Below.refl _ _) _)) (H2.out.alloc H3.out _) (by have := H3.out; simp; omega) ⟨wr.heap.size, 0, none⟩ 1 1 (by rfl) rfl (cell_lit1 _ _ _ _) (by have := HLEN.out; have := HSZ.out; simp; omega) lr2 HE.out ?_; intro v2 w2 K1 K2 K3; obtain ⟨g2, c2, rfl, hc2⟩ := rowB_form K1.out)
      go_roundw
      case rel => exact ⟨lr2, z + 1, g2, c2, rfl, by omega, HLR2, K1, K2, K3⟩
      case measure => simp [sliceLen]; have := HLEN.out; have := HLEN2.out; have := HSZ.out; omega
    · have hd : ((lr.length : Int) % 64 != 56) = false := by rw [bne_eq_false_iff_eq]; omega
      have HLR3 : Aside0 (lr = Sha.fillTo l0 ++ sizeTo (8 * (l0.length : Int)) 0) := ⟨by
        have ez : z = (119 - l0.length % 64) % 64 := by omega
        rw [HLR.out, Sha.fillTo, ez]
        simp [sizeTo]⟩
      have HFL : Aside0 ((Sha.fillTo l0).length = lr.length) := ⟨by rw [HLR3.out]; simp [sizeTo]⟩
      have HLEN : Aside0 (lr.length ≤ 1099511628000) := ⟨by omega⟩
      clear hlen hsz2 hlt hz l00 l01 HLR
      go_wp2
      go_loopw [4, 5] (fun v n wr => ∃ (lr : List Int) (j g c : Nat) (p : Int), v = .slice (some ⟨g, 0, none⟩) lr.length c ∧ n = .int .i64 p ∧ j ≤ 8 ∧ p = 7 - (j : Int) ∧ Aside0 (lr = Sha.fillTo l0 ++ sizeTo (8 * (l0.length : Int)) j) ∧ Aside0 (rowB wr (w0.heap.size + 1) (.slice (some ⟨g, 0, none⟩) lr.length c) lr) ∧ Aside0 (Below (w0.heap.size + 1) (w0.alloc (Obj.cells (nums .u32 Sha.H0.l).toArray 90 (0, 0))) wr) ∧ Aside0 (w0.heap.size + 1 ≤ wr.heap.size))
        (fun _ n _ => (intOf n + 1).toNat)
      case atStart => exact ⟨lr, 0, g, c, 7, rfl, rfl, by omega, rfl, HLR3, H1, H2, H3⟩
      case round =>
        clear H1 H2 H3 HLR3 hd
        obtain ⟨lr2, j, g, c, p, rfl, rfl, hj, hp, HLR, H1, H2, H3⟩ := hrel
        have HLEN2 : Aside0 (lr2.length = lr.length + j) := ⟨by rw [HLR.out, List.length_append, HFL.out]; simp [sizeTo, Sha.be8]; omega⟩
        have hsz2 : (l0.length : Int) ≤ 1099511627776 := by have := HSZ.out; omega
        by_cases hlt : j < 8
        · obtain ⟨q, hq⟩ : ∃ q : Nat, p = (q : Int) := ⟨p.toNat, by omega⟩
          subst hq
          have hqj : q = 7 - j := by omega
          have q7 : (q : Int) ≤ 7 := by omega
          have q0 : (0 : Int) ≤ (q : Int) := by omega
          have hd : decide ((q : Int) ≥ 0) = true := decide_eq_true q0
          obtain ⟨lr3, hlr3⟩ : ∃ L, L = lr2 ++ [(8 * (l0.length : Int)) / 2 ^ (8 * q) % 256] := ⟨_, rfl⟩
          have HLR3 : Aside0 (lr3 = Sha.fillTo l0 ++ sizeTo (8 * (l0.length : Int)) (j + 1)) := ⟨by
            rw [hlr3, HLR.out, sizeTo_succ _ j hlt, hqj]
            simp⟩
          have HE := Aside0.mk hlr3
          have HQ := Aside0.mk hqj
          have HP := Aside0.mk hp
          clear hlr3 hqj hp
          go_wp2_with ((with_reducible refine gate_dst (N := 37) rfl ?_); refine wpList_append_rowB (by rfl) (.tmp 27) (.tmp 36) 22 5 (by rfl) Try.underlying22 info5 [(8 * (l0.length : Int)) / 2 ^ (8 * q) % 256] (by rfl) (rowB_below H1.out (below_alloc (Below.refl _ _) _)) (H2.out.alloc H3.out _) (by have := H3.out; simp; omega) ⟨wr.heap.size, 0, none⟩ 1 1 (by rfl) rfl (cell_lit1 _ _ _ _) (by have := HLEN.out; have := HLEN2.out; have := HSZ.out; simp; omega) lr3 HE.out ?_; intro v2 w2 K1 K2 K3; obtain ⟨g2, c2, rfl, hc2⟩ := rowB_form K1.out)
          go_roundw
          case rel => exact ⟨lr3, j + 1, g2, c2, _, rfl, rfl, by omega, by have := HP.out; omega, HLR3, K1, K2, K3⟩
          case measure => simp [intOf]
        · have hj8 : j = 8 := by omega
          have hd : decide (p ≥ 0) = false := decide_eq_false (by omega)
          have HFU : Aside0 (lr2 = Sha.full l0) := ⟨by rw [HLR.out, hj8]; rfl⟩
          have HL2 : Aside0 (lr2.length ≤ 1099511628100) := ⟨by have := HLEN.out; have := HLEN2.out; omega⟩
          have HM : Aside0 (lr2.length % 64 = 0) := ⟨by rw [HFU.out]; exact full_mod l0⟩
          have HW := Aside0.mk (consts_world w0 wr _ H2.out H3.out)
          have HB0 : Aside0 (Below w0.heap.size w0 wr) := ⟨below_of_lit _ _ _ H2.out⟩
          have hc2 := rowB_form' H1.out
          clear HLR hp hlt hsz2 hj8 HLEN HLEN2 HFL
          go_wp2_with ((with_reducible refine gate_callee (f := 87) rfl ?_); refine goesL_ (some 38) rfl rfl Try.func87 (by kernel_rfl) rfl #[] rfl (by (try simp only [List.map_toArray, List.map_cons, List.map_nil]); first | done | rfl) ?_; (with_reducible refine (consts_calls _).mono ?_); rintro e w19 ⟨rfl, K1⟩; refine ⟨_, rfl, ?_⟩)
          obtain ⟨gk, hgk⟩ : ∃ n, n = wr.heap.size := ⟨_, rfl⟩
          have HGK : Aside0 (w0.heap.size + 1 ≤ gk) := ⟨by have := H3.out; omega⟩
          have HKC : Aside0 (∀ j, j < 64 → (wr.alloc (.cells (nums .u32 Sha.K).toArray 90)).cell? ((⟨gk, 0, none⟩ : Addr).add j) = some (.int .u32 (Sha.K.getD j 0))) := ⟨fun j hj => by rw [hgk]; exact K_cells wr j hj⟩
          rw [← hgk]
          clear hgk
          go_loopw [7] (fun v wq => ∃ (j p : Nat), v = .int .i64 (p : Int) ∧ p = 64 * j ∧ p ≤ lr2.length ∧ Aside0 (wq.heap[w0.heap.size]? = some (.cells (nums .u32 (Sha.fold lr2 j).l).toArray 90)) ∧ Aside0 (rowB wq (w0.heap.size + 1) (.slice (some ⟨g, 0, none⟩) lr2.length c) lr2) ∧ Aside0 (∀ j, j < 64 → wq.cell? ((⟨gk, 0, none⟩ : Addr).add j) = some (.int .u32 (Sha.K.getD j 0))) ∧ Aside0 (Below w0.heap.size w0 wq) ∧ Aside0 (w0.heap.size + 1 ≤ wq.heap.size))
            (fun v _ => lr2.length - (intOf v).toNat)
          case atStart => exact ⟨0, 0, rfl, rfl, by omega, ⟨blk_alloc HW.out _⟩, ⟨rowB_below H1.out (below_alloc (Below.refl _ _) _)⟩, HKC, ⟨HB0.out.alloc (by have := H3.out; omega) _⟩, ⟨by have := H3.out; simp; omega⟩⟩
          case round =>
            clear H1 H2 H3 HKC HW HB0
            obtain ⟨j, p2, rfl, hp2, hle, G1, G2, G3, G4, G5⟩ := hrel
            have hm2 := HM.out
            have hl2 := HL2.out
            by_cases hlt : p2 < lr2.length
            · have hn : p2 + 64 ≤ lr2.length := by omega
              have hd : decide ((p2 : Int) < (lr2.length : Int)) = true := decide_eq_true (by omega)
              have hw : wrap64 ((p2 : Int) + 64) = ((p2 + 64 : Nat) : Int) := by unfold wrap64; omega
              have HP2 := Aside0.mk hp2
              have hcap : p2 + 64 ≤ c := by omega
              have hw0 : (0 : Int) ≤ (p2 : Int) := by omega
              clear hm2 hl2 hp2
              have hchl : (Sha.chunk lr2 j).length = 64 := Sha.chunk_length lr2 j (by have := HP2.out; omega)
              have HCB : Aside0 (Kd.C (Kd.int .u8) wr (some ⟨g, p2, none⟩) (Sha.chunk lr2 j).length (Sha.chunk lr2 j)) := ⟨rowB_cut G2.out p2 _ (by omega) (by omega) (fun q hq => by rw [Sha.chunk_at lr2 j q (by have := HP2.out; omega) (by omega), HP2.out])⟩
              have HUB : Aside0 (u8ok (Sha.chunk lr2 j)) := ⟨by rw [HFU.out]; exact u8ok_chunk (u8ok_full HU.out) j⟩
              have HCL := Aside0.mk hchl
              clear hchl
              go_wp2_with fail
              refine (sblock_in (Sha.fold lr2 j) w0.heap.size ⟨g, p2, none⟩ (c - p2) (Sha.chunk lr2 j) Sha.K ⟨gk, 0, none⟩ 64 wr G1.out HCB.out HCL.out HUB.out (by omega) G3.out (by decide)).mono ?_
              rintro e wz ⟨rfl, Z1, Z2, Z3, Z4⟩
              have Z1 := Aside0.mk Z1; have Z2 := Aside0.mk Z2; have Z3 := Aside0.mk Z3; have Z4 := Aside0.mk Z4
              go_wp2
              rw [hw]
              clear hw
              go_roundw
              case rel => exact ⟨j + 1, p2 + 64, rfl, by have := HP2.out; omega, by omega, Z1, ⟨rowB_same G2.out (fun k h1 h2 => Z2.out k h2 (by omega))⟩, ⟨fun q hq => cell_keep_at (G3.out q hq) (fun h => Z2.out gk h (by have := HGK.out; omega))⟩, ⟨G4.out.trans Z3.out⟩, ⟨by have := G5.out; have := Z4.out; omega⟩⟩
              case measure => simp [intOf]; omega
            · have hd : decide ((p2 : Int) < (lr2.length : Int)) = false := decide_eq_false (by omega)
              obtain ⟨U, hU⟩ : ∃ U, U = Sha.fold lr2 j := ⟨_, rfl⟩
              have HUU : Aside0 (U = Sha.fold (Sha.full l0) ((Sha.full l0).length / 64)) := ⟨by rw [hU, ← HFU.out]; congr 1; omega⟩
              rw [← hU] at G1
              have hd2 : decide (p2 < lr2.length) = false := decide_eq_false hlt
              clear hU hm2 hl2 hp2 hle
              go_wp2
              go_loopw [8, 9] (fun v n wq => ∃ (lr : List Int) (i g c : Nat), v = .slice (some ⟨g, 0, none⟩) lr.length c ∧ n = .int .i64 (i : Int) ∧ i ≤ 8 ∧ Aside0 (lr = Sha.outTo U i) ∧ Aside0 (rowB wq (w0.heap.size + 1) (.slice (some ⟨g, 0, none⟩) lr.length c) lr) ∧ Aside0 (wq.heap[w0.heap.size]? = some (.cells (nums .u32 U.l).toArray 90)) ∧ Aside0 (Below w0.heap.size w0 wq) ∧ Aside0 (w0.heap.size + 1 ≤ wq.heap.size))
                (fun _ n _ => 8 - (intOf n).toNat)
              case atStart => exact ⟨[], 0, wr.heap.size, 0, rfl, rfl, by omega, ⟨rfl⟩, ⟨rowB_empty _ _ _ _ G5.out rfl⟩, ⟨blk_alloc G1.out _⟩, ⟨G4.out.alloc (by have := G5.out; omega) _⟩, ⟨by have := G5.out; simp; omega⟩⟩
              case round =>
                clear G1 G2 G3 G4 G5 HM HFU hd
                obtain ⟨lo, i, go, co, rfl, rfl, hi8, L1', G2, G1, G4, G5⟩ := hrel
                by_cases hlt : i < 8
                · have i0 : (0 : Int) ≤ (i : Int) := Int.natCast_nonneg i
                  have i1 : (i : Int) < 8 := by omega
                  have hd : decide ((i : Int) < 8) = true := decide_eq_true i1
                  obtain ⟨x, hx⟩ : ∃ x, x = U.l.getD i 0 := ⟨_, rfl⟩
                  have cI : wr.cell? ⟨w0.heap.size, i, none⟩ = some (.int .u32 x) := by
                    rw [blk_cell G1.out i, hx]
                    exact nums_at? _ _ _ _ (V8l_at U i hlt)
                  obtain ⟨lr3, hlr3⟩ : ∃ L, L = lo ++ [x / 16777216 % 256, x / 65536 % 256, x / 256 % 256, x % 256] := ⟨_, rfl⟩
                  have HLR3 : Aside0 (lr3 = Sha.outTo U (i + 1)) := ⟨by rw [hlr3, L1'.out, Sha.outTo_succ U i hlt, hx]; rfl⟩
                  have HLL : Aside0 (lo.length ≤ 32) := ⟨by rw [L1'.out, Sha.outTo_length U i hi8]; omega⟩
                  have HE := Aside0.mk hlr3
                  clear hx hlr3
                  go_wp2
                  refine start_ (n := 27) (S := fun w' => w'.cell? ⟨w0.heap.size, i, none⟩ = some (.int .u32 x)) (ds := [25]) #[false, false, false, false, false, false, false, false, false, false, false, false, false, false, false, false, false, false, false, false, false, false, false, false, false, false, false] (by kernel_rfl) rfl rfl (show wr.drew.cell? ⟨w0.heap.size, i, none⟩ = some (.int .u32 x) from cI) (fun hHeld => ?_); refine with_tabW shash_tab18 shash_bits18 (fun HT_ HW_ => ?_)
                  refine pure_ (i := 0) (N := some 58) (v := ?_) (a' := ?_) #[true, false, false, false, false, false, false, false, false, false, false, false, false, false, false, false, false, false, false, false, false, false, false, false, false, false, false] rfl rfl (any_of HT_.out (by kernel_rfl)) (fun _ _ _ h => h) (Or.inl ⟨by rfl, ?_⟩) ?_ ?_
                  rotate_left
                  · intro w'
                    go_simp
                    with_reducible rfl
                  rotate_left
                  · simp only [Act.put, List.setIfInBounds_toArray, List.set_cons_zero, List.set_cons_succ, i64_w, i32_w]
                    rfl
                  refine pure_ (i := 1) (N := some 59) (v := ?_) (a' := ?_) #[true, true, false, false, false, false, false, false, false, false, false, false, false, false, false, false, false, false, false, false, false, false, false, false, false, false, false] rfl rfl (any_of HT_.out (by kernel_rfl)) (fun _ _ _ h => h) (Or.inl ⟨by rfl, ?_⟩) ?_ ?_
                  rotate_left
                  · intro w'
                    go_simp
                    with_reducible rfl
                  rotate_left
                  · simp only [Act.put, List.setIfInBounds_toArray, List.set_cons_zero, List.set_cons_succ, i64_w, i32_w]
                    rfl
                  refine pure_ (i := 2) (N := some 60) (v := ?_) (a' := ?_) #[true, true, true, false, false, false, false, false, false, false, false, false, false, false, false, false, false, false, false, false, false, false, false, false, false, false, false] rfl rfl (any_of HT_.out (by kernel_rfl)) (fun _ _ _ h => h) (Or.inl ⟨by rfl, ?_⟩) ?_ ?_
                  rotate_left
                  · intro w'
                    go_simp
                    with_reducible rfl
                  rotate_left
                  · simp only [Act.put, List.setIfInBounds_toArray, List.set_cons_zero, List.set_cons_succ, i64_w, i32_w]
                    rfl
                  refine pure_ (i := 3) (N := some 61) (v := ?_) (a' := ?_) #[true, true, true, true, false, false, false, false, false, false, false, false, false, false, false, false, false, false, false, false, false, false, false, false, false, false, false] rfl rfl (any_of HT_.out (by kernel_rfl)) (fun _ _ _ h => h) (Or.inl ⟨by rfl, ?_⟩) ?_ ?_
                  rotate_left
                  · intro w'
                    go_simp
                    with_reducible rfl
                  rotate_left
                  · simp only [Act.put, List.setIfInBounds_toArray, List.set_cons_zero, List.set_cons_succ, i64_w, i32_w]
                    rfl
                  refine pure_ (i := 7) (N := some 65) (v := ?_) (a' := ?_) #[true, true, true, true, false, false, false, true, false, false, false, false, false, false, false, false, false, false, false, false, false, false, false, false, false, false, false] rfl rfl (any_of HT_.out (by kernel_rfl)) (fun _ _ _ h => h) (Or.inl ⟨by rfl, ?_⟩) ?_ ?_
                  rotate_left
                  · intro w'
                    go_simp
                    with_reducible rfl
                  rotate_left
                  · simp only [Act.put, List.setIfInBounds_toArray, List.set_cons_zero, List.set_cons_succ, i64_w, i32_w]
                    rfl
                  refine pure_ (i := 8) (N := some 66) (v := ?_) (a' := ?_) #[true, true, true, true, false, false, false, true, true, false, false, false, false, false, false, false, false, false, false, false, false, false, false, false, false, false, false] rfl rfl (any_of HT_.out (by kernel_rfl)) (fun _ _ _ h => h) (Or.inl ⟨by rfl, ?_⟩) ?_ ?_
                  rotate_left
                  · intro w'
                    go_simp
                    with_reducible rfl
                  rotate_left
                  · simp only [Act.put, List.setIfInBounds_toArray, List.set_cons_zero, List.set_cons_succ, i64_w, i32_w]
                    rfl
                  refine pure_ (i := 9) (N := some 67) (v := ?_) (a' := ?_) #[true, true, true, true, false, false, false, true, true, true, false, false, false, false, false, false, false, false, false, false, false, false, false, false, false, false, false] rfl rfl (any_of HT_.out (by kernel_rfl)) (fun _ _ _ h => h) (Or.inl ⟨by rfl, ?_⟩) ?_ ?_
                  rotate_left
                  · intro w'
                    go_simp
                    with_reducible rfl
                  rotate_left
                  · simp only [Act.put, List.setIfInBounds_toArray, List.set_cons_zero, List.set_cons_succ, i64_w, i32_w]
                    rfl
                  refine pure_ (i := 13) (N := some 71) (v := ?_) (a' := ?_) #[true, true, true, true, false, false, false, true, true, true, false, false, false, true, false, false, false, false, false, false, false, false, false, false, false, false, false] rfl rfl (any_of HT_.out (by kernel_rfl)) (fun _ _ _ h => h) (Or.inl ⟨by rfl, ?_⟩) ?_ ?_
                  rotate_left
                  · intro w'
                    go_simp
                    with_reducible rfl
                  rotate_left
                  · simp only [Act.put, List.setIfInBounds_toArray, List.set_cons_zero, List.set_cons_succ, i64_w, i32_w]
                    rfl
                  refine pure_ (i := 14) (N := some 72) (v := ?_) (a' := ?_) #[true, true, true, true, false, false, false, true, true, true, false, false, false, true, true, false, false, false, false, false, false, false, false, false, false, false, false] rfl rfl (any_of HT_.out (by kernel_rfl)) (fun _ _ _ h => h) (Or.inl ⟨by rfl, ?_⟩) ?_ ?_
                  rotate_left
                  · intro w'
                    go_simp
                    with_reducible rfl
                  rotate_left
                  · simp only [Act.put, List.setIfInBounds_toArray, List.set_cons_zero, List.set_cons_succ, i64_w, i32_w]
                    rfl
                  refine pure_ (i := 15) (N := some 73) (v := ?_) (a' := ?_) #[true, true, true, true, false, false, false, true, true, true, false, false, false, true, true, true, false, false, false, false, false, false, false, false, false, false, false] rfl rfl (any_of HT_.out (by kernel_rfl)) (fun _ _ _ h => h) (Or.inl ⟨by rfl, ?_⟩) ?_ ?_
                  rotate_left
                  · intro w'
                    go_simp
                    with_reducible rfl
                  rotate_left
                  · simp only [Act.put, List.setIfInBounds_toArray, List.set_cons_zero, List.set_cons_succ, i64_w, i32_w]
                    rfl
                  refine pure_ (i := 19) (N := some 77) (v := ?_) (a' := ?_) #[true, true, true, true, false, false, false, true, true, true, false, false, false, true, true, true, false, false, false, true, false, false, false, false, false, false, false] rfl rfl (any_of HT_.out (by kernel_rfl)) (fun _ _ _ h => h) (Or.inl ⟨by rfl, ?_⟩) ?_ ?_
                  rotate_left
                  · intro w'
                    go_simp
                    with_reducible rfl
                  rotate_left
                  · simp only [Act.put, List.setIfInBounds_toArray, List.set_cons_zero, List.set_cons_succ, i64_w, i32_w]
                    rfl
                  refine pure_ (i := 20) (N := some 78) (v := ?_) (a' := ?_) #[true, true, true, true, false, false, false, true, true, true, false, false, false, true, true, true, false, false, false, true, true, false, false, false, false, false, false] rfl rfl (any_of HT_.out (by kernel_rfl)) (fun _ _ _ h => h) (Or.inl ⟨by rfl, ?_⟩) ?_ ?_
                  rotate_left
                  · intro w'
                    go_simp
                    with_reducible rfl
                  rotate_left
                  · simp only [Act.put, List.setIfInBounds_toArray, List.set_cons_zero, List.set_cons_succ, i64_w, i32_w]
                    rfl
                  refine pure_ (i := 21) (N := some 79) (v := ?_) (a' := ?_) #[true, true, true, true, false, false, false, true, true, true, false, false, false, true, true, true, false, false, false, true, true, true, false, false, false, false, false] rfl rfl (any_of HT_.out (by kernel_rfl)) (fun _ _ _ h => h) (Or.inl ⟨by rfl, ?_⟩) ?_ ?_
                  rotate_left
                  · intro w'
                    go_simp
                    with_reducible rfl
                  rotate_left
                  · simp only [Act.put, List.setIfInBounds_toArray, List.set_cons_zero, List.set_cons_succ, i64_w, i32_w]
                    rfl
                  refine take_ (i := 4) (N := some 62) (v := ?_) (a' := ?_) #[true, true, true, true, true, false, false, true, true, true, false, false, false, true, true, true, false, false, false, true, true, true, false, false, false, false, false] rfl rfl (take_ofW HT_.out HW_.out (by kernel_rfl)) (fun _ _ _ h => h) (Or.inl ⟨by rfl, ?_⟩) hHeld ?_ ?_
                  rotate_left
                  · rintro w' s0
                    go_simp
                    with_reducible rfl
                  rotate_left
                  · simp only [Act.put, List.setIfInBounds_toArray, List.set_cons_zero, List.set_cons_succ, i64_w, i32_w]
                    rfl
                  refine pure_ (i := 5) (N := some 63) (v := ?_) (a' := ?_) #[true, true, true, true, true, true, false, true, true, true, false, false, false, true, true, true, false, false, false, true, true, true, false, false, false, false, false] rfl rfl (any_of HT_.out (by kernel_rfl)) (fun _ _ _ h => h) (Or.inl ⟨by rfl, ?_⟩) ?_ ?_
                  rotate_left
                  · intro w'
                    go_simp
                    with_reducible rfl
                  rotate_left
                  · simp only [Act.put, List.setIfInBounds_toArray, List.set_cons_zero, List.set_cons_succ, i64_w, i32_w]
                    rfl
                  refine pure_ (i := 6) (N := some 64) (v := ?_) (a' := ?_) #[true, true, true, true, true, true, true, true, true, true, false, false, false, true, true, true, false, false, false, true, true, true, false, false, false, false, false] rfl rfl (any_of HT_.out (by kernel_rfl)) (fun _ _ _ h => h) (Or.inl ⟨by rfl, ?_⟩) ?_ ?_
                  rotate_left
                  · intro w'
                    go_simp
                    with_reducible rfl
                  rotate_left
                  · simp only [Act.put, List.setIfInBounds_toArray, List.set_cons_zero, List.set_cons_succ, i64_w, i32_w]
                    rfl
                  refine take_ (i := 10) (N := some 68) (v := ?_) (a' := ?_) #[true, true, true, true, true, true, true, true, true, true, true, false, false, true, true, true, false, false, false, true, true, true, false, false, false, false, false] rfl rfl (take_ofW HT_.out HW_.out (by kernel_rfl)) (fun _ _ _ h => h) (Or.inl ⟨by rfl, ?_⟩) hHeld ?_ ?_
                  rotate_left
                  · rintro w' s0
                    go_simp
                    with_reducible rfl
                  rotate_left
                  · simp only [Act.put, List.setIfInBounds_toArray, List.set_cons_zero, List.set_cons_succ, i64_w, i32_w]
                    rfl
                  refine pure_ (i := 11) (N := some 69) (v := ?_) (a' := ?_) #[true, true, true, true, true, true, true, true, true, true, true, true, false, true, true, true, false, false, false, true, true, true, false, false, false, false, false] rfl rfl (any_of HT_.out (by kernel_rfl)) (fun _ _ _ h => h) (Or.inl ⟨by rfl, ?_⟩) ?_ ?_
                  rotate_left
                  · intro w'
                    go_simp
                    with_reducible rfl
                  rotate_left
                  · simp only [Act.put, List.setIfInBounds_toArray, List.set_cons_zero, List.set_cons_succ, i64_w, i32_w]
                    rfl
                  refine pure_ (i := 12) (N := some 70) (v := ?_) (a' := ?_) #[true, true, true, true, true, true, true, true, true, true, true, true, true, true, true, true, false, false, false, true, true, true, false, false, false, false, false] rfl rfl (any_of HT_.out (by kernel_rfl)) (fun _ _ _ h => h) (Or.inl ⟨by rfl, ?_⟩) ?_ ?_
                  rotate_left
                  · intro w'
                    go_simp
                    with_reducible rfl
                  rotate_left
                  · simp only [Act.put, List.setIfInBounds_toArray, List.set_cons_zero, List.set_cons_succ, i64_w, i32_w]
                    rfl
                  refine take_ (i := 16) (N := some 74) (v := ?_) (a' := ?_) #[true, true, true, true, true, true, true, true, true, true, true, true, true, true, true, true, true, false, false, true, true, true, false, false, false, false, false] rfl rfl (take_ofW HT_.out HW_.out (by kernel_rfl)) (fun _ _ _ h => h) (Or.inl ⟨by rfl, ?_⟩) hHeld ?_ ?_
                  rotate_left
                  · rintro w' s0
                    go_simp
                    with_reducible rfl
                  rotate_left
                  · simp only [Act.put, List.setIfInBounds_toArray, List.set_cons_zero, List.set_cons_succ, i64_w, i32_w]
                    rfl
                  refine pure_ (i := 17) (N := some 75) (v := ?_) (a' := ?_) #[true, true, true, true, true, true, true, true, true, true, true, true, true, true, true, true, true, true, false, true, true, true, false, false, false, false, false] rfl rfl (any_of HT_.out (by kernel_rfl)) (fun _ _ _ h => h) (Or.inl ⟨by rfl, ?_⟩) ?_ ?_
                  rotate_left
                  · intro w'
                    go_simp
                    with_reducible rfl
                  rotate_left
                  · simp only [Act.put, List.setIfInBounds_toArray, List.set_cons_zero, List.set_cons_succ, i64_w, i32_w]
                    rfl
                  refine pure_ (i := 18) (N := some 76) (v := ?_) (a' := ?_) #[true, true, true, true, true, true, true, true, true, true, true, true, true, true, true, true, true, true, true, true, true, true, false, false, false, false, false] rfl rfl (any_of HT_.out (by kernel_rfl)) (fun _ _ _ h => h) (Or.inl ⟨by rfl, ?_⟩) ?_ ?_
                  rotate_left
                  · intro w'
                    go_simp
                    with_reducible rfl
                  rotate_left
                  · simp only [Act.put, List.setIfInBounds_toArray, List.set_cons_zero, List.set_cons_succ, i64_w, i32_w]
                    rfl
                  refine take_ (i := 22) (N := some 80) (v := ?_) (a' := ?_) #[true, true, true, true, true, true, true, true, true, true, true, true, true, true, true, true, true, true, true, true, true, true, true, false, false, false, false] rfl rfl (take_ofW HT_.out HW_.out (by kernel_rfl)) (fun _ _ _ h => h) (Or.inl ⟨by rfl, ?_⟩) hHeld ?_ ?_
                  rotate_left
                  · rintro w' s0
                    go_simp
                    with_reducible rfl
                  rotate_left
                  · simp only [Act.put, List.setIfInBounds_toArray, List.set_cons_zero, List.set_cons_succ, i64_w, i32_w]
                    rfl
                  refine pure_ (i := 23) (N := some 81) (v := ?_) (a' := ?_) #[true, true, true, true, true, true, true, true, true, true, true, true, true, true, true, true, true, true, true, true, true, true, true, true, false, false, false] rfl rfl (any_of HT_.out (by kernel_rfl)) (fun _ _ _ h => h) (Or.inl ⟨by rfl, ?_⟩) ?_ ?_
                  rotate_left
                  · intro w'
                    go_simp
                    with_reducible rfl
                  rotate_left
                  · simp only [Act.put, List.setIfInBounds_toArray, List.set_cons_zero, List.set_cons_succ, i64_w, i32_w]
                    rfl
                  refine one_ (i := 24) (N := some 82) #[true, true, true, true, true, true, true, true, true, true, true, true, true, true, true, true, true, true, true, true, true, true, true, true, true, false, false] rfl rfl (one_of HT_.out (by kernel_rfl)) (by decide) (fun K hK => ?_)
                  go_simp
                  refine hK.out _ _ (cell_alloc_keep hHeld _) (fun hHeld => ?_)
                  clear hK K
                  refine last_ (i := 25) (N := some 83) #[true, true, true, true, true, true, true, true, true, true, true, true, true, true, true, true, true, true, true, true, true, true, true, true, true, true, false] rfl rfl (one_of HT_.out (by kernel_rfl)) (by decide) (fun K hK => ?_)
                  refine opWp_append_rowB (.tmp 58) (.tmp 82) 22 5 (by rfl) Try.underlying22 info5 [x / 16777216 % 256, x / 65536 % 256, x / 256 % 256, x % 256] (by rfl) (rowB_below G2.out ((Below.refl wr.heap.size wr).drew.alloc (Nat.le_refl _) _)) (w0 := wr) ((Below.refl (w0.heap.size + 1) wr).drew.alloc G5.out _) (by have := G5.out; show w0.heap.size + 1 ≤ (wr.alloc _).heap.size; simp; omega) ⟨wr.heap.size, 0, none⟩ 4 4 (by rfl) rfl (cell_lit4 wr.drew _ _ _ _ _ _) (by have := HLL.out; simp; omega) lr3 HE.out ?_
                  intro v2 w2 K1 K2 K3
                  obtain ⟨g2, c2, rfl, hc2⟩ := rowB_form K1.out
                  refine hK.out _ _ ?_
                  clear hK K
                  refine norm_ (a' := ?_) ?_ ?_
                  rotate_left
                  · show Act.put _ (some 83) _ = _
                    simp only [Act.put, List.setIfInBounds_toArray, List.set_cons_zero, List.set_cons_succ, i64_w, i32_w]
                    rfl
                  refine pure_ (i := 26) (N := some 8) (v := ?_) (a' := ?_) #[true, true, true, true, true, true, true, true, true, true, true, true, true, true, true, true, true, true, true, true, true, true, true, true, true, true, true] rfl rfl (any_of HT_.out (by kernel_rfl)) (fun _ _ _ h => h) (Or.inl ⟨by rfl, ?_⟩) ?_ ?_
                  rotate_left
                  · intro w'
                    go_simp
                    with_reducible rfl
                  rotate_left
                  · simp only [Act.put, List.setIfInBounds_toArray, List.set_cons_zero, List.set_cons_succ, i64_w, i32_w]
                    rfl
                  refine done_ (done_of HT_.out (by kernel_rfl)) ?_
                  go_wp2
                  go_roundw
                  case rel => exact ⟨lr3, i + 1, g2, c2, rfl, by go_num, by omega, HLR3, K1, ⟨(K2.out.block w0.heap.size (by omega)).trans G1.out⟩, ⟨G4.out.trans (K2.out.mono (by omega))⟩, K3⟩
                  case measure => simp [intOf]; omega
                · have hd : decide ((i : Int) < 8) = false := decide_eq_false (by omega)
                  have HFI : Aside0 (lo = Sha.shaL l0) := ⟨by rw [L1'.out, show i = 8 from by omega, HUU.out]; rfl⟩
                  have HLL : Aside0 (lo.length ≤ 32) := ⟨by rw [L1'.out, Sha.outTo_length U i hi8]; omega⟩
                  clear L1'
                  have ks := Kd.C_string (P := Try.prog) (dst := 9) (src := 22) (c := co) Try.underlying22 Try.underlying5 Try.underlying9 (rowB_C G2.out (by have := HLL.out; omega))
                  go_wp2
                  go_ret
                  exact ⟨congrArg (fun l => Ending.returned (.string (strOfNums l))) HFI.out, G4.out⟩
theorem spec_l03Hash.calls (A0 : Option Addr) (c0 : Nat) (l0 : List Int) (r : ByteArray) (w : World) (hr0 : Kd.C (Kd.int .u8) w A0 l0.length l0) (hc0 : l0.length ≤ c0) (h : spec_l03Hash.f l0 = some r) :
    Calls Try.prog 68 #[.slice A0 l0.length c0] w fun e w' => e = .returned (.string r) ∧ Below w.heap.size w w' := by
  unfold spec_l03Hash.f at h
  split at h
  · rename_i h1
    split at h
    · rename_i h2
      injection h with h
      subst h
      exact spec_l03Hash_in A0 c0 l0 w hr0 hc0 (u8b_ok h1) h2
    · cases h
  · cases h

-- NOT PRINTED: function 70 (spec_l03Hmac)

-- NOT PRINTED: function 72 (spec_l03Expand)

-- NOT PRINTED: function 62 (spec_l04Keys)

/-! ### spec_l02Four: function 86 -/
def spec_l02Four.f (a0 : Int) : Option (List Int) := some (([(a0 / 16777216) % 256, (a0 / 65536) % 256, (a0 / 256) % 256, (a0) % 256] : List Int))
set_option maxHeartbeats 8000000 in
set_option maxRecDepth 100000 in
theorem spec_l02Four.calls (a0 : Int) (r : List Int) (w : World) (h : spec_l02Four.f a0 = some r) :
    Calls Try.prog 86 #[.int .i64 a0] w fun e w' => ∃ v0_ : Value, e = .returned (v0_) ∧ Kd.R (Kd.int .u8) 5 w' w.heap.size (fun _ => True) v0_ r ∧ Below w.heap.size w w' := by
  have HB := Aside0.mk (Below.refl w.heap.size w)
  have H : (some (([(a0 / 16777216) % 256, (a0 / 65536) % 256, (a0 / 256) % 256, (a0) % 256] : List Int))) = some r := h
  clear h
  obtain ⟨y108, hy108⟩ : ∃ y_ : List Int, y_ = (([(a0 / 16777216) % 256, (a0 / 65536) % 256, (a0 / 256) % 256, (a0) % 256] : List Int)) := ⟨_, rfl⟩
  replace H : (some y108) = some r := by first | (rw [hy108]; with_reducible exact H) | (have H2_ := (Option.bind_some _ _).symm.trans H; rw [hy108]; with_reducible exact H2_) | (have H2_ := (Option.bind_some _ _).symm.trans H; with_reducible exact H2_) | with_reducible exact H | (rw [hy108]; exact H) | exact H
  have Ny108 := Aside0.mk hy108
  clear hy108
  obtain rfl := Option.some.inj H
  go_enter Try.func86, Try.ntmps86
  go_wp2_with (first | ((with_reducible refine gate_dst (N := 14) rfl ?_); refine Kd.R_lit (Kd.int .u8) _ 5 ?hg (N := 14) ?hd (xs := ([(a0 / 16777216) % 256, (a0 / 65536) % 256, (a0 / 256) % 256, (a0) % 256] : List Int)) (inner := [.int .u8 ((a0 / 16777216) % 256), .int .u8 ((a0 / 65536) % 256), .int .u8 ((a0 / 256) % 256), .int .u8 ((a0) % 256)]) (ok := fun _ => True) (okp := fun _ => True) ?hr ?hp (fun _ hk => hk) trivial (Below.refl _ _) (Nat.le_refl _) (by simp) ?_; (case hd => rfl); (case hg => rfl); (case hr => first | (go_simp; done) | (go_simp; rfl)); (case hp => exact (Reps.one (show Kd.M (Kd.int .u8) _ _ _ ((a0 / 16777216) % 256) [.int .u8 ((a0 / 16777216) % 256)] from rfl) (Reps.one (show Kd.M (Kd.int .u8) _ _ _ ((a0 / 65536) % 256) [.int .u8 ((a0 / 65536) % 256)] from rfl) (Reps.one (show Kd.M (Kd.int .u8) _ _ _ ((a0 / 256) % 256) [.int .u8 ((a0 / 256) % 256)] from rfl) (Reps.one (show Kd.M (Kd.int .u8) _ _ _ ((a0) % 256) [.int .u8 ((a0) % 256)] from rfl) (Reps.none _ _)))))); intro v109 w2 ho3 hb hg_ hnew_; clear hg_ hnew_; (first | rw [← Ny108.out] at ho3 | (simp only [Int.reduceToNat] at ho3; rw [← Ny108.out] at ho3)); have n0_ := Aside0.mk (Kd.R_lower ho3 (below_size (by repeat (first | (with_reducible first | exact HB.out | apply below_alloc | apply pw_below_drewN | apply below_drew1) | exact HB.out)))); have n1_ := Aside0.mk (below_step (by repeat (first | (with_reducible first | exact HB.out | apply below_alloc | apply pw_below_drewN | apply below_drew1) | exact HB.out)) hb); clear HB; have HO110 := n0_; have HB := n1_; clear n0_ n1_; clear hb ho3))
  go_ret
  exact ⟨_, by first | rfl | (simp [errW_none, errW_some] <;> rfl) | (simp [*, errW_none, errW_some] <;> rfl), by (with_reducible repeat (first | apply Kd.R_alloc | apply Kd.R_drewN | apply Kd.R_drew)); exact HO110.out, by repeat (first | (with_reducible first | exact HB.out | apply below_alloc | apply pw_below_drewN | apply below_drew1) | exact HB.out)⟩

/-! ### spec_l01Double: function 106 -/
def spec_l01Double.f (a0 : Int) : Option (Int) := if (wrap64 (a0 * 2)) > 255 then (some (Go.bits .xor .i64 (wrap64 (a0 * 2)) 283)) else (some (wrap64 (a0 * 2)))
set_option maxHeartbeats 8000000 in
set_option maxRecDepth 100000 in
theorem spec_l01Double.calls (a0 : Int) (r : Int) (w : World) (h : spec_l01Double.f a0 = some r) :
    Calls Try.prog 106 #[.int .i64 a0] w fun e w' => e = .returned (.int .i64 r) ∧ Drawn0 w w' := by
  have H : (if (wrap64 (a0 * 2)) > 255 then (some (Go.bits .xor .i64 (wrap64 (a0 * 2)) 283)) else (some (wrap64 (a0 * 2)))) = some r := h
  clear h
  by_cases c2 : (wrap64 (a0 * 2)) > 255
  · rw [if_pos c2] at H
    have c2b0 : decide (255 < (wrap64 (a0 * 2))) = true := decide_eq_true c2
    clear c2
    obtain rfl := Option.some.inj H
    go_enter Try.func106, Try.ntmps106
    go_wp2
    go_ret
    exact ⟨by first | rfl | (simp; done) | (simp [*]; done), by repeat (first | exact Drawn0.refl _ | apply Drawn0.step)⟩
  · rw [if_neg c2] at H
    have c2b0 : decide (255 < (wrap64 (a0 * 2))) = false := decide_eq_false c2
    clear c2
    obtain rfl := Option.some.inj H
    go_enter Try.func106, Try.ntmps106
    go_wp2
    go_ret
    exact ⟨by first | rfl | (simp; done) | (simp [*]; done), by repeat (first | exact Drawn0.refl _ | apply Drawn0.step)⟩

/-! ### spec_l01Affine: function 107 -/
def spec_l01Affine.l0 : Nat → Int → Int → Int → Option (Int)
  | 0, _, _, _ => none
  | k + 1, x0, x3, x4 => if x4 < 4 then (spec_l01Affine.l0 k (wrap64 ((Int.tmod (wrap64 (x0 * 2)) 256) + (wrap64 (Int.tdiv x0 128)))) (Go.bits .xor .i64 x3 (wrap64 ((Int.tmod (wrap64 (x0 * 2)) 256) + (wrap64 (Int.tdiv x0 128))))) (wrap64 (x4 + 1))) else (some x3)
def spec_l01Affine.f (k : Nat) (a0 : Int) : Option (Int) := spec_l01Affine.l0 k a0 (Go.bits .xor .i64 a0 99) 0
theorem spec_l01Affine.mono_l : ∀ k, (∀ y0 y1 y2, LeO (spec_l01Affine.l0 k y0 y1 y2) (spec_l01Affine.l0 (k + 1) y0 y1 y2))
  | 0 => fun _ _ _ r h => by simp [spec_l01Affine.l0] at h
  | k + 1 => by
    have ih0 := spec_l01Affine.mono_l k
    · intro y0 y1 y2
      unfold spec_l01Affine.l0
      repeat' first
      | (with_reducible exact ih0 _ _ _)
      | (with_reducible exact LeO.refl _)
      | (with_reducible exact LeO.none _)
      | (with_reducible refine LeO.ite ?_ ?_)
      | (with_reducible refine LeO.bind ?_ (fun _ => ?_))
      | exact ih0 _ _ _
      | exact LeO.none _
      | refine LeO.ite ?_ ?_
      | refine LeO.bind ?_ (fun _ => ?_)
theorem spec_l01Affine.mono : ∀ a0 k, LeO (spec_l01Affine.f k a0) (spec_l01Affine.f (k + 1) a0) := by
  intro a0 k
  have ih0 := spec_l01Affine.mono_l k
  unfold spec_l01Affine.f
  repeat' first
      | (with_reducible exact ih0 _ _ _)
      | (with_reducible exact LeO.refl _)
      | (with_reducible exact LeO.none _)
      | (with_reducible refine LeO.ite ?_ ?_)
      | (with_reducible refine LeO.bind ?_ (fun _ => ?_))
      | exact ih0 _ _ _
      | exact LeO.none _
      | refine LeO.ite ?_ ?_
      | refine LeO.bind ?_ (fun _ => ?_)
set_option maxHeartbeats 8000000 in
set_option maxRecDepth 100000 in
theorem spec_l01Affine.calls (k : Nat) (a0 : Int) (r : Int) (w : World) (h : spec_l01Affine.f k a0 = some r) :
    Calls Try.prog 107 #[.int .i64 a0] w fun e w' => e = .returned (.int .i64 r) ∧ Drawn0 w w' := by
  have H : (spec_l01Affine.l0 k a0 (Go.bits .xor .i64 a0 99) 0) = some r := h
  clear h
  have H' := Aside0.mk H
  clear H
  go_enter Try.func107, Try.ntmps107
  go_wp2
  go_loopg [0, 3, 4] k (fun kq v0 v3 v4 w' => ∃ (x0_1 : Int) (x3_1 : Int) (x4_1 : Int), v0 = .int .i64 x0_1 ∧ v3 = .int .i64 x3_1 ∧ v4 = .int .i64 x4_1 ∧ Aside0 (spec_l01Affine.l0 kq x0_1 x3_1 x4_1 = some r) ∧ Aside0 (kq ≤ k) ∧ Drawn0 w w')
  case atStart => exact ⟨(a0), (Go.bits .xor .i64 a0 99), (0), (by first | rfl | (simp; done) | (simp [*]; done)), (by first | rfl | (simp; done) | (simp [*]; done)), (by first | rfl | (simp; done) | (simp [*]; done)), H', ⟨Nat.le_refl _⟩, by repeat (first | exact Drawn0.refl _ | apply Drawn0.step)⟩
  case round =>
    clear H'
    try clear c1
    obtain ⟨x0_1, x3_1, x4_1, rfl, rfl, rfl, HA, HK1, ⟨m1, rfl⟩⟩ := hrel
    cases gk with
    | zero => exact absurd HA.out (by simp [spec_l01Affine.l0])
    | succ k1 =>
      have H := HA.out
      clear HA
      simp only [spec_l01Affine.l0] at H
      by_cases c2 : x4_1 < 4
      · rw [if_pos c2] at H
        have c2b0 : decide (x4_1 < 4) = true := decide_eq_true c2
        clear c2
        have H' := Aside0.mk H
        clear H
        go_wp2
        go_roundg k1
        case measure => have := HK1.out; omega
        case rel => exact ⟨(wrap64 ((Int.tmod (wrap64 (x0_1 * 2)) 256) + (wrap64 (Int.tdiv x0_1 128)))), (Go.bits .xor .i64 x3_1 (wrap64 ((Int.tmod (wrap64 (x0_1 * 2)) 256) + (wrap64 (Int.tdiv x0_1 128))))), (wrap64 (x4_1 + 1)), (by first | rfl | (simp; done) | (simp [*]; done)), (by first | rfl | (simp; done) | (simp [*]; done)), (by first | rfl | (simp; done) | (simp [*]; done)), H', ⟨by have := HK1.out; omega⟩, by repeat (first | exact Drawn0.refl _ | apply Drawn0.step)⟩
      · rw [if_neg c2] at H
        have c2b0 : decide (x4_1 < 4) = false := decide_eq_false c2
        clear c2
        obtain rfl := Option.some.inj H
        go_wp2
        go_ret
        exact ⟨by first | rfl | (simp; done) | (simp [*]; done), by repeat (first | exact Drawn0.refl _ | apply Drawn0.step)⟩

end Go.Proofs.Ytlfpogbonmddmaa.P

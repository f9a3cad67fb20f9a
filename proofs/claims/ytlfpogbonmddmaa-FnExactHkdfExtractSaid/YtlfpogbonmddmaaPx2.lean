-- Laid by a program of this session (wip/prn) over the translation: functions and their contracts. Lean checks it.
import Derived.Test.YtlfpogbonmddmaaPx0
import Derived.Test.YtlfpogbonmddmaaPx1
namespace Go.Proofs.Ytlfpogbonmddmaa.P
open Go.RowKit Go.Proofs.YtlfpogbonmddmaaW.PrintWords Go.Proofs.YtlfpogbonmddmaaW.PrintLast Go.Proofs.YtlfpogbonmddmaaW.PrintMore
attribute [local go_sem] max2_int min2_int max_two min_two max_three min_three max_four min_four   -- for this text's walks alone
set_option linter.unusedVariables false
set_option linter.unusedSimpArgs false

/-! ### spec_l03Hash: function 68 -/
-- HAND rounds=0 making=1 info=5
def spec_l03Hash.f (l0 : List Int) : Option ByteArray := if u8b l0 = true then (if l0.length ≤ 1099511627776 then some (strOfNums (Sha.shaL l0)) else none) else none
theorem consts_is : spec_l03Consts.f = some Sha.K := rfl
/-- the text so far, with its size's first bytes -/
def sizeTo (n : Int) (j : Nat) : List Int := (Sha.be8 n).take j
theorem sizeTo_succ (n : Int) (j : Nat) (hj : j < 8) : sizeTo n (j + 1) = sizeTo n j ++ [n / 2 ^ (8 * (7 - j)) % 256] := by
  match j, hj with
  | 0, _ => rfl
  | 1, _ => rfl
  | 2, _ => rfl
  | 3, _ => rfl
  | 4, _ => rfl
  | 5, _ => rfl
  | 6, _ => rfl
  | 7, _ => simp [sizeTo, Sha.be8]
theorem below_lit (w : World) (o1 o2 : Obj) : Below (w.heap.size + 1) (w.alloc o1) ((w.alloc o1).alloc o2) := by
  have h := below_alloc (Below.refl (w.alloc o1).heap.size (w.alloc o1)) o2
  have e : (w.alloc o1).heap.size = w.heap.size + 1 := by simp
  rwa [e] at h
theorem consts_calls (w : World) : Calls Try.prog 87 #[] w fun e w' => e = .returned (.slice (some ⟨w.heap.size, 0, none⟩) 64 64) ∧ w' = w.alloc (.cells (nums .u32 Sha.K).toArray 90) := by
  go_enter Try.func87, Try.ntmps87
  go_wp2
  go_ret
  exact ⟨rfl, rfl⟩
theorem K_cells (w : World) (j : Nat) (hj : j < 64) : (w.alloc (.cells (nums .u32 Sha.K).toArray 90)).cell? ((⟨w.heap.size, 0, none⟩ : Addr).add j) = some (.int .u32 (Sha.K.getD j 0)) := by
  rw [add_plain]
  refine (blk_cell (blk_new w _) _).trans ?_
  exact nums_at? _ _ _ _ (by rw [List.getD_eq_getElem?_getD, List.getElem?_eq_getElem (by rw [K_length]; exact hj)]; rfl)
theorem rowB_cut {W : World} {B g n c : Nat} {l : List Int} (h : rowB W B (.slice (some ⟨g, 0, none⟩) n c) l) (o : Nat) (b : List Int) (ho : o + b.length ≤ l.length) (hm : b.length ≤ 140737488355328) (he : ∀ j, j < b.length → b.getD j 0 = l.getD (o + j) 0) : Kd.C (Kd.int .u8) W (some ⟨g, o, none⟩) b.length b := by
  obtain ⟨g2, cap2, e, hg, hl, hc, hv⟩ := h
  injection e with e1 e2 e3
  injection e1 with e1
  injection e1 with e1
  subst e1
  refine C_cells hm fun j hj => ?_
  rw [he j hj]
  exact (congrArg W.cell? (show (⟨g, o, none⟩ : Addr).add j = ⟨g, o + j, none⟩ by unfold Addr.add; split <;> simp_all)).trans (hv (o + j) (by omega))
theorem u8ok_chunk {l : List Int} (h : u8ok l) (j : Nat) : u8ok (Sha.chunk l j) := fun x hx => h x (List.mem_of_mem_drop (List.mem_of_mem_take hx))
theorem u8ok_full {l : List Int} (h : u8ok l) : u8ok (Sha.full l) := fun x hx => by
  simp only [Sha.full, Sha.fillTo, List.mem_append, List.mem_cons, List.mem_replicate] at hx
  rcases hx with (hx | rfl | ⟨_, rfl⟩) | hx
  · exact h x hx
  · omega
  · omega
  · simp only [Sha.be8, List.mem_cons, List.not_mem_nil, or_false] at hx
    omega
theorem cell_keep_at {W W' : World} {g q : Nat} {v : Value} (h : W.cell? ((⟨g, 0, none⟩ : Addr).add q) = some v) (hk : g < W.heap.size → W'.heap[g]? = W.heap[g]?) : W'.cell? ((⟨g, 0, none⟩ : Addr).add q) = some v := by
  rw [add_plain] at h ⊢
  exact (World.cell?_of_block (hk (cell_lt (a := ⟨g, q, none⟩) (by rw [h]; rfl)))).trans h
theorem opWp_append_rowB {P : Program} {W : World} {B : Nat} {w0 : World} {o : Oper} {ac : Act} {K : Act → World → Prop} {Q : Exit → Act → World → Prop} (s x : Operand) (t e : TypeId) (ho : o.op = .call { callee := .builtin .append, args := #[s, x], argTypes := #[t, t] })
    (h1 : P.underlying t = some (.slice e)) (hi : (P.info? e).map (fun i => (i.zero, i.size, i.bytes)) = some (some (.int .u8 0), 1, 1))
    {v : Value} {l : List Int} (r : List Int) (hs : ac.eval s = v) (hv : rowB W B v l) (hb : Below B w0 W) (hB : B ≤ W.heap.size) (ad : Addr) (m c : Nat) (hx : ac.eval x = .slice (some ad) m c) (hm : m = r.length) (hc : ∀ j, j < r.length → W.cell? (ad.add j) = some (.int .u8 (r.getD j 0))) (hfit : l.length + r.length ≤ 140737488355328) (lr : List Int) (hlr : lr = l ++ r)
    (h : ∀ v' w', Aside0 (rowB w' B v' lr) → Aside0 (Below B w0 w') → Aside0 (B ≤ w'.heap.size) → K (ac.put o.dst v') w') : o.wp P ac W K Q := by
  subst hlr
  obtain ⟨i, h2, h3⟩ := Option.map_eq_some_iff.1 hi
  simp only [Prod.mk.injEq] at h3
  obtain ⟨v', w', hr, q1, q2, q3⟩ := run_append_rowB (P := P) t o.type e i h1 h2 h3.1 h3.2.1 h3.2.2 hv hb hB ad m c hm hc hfit
  unfold Oper.wp execOp
  simp only [ho, resolve, invoke, builtin, Sem.run_bind, Sem.run_pure, Result.andThen_ok, List.map_toArray, List.map_cons, List.map_nil, hs, hx, hr]
  exact h v' w' ⟨q1⟩ ⟨q2⟩ ⟨q3⟩
def shash_T18 : Bool × List (List Nat × List Nat) := (true, [([], []), ([], []), ([], []), ([1, 2], [1, 2]), ([3], [3]), ([4], [4]), ([5], [5]), ([], []), ([], []), ([7, 8], [7, 8]), ([9], [9]), ([10], [10]), ([11], [11]), ([], []), ([], []), ([13, 14], [13, 14]), ([15], [15]), ([16], [16]), ([17], [17]), ([], []), ([], []), ([19, 20], [19, 20]), ([21], [21]), ([22], [22]), ([6, 12, 18, 23], [6, 12, 18, 23]), ([0, 24], [0, 24]), ([25, 25, 0, 1, 2, 3, 4, 5, 6, 7, 8, 9, 10, 11, 12, 13, 14, 15, 16, 17, 18, 19, 20, 21, 22, 23, 24, 25], [0, 25])])
def shash_B18 : List Nat := [0, 0, 0, 6, 14, 30, 62, 0, 0, 384, 896, 1920, 3968, 0, 0, 24576, 57344, 122880, 253952, 0, 0, 1572864, 3670016, 7864320, 16777214, 33554431, 67108863]
theorem shash_tab18 : rtab .any (opsOf Try.f68 18) = shash_T18 := by kernel_rfl
theorem shash_bits18 : waitsOk shash_T18.2 shash_B18 = true := by kernel_rfl
theorem full_mod (l : List Int) : (Sha.full l).length % 64 = 0 := by simp [Sha.full, Sha.fillTo, Sha.be8]; omega
theorem below_of_lit (w wr : World) (o : Obj) (h : Below (w.heap.size + 1) (w.alloc o) wr) : Below w.heap.size w wr := by
  exact (below_alloc (Below.refl w.heap.size w) o).trans (h.mono (Nat.le_succ _))
theorem rowB_form' {W : World} {B g n c : Nat} {l : List Int} (h : rowB W B (.slice (some ⟨g, 0, none⟩) n c) l) : n ≤ c := by
  obtain ⟨g, cap, e, _, hl, _⟩ := h
  injection e with e1 e2 e3
  omega
theorem rowB_same {W W' : World} {B : Nat} {v : Value} {l : List Int} (h : rowB W B v l) (hk : ∀ k, B ≤ k → k < W.heap.size → W'.heap[k]? = W.heap[k]?) : rowB W' B v l := by
  obtain ⟨g, cap, e, hg, hl, hc, hv⟩ := h
  refine ⟨g, cap, e, hg, hl, fun j hj => ?_, fun j hj => ?_⟩
  · have hlt := cell_lt (hc j hj).1
    have hb := hk g hg hlt
    have h1 : W'.cell? ⟨g, j, none⟩ = W.cell? ⟨g, j, none⟩ := World.cell?_of_block hb
    have h2 : W'.frozen? ⟨g, j, none⟩ = W.frozen? ⟨g, j, none⟩ := by simp only [World.frozen?, hb]
    exact ⟨by rw [h1]; exact (hc j hj).1, by rw [h2]; exact (hc j hj).2⟩
  · have hlt : g < W.heap.size := cell_lt (a := ⟨g, j, none⟩) (hc j (by omega)).1
    have h1 : W'.cell? ⟨g, j, none⟩ = W.cell? ⟨g, j, none⟩ := World.cell?_of_block (hk g hg hlt)
    rw [h1]; exact hv j hj
theorem consts_world (w wr : World) (o : Obj) (h : Below (w.heap.size + 1) (w.alloc o) wr) (hs : w.heap.size + 1 ≤ wr.heap.size) : wr.heap[w.heap.size]? = some o := by
  exact (h.block w.heap.size (by omega)).trans (blk_new w o)
set_option maxHeartbeats 8000000 in
set_option maxRecDepth 100000 in
theorem spec_l03Hash_in (A0 : Option Addr) (c0 : Nat) (l0 : List Int) (w0 : World) (hr0 : Kd.C (Kd.int .u8) w0 A0 l0.length l0) (hc0 : l0.length ≤ c0) (hu : u8ok l0) (hl : l0.length ≤ 1099511627776) :
    Calls Try.prog 68 #[.slice A0 l0.length c0] w0 fun e w' => e = .returned (.string (strOfNums (Sha.shaL l0))) ∧ Below w0.heap.size w0 w' := by
  have HR0 := Aside0.mk hr0
  have HC0 := Aside0.mk hc0
  have HU := Aside0.mk hu
  have HSZ := Aside0.mk hl
  obtain ⟨L1, hL1⟩ : ∃ L, L = l0 ++ [128] := ⟨_, rfl⟩
  have HL1 := Aside0.mk hL1
  clear hr0 hc0 hu hl hL1
  go_enter Try.func68, Try.ntmps68
  go_wp2_with (first
    | ((with_reducible refine gate_dst (N := 13) rfl ?_); refine wpList_append_rowB_C (by rfl) (.tmp 11) (.tmp 12) 22 5 (by rfl) Try.underlying22 info5 l0 (l := []) (w0 := w0.alloc (Obj.cells (nums .u32 Sha.H0.l).toArray 90 (0, 0))) (B := w0.heap.size + 1) (by rfl) (rowB_empty _ _ _ _ (by simp) rfl) (below_lit w0 _ _) (by simp) A0 _ _ (by rfl) (Kd.C_alloc (Kd.C_alloc HR0.out _) _) (by have := HSZ.out; simp; omega) l0 (by simp) ?_; intro v2 w2 H1 H2 H3; obtain ⟨g1, c1, rfl, hc1⟩ := rowB_form H1.out)
    | ((with_reducible refine gate_dst (N := 15) rfl ?_); refine wpList_append_rowB (by rfl) (.tmp 13) (.tmp 14) 22 5 (by rfl) Try.underlying22 info5 [128] (by rfl) (rowB_below H1.out (below_alloc (Below.refl _ _) _)) (H2.out.alloc H3.out _) (by have := H3.out; simp; omega) ⟨w2.heap.size, 0, none⟩ 1 1 (by rfl) rfl (cell_lit1 _ _ _ _) (by have := HSZ.out; simp; omega) L1 HL1.out ?_; intro v3 w3 K1 K2 K3; obtain ⟨g2, c2, rfl, hc2⟩ := rowB_form K1.out))
  go_loopw [4] (fun v wr => ∃ (lr : List Int) (z g c : Nat), v = .slice (some ⟨g, 0, none⟩) lr.length c ∧ z ≤ (119 - l0.length % 64) % 64 ∧ Aside0 (lr = l0 ++ 128 :: List.replicate z 0) ∧ Aside0 (rowB wr (w0.heap.size + 1) (.slice (some ⟨g, 0, none⟩) lr.length c) lr) ∧ Aside0 (Below (w0.heap.size + 1) (w0.alloc (Obj.cells (nums .u32 Sha.H0.l).toArray 90 (0, 0))) wr) ∧ Aside0 (w0.heap.size + 1 ≤ wr.heap.size))
    (fun v _ => l0.length + 200 - sliceLen v)
  case atStart => exact ⟨L1, 0, g2, c2, rfl, by omega, ⟨HL1.out⟩, K1, K2, K3⟩
  case round =>
    clear K1 K2 K3 H1 H2 H3 HL1
    obtain ⟨lr, z, g, c, rfl, hz, HLR, H1, H2, H3⟩ := hrel
    have hlen : lr.length = l0.length + 1 + z := by rw [HLR.out]; simp; omega
    have hsz2 : l0.length ≤ 1099511627776 := HSZ.out
    have l00 : (0 : Int) ≤ (lr.length : Int) := Int.natCast_nonneg _
    have l01 : (lr.length : Int) ≤ 1099511629000 := by omega
    by_cases hlt : z < (119 - l0.length % 64) % 64
    · have hd : ((lr.length : Int) % 64 != 56) = true := by rw [bne_iff_ne]; omega
      obtain ⟨lr2, hlr2⟩ : ∃ L, L = lr ++ [0] := ⟨_, rfl⟩
      have HLR2 : Aside0 (lr2 = l0 ++ 128 :: List.replicate (z + 1) 0) := ⟨by rw [hlr2, HLR.out, List.replicate_succ']; simp⟩
      have HE := Aside0.mk hlr2
      have hlen2 : lr2.length = lr.length + 1 := by rw [hlr2]; simp
      have HLEN := Aside0.mk hlen
      have HLEN2 := Aside0.mk hlen2
      clear hlen hlr2 hlen2 hsz2
      go_wp2_with ((with_reducible refine gate_dst (N := 22) rfl ?_); refine wpList_append_rowB (by rfl) (.tmp 20) (.tmp 21) 22 5 (by rfl) Try.underlying22 info5 [0] (by rfl) (rowB_below H1.out (below_alloc (Below.refl _ _) _)) (H2.out.alloc H3.out _) (by have := H3.out; simp; omega) ⟨wr.heap.size, 0, none⟩ 1 1 (by rfl) rfl (cell_lit1 _ _ _ _) (by have := HLEN.out; have := HSZ.out; simp; omega) lr2 HE.out ?_; intro v2 w2 K1 K2 K3; obtain ⟨g2, c2, rfl, hc2⟩ := rowB_form K1.out)
      go_roundw
      case rel => exact ⟨lr2, z + 1, g2, c2, rfl, by omega, HLR2, K1, K2, K3⟩
      case measure => simp [sliceLen]; have := HLEN.out; have := HLEN2.out; have := HSZ.out; omega
    · have hd : ((lr.length : Int) % 64 != 56) = false := by rw [bne_eq_false_iff_eq]; omega
      have HLR3 : Aside0 (lr = Sha.fillTo l0 ++ sizeTo (8 * (l0.length : Int)) 0) := ⟨by
        have ez : z = (119 - l0.length % 64) % 64 := by omega
        rw [HLR.out, Sha.fillTo, ez]
        simp [sizeTo]⟩
      have HFL : Aside0 ((Sha.fillTo l0).length = lr.length) := ⟨by rw [HLR3.out]; simp [sizeTo]⟩
      have HLEN : Aside0 (lr.length ≤ 1099511628000) := ⟨by omega⟩
      clear hlen hsz2 hlt hz l00 l01 HLR
      go_wp2
      go_loopw [4, 5] (fun v n wr => ∃ (lr : List Int) (j g c : Nat) (p : Int), v = .slice (some ⟨g, 0, none⟩) lr.length c ∧ n = .int .i64 p ∧ j ≤ 8 ∧ p = 7 - (j : Int) ∧ Aside0 (lr = Sha.fillTo l0 ++ sizeTo (8 * (l0.length : Int)) j) ∧ Aside0 (rowB wr (w0.heap.size + 1) (.slice (some ⟨g, 0, none⟩) lr.length c) lr) ∧ Aside0 (Below (w0.heap.size + 1) (w0.alloc (Obj.cells (nums .u32 Sha.H0.l).toArray 90 (0, 0))) wr) ∧ Aside0 (w0.heap.size + 1 ≤ wr.heap.size))
        (fun _ n _ => (intOf n + 1).toNat)
      case atStart => exact ⟨lr, 0, g, c, 7, rfl, rfl, by omega, rfl, HLR3, H1, H2, H3⟩
      case round =>
        clear H1 H2 H3 HLR3 hd
        obtain ⟨lr2, j, g, c, p, rfl, rfl, hj, hp, HLR, H1, H2, H3⟩ := hrel
        have HLEN2 : Aside0 (lr2.length = lr.length + j) := ⟨by rw [HLR.out, List.length_append, HFL.out]; simp [sizeTo, Sha.be8]; omega⟩
        have hsz2 : (l0.length : Int) ≤ 1099511627776 := by have := HSZ.out; omega
        by_cases hlt : j < 8
        · obtain ⟨q, hq⟩ : ∃ q : Nat, p = (q : Int) := ⟨p.toNat, by omega⟩
          subst hq
          have hqj : q = 7 - j := by omega
          have q7 : (q : Int) ≤ 7 := by omega
          have q0 : (0 : Int) ≤ (q : Int) := by omega
          have hd : decide ((q : Int) ≥ 0) = true := decide_eq_true q0
          obtain ⟨lr3, hlr3⟩ : ∃ L, L = lr2 ++ [(8 * (l0.length : Int)) / 2 ^ (8 * q) % 256] := ⟨_, rfl⟩
          have HLR3 : Aside0 (lr3 = Sha.fillTo l0 ++ sizeTo (8 * (l0.length : Int)) (j + 1)) := ⟨by
            rw [hlr3, HLR.out, sizeTo_succ _ j hlt, hqj]
            simp⟩
          have HE := Aside0.mk hlr3
          have HQ := Aside0.mk hqj
          have HP := Aside0.mk hp
          clear hlr3 hqj hp
          go_wp2_with ((with_reducible refine gate_dst (N := 37) rfl ?_); refine wpList_append_rowB (by rfl) (.tmp 27) (.tmp 36) 22 5 (by rfl) Try.underlying22 info5 [(8 * (l0.length : Int)) / 2 ^ (8 * q) % 256] (by rfl) (rowB_below H1.out (below_alloc (Below.refl _ _) _)) (H2.out.alloc H3.out _) (by have := H3.out; simp; omega) ⟨wr.heap.size, 0, none⟩ 1 1 (by rfl) rfl (cell_lit1 _ _ _ _) (by have := HLEN.out; have := HLEN2.out; have := HSZ.out; simp; omega) lr3 HE.out ?_; intro v2 w2 K1 K2 K3; obtain ⟨g2, c2, rfl, hc2⟩ := rowB_form K1.out)
          go_roundw
          case rel => exact ⟨lr3, j + 1, g2, c2, _, rfl, rfl, by omega, by have := HP.out; omega, HLR3, K1, K2, K3⟩
          case measure => simp [intOf]
        · have hj8 : j = 8 := by omega
          have hd : decide (p ≥ 0) = false := decide_eq_false (by omega)
          have HFU : Aside0 (lr2 = Sha.full l0) := ⟨by rw [HLR.out, hj8]; rfl⟩
          have HL2 : Aside0 (lr2.length ≤ 1099511628100) := ⟨by have := HLEN.out; have := HLEN2.out; omega⟩
          have HM : Aside0 (lr2.length % 64 = 0) := ⟨by rw [HFU.out]; exact full_mod l0⟩
          have HW := Aside0.mk (consts_world w0 wr _ H2.out H3.out)
          have HB0 : Aside0 (Below w0.heap.size w0 wr) := ⟨below_of_lit _ _ _ H2.out⟩
          have hc2 := rowB_form' H1.out
          clear HLR hp hlt hsz2 hj8 HLEN HLEN2 HFL
          go_wp2_with ((with_reducible refine gate_callee (f := 87) rfl ?_); refine goesL_ (some 38) rfl rfl Try.func87 (by kernel_rfl) rfl #[] rfl (by (try simp only [List.map_toArray, List.map_cons, List.map_nil]); first | done | rfl) ?_; (with_reducible refine (consts_calls _).mono ?_); rintro e w19 ⟨rfl, K1⟩; refine ⟨_, rfl, ?_⟩)
          obtain ⟨gk, hgk⟩ : ∃ n, n = wr.heap.size := ⟨_, rfl⟩
          have HGK : Aside0 (w0.heap.size + 1 ≤ gk) := ⟨by have := H3.out; omega⟩
          have HKC : Aside0 (∀ j, j < 64 → (wr.alloc (.cells (nums .u32 Sha.K).toArray 90)).cell? ((⟨gk, 0, none⟩ : Addr).add j) = some (.int .u32 (Sha.K.getD j 0))) := ⟨fun j hj => by rw [hgk]; exact K_cells wr j hj⟩
          rw [← hgk]
          clear hgk
          go_loopw [7] (fun v wq => ∃ (j p : Nat), v = .int .i64 (p : Int) ∧ p = 64 * j ∧ p ≤ lr2.length ∧ Aside0 (wq.heap[w0.heap.size]? = some (.cells (nums .u32 (Sha.fold lr2 j).l).toArray 90)) ∧ Aside0 (rowB wq (w0.heap.size + 1) (.slice (some ⟨g, 0, none⟩) lr2.length c) lr2) ∧ Aside0 (∀ j, j < 64 → wq.cell? ((⟨gk, 0, none⟩ : Addr).add j) = some (.int .u32 (Sha.K.getD j 0))) ∧ Aside0 (Below w0.heap.size w0 wq) ∧ Aside0 (w0.heap.size + 1 ≤ wq.heap.size))
            (fun v _ => lr2.length - (intOf v).toNat)
          case atStart => exact ⟨0, 0, rfl, rfl, by omega, ⟨blk_alloc HW.out _⟩, ⟨rowB_below H1.out (below_alloc (Below.refl _ _) _)⟩, HKC, ⟨HB0.out.alloc (by have := H3.out; omega) _⟩, ⟨by have := H3.out; simp; omega⟩⟩
          case round =>
            clear H1 H2 H3 HKC HW HB0
            obtain ⟨j, p2, rfl, hp2, hle, G1, G2, G3, G4, G5⟩ := hrel
            have hm2 := HM.out
            have hl2 := HL2.out
            by_cases hlt : p2 < lr2.length
            · have hn : p2 + 64 ≤ lr2.length := by omega
              have hd : decide ((p2 : Int) < (lr2.length : Int)) = true := decide_eq_true (by omega)
              have hw : wrap64 ((p2 : Int) + 64) = ((p2 + 64 : Nat) : Int) := by unfold wrap64; omega
              have HP2 := Aside0.mk hp2
              have hcap : p2 + 64 ≤ c := by omega
              have hw0 : (0 : Int) ≤ (p2 : Int) := by omega
              clear hm2 hl2 hp2
              have hchl : (Sha.chunk lr2 j).length = 64 := Sha.chunk_length lr2 j (by have := HP2.out; omega)
              have HCB : Aside0 (Kd.C (Kd.int .u8) wr (some ⟨g, p2, none⟩) (Sha.chunk lr2 j).length (Sha.chunk lr2 j)) := ⟨rowB_cut G2.out p2 _ (by omega) (by omega) (fun q hq => by rw [Sha.chunk_at lr2 j q (by have := HP2.out; omega) (by omega), HP2.out])⟩
              have HUB : Aside0 (u8ok (Sha.chunk lr2 j)) := ⟨by rw [HFU.out]; exact u8ok_chunk (u8ok_full HU.out) j⟩
              have HCL := Aside0.mk hchl
              clear hchl
              go_wp2_with fail
              refine (sblock_in (Sha.fold lr2 j) w0.heap.size ⟨g, p2, none⟩ (c - p2) (Sha.chunk lr2 j) Sha.K ⟨gk, 0, none⟩ 64 wr G1.out HCB.out HCL.out HUB.out (by omega) G3.out (by decide)).mono ?_
              rintro e wz ⟨rfl, Z1, Z2, Z3, Z4⟩
              have Z1 := Aside0.mk Z1; have Z2 := Aside0.mk Z2; have Z3 := Aside0.mk Z3; have Z4 := Aside0.mk Z4
              go_wp2
              rw [hw]
              clear hw
              go_roundw
              case rel => exact ⟨j + 1, p2 + 64, rfl, by have := HP2.out; omega, by omega, Z1, ⟨rowB_same G2.out (fun k h1 h2 => Z2.out k h2 (by omega))⟩, ⟨fun q hq => cell_keep_at (G3.out q hq) (fun h => Z2.out gk h (by have := HGK.out; omega))⟩, ⟨G4.out.trans Z3.out⟩, ⟨by have := G5.out; have := Z4.out; omega⟩⟩
              case measure => simp [intOf]; omega
            · have hd : decide ((p2 : Int) < (lr2.length : Int)) = false := decide_eq_false (by omega)
              obtain ⟨U, hU⟩ : ∃ U, U = Sha.fold lr2 j := ⟨_, rfl⟩
              have HUU : Aside0 (U = Sha.fold (Sha.full l0) ((Sha.full l0).length / 64)) := ⟨by rw [hU, ← HFU.out]; congr 1; omega⟩
              rw [← hU] at G1
              have hd2 : decide (p2 < lr2.length) = false := decide_eq_false hlt
              clear hU hm2 hl2 hp2 hle
              go_wp2
              go_loopw [8, 9] (fun v n wq => ∃ (lr : List Int) (i g c : Nat), v = .slice (some ⟨g, 0, none⟩) lr.length c ∧ n = .int .i64 (i : Int) ∧ i ≤ 8 ∧ Aside0 (lr = Sha.outTo U i) ∧ Aside0 (rowB wq (w0.heap.size + 1) (.slice (some ⟨g, 0, none⟩) lr.length c) lr) ∧ Aside0 (wq.heap[w0.heap.size]? = some (.cells (nums .u32 U.l).toArray 90)) ∧ Aside0 (Below w0.heap.size w0 wq) ∧ Aside0 (w0.heap.size + 1 ≤ wq.heap.size))
                (fun _ n _ => 8 - (intOf n).toNat)
              case atStart => exact ⟨[], 0, wr.heap.size, 0, rfl, rfl, by omega, ⟨rfl⟩, ⟨rowB_empty _ _ _ _ G5.out rfl⟩, ⟨blk_alloc G1.out _⟩, ⟨G4.out.alloc (by have := G5.out; omega) _⟩, ⟨by have := G5.out; simp; omega⟩⟩
              case round =>
                clear G1 G2 G3 G4 G5 HM HFU hd
                obtain ⟨lo, i, go, co, rfl, rfl, hi8, L1', G2, G1, G4, G5⟩ := hrel
                by_cases hlt : i < 8
                · have i0 : (0 : Int) ≤ (i : Int) := Int.natCast_nonneg i
                  have i1 : (i : Int) < 8 := by omega
                  have hd : decide ((i : Int) < 8) = true := decide_eq_true i1
                  obtain ⟨x, hx⟩ : ∃ x, x = U.l.getD i 0 := ⟨_, rfl⟩
                  have cI : wr.cell? ⟨w0.heap.size, i, none⟩ = some (.int .u32 x) := by
                    rw [blk_cell G1.out i, hx]
                    exact nums_at? _ _ _ _ (V8l_at U i hlt)
                  obtain ⟨lr3, hlr3⟩ : ∃ L, L = lo ++ [x / 16777216 % 256, x / 65536 % 256, x / 256 % 256, x % 256] := ⟨_, rfl⟩
                  have HLR3 : Aside0 (lr3 = Sha.outTo U (i + 1)) := ⟨by rw [hlr3, L1'.out, Sha.outTo_succ U i hlt, hx]; rfl⟩
                  have HLL : Aside0 (lo.length ≤ 32) := ⟨by rw [L1'.out, Sha.outTo_length U i hi8]; omega⟩
                  have HE := Aside0.mk hlr3
                  clear hx hlr3
                  go_wp2
                  refine start_ (n := 27) (S := fun w' => w'.cell? ⟨w0.heap.size, i, none⟩ = some (.int .u32 x)) (ds := [25]) #[false, false, false, false, false, false, false, false, false, false, false, false, false, false, false, false, false, false, false, false, false, false, false, false, false, false, false] (by kernel_rfl) rfl rfl (show wr.drew.cell? ⟨w0.heap.size, i, none⟩ = some (.int .u32 x) from cI) (fun hHeld => ?_); refine with_tabW shash_tab18 shash_bits18 (fun HT_ HW_ => ?_)
                  refine pure_ (i := 0) (N := some 58) (v := ?_) (a' := ?_) #[true, false, false, false, false, false, false, false, false, false, false, false, false, false, false, false, false, false, false, false, false, false, false, false, false, false, false] rfl rfl (any_of HT_.out (by kernel_rfl)) (fun _ _ _ h => h) (Or.inl ⟨by rfl, ?_⟩) ?_ ?_
                  rotate_left
                  · intro w'
                    go_simp
                    with_reducible rfl
                  rotate_left
                  · simp only [Act.put, List.setIfInBounds_toArray, List.set_cons_zero, List.set_cons_succ, i64_w, i32_w]
                    rfl
                  refine pure_ (i := 1) (N := some 59) (v := ?_) (a' := ?_) #[true, true, false, false, false, false, false, false, false, false, false, false, false, false, false, false, false, false, false, false, false, false, false, false, false, false, false] rfl rfl (any_of HT_.out (by kernel_rfl)) (fun _ _ _ h => h) (Or.inl ⟨by rfl, ?_⟩) ?_ ?_
                  rotate_left
                  · intro w'
                    go_simp
                    with_reducible rfl
                  rotate_left
                  · simp only [Act.put, List.setIfInBounds_toArray, List.set_cons_zero, List.set_cons_succ, i64_w, i32_w]
                    rfl
                  refine pure_ (i := 2) (N := some 60) (v := ?_) (a' := ?_) #[true, true, true, false, false, false, false, false, false, false, false, false, false, false, false, false, false, false, false, false, false, false, false, false, false, false, false] rfl rfl (any_of HT_.out (by kernel_rfl)) (fun _ _ _ h => h) (Or.inl ⟨by rfl, ?_⟩) ?_ ?_
                  rotate_left
                  · intro w'
                    go_simp
                    with_reducible rfl
                  rotate_left
                  · simp only [Act.put, List.setIfInBounds_toArray, List.set_cons_zero, List.set_cons_succ, i64_w, i32_w]
                    rfl
                  refine pure_ (i := 3) (N := some 61) (v := ?_) (a' := ?_) #[true, true, true, true, false, false, false, false, false, false, false, false, false, false, false, false, false, false, false, false, false, false, false, false, false, false, false] rfl rfl (any_of HT_.out (by kernel_rfl)) (fun _ _ _ h => h) (Or.inl ⟨by rfl, ?_⟩) ?_ ?_
                  rotate_left
                  · intro w'
                    go_simp
                    with_reducible rfl
                  rotate_left
                  · simp only [Act.put, List.setIfInBounds_toArray, List.set_cons_zero, List.set_cons_succ, i64_w, i32_w]
                    rfl
                  refine pure_ (i := 7) (N := some 65) (v := ?_) (a' := ?_) #[true, true, true, true, false, false, false, true, false, false, false, false, false, false, false, false, false, false, false, false, false, false, false, false, false, false, false] rfl rfl (any_of HT_.out (by kernel_rfl)) (fun _ _ _ h => h) (Or.inl ⟨by rfl, ?_⟩) ?_ ?_
                  rotate_left
                  · intro w'
                    go_simp
                    with_reducible rfl
                  rotate_left
                  · simp only [Act.put, List.setIfInBounds_toArray, List.set_cons_zero, List.set_cons_succ, i64_w, i32_w]
                    rfl
                  refine pure_ (i := 8) (N := some 66) (v := ?_) (a' := ?_) #[true, true, true, true, false, false, false, true, true, false, false, false, false, false, false, false, false, false, false, false, false, false, false, false, false, false, false] rfl rfl (any_of HT_.out (by kernel_rfl)) (fun _ _ _ h => h) (Or.inl ⟨by rfl, ?_⟩) ?_ ?_
                  rotate_left
                  · intro w'
                    go_simp
                    with_reducible rfl
                  rotate_left
                  · simp only [Act.put, List.setIfInBounds_toArray, List.set_cons_zero, List.set_cons_succ, i64_w, i32_w]
                    rfl
                  refine pure_ (i := 9) (N := some 67) (v := ?_) (a' := ?_) #[true, true, true, true, false, false, false, true, true, true, false, false, false, false, false, false, false, false, false, false, false, false, false, false, false, false, false] rfl rfl (any_of HT_.out (by kernel_rfl)) (fun _ _ _ h => h) (Or.inl ⟨by rfl, ?_⟩) ?_ ?_
                  rotate_left
                  · intro w'
                    go_simp
                    with_reducible rfl
                  rotate_left
                  · simp only [Act.put, List.setIfInBounds_toArray, List.set_cons_zero, List.set_cons_succ, i64_w, i32_w]
                    rfl
                  refine pure_ (i := 13) (N := some 71) (v := ?_) (a' := ?_) #[true, true, true, true, false, false, false, true, true, true, false, false, false, true, false, false, false, false, false, false, false, false, false, false, false, false, false] rfl rfl (any_of HT_.out (by kernel_rfl)) (fun _ _ _ h => h) (Or.inl ⟨by rfl, ?_⟩) ?_ ?_
                  rotate_left
                  · intro w'
                    go_simp
                    with_reducible rfl
                  rotate_left
                  · simp only [Act.put, List.setIfInBounds_toArray, List.set_cons_zero, List.set_cons_succ, i64_w, i32_w]
                    rfl
                  refine pure_ (i := 14) (N := some 72) (v := ?_) (a' := ?_) #[true, true, true, true, false, false, false, true, true, true, false, false, false, true, true, false, false, false, false, false, false, false, false, false, false, false, false] rfl rfl (any_of HT_.out (by kernel_rfl)) (fun _ _ _ h => h) (Or.inl ⟨by rfl, ?_⟩) ?_ ?_
                  rotate_left
                  · intro w'
                    go_simp
                    with_reducible rfl
                  rotate_left
                  · simp only [Act.put, List.setIfInBounds_toArray, List.set_cons_zero, List.set_cons_succ, i64_w, i32_w]
                    rfl
                  refine pure_ (i := 15) (N := some 73) (v := ?_) (a' := ?_) #[true, true, true, true, false, false, false, true, true, true, false, false, false, true, true, true, false, false, false, false, false, false, false, false, false, false, false] rfl rfl (any_of HT_.out (by kernel_rfl)) (fun _ _ _ h => h) (Or.inl ⟨by rfl, ?_⟩) ?_ ?_
                  rotate_left
                  · intro w'
                    go_simp
                    with_reducible rfl
                  rotate_left
                  · simp only [Act.put, List.setIfInBounds_toArray, List.set_cons_zero, List.set_cons_succ, i64_w, i32_w]
                    rfl
                  refine pure_ (i := 19) (N := some 77) (v := ?_) (a' := ?_) #[true, true, true, true, false, false, false, true, true, true, false, false, false, true, true, true, false, false, false, true, false, false, false, false, false, false, false] rfl rfl (any_of HT_.out (by kernel_rfl)) (fun _ _ _ h => h) (Or.inl ⟨by rfl, ?_⟩) ?_ ?_
                  rotate_left
                  · intro w'
                    go_simp
                    with_reducible rfl
                  rotate_left
                  · simp only [Act.put, List.setIfInBounds_toArray, List.set_cons_zero, List.set_cons_succ, i64_w, i32_w]
                    rfl
                  refine pure_ (i := 20) (N := some 78) (v := ?_) (a' := ?_) #[true, true, true, true, false, false, false, true, true, true, false, false, false, true, true, true, false, false, false, true, true, false, false, false, false, false, false] rfl rfl (any_of HT_.out (by kernel_rfl)) (fun _ _ _ h => h) (Or.inl ⟨by rfl, ?_⟩) ?_ ?_
                  rotate_left
                  · intro w'
                    go_simp
                    with_reducible rfl
                  rotate_left
                  · simp only [Act.put, List.setIfInBounds_toArray, List.set_cons_zero, List.set_cons_succ, i64_w, i32_w]
                    rfl
                  refine pure_ (i := 21) (N := some 79) (v := ?_) (a' := ?_) #[true, true, true, true, false, false, false, true, true, true, false, false, false, true, true, true, false, false, false, true, true, true, false, false, false, false, false] rfl rfl (any_of HT_.out (by kernel_rfl)) (fun _ _ _ h => h) (Or.inl ⟨by rfl, ?_⟩) ?_ ?_
                  rotate_left
                  · intro w'
                    go_simp
                    with_reducible rfl
                  rotate_left
                  · simp only [Act.put, List.setIfInBounds_toArray, List.set_cons_zero, List.set_cons_succ, i64_w, i32_w]
                    rfl
                  refine take_ (i := 4) (N := some 62) (v := ?_) (a' := ?_) #[true, true, true, true, true, false, false, true, true, true, false, false, false, true, true, true, false, false, false, true, true, true, false, false, false, false, false] rfl rfl (take_ofW HT_.out HW_.out (by kernel_rfl)) (fun _ _ _ h => h) (Or.inl ⟨by rfl, ?_⟩) hHeld ?_ ?_
                  rotate_left
                  · rintro w' s0
                    go_simp
                    with_reducible rfl
                  rotate_left
                  · simp only [Act.put, List.setIfInBounds_toArray, List.set_cons_zero, List.set_cons_succ, i64_w, i32_w]
                    rfl
                  refine pure_ (i := 5) (N := some 63) (v := ?_) (a' := ?_) #[true, true, true, true, true, true, false, true, true, true, false, false, false, true, true, true, false, false, false, true, true, true, false, false, false, false, false] rfl rfl (any_of HT_.out (by kernel_rfl)) (fun _ _ _ h => h) (Or.inl ⟨by rfl, ?_⟩) ?_ ?_
                  rotate_left
                  · intro w'
                    go_simp
                    with_reducible rfl
                  rotate_left
                  · simp only [Act.put, List.setIfInBounds_toArray, List.set_cons_zero, List.set_cons_succ, i64_w, i32_w]
                    rfl
                  refine pure_ (i := 6) (N := some 64) (v := ?_) (a' := ?_) #[true, true, true, true, true, true, true, true, true, true, false, false, false, true, true, true, false, false, false, true, true, true, false, false, false, false, false] rfl rfl (any_of HT_.out (by kernel_rfl)) (fun _ _ _ h => h) (Or.inl ⟨by rfl, ?_⟩) ?_ ?_
                  rotate_left
                  · intro w'
                    go_simp
                    with_reducible rfl
                  rotate_left
                  · simp only [Act.put, List.setIfInBounds_toArray, List.set_cons_zero, List.set_cons_succ, i64_w, i32_w]
                    rfl
                  refine take_ (i := 10) (N := some 68) (v := ?_) (a' := ?_) #[true, true, true, true, true, true, true, true, true, true, true, false, false, true, true, true, false, false, false, true, true, true, false, false, false, false, false] rfl rfl (take_ofW HT_.out HW_.out (by kernel_rfl)) (fun _ _ _ h => h) (Or.inl ⟨by rfl, ?_⟩) hHeld ?_ ?_
                  rotate_left
                  · rintro w' s0
                    go_simp
                    with_reducible rfl
                  rotate_left
                  · simp only [Act.put, List.setIfInBounds_toArray, List.set_cons_zero, List.set_cons_succ, i64_w, i32_w]
                    rfl
                  refine pure_ (i := 11) (N := some 69) (v := ?_) (a' := ?_) #[true, true, true, true, true, true, true, true, true, true, true, true, false, true, true, true, false, false, false, true, true, true, false, false, false, false, false] rfl rfl (any_of HT_.out (by kernel_rfl)) (fun _ _ _ h => h) (Or.inl ⟨by rfl, ?_⟩) ?_ ?_
                  rotate_left
                  · intro w'
                    go_simp
                    with_reducible rfl
                  rotate_left
                  · simp only [Act.put, List.setIfInBounds_toArray, List.set_cons_zero, List.set_cons_succ, i64_w, i32_w]
                    rfl
                  refine pure_ (i := 12) (N := some 70) (v := ?_) (a' := ?_) #[true, true, true, true, true, true, true, true, true, true, true, true, true, true, true, true, false, false, false, true, true, true, false, false, false, false, false] rfl rfl (any_of HT_.out (by kernel_rfl)) (fun _ _ _ h => h) (Or.inl ⟨by rfl, ?_⟩) ?_ ?_
                  rotate_left
                  · intro w'
                    go_simp
                    with_reducible rfl
                  rotate_left
                  · simp only [Act.put, List.setIfInBounds_toArray, List.set_cons_zero, List.set_cons_succ, i64_w, i32_w]
                    rfl
                  refine take_ (i := 16) (N := some 74) (v := ?_) (a' := ?_) #[true, true, true, true, true, true, true, true, true, true, true, true, true, true, true, true, true, false, false, true, true, true, false, false, false, false, false] rfl rfl (take_ofW HT_.out HW_.out (by kernel_rfl)) (fun _ _ _ h => h) (Or.inl ⟨by rfl, ?_⟩) hHeld ?_ ?_
                  rotate_left
                  · rintro w' s0
                    go_simp
                    with_reducible rfl
                  rotate_left
                  · simp only [Act.put, List.setIfInBounds_toArray, List.set_cons_zero, List.set_cons_succ, i64_w, i32_w]
                    rfl
                  refine pure_ (i := 17) (N := some 75) (v := ?_) (a' := ?_) #[true, true, true, true, true, true, true, true, true, true, true, true, true, true, true, true, true, true, false, true, true, true, false, false, false, false, false] rfl rfl (any_of HT_.out (by kernel_rfl)) (fun _ _ _ h => h) (Or.inl ⟨by rfl, ?_⟩) ?_ ?_
                  rotate_left
                  · intro w'
                    go_simp
                    with_reducible rfl
                  rotate_left
                  · simp only [Act.put, List.setIfInBounds_toArray, List.set_cons_zero, List.set_cons_succ, i64_w, i32_w]
                    rfl
                  refine pure_ (i := 18) (N := some 76) (v := ?_) (a' := ?_) #[true, true, true, true, true, true, true, true, true, true, true, true, true, true, true, true, true, true, true, true, true, true, false, false, false, false, false] rfl rfl (any_of HT_.out (by kernel_rfl)) (fun _ _ _ h => h) (Or.inl ⟨by rfl, ?_⟩) ?_ ?_
                  rotate_left
                  · intro w'
                    go_simp
                    with_reducible rfl
                  rotate_left
                  · simp only [Act.put, List.setIfInBounds_toArray, List.set_cons_zero, List.set_cons_succ, i64_w, i32_w]
                    rfl
                  refine take_ (i := 22) (N := some 80) (v := ?_) (a' := ?_) #[true, true, true, true, true, true, true, true, true, true, true, true, true, true, true, true, true, true, true, true, true, true, true, false, false, false, false] rfl rfl (take_ofW HT_.out HW_.out (by kernel_rfl)) (fun _ _ _ h => h) (Or.inl ⟨by rfl, ?_⟩) hHeld ?_ ?_
                  rotate_left
                  · rintro w' s0
                    go_simp
                    with_reducible rfl
                  rotate_left
                  · simp only [Act.put, List.setIfInBounds_toArray, List.set_cons_zero, List.set_cons_succ, i64_w, i32_w]
                    rfl
                  refine pure_ (i := 23) (N := some 81) (v := ?_) (a' := ?_) #[true, true, true, true, true, true, true, true, true, true, true, true, true, true, true, true, true, true, true, true, true, true, true, true, false, false, false] rfl rfl (any_of HT_.out (by kernel_rfl)) (fun _ _ _ h => h) (Or.inl ⟨by rfl, ?_⟩) ?_ ?_
                  rotate_left
                  · intro w'
                    go_simp
                    with_reducible rfl
                  rotate_left
                  · simp only [Act.put, List.setIfInBounds_toArray, List.set_cons_zero, List.set_cons_succ, i64_w, i32_w]
                    rfl
                  refine one_ (i := 24) (N := some 82) #[true, true, true, true, true, true, true, true, true, true, true, true, true, true, true, true, true, true, true, true, true, true, true, true, true, false, false] rfl rfl (one_of HT_.out (by kernel_rfl)) (by decide) (fun K hK => ?_)
                  go_simp
                  refine hK.out _ _ (cell_alloc_keep hHeld _) (fun hHeld => ?_)
                  clear hK K
                  refine last_ (i := 25) (N := some 83) #[true, true, true, true, true, true, true, true, true, true, true, true, true, true, true, true, true, true, true, true, true, true, true, true, true, true, false] rfl rfl (one_of HT_.out (by kernel_rfl)) (by decide) (fun K hK => ?_)
                  refine opWp_append_rowB (.tmp 58) (.tmp 82) 22 5 (by rfl) Try.underlying22 info5 [x / 16777216 % 256, x / 65536 % 256, x / 256 % 256, x % 256] (by rfl) (rowB_below G2.out ((Below.refl wr.heap.size wr).drew.alloc (Nat.le_refl _) _)) (w0 := wr) ((Below.refl (w0.heap.size + 1) wr).drew.alloc G5.out _) (by have := G5.out; show w0.heap.size + 1 ≤ (wr.alloc _).heap.size; simp; omega) ⟨wr.heap.size, 0, none⟩ 4 4 (by rfl) rfl (cell_lit4 wr.drew _ _ _ _ _ _) (by have := HLL.out; simp; omega) lr3 HE.out ?_
                  intro v2 w2 K1 K2 K3
                  obtain ⟨g2, c2, rfl, hc2⟩ := rowB_form K1.out
                  refine hK.out _ _ ?_
                  clear hK K
                  refine norm_ (a' := ?_) ?_ ?_
                  rotate_left
                  · show Act.put _ (some 83) _ = _
                    simp only [Act.put, List.setIfInBounds_toArray, List.set_cons_zero, List.set_cons_succ, i64_w, i32_w]
                    rfl
                  refine pure_ (i := 26) (N := some 8) (v := ?_) (a' := ?_) #[true, true, true, true, true, true, true, true, true, true, true, true, true, true, true, true, true, true, true, true, true, true, true, true, true, true, true] rfl rfl (any_of HT_.out (by kernel_rfl)) (fun _ _ _ h => h) (Or.inl ⟨by rfl, ?_⟩) ?_ ?_
                  rotate_left
                  · intro w'
                    go_simp
                    with_reducible rfl
                  rotate_left
                  · simp only [Act.put, List.setIfInBounds_toArray, List.set_cons_zero, List.set_cons_succ, i64_w, i32_w]
                    rfl
                  refine done_ (done_of HT_.out (by kernel_rfl)) ?_
                  go_wp2
                  go_roundw
                  case rel => exact ⟨lr3, i + 1, g2, c2, rfl, by go_num, by omega, HLR3, K1, ⟨(K2.out.block w0.heap.size (by omega)).trans G1.out⟩, ⟨G4.out.trans (K2.out.mono (by omega))⟩, K3⟩
                  case measure => simp [intOf]; omega
                · have hd : decide ((i : Int) < 8) = false := decide_eq_false (by omega)
                  have HFI : Aside0 (lo = Sha.shaL l0) := ⟨by rw [L1'.out, show i = 8 from by omega, HUU.out]; rfl⟩
                  have HLL : Aside0 (lo.length ≤ 32) := ⟨by rw [L1'.out, Sha.outTo_length U i hi8]; omega⟩
                  clear L1'
                  have ks := Kd.C_string (P := Try.prog) (dst := 9) (src := 22) (c := co) Try.underlying22 Try.underlying5 Try.underlying9 (rowB_C G2.out (by have := HLL.out; omega))
                  go_wp2
                  go_ret
                  exact ⟨congrArg (fun l => Ending.returned (.string (strOfNums l))) HFI.out, G4.out⟩
theorem spec_l03Hash.calls (A0 : Option Addr) (c0 : Nat) (l0 : List Int) (r : ByteArray) (w : World) (hr0 : Kd.C (Kd.int .u8) w A0 l0.length l0) (hc0 : l0.length ≤ c0) (h : spec_l03Hash.f l0 = some r) :
    Calls Try.prog 68 #[.slice A0 l0.length c0] w fun e w' => e = .returned (.string r) ∧ Below w.heap.size w w' := by
  unfold spec_l03Hash.f at h
  split at h
  · rename_i h1
    split at h
    · rename_i h2
      injection h with h
      subst h
      exact spec_l03Hash_in A0 c0 l0 w hr0 hc0 (u8b_ok h1) h2
    · cases h
  · cases h

/-! ### spec_Hash: function 34 -/
def spec_Hash.f (l0 : List Int) : Option (ByteArray) := if (l0.length : Int) > 65536 then (some (⟨#[]⟩ : ByteArray)) else ((spec_l03Hash.f l0).bind fun t111 => (some t111))
set_option maxHeartbeats 8000000 in
set_option maxRecDepth 100000 in
theorem spec_Hash.calls (A0 : Option Addr) (c0 : Nat) (l0 : List Int) (r : ByteArray) (w : World) (hr0 : Kd.C (Kd.int .u8) w A0 l0.length l0) (hc0 : l0.length ≤ c0) (h : spec_Hash.f l0 = some r) :
    Calls Try.prog 34 #[.slice A0 l0.length c0] w fun e w' => e = .returned (.string r) ∧ Below w.heap.size w w' := by
  have HR0 := Aside0.mk hr0
  have HC0 := Aside0.mk hc0
  clear hr0 hc0
  have HB := Aside0.mk (Below.refl w.heap.size w)
  have H : (if (l0.length : Int) > 65536 then (some (⟨#[]⟩ : ByteArray)) else ((spec_l03Hash.f l0).bind fun t111 => (some t111))) = some r := h
  clear h
  by_cases c2 : (l0.length : Int) > 65536
  · rw [if_pos c2] at H
    have c2b0 : decide (65536 < (l0.length : Int)) = true := decide_eq_true c2
    have c2b1 : decide (65536 < l0.length) = true := decide_eq_true (by omega)
    clear c2
    obtain rfl := Option.some.inj H
    go_enter Try.func34, Try.ntmps34
    go_wp2
    go_ret
    exact ⟨by first | rfl | (simp [errW_none, errW_some] <;> rfl) | (simp [*, errW_none, errW_some] <;> rfl), by repeat (first | (with_reducible first | exact HB.out | apply below_alloc | apply pw_below_drewN | apply below_drew1) | exact HB.out)⟩
  · rw [if_neg c2] at H
    have c2b0 : decide (65536 < (l0.length : Int)) = false := decide_eq_false c2
    have c2b1 : decide (65536 < l0.length) = false := decide_eq_false (by omega)
    clear c2
    replace H := Option.bind_eq_some_iff.mp H
    obtain ⟨t111, A30, H⟩ := H
    replace H : (some t111) = some r := H
    have A3 := Aside0.mk A30
    clear A30
    obtain rfl := Option.some.inj H
    go_enter Try.func34, Try.ntmps34
    go_wp2_with (first | ((with_reducible refine gate_callee (f := 68) rfl ?_); refine goesL_ (some 7) rfl rfl Try.func68 (by kernel_rfl) rfl #[.slice A0 l0.length c0] rfl (by (try simp only [List.map_toArray, List.map_cons, List.map_nil]); first | done | rfl | (simp only [List.length_drop, List.length_take]; rfl)) ?_; (with_reducible refine (spec_l03Hash.calls _ _ l0 t111 _ ?side1 ?side2 A3.out).mono ?_); (case side1 => repeat (first | exact HR0.out | (with_reducible refine Kd.C_alloc ?_ _) | (with_reducible refine Kd.C_drewN ?_ _) | (with_reducible refine Kd.C_drew ?_))); (case side2 => exact HC0.out); rintro e w4 ⟨rfl, hb⟩; refine ⟨_, rfl, ?_⟩; have n0_ := Aside0.mk (below_step (by repeat (first | (with_reducible first | exact HB.out | apply below_alloc | apply pw_below_drewN | apply below_drew1) | exact HB.out)) hb); clear HB; have HB := n0_; clear n0_; (try clear hb); (try clear hb2); (try clear hk); (try clear hi)))
    go_ret
    exact ⟨by first | rfl | (simp [errW_none, errW_some] <;> rfl) | (simp [*, errW_none, errW_some] <;> rfl), by repeat (first | (with_reducible first | exact HB.out | apply below_alloc | apply pw_below_drewN | apply below_drew1) | exact HB.out)⟩

-- NOT PRINTED: function 98 (slices_IndexFunc_byte_byte)

-- NOT PRINTED: function 80 (slices_ContainsFunc_byte_byte)

/-! ### impl_isLong_byte: function 49 -/
-- HAND rounds=0 making=0
theorem isLong_byte_1.calls (A : Option Addr) (n c : Nat) (w : World) : Calls Try.prog 81 #[.slice A n c] w fun e w' => e = .returned (.bool (decide (65536 < (n : Int)))) ∧ w = w' := by
  go_enter Try.func81, Try.ntmps81
  go_wp2
  go_ret
  exact ⟨rfl, rfl⟩
def isLong_byte_idx (l0 : List (List Int)) (w : World) (e : Ending) (w' : World) : Prop :=
  ∃ i : Int, e = .returned (.int .i64 i) ∧ decide (0 ≤ i) = (l0.any fun t => decide (65536 < (t.length : Int))) ∧ w = w'
theorem isLong_byte_at {w : World} {A0 : Option Addr} {l0 : List (List Int)} (hr0 : Kd.C (Kd.slice 5 (Kd.int .u8)) w A0 l0.length l0) (k : Nat) (hk : k < l0.length) :
    ∃ ad A c, A0 = some ad ∧ w.cell? (ad.add k) = some (.slice A l0[k].length c) := by
  obtain ⟨ad, c, rfl, _, ⟨A, cap, hc, _⟩, hw⟩ := Kd.C_get hr0 ([] : List Int) (k : Int) (by omega) (by omega)
  refine ⟨ad, A, cap, rfl, ?_⟩
  subst hc
  have := hw 0 _ rfl
  simpa [Kd.slice, List.getD_eq_getElem?_getD, hk] using this
theorem IndexFunc_byte.calls (A0 : Option Addr) (c0 : Nat) (l0 : List (List Int)) (w : World) (hr0 : Kd.C (Kd.slice 5 (Kd.int .u8)) w A0 l0.length l0) :
    Calls Try.prog 98 #[.slice A0 l0.length c0, .func (.func 81) #[] #[]] w (isLong_byte_idx l0 w) := by
  have HR0 := Aside0.mk hr0
  clear hr0
  have hm : l0.length ≤ 9223372036854775807 := HR0.out.2.1
  go_enter Try.func98, Try.ntmps98
  go_wp2
  go_loop [8] (fun i => ∃ k : Nat, k ≤ l0.length ∧ i = .int .i64 k ∧ Aside0 (∀ j (hj : j < l0.length), j < k → ¬ 65536 < l0[j].length)) (fun i => l0.length - (intOf i).toNat)
  case atStart => exact ⟨0, Nat.zero_le _, rfl, ⟨fun _ _ h => absurd h (by omega)⟩⟩
  case round =>
    obtain ⟨k, hk, rfl, HA⟩ := hrel
    by_cases hlt : k < l0.length
    · obtain ⟨ad, A, c, had, hcell⟩ := isLong_byte_at HR0.out k hlt
      subst had
      by_cases hbig : 65536 < l0[k].length
      · have HF : Aside0 (isLong_byte_idx l0 w (.returned (.int .i64 (k : Int))) w) := ⟨⟨k, rfl, by
          rw [show decide ((0 : Int) ≤ (k : Int)) = true from decide_eq_true (by omega)]
          exact (List.any_eq_true.2 ⟨l0[k], List.getElem_mem hlt, by simp; omega⟩).symm, rfl⟩⟩
        have hd : decide (65536 < (l0[k].length : Int)) = true := decide_eq_true (by omega)
        go_wp2_with (go_at_call 81; refine (isLong_byte_1.calls _ _ _ _).mono ?_; rintro e w' ⟨rfl, rfl⟩)
        go_ret
        exact HF.out
      · have hd : decide (65536 < (l0[k].length : Int)) = false := decide_eq_false (by omega)
        have HA1 : Aside0 (∀ j (hj : j < l0.length), j < k + 1 → ¬ 65536 < l0[j].length) := ⟨fun j hj hjk => by
          rcases Nat.lt_or_ge j k with h | h
          · exact HA.out j hj h
          · obtain rfl : j = k := by omega
            exact hbig⟩
        go_wp2_with (go_at_call 81; refine (isLong_byte_1.calls _ _ _ _).mono ?_; rintro e w' ⟨rfl, rfl⟩)
        go_round
        case rel => exact ⟨k + 1, by omega, by go_num, HA1⟩
        case measure => simp [intOf]; omega
    · have HF : Aside0 (isLong_byte_idx l0 w (.returned (.int .i64 (-1))) w) := ⟨⟨-1, rfl, by
        rw [show decide ((0 : Int) ≤ -1) = false from rfl]
        refine (List.any_eq_false.2 fun x hx => ?_).symm
        obtain ⟨j, hj, rfl⟩ := List.mem_iff_getElem.1 hx
        have := HA.out j hj (by omega)
        simp; omega, rfl⟩⟩
      go_wp2
      go_ret
      exact HF.out
theorem ContainsFunc_byte.calls (A0 : Option Addr) (c0 : Nat) (l0 : List (List Int)) (w : World) (hr0 : Kd.C (Kd.slice 5 (Kd.int .u8)) w A0 l0.length l0) :
    Calls Try.prog 80 #[.slice A0 l0.length c0, .func (.func 81) #[] #[]] w fun e w' => e = .returned (.bool (l0.any fun t => decide (65536 < (t.length : Int)))) ∧ w = w' := by
  go_enter Try.func80, Try.ntmps80
  go_wp2_with (go_at_call 98; refine (IndexFunc_byte.calls _ _ _ _ hr0).mono ?_; rintro e w' ⟨i, rfl, hi, rfl⟩)
  go_ret
  exact ⟨by rw [← hi]; simp, rfl⟩
def impl_isLong_byte.f (l0 : List (List Int)) : Option (Bool) := some (l0.any fun t => decide (65536 < (t.length : Int)))
theorem impl_isLong_byte.calls (A0 : Option Addr) (c0 : Nat) (l0 : List (List Int)) (r : Bool) (w : World) (hr0 : Kd.C (Kd.slice 5 (Kd.int .u8)) w A0 l0.length l0) (hc0 : l0.length ≤ c0) (h : impl_isLong_byte.f l0 = some r) :
    Calls Try.prog 49 #[.slice A0 l0.length c0] w fun e w' => e = .returned (.bool r) ∧ Drawn0 w w' := by
  unfold impl_isLong_byte.f at h
  injection h with h
  have H := Aside0.mk h
  clear h
  go_enter Try.func49, Try.ntmps49
  go_wp2_with (go_at_call 80; refine (ContainsFunc_byte.calls _ _ _ _ hr0).mono ?_; rintro e w' ⟨rfl, rfl⟩)
  go_ret
  exact ⟨by rw [← H.out]; rfl, Drawn0.refl _⟩

/-! ### impl_bytesOf: function 85 -/
def impl_bytesOf.l0 : Nat → Int → List Int → Int → Option (ByteArray)
  | 0, _, _, _ => none
  | k + 1, x0, x5, x6 => if x6 ≥ 0 then (if 0 ≤ x6 then (if x6 < (x5.length : Int) then (impl_bytesOf.l0 k (x0 / 256) (x5.set (x6 : Int).toNat ((x0) % 256)) (wrap64 (x6 - 1))) else (none)) else (none)) else (some (strOfNums x5))
def impl_bytesOf.f (k : Nat) (a0 : Int) (a1 : Int) : Option (ByteArray) := if 0 ≤ a1 then (if (a1 : Int).toNat ≤ 281474976710656 then (impl_bytesOf.l0 k a0 (List.replicate (a1 : Int).toNat 0) (wrap64 (a1 - 1))) else (none)) else (none)
theorem impl_bytesOf.mono_l : ∀ k, (∀ y0 y1 y2, LeO (impl_bytesOf.l0 k y0 y1 y2) (impl_bytesOf.l0 (k + 1) y0 y1 y2))
  | 0 => fun _ _ _ r h => by simp [impl_bytesOf.l0] at h
  | k + 1 => by
    have ih0 := impl_bytesOf.mono_l k
    · intro y0 y1 y2
      unfold impl_bytesOf.l0
      repeat' first
      | (with_reducible exact ih0 _ _ _)
      | (with_reducible exact LeO.refl _)
      | (with_reducible exact LeO.none _)
      | (with_reducible refine LeO.ite ?_ ?_)
      | (with_reducible refine LeO.bind ?_ (fun _ => ?_))
      | exact ih0 _ _ _
      | exact LeO.none _
      | refine LeO.ite ?_ ?_
      | refine LeO.bind ?_ (fun _ => ?_)
theorem impl_bytesOf.mono : ∀ a0 a1 k, LeO (impl_bytesOf.f k a0 a1) (impl_bytesOf.f (k + 1) a0 a1) := by
  intro a0 a1 k
  have ih0 := impl_bytesOf.mono_l k
  unfold impl_bytesOf.f
  repeat' first
      | (with_reducible exact ih0 _ _ _)
      | (with_reducible exact LeO.refl _)
      | (with_reducible exact LeO.none _)
      | (with_reducible refine LeO.ite ?_ ?_)
      | (with_reducible refine LeO.bind ?_ (fun _ => ?_))
      | exact ih0 _ _ _
      | exact LeO.none _
      | refine LeO.ite ?_ ?_
      | refine LeO.bind ?_ (fun _ => ?_)
set_option maxHeartbeats 8000000 in
set_option maxRecDepth 100000 in
theorem impl_bytesOf.calls (k : Nat) (a0 : Int) (a1 : Int) (r : ByteArray) (w : World) (h : impl_bytesOf.f k a0 a1 = some r) :
    Calls Try.prog 85 #[.int .i64 a0, .int .i64 a1] w fun e w' => e = .returned (.string r) ∧ Below w.heap.size w w' := by
  have HB := Aside0.mk (Below.refl w.heap.size w)
  have H : (if 0 ≤ a1 then (if (a1 : Int).toNat ≤ 281474976710656 then (impl_bytesOf.l0 k a0 (List.replicate (a1 : Int).toNat 0) (wrap64 (a1 - 1))) else (none)) else (none)) = some r := h
  clear h
  by_cases c3 : 0 ≤ a1
  · rw [if_pos c3] at H
    have c3b0 := eq_true c3
    have c3b1 : decide (0 ≤ a1) = true := decide_eq_true c3
    clear c3
    by_cases c4 : (a1 : Int).toNat ≤ 281474976710656
    · rw [if_pos c4] at H
      have c4b0 := eq_true c4
      have c4b1 : decide ((a1 : Int).toNat ≤ 281474976710656) = true := decide_eq_true c4
      clear c4
      obtain ⟨y112, hy112⟩ : ∃ y_ : List Int, y_ = (List.replicate (a1 : Int).toNat 0) := ⟨_, rfl⟩
      replace H : (impl_bytesOf.l0 k a0 y112 (wrap64 (a1 - 1))) = some r := by first | (rw [hy112]; with_reducible exact H) | (have H2_ := (Option.bind_some _ _).symm.trans H; rw [hy112]; with_reducible exact H2_) | (have H2_ := (Option.bind_some _ _).symm.trans H; with_reducible exact H2_) | with_reducible exact H | (rw [hy112]; exact H) | exact H
      have Ny112 := Aside0.mk hy112
      clear hy112
      have H' := Aside0.mk H
      clear H
      go_enter Try.func85, Try.ntmps85
      go_wp2_with (first | ((with_reducible refine gate_dst (N := 8) rfl ?_); refine Kd.R_make (Kd.int .u8) _ 5 rfl (N := 8) rfl 22 _ _ rfl a1 rfl rfl Try.underlying22 (.int .u8 0) 1 info5 rfl (by decide) (by omega) 0 (ok := fun _ => True) (okp := fun _ => True) rfl (fun _ hk => hk) trivial (of_decide_eq_true (by first | (with_reducible assumption) | assumption)) (Nat.le_trans (Nat.mul_le_mul_right _ (of_decide_eq_true (by first | (with_reducible assumption) | assumption) : a1.toNat ≤ 281474976710656)) (by omega)) (Below.refl _ _) (Nat.le_refl _) ?_; intro v113 w5 ho6 hb hg_ hnew_; clear hg_ hnew_; (first | rw [← Ny112.out] at ho6 | (simp only [Int.reduceToNat] at ho6; rw [← Ny112.out] at ho6)); have n0_ := Aside0.mk (Kd.R_lower ho6 (below_size (by repeat (first | (with_reducible first | exact HB.out | apply below_alloc | apply pw_below_drewN | apply below_drew1) | exact HB.out)))); have n1_ := Aside0.mk (below_step (by repeat (first | (with_reducible first | exact HB.out | apply below_alloc | apply pw_below_drewN | apply below_drew1) | exact HB.out)) hb); clear HB; have HO114 := n0_; have HB := n1_; clear n0_ n1_; clear hb ho6))
      go_loopg [0, 6] k (fun kq v0 v6 w' => ∃ (x0_1 : Int) (x5_1 : List Int) (x6_1 : Int), v0 = .int .i64 x0_1 ∧ v6 = .int .i64 x6_1 ∧ Aside0 (impl_bytesOf.l0 kq x0_1 x5_1 x6_1 = some r) ∧ Aside0 (kq ≤ k) ∧ Aside0 (Kd.R (Kd.int .u8) 5 w' w.heap.size (fun _ => True) v113 x5_1) ∧ Aside0 (Below w.heap.size w w'))
      case atStart => exact ⟨(a0), (y112), (wrap64 (a1 - 1)), (by first | rfl | (simp; done) | (simp [*]; done)), (by first | rfl | (simp; done) | (simp [*]; done)), H', ⟨Nat.le_refl _⟩, ⟨by (with_reducible repeat (first | apply Kd.R_alloc | apply Kd.R_drewN | apply Kd.R_drew)); exact HO114.out⟩, ⟨by repeat (first | (with_reducible first | exact HB.out | apply below_alloc | apply pw_below_drewN | apply below_drew1) | exact HB.out)⟩⟩
      case round =>
        clear H'
        try clear p2
        try clear c3
        try clear c3b0
        try clear c3b1
        try clear c4
        try clear c4b0
        try clear c4b1
        try clear p6
        obtain ⟨x0_1, x5_1, x6_1, rfl, rfl, HA, HK1, HO_5, HB⟩ := hrel
        cases gk with
        | zero => exact absurd HA.out (by simp [impl_bytesOf.l0])
        | succ k1 =>
          have H := HA.out
          clear HA
          simp only [impl_bytesOf.l0] at H
          by_cases c7 : x6_1 ≥ 0
          · rw [if_pos c7] at H
            have c7b0 : decide (0 ≤ x6_1) = true := decide_eq_true c7
            clear c7
            by_cases c8 : 0 ≤ x6_1
            · rw [if_pos c8] at H
              have c8b0 : decide (0 ≤ x6_1) = true := decide_eq_true c8
              clear c8
              by_cases c9 : x6_1 < (x5_1.length : Int)
              · rw [if_pos c9] at H
                have c9b0 : decide (x6_1 < (x5_1.length : Int)) = true := decide_eq_true c9
                clear c9
                obtain ⟨y115, hy115⟩ : ∃ y_ : List Int, y_ = (x5_1.set (x6_1 : Int).toNat ((x0_1) % 256)) := ⟨_, rfl⟩
                replace H : (impl_bytesOf.l0 k1 (x0_1 / 256) y115 (wrap64 (x6_1 - 1))) = some r := by first | (rw [hy115]; with_reducible exact H) | (have H2_ := (Option.bind_some _ _).symm.trans H; rw [hy115]; with_reducible exact H2_) | (have H2_ := (Option.bind_some _ _).symm.trans H; with_reducible exact H2_) | with_reducible exact H | (rw [hy115]; exact H) | exact H
                have Ny115 := Aside0.mk hy115
                clear hy115
                have H' := Aside0.mk H
                clear H
                have p10 : 0 ≤ (x6_1 : Int) := of_decide_eq_true (by first | (with_reducible assumption) | assumption)
                have q10 : (x6_1 : Int) < ((x5_1.length : Int) : Int) := of_decide_eq_true (by first | (with_reducible assumption) | assumption)
                obtain ⟨go10, co10, eo10, gb10, gl10, cl10, HG10⟩ := Kd.R_form HO_5.out (by omega)
                (first | cases eo10 | (injection eo10 with ea_ en_ ec_; (first | subst ea_ | (injection ea_ with ea_; subst ea_)); subst ec_; clear en_))
                have GB10 := Aside0.mk gb10
                have GG10 := Aside0.mk HG10
                clear gb10 gl10 HG10
                obtain ⟨hx10_0, hf10_0⟩ := Kd.R_celln 0 HO_5.out (x6_1 : Int) p10 q10
                replace p10 := eq_true p10
                replace q10 := eq_true q10
                have HP11 := Kd.R_putg HO_5.out (x6_1 : Int) ((x0_1) % 256)
                go_wp2_with (first | ((with_reducible refine gate_store (t := 5) (p := 19) rfl ?_); refine store_event (t := 5) (p := 19) (v := ?vo_w12) (w1 := (wr.setCell ⟨go10, (x6_1 : Int).toNat, none⟩ (.int .u8 ((x0_1) % 256)))) ?hg ?ho ?hn ?hr ?_; (case ho => rfl); (case hg => rfl); (case hn => rfl); (case hr => first | (go_simp; done) | (go_simp; rfl)); intro w12 hw; have hg : wr.grownBy w12 (some go10) := (by rw [hw]; exact HP11.2); have hp_ : Kd.R (Kd.int .u8) 5 w12 w.heap.size (fun _ => True) (.slice (some ⟨go10, 0, none⟩) x5_1.length co10) y115 := (by rw [hw, Ny115.out]; exact HP11.1); clear HP11; have n0_ := Aside0.mk (hp_); have n1_ := Aside0.mk ((by rw [hw]; exact below_set (HB.out) GB10.out : Below w.heap.size w w12)); clear HO_5; clear HB; have HO_5 := n0_; have HB := n1_; clear n0_ n1_; clear hg hw hp_))
                go_roundg k1
                case measure => have := HK1.out; omega
                case rel => exact ⟨(x0_1 / 256), (y115), (wrap64 (x6_1 - 1)), (by first | rfl | (simp; done) | (simp [*]; done)), (by first | rfl | (simp; done) | (simp [*]; done)), H', ⟨by have := HK1.out; omega⟩, ⟨by (with_reducible repeat (first | apply Kd.R_alloc | apply Kd.R_drewN | apply Kd.R_drew)); exact HO_5.out⟩, ⟨by repeat (first | (with_reducible first | exact HB.out | apply below_alloc | apply pw_below_drewN | apply below_drew1) | exact HB.out)⟩⟩
              · rw [if_neg c9] at H
                exact absurd H (by simp)
            · rw [if_neg c8] at H
              exact absurd H (by simp)
          · rw [if_neg c7] at H
            have c7b0 : decide (0 ≤ x6_1) = false := decide_eq_false c7
            clear c7
            obtain rfl := Option.some.inj H
            have hcv13 := own_string (P := Try.prog) Try.underlying22 Try.underlying5 Try.underlying9 (Kd.own_of_R HO_5.out)
            go_wp2
            go_ret
            exact ⟨by first | rfl | (simp [errW_none, errW_some] <;> rfl) | (simp [*, errW_none, errW_some] <;> rfl), by repeat (first | (with_reducible first | exact HB.out | apply below_alloc | apply pw_below_drewN | apply below_drew1) | exact HB.out)⟩
    · rw [if_neg c4] at H
      exact absurd H (by simp)
  · rw [if_neg c3] at H
    exact absurd H (by simp)

/-! ### behind impl_bytesOf -/
theorem bo4 (n : Int) : impl_bytesOf.f 6 n 4 = some (strOfNums (Sha.four n)) := by
  have w3 : wrap64 3 = 3 := by unfold wrap64; omega
  have w2 : wrap64 2 = 2 := by unfold wrap64; omega
  have w1 : wrap64 1 = 1 := by unfold wrap64; omega
  have w0 : wrap64 0 = 0 := by unfold wrap64; omega
  have wm : wrap64 (-1) = -1 := by unfold wrap64; omega
  have e : n / 65536 / 256 = n / 16777216 := by omega
  have e2 : n / 256 / 256 = n / 65536 := by omega
  simp [impl_bytesOf.f, impl_bytesOf.l0, w3, w2, w1, w0, wm, Sha.four, List.replicate, e, e2]
theorem bo8 (n : Int) : impl_bytesOf.f 10 n 8 = some (strOfNums (Sha.be8 n)) := by
  have w7 : wrap64 7 = 7 := by unfold wrap64; omega
  have w6 : wrap64 6 = 6 := by unfold wrap64; omega
  have w5 : wrap64 5 = 5 := by unfold wrap64; omega
  have w4 : wrap64 4 = 4 := by unfold wrap64; omega
  have w3 : wrap64 3 = 3 := by unfold wrap64; omega
  have w2 : wrap64 2 = 2 := by unfold wrap64; omega
  have w1 : wrap64 1 = 1 := by unfold wrap64; omega
  have w0 : wrap64 0 = 0 := by unfold wrap64; omega
  have wm : wrap64 (-1) = -1 := by unfold wrap64; omega
  have e2 : n / 256 / 256 = n / 65536 := by omega
  have e3 : n / 65536 / 256 = n / 16777216 := by omega
  have e4 : n / 16777216 / 256 = n / 4294967296 := by omega
  have e5 : n / 4294967296 / 256 = n / 1099511627776 := by omega
  have e6 : n / 1099511627776 / 256 = n / 281474976710656 := by omega
  have e7 : n / 281474976710656 / 256 = n / 72057594037927936 := by omega
  simp [impl_bytesOf.f, impl_bytesOf.l0, w7, w6, w5, w4, w3, w2, w1, w0, wm, List.replicate, Sha.be8, e2, e3, e4, e5, e6, e7]
theorem bo4_calls (n : Int) (w : World) : Calls Try.prog 85 #[.int .i64 n, .int .i64 4] w fun e w' => e = .returned (.string (strOfNums (Sha.four n))) ∧ Below w.heap.size w w' := impl_bytesOf.calls 6 n 4 _ w (bo4 n)
theorem bo8_calls (n : Int) (w : World) : Calls Try.prog 85 #[.int .i64 n, .int .i64 8] w fun e w' => e = .returned (.string (strOfNums (Sha.be8 n))) ∧ Below w.heap.size w w' := impl_bytesOf.calls 10 n 8 _ w (bo8 n)

/-! ### impl_rounds: function 89 -/
-- HAND rounds=0 making=1
theorem info64w : (Try.prog.info? 95).map (·.size) = some 64 := by kernel_rfl
set_option maxHeartbeats 2000000 in
set_option maxRecDepth 100000 in
theorem rounds_calls (W : World) : Calls Try.prog 89 #[] W fun e w' => e = .returned (arr32 Sha.K) ∧ Below W.heap.size W w' := by
  obtain ⟨KK, hKK⟩ : ∃ KK, KK = (nums .u32 Sha.K).toArray := ⟨_, rfl⟩
  have HK := Aside0.mk hKK
  have HS : Aside0 (KK.size = 64) := ⟨by rw [hKK]; rfl⟩
  have HO : Aside0 (KK.all (·.oneCell') = true) := ⟨by rw [hKK]; exact nums_one _ _⟩
  unfold arr32
  rw [← hKK]
  clear hKK
  have G0 := Aside0.mk (blk_new W (Obj.cells (nums .u32 (List.replicate 64 0)).toArray 95 (0, 0)))
  have GR := Aside0.mk (setRow_heap _ W.heap.size _ KK _ _ G0.out)
  have HB : Aside0 (Below W.heap.size W ((W.alloc (Obj.cells (nums .u32 (List.replicate 64 0)).toArray 95 (0, 0))).setRow W.heap.size KK)) := ⟨below_row (below_alloc (Below.refl W.heap.size W) _) (by omega) _⟩
  go_enter Try.func89, Try.ntmps89
  go_wp2_with (first
    | ((with_reducible refine gate_dst (N := 1) rfl ?_); refine wpList_build_is (by rfl) 95 _ (by rfl) KK (by rw [HK.out]; kernel_rfl) ?_)
    | ((with_reducible refine gate_ (.store 95 (.tmp 0) (.tmp 1)) rfl ?_); refine wpList_store_row (by rfl) 95 (.tmp 0) (.tmp 1) (by rfl) W.heap.size KK (by rfl) (by rfl) 95 _ G0.out (by rw [HS.out]; exact info64w) (by rw [HS.out]; rfl) HO.out ?_))
  refine bodyPost_ret (v := .agg KK) ?_ rfl ?_
  · exact results_cell_row (fn := Try.f89) (p := 0) (ty := 95) Try.results89 _ _ _ 95 _ (0, 0) _ (by rfl) GR.out Try.underlying95 rfl (by rw [HS.out]; exact info64w)
  · exact ⟨rfl, HB.out⟩

/-! ### slices_Chunk_byte_byte: function 90 -/
-- HAND rounds=0 making=1
/-- the boxes of an iterator over cuts lie as they lay -/
def KpB (Bs Bn : Nat) (W W' : World) : Prop := ∀ a : Addr, a.block = Bs ∨ a.block = Bn → W'.cell? a = W.cell? a
theorem KpB.refl (Bs Bn : Nat) (W : World) : KpB Bs Bn W W := fun _ _ => rfl
theorem KpB.trans {Bs Bn : Nat} {A B C : World} (h : KpB Bs Bn A B) (k : KpB Bs Bn B C) : KpB Bs Bn A C := fun a ha => (k a ha).trans (h a ha)
theorem KpB.put {Bs Bn b : Nat} (hs : Bs < b) (hn : Bn < b) (W : World) (l : Nat) (o o' : Obj) (hl : b ≤ l) (_ : W.heap[l]? = some o) (_ : o.isCells = false) (_ : o.isWalk = false) : KpB Bs Bn W (W.putObj l o') := fun a ha => by
  have hne : a.block ≠ l := by omega
  exact World.cell?_of_block (World.putObj_heap_other hne)
section
attribute [local go_sem] Oper.semAt_some
set_option maxRecDepth 100000 in
set_option maxHeartbeats 2000000 in
theorem chunk1_in (F : Fence) (n : Nat) (hF : F.fn 104) (hro : F.round = none) (hn : 1 ≤ n) (l Bs Bn : Nat) (ad : Addr) (q m c : Nat) (hq : 0 < q) (hc : q * m ≤ c) (hreach : q * m ≤ 140737488355328) (J Jx : List (Fin m) → World → Prop) (hJd : ∀ s V, J s V → J s V.drew)
    (hY : ∀ pre x W, J pre W → pre.length < m → YieldAt F (n - 1) Try.prog l #[.slice (some (ad.add (q * x.1))) q q] W fun e W' =>
      (e = .returned (.bool true) ∧ J (pre ++ [x]) W' ∧ KpB Bs Bn W W') ∨ (e = .returned (.bool false) ∧ Jx (pre ++ [x]) W'))
    (W : World) (hBs : W.cell? ⟨Bs, 0, none⟩ = some (.slice (some ad) (q * m) c)) (hBn : W.cell? ⟨Bn, 0, none⟩ = some (.int .i64 (q : Int))) (h0 : J [] W) :
    CallsIn F n Try.prog 104 #[.func (.yield l) #[] #[], .pointer (some ⟨Bs, 0, none⟩), .pointer (some ⟨Bn, 0, none⟩)] W fun e W' => (∃ v, e = .returned v) ∧
      ((∃ ys : List (Fin m), ys.map (·.1) = List.range m ∧ J ys W') ∨ (∃ pre : List (Fin m), (∃ k, k ≤ m ∧ pre.map (·.1) = List.range k) ∧ Jx pre W')) := by
  refine callsIn_of_wp Try.func104 rfl hF ?_ hro
  simp only [Try.ntmps104, List.size_toArray, List.length_cons, List.length_nil, Nat.reduceAdd, Nat.reduceSub, Array.replicate_succ, Array.replicate_zero, List.push_toArray, List.append_toArray, List.nil_append, List.cons_append]
  obtain ⟨L, hL⟩ : ∃ L, L = q * m := ⟨_, rfl⟩
  rw [← hL] at hBs hc hreach
  have HL := Aside0.mk hL
  clear hL
  have HBs := Aside0.mk hBs
  have HBn := Aside0.mk hBn
  clear hBs hBn
  gi_wp2
  gi_loopw [4] (fun i wr => ∃ (k j : Nat) (pre : List (Fin m)), k ≤ m ∧ i = .int .i64 (j : Int) ∧ Aside0 (j = q * k) ∧ Aside0 (pre.map (·.1) = List.range k) ∧ J pre wr ∧ Aside0 (KpB Bs Bn W wr)) (fun i _ => L - (intOf i).toNat)
  case atStart => exact ⟨0, 0, [], Nat.zero_le _, rfl, ⟨by simp⟩, ⟨rfl⟩, h0, ⟨KpB.refl _ _ _⟩⟩
  case round =>
    obtain ⟨k, j, pre, hk, rfl, hj, hpre, hJs, hnx⟩ := hrel
    have cS : wr.cell? ⟨Bs, 0, none⟩ = some (.slice (some ad) L c) := (hnx.out _ (.inl rfl)).trans HBs.out
    have cN : wr.cell? ⟨Bn, 0, none⟩ = some (.int .i64 (q : Int)) := (hnx.out _ (.inr rfl)).trans HBn.out
    have j0 : (0 : Int) ≤ (j : Int) := Int.natCast_nonneg j
    have q0 : (0 : Int) < (q : Int) := by omega
    by_cases hlt : k < m
    · have hjq : j + q ≤ L := by
        rw [hj.out, HL.out, ← Nat.mul_succ]
        exact Nat.mul_le_mul_left q hlt
      obtain ⟨fn, tmps, assign, body, hy, hR⟩ := hY pre ⟨k, hlt⟩ wr.drew (hJd _ _ hJs) (by rw [← List.length_map (f := fun x : Fin m => x.1), hpre.out, List.length_range]; exact hlt)
      have hy2 : (Instr.yield l #[.slice (some (ad.add j)) q q]).run Try.prog wr.drew = .ok (.round l fn tmps assign body) wr.drew := by rw [hj.out]; exact hy
      clear hy
      have hd : decide ((j : Int) < (L : Int)) = true := decide_eq_true (by omega)
      have hd2 : decide (j < L) = true := decide_eq_true (by omega)
      gi_wp2
      gi_region
      all_goals gi_wp2
      all_goals
        refine hR.mono ?_
        rintro e W3 (⟨rfl, hJ3, hk3⟩ | ⟨rfl, hJx3⟩)
        · have cN3 : W3.cell? ⟨Bn, 0, none⟩ = some (.int .i64 (q : Int)) := (hk3 _ (.inr rfl)).trans cN
          gi_wp2
          go_roundw
          case rel =>
            refine ⟨k + 1, j + q, pre ++ [⟨k, hlt⟩], by omega, by go_num, ⟨by rw [hj.out, Nat.mul_succ]⟩, ⟨by rw [List.range_succ, List.map_append, hpre.out]; rfl⟩, hJ3, ⟨hnx.out.trans hk3⟩⟩
          case measure => simp [intOf]; omega
        · gi_wp2
          refine bodyPost_ret (results_none rfl _ _ _) rfl ?_
          exact ⟨⟨_, rfl⟩, .inr ⟨_, ⟨k + 1, by omega, by rw [List.range_succ, List.map_append, hpre.out]; rfl⟩, hJx3⟩⟩
    · obtain rfl : k = m := by omega
      have e1 : j = L := by rw [hj.out, HL.out]
      have hd : decide ((j : Int) < (L : Int)) = false := decide_eq_false (by omega)
      have hd2 : decide (j < L) = false := decide_eq_false (by omega)
      clear e1
      gi_wp2
      go_end0
      exact ⟨⟨_, rfl⟩, .inl ⟨_, hpre.out, hJs⟩⟩
set_option maxRecDepth 100000 in
set_option maxHeartbeats 1000000 in
/-- no round where nothing is to be cut -/
theorem chunk1_nil_in (F : Fence) (n : Nat) (hF : F.fn 104) (hro : F.round = none) (l Bs Bn : Nat) {α : Type} (A0 : Option Addr) (c : Nat) (J : List α → World → Prop) (W : World) (hBs : W.cell? ⟨Bs, 0, none⟩ = some (.slice A0 0 c)) (h0 : J [] W) :
    CallsIn F n Try.prog 104 #[.func (.yield l) #[] #[], .pointer (some ⟨Bs, 0, none⟩), .pointer (some ⟨Bn, 0, none⟩)] W fun e W' => (∃ v, e = .returned v) ∧ J [] W' := by
  refine callsIn_of_wp Try.func104 rfl hF ?_ hro
  simp only [Try.ntmps104, List.size_toArray, List.length_cons, List.length_nil, Nat.reduceAdd, Nat.reduceSub, Array.replicate_succ, Array.replicate_zero, List.push_toArray, List.append_toArray, List.nil_append, List.cons_append]
  have HBs := Aside0.mk hBs
  clear hBs
  gi_wp2
  gi_loopw [4] (fun i wr => i = .int .i64 0 ∧ J [] wr ∧ Aside0 (wr.cell? ⟨Bs, 0, none⟩ = some (.slice A0 0 c))) (fun _ _ => 0)
  case atStart => exact ⟨rfl, h0, HBs⟩
  case round =>
    obtain ⟨rfl, hJs, hcs⟩ := hrel
    have hB := hcs.out
    gi_wp2
    go_end0
    exact ⟨⟨_, rfl⟩, hJs⟩
end
/-- the cuts of a row, in order; each round keeps the iterator's boxes -/
theorem chunk_stops (F : Fence) (n : Nat) (hF : F.fn 104) (hro : F.round = none) (hn : 1 ≤ n) (Bs Bn : Nat) (ad : Addr) (q m c : Nat) (hq : 0 < q) (hc : q * m ≤ c) (hreach : q * m ≤ 140737488355328) (w : World) (hs : Bs < w.heap.size) (hb : Bn < w.heap.size)
    (hBs : w.cell? ⟨Bs, 0, none⟩ = some (.slice (some ad) (q * m) c)) (hBn : w.cell? ⟨Bn, 0, none⟩ = some (.int .i64 (q : Int))) :
    SeqStopsK F n Try.prog 104 #[.pointer (some ⟨Bs, 0, none⟩), .pointer (some ⟨Bn, 0, none⟩)] (fun x : Fin m => #[Value.slice (some (ad.add (q * x.1))) q q]) (KpB Bs Bn) (fun ys => ys.map (·.1) = List.range m) (fun pre => ∃ k, k ≤ m ∧ pre.map (·.1) = List.range k) m w := fun l J Jx W hW hJ _ hY h0 =>
  chunk1_in F n hF hro hn l Bs Bn ad q m c hq hc hreach J Jx (fun s V hV => hJ s V V.drew none hV ⟨rfl, rfl, rfl, Nat.le_refl _, fun _ _ _ => rfl⟩ (fun r e => by cases e)) hY W ((hW.cell (p := ⟨Bs, 0, none⟩) hs).trans hBs) ((hW.cell (p := ⟨Bn, 0, none⟩) hb).trans hBn) h0
theorem chunk_stops_nil (F : Fence) (n : Nat) (hF : F.fn 104) (hro : F.round = none) (Bs Bn : Nat) (A0 : Option Addr) (q c : Nat) (encs : Fin 0 → Array Value) (w : World) (hs : Bs < w.heap.size)
    (hBs : w.cell? ⟨Bs, 0, none⟩ = some (.slice A0 0 c)) :
    SeqStopsK F n Try.prog 104 #[.pointer (some ⟨Bs, 0, none⟩), .pointer (some ⟨Bn, 0, none⟩)] encs (KpB Bs Bn) (fun ys => ys.map (·.1) = List.range 0) (fun pre => ∃ k, k ≤ 0 ∧ pre.map (·.1) = List.range k) 0 w := fun l J Jx W hW hJ _ hY h0 =>
  (chunk1_nil_in F n hF hro l Bs Bn A0 c J W ((hW.cell (p := ⟨Bs, 0, none⟩) hs).trans hBs) h0).mono fun e W' ⟨he, hj⟩ => ⟨he, .inl ⟨_, rfl, hj⟩⟩
/-- slices.Chunk itself: two boxes -/
theorem chunk_calls (a : Option Addr) (len cap : Nat) (q : Int) (hq : 1 ≤ q) (w : World) :
    Calls Try.prog 90 #[.slice a len cap, .int .i64 q] w fun e w' => e = .returned (.func (.func 104) #[] #[.pointer (some ⟨w.heap.size, 0, none⟩), .pointer (some ⟨w.heap.size + 1, 0, none⟩)]) ∧ w' = (w.alloc (.cells #[.slice a len cap] 22)).alloc (.cells #[.int .i64 q] 3) := by
  have hd : decide (q < 1) = false := decide_eq_false (by omega)
  go_enter Try.func90, Try.ntmps90
  go_wp2
  go_ret
  exact ⟨rfl, rfl⟩

end Go.Proofs.Ytlfpogbonmddmaa.P

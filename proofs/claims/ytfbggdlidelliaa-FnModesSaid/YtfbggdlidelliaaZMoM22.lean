/- Laid by a program of this session: of Pm12, Pm17 what this law uses. -/
import Derived.Test.YtfbggdlidelliaaZMoM11
import Derived.Test.YtfbggdlidelliaaZMoPm7
import Derived.Test.YtfbggdlidelliaaZMoPm8
import Derived.Test.YtfbggdlidelliaaZMoPm9
import Derived.Test.YtfbggdlidelliaaZMoPm10
import Derived.Test.YtfbggdlidelliaaZMoPm11
namespace Go.Proofs.Ytfbggdlidelliaa.P
open Go.RowKit Go.Proofs.YtfbggdlidelliaaW.PrintWords Go.Proofs.YtfbggdlidelliaaW.PrintLast Go.Proofs.YtfbggdlidelliaaW.PrintMore
attribute [local go_sem] min2_int min_two
set_option linter.unusedVariables false
set_option linter.unusedSimpArgs false
def impl_CbcEncrypt.f (a0 a1 : ByteArray) (l2 : List Int) : Option (List Int × Int) := if u8b l2 = true then (if 65536 < a0.size ∨ 65536 < a1.size ∨ 65520 < l2.length then some ([], 2) else if (a0.size = 16 ∨ a0.size = 32) ∧ a1.size = 16 then some (Md.cbcL (Aes.keysL (bytesL a0)) (bytesL a1) (padL l2), 0) else some ([], 1)) else none
theorem long2_g (a0 a1 : ByteArray) (b : Bool) (h : b = decide (65536 < a0.size ∨ 65536 < a1.size)) : impl_isLong_string.f [a0, a1] = some b := by
  subst h
  unfold impl_isLong_string.f
  congr 1
  simp only [List.any_cons, List.any_nil, Bool.or_false]
  rw [Bool.decide_or]
  congr 1
  · exact decide_eq_decide.2 (by omega)
  · exact decide_eq_decide.2 (by omega)
theorem isKey_g (s : ByteArray) (b : Bool) (h : b = decide (s.size = 16 ∨ s.size = 32)) : impl_isKey.f s = some b := by
  subst h
  unfold impl_isKey.f
  by_cases h : s.size = 16
  · rw [if_pos (by omega), decide_eq_true (.inl h)]
  · rw [if_neg (by omega)]
    congr 1
    by_cases h2 : s.size = 32
    · rw [decide_eq_true (.inr h2), h2]; rfl
    · rw [decide_eq_false (by omega), beq_eq_false_iff_ne]; omega
@[reducible] def ceAct (a0 a1 : ByteArray) (A2 : Option Addr) (n2 c2 g0 : Nat) (v8 v9 v31 v32 v33 v34 v35 v36 : Value) : Act := { tmps := #[.string a0, .string a1, .slice A2 n2 c2, undef, undef, undef, .slice none 0 0, .int .i64 0, v8, v9, undef, undef, .bool false, .string a0, .string a1, .slice (some { block := g0, off := 0 }) 2 2, .bool false, .bool false, .slice A2 n2 c2, .int .i64 (n2 : Int), .bool false, .bool false, .bool false, .string a0, .bool true, .bool false, .bool false, .string a1, .int .i64 16, .bool false, .bool false, v31, v32, v33, v34, v35, v36, undef, undef, undef, undef, undef, undef, undef, undef, undef, undef, undef, undef, undef, undef, undef], defers := [] }
def ceI (a0 a1 : ByteArray) (A2 : Option Addr) (n2 c2 g0 : Nat) (keys : List (List Int)) (f : List Int) (w1 : World) (b : Nat → Bool) (a : Act) (w : World) : Prop :=
  ∃ (v8 v9 v31 v32 v33 v34 v35 v36 : Value) (G : List Nat) (gb cb : Nat), a = ceAct a0 a1 A2 n2 c2 g0 v8 v9 v31 v32 v33 v34 v35 v36 ∧ Below w1.heap.size w1 w ∧ (∀ k ∈ G, w1.heap.size ≤ k ∧ k < w.heap.size) ∧
  (b 0 = true → v31 = .string a0) ∧ (b 2 = true → v33 = .string a1) ∧
  (b 1 = true → ∃ gc, v32 = .pointer (some ⟨gc, 0, none⟩) ∧ Kp w G (fun W => cipherAt W w1.heap.size gc keys)) ∧
  (b 3 = true → v34 = .slice (some ⟨gb, 0, none⟩) 16 cb ∧ Kp w G (fun W => W.rangeAt gb 0 (nums .u8 f))) ∧
  (b 4 = true → v35 = .pointer (some ⟨gb, 0, none⟩)) ∧ (b 5 = true → v36 = .agg (nums .u8 f).toArray) ∧
  (b 6 = true → ∃ g8 x, v8 = .pointer (some ⟨g8, 0, none⟩) ∧ g8 ∈ G ∧ w.heap[g8]? = some (.cells #[x] 50 (0, 0)) ∧ (b 8 = true → x = v32)) ∧
  (b 7 = true → ∃ g9 xs, v9 = .pointer (some ⟨g9, 0, none⟩) ∧ g9 ∈ G ∧ w.heap[g9]? = some (.cells xs 52 (0, 0)) ∧ xs.size = 16 ∧ (b 9 = true → xs = (nums .u8 f).toArray)) ∧
  ((b 4 = true → b 3 = true) ∧ (b 8 = true → b 6 = true ∧ b 1 = true) ∧ (b 9 = true → b 7 = true))
theorem ce_far {W W' : World} {B B0 g : Nat} {keys : List (List Int)} (h : cipherAt W B0 g keys) (hB : B ≤ B0) (hk : ∀ k, B0 ≤ k → k < W.heap.size → W'.heap[k]? = W.heap[k]?) : cipherAt W' B g keys := by
  obtain ⟨cs, gk, ck, h1, h2, h3, h4, h5, h6, h7⟩ := h
  have hlt : g < W.heap.size := (Array.getElem?_eq_some_iff.1 h4).1
  refine ⟨cs, gk, ck, Nat.le_trans hB h1, Nat.le_trans hB h2, h3, (hk g h1 hlt).trans h4, h5, h6, fun i hi j v hv => ?_⟩
  have hc := h7 i hi j v hv
  have hlk : (⟨gk, i * 16 + j, none⟩ : Addr).block < W.heap.size := cell_lt (by rw [hc]; rfl)
  exact (World.cell?_of_block (hk gk h2 hlk)).trans hc
set_option maxHeartbeats 4000000 in
set_option maxRecDepth 100000 in
theorem ce_r5 (a0 a1 : ByteArray) (A2 : Option Addr) (n2 c2 g0 : Nat) (n : Nat) (keys : List (List Int)) (f : List Int) (hn : n = 4 ∨ n = 8) (hs0 : a0.size = 4 * n) (hs1 : a1.size = 16) (hk : keys = Aes.keysL (bytesL a0)) (hk0 : 0 < keys.length) (hf : f = bytesL a1) (Q : Exit → Act → World → Prop) (w1 : World)
    (h : ∀ gc g8 g9 u34 gb G w, g8 ∈ G → g9 ∈ G → (∀ k ∈ G, w1.heap.size ≤ k ∧ k < w.heap.size) → Kp w G (fun W => cipherAt W w1.heap.size gc keys) → Below w1.heap.size w1 w → w.heap[g8]? = some (.cells #[.pointer (some ⟨gc, 0, none⟩)] 50 (0, 0)) → w.heap[g9]? = some (.cells (nums .u8 f).toArray 52 (0, 0)) →
      Q .normal (ceAct a0 a1 A2 n2 c2 g0 (.pointer (some ⟨g8, 0, none⟩)) (.pointer (some ⟨g9, 0, none⟩)) (.string a0) (.pointer (some ⟨gc, 0, none⟩)) (.string a1) u34 (.pointer (some ⟨gb, 0, none⟩)) (.agg (nums .u8 f).toArray)) w) :
    wpAny Try.prog .any (opsOf Try.f32 5) Q 10 (Array.replicate 10 false) (ceAct a0 a1 A2 n2 c2 g0 undef undef undef undef undef undef undef undef) w1 := by
  refine wpAny_inv (fun L a w => ceI a0 a1 A2 n2 c2 g0 keys f w1 (fun j => L.getD j false) a w) (by kernel_rfl) ?done ?step 10 _ _ _ (by kernel_rfl) (by decide) ?start
  case start =>
    refine ⟨undef, undef, undef, undef, undef, undef, undef, undef, [], 0, 0, rfl, Below.refl _ _, (fun k hk => by cases hk), ?_, ?_, ?_, ?_, ?_, ?_, ?_, ?_, ⟨?_, ?_, ?_⟩⟩ <;> (intro h0; cases h0)
  case done =>
    rintro L a w ⟨v8, v9, v31, v32, v33, v34, v35, v36, G, gb, cb, rfl, HB, HG, H0, H2, H1, H3, H4, H5, H6, H7, HX⟩ hL hall
    have al : ∀ i, i < 10 → L.getD i false = true := hall
    obtain rfl := H0 (al 0 (by decide))
    obtain rfl := H2 (al 2 (by decide))
    obtain ⟨gc, rfl, hC⟩ := H1 (al 1 (by decide))
    obtain rfl := H4 (al 4 (by decide))
    obtain rfl := H5 (al 5 (by decide))
    obtain ⟨g8, x, rfl, m8, c8, e8⟩ := H6 (al 6 (by decide))
    obtain ⟨g9, xs, rfl, m9, c9, _, e9⟩ := H7 (al 7 (by decide))
    rw [e8 (al 8 (by decide))] at c8
    rw [e9 (al 9 (by decide))] at c9
    exact h gc g8 g9 v34 gb G w m8 m9 HG hC HB c8 c9
  case step =>
    rintro L a w i ⟨v8, v9, v31, v32, v33, v34, v35, v36, G, gb, cb, rfl, HB, HG, H0, H2, H1, H3, H4, H5, H6, H7, HX⟩ hL hi hlt
    have hl10 : L.size = 10 := hL
    have hlt10 : i < 10 := hlt
    have hW : ∀ j, lastWaits .any (opsOf Try.f32 5) i j = true → L.getD j false = true := fun j hj => ready_waits hi j hj
    have hfresh := (mem_ready.1 hi).1
    have hff : L.getD i false = false := by
      have h2 : i < L.size := by omega
      simp only [Array.getD, h2, dif_pos] at hfresh ⊢
      exact hfresh
    simp only [set_bits L i (by omega)]
    match i, hlt10 with
    | 0, _ =>
      refine wpOp_val (v := .string a0) (w1 := w) rfl rfl (by go_simp; try rfl) ?_
      exact ⟨v8, v9, .string a0, v32, v33, v34, v35, v36, G, gb, cb, rfl, HB, HG, fun _ => rfl, H2, H1, H3, H4, H5, H6, H7, HX⟩
    | 1, _ =>
      obtain rfl := H0 (hW 0 (by kernel_rfl))
      refine wpOp_goes rfl rfl Try.func44 (by kernel_rfl) rfl #[.string a0] rfl (by simp only [List.map_toArray, List.map_cons, List.map_nil]; rfl) ?_
      refine (impl_cipherOf_in a0 n w hn hs0).mono ?_
      rintro e w2 ⟨gc, rfl, hC, hb⟩
      rw [← hk] at hC
      refine ⟨_, rfl, v8, v9, .string a0, _, v33, v34, v35, v36, G, gb, cb, rfl, HB.trans (hb.mono HB.size), (fun k hk => ⟨(HG k hk).1, Nat.lt_of_lt_of_le (HG k hk).2 hb.size⟩), (fun _ => rfl), H2, ?_, ?_, H4, H5, ?_, ?_, ⟨HX.1, fun h => ⟨(HX.2.1 h).1, rfl⟩, HX.2.2⟩⟩
      · intro h
        exact ⟨gc, rfl, fun W' hW' => ce_far hC HB.size (fun k h1 h2 => hW' k h2 (fun hm => absurd (HG k hm).2 (by omega)))⟩
      · intro h
        obtain ⟨e, hK⟩ := H3 h
        exact ⟨e, hK.step hb.size (fun k hk => .inl hk) (fun k hk _ => hb.block k hk) (fun k hk => hk)⟩
      · intro h
        obtain ⟨g8, x, e, m, c, e8⟩ := H6 h
        exact ⟨g8, x, e, m, (hb.block _ (HG _ m).2).trans c, fun h8 => absurd (hff.symm.trans (HX.2.1 h8).2) (by decide)⟩
      · intro h
        obtain ⟨g9, xs, e, m, c, z, e9⟩ := H7 h
        exact ⟨g9, xs, e, m, (hb.block _ (HG _ m).2).trans c, z, e9⟩
    | 2, _ =>
      refine wpOp_val (v := .string a1) (w1 := w) rfl rfl (by go_simp; try rfl) ?_
      exact ⟨v8, v9, v31, v32, .string a1, v34, v35, v36, G, gb, cb, rfl, HB, HG, H0, fun _ => rfl, H1, H3, H4, H5, H6, H7, HX⟩
    | 3, _ =>
      obtain rfl := H2 (hW 2 (by kernel_rfl))
      have hb := bytes_below (Below.refl w.heap.size w) (Nat.le_refl _) 5 a1
      refine wpOp_val rfl rfl (run_conv_op 9 28 5 _ a1 rfl rfl Try.underlying9 Try.underlying28 Try.underlying5) ?_
      refine ⟨v8, v9, v31, v32, .string a1, _, v35, v36, G, w.heap.size, grownCap w a1.size 0 5, rfl, HB.trans (hb.mono HB.size), (fun k hk => ⟨(HG k hk).1, Nat.lt_of_lt_of_le (HG k hk).2 hb.size⟩), H0, (fun _ => rfl), ?_, ?_, ?_, H5, ?_, ?_, ⟨fun _ => rfl, HX.2⟩⟩
      · intro h
        obtain ⟨gc, e, hK⟩ := H1 h
        exact ⟨gc, e, hK.step hb.size (fun k hk => .inl hk) (fun k hk _ => hb.block k hk) (fun k hk => hk)⟩
      · intro h
        refine ⟨by rw [hs1], fun W' hW' => ?_⟩
        have hr := bytes_range w 5 a1
        intro j v hv
        rw [hf] at hv
        have hc := hr j v hv
        exact (World.cell?_of_block (hW' _ (cell_lt (a := ⟨w.heap.size, 0 + j, none⟩) (by rw [hc]; rfl)) (fun hm => absurd (HG _ hm).2 (Nat.lt_irrefl _)))).trans hc
      · intro h
        exact absurd (hff.symm.trans (HX.1 h)) (by decide)
      · intro h
        obtain ⟨g8, x, e, m, c, e8⟩ := H6 h
        exact ⟨g8, x, e, m, (hb.block _ (HG _ m).2).trans c, e8⟩
      · intro h
        obtain ⟨g9, xs, e, m, c, z, e9⟩ := H7 h
        exact ⟨g9, xs, e, m, (hb.block _ (HG _ m).2).trans c, z, e9⟩
    | 4, _ =>
      obtain ⟨rfl, hR⟩ := H3 (hW 3 (by kernel_rfl))
      refine wpOp_val rfl rfl (arr_at_wp 52 _ (some ⟨gb, 0, none⟩) 16 cb 16 rfl rfl Try.underlying52 (Nat.le_refl _)) ?_
      exact ⟨v8, v9, v31, v32, v33, _, _, v36, G, gb, cb, rfl, HB, HG, H0, H2, H1, (fun _ => ⟨rfl, hR⟩), (fun _ => rfl), H5, H6, H7, ⟨fun _ => hW 3 (by kernel_rfl), HX.2⟩⟩
    | 5, _ =>
      obtain rfl := H4 (hW 4 (by kernel_rfl))
      obtain ⟨e3, hR⟩ := H3 (HX.1 (hW 4 (by kernel_rfl)))
      have hfl : (nums IntKind.u8 f).length = 16 := by rw [hf]; simp [nums, bytesL_length, hs1]
      refine wpOp_val (v := .agg (nums .u8 f).toArray) (w1 := w) rfl rfl ?_ ?_
      · exact load_mid_wp 52 _ rfl gb 0 rfl _ _ hR.here Try.underlying52 rfl (key_size f hfl)
      exact ⟨v8, v9, v31, v32, v33, v34, _, _, G, gb, cb, rfl, HB, HG, H0, H2, H1, H3, (fun _ => rfl), (fun _ => rfl), H6, H7, HX⟩
    | 6, _ =>
      have hb := below_alloc (Below.refl w.heap.size w) (Obj.cells #[.pointer none] 50)
      refine wpOp_wpK rfl rfl (fun K hK => ?_)
      go_simp
      refine hK _ _ ?_
      refine ⟨_, v9, v31, v32, v33, v34, v35, v36, w.heap.size :: G, gb, cb, rfl, below_alloc HB _, ?_, H0, H2, ?_, ?_, H4, H5, ?_, ?_, ⟨HX.1, fun h => ⟨rfl, (HX.2.1 h).2⟩, HX.2.2⟩⟩
      · intro k hk
        rcases List.mem_cons.1 hk with rfl | hk
        · exact ⟨HB.size, by simp⟩
        · exact ⟨(HG k hk).1, Nat.lt_of_lt_of_le (HG k hk).2 hb.size⟩
      · intro h
        obtain ⟨gc, e, hK⟩ := H1 h
        exact ⟨gc, e, hK.step hb.size (fun k hk => (List.mem_cons.1 hk).elim (fun e => .inr (Nat.le_of_eq e.symm)) .inl) (fun k hk _ => hb.block k hk) (fun k hk => List.mem_cons_of_mem _ hk)⟩
      · intro h
        obtain ⟨e, hK⟩ := H3 h
        exact ⟨e, hK.step hb.size (fun k hk => (List.mem_cons.1 hk).elim (fun e => .inr (Nat.le_of_eq e.symm)) .inl) (fun k hk _ => hb.block k hk) (fun k hk => List.mem_cons_of_mem _ hk)⟩
      · intro h
        exact ⟨w.heap.size, .pointer none, rfl, List.mem_cons_self, blk_new w _, fun h8 => absurd (hff.symm.trans (HX.2.1 h8).1) (by decide)⟩
      · intro h
        obtain ⟨g9, xs, e, m, c, z, e9⟩ := H7 h
        exact ⟨g9, xs, e, List.mem_cons_of_mem _ m, (hb.block _ (HG _ m).2).trans c, z, e9⟩
    | 7, _ =>
      have hb := below_alloc (Below.refl w.heap.size w) (Obj.cells (nums .u8 (List.replicate 16 0)).toArray 52)
      refine wpOp_wpK rfl rfl (fun K hK => ?_)
      go_simp
      refine hK _ _ ?_
      refine ⟨v8, _, v31, v32, v33, v34, v35, v36, w.heap.size :: G, gb, cb, rfl, below_alloc HB _, ?_, H0, H2, ?_, ?_, H4, H5, ?_, ?_, ⟨HX.1, HX.2.1, fun _ => rfl⟩⟩
      · intro k hk
        rcases List.mem_cons.1 hk with rfl | hk
        · exact ⟨HB.size, by simp⟩
        · exact ⟨(HG k hk).1, Nat.lt_of_lt_of_le (HG k hk).2 hb.size⟩
      · intro h
        obtain ⟨gc, e, hK⟩ := H1 h
        exact ⟨gc, e, hK.step hb.size (fun k hk => (List.mem_cons.1 hk).elim (fun e => .inr (Nat.le_of_eq e.symm)) .inl) (fun k hk _ => hb.block k hk) (fun k hk => List.mem_cons_of_mem _ hk)⟩
      · intro h
        obtain ⟨e, hK⟩ := H3 h
        exact ⟨e, hK.step hb.size (fun k hk => (List.mem_cons.1 hk).elim (fun e => .inr (Nat.le_of_eq e.symm)) .inl) (fun k hk _ => hb.block k hk) (fun k hk => List.mem_cons_of_mem _ hk)⟩
      · intro h
        obtain ⟨g8, x, e, m, c, e8⟩ := H6 h
        exact ⟨g8, x, e, List.mem_cons_of_mem _ m, (hb.block _ (HG _ m).2).trans c, e8⟩
      · intro h
        exact ⟨w.heap.size, (nums .u8 (List.replicate 16 0)).toArray, rfl, List.mem_cons_self, blk_new w _, rfl, fun h9 => absurd (hff.symm.trans (HX.2.2 h9)) (by decide)⟩
    | 8, _ =>
      obtain ⟨g8, x, rfl, m8, c8, e8⟩ := H6 (hW 6 (by kernel_rfl))
      obtain ⟨gc, rfl, hC⟩ := H1 (hW 1 (by kernel_rfl))
      refine wpOp_wpK rfl rfl (fun K hK => ?_)
      refine wp_store_one 50 _ _ rfl g8 (.pointer (some ⟨gc, 0, none⟩)) rfl rfl 50 x c8 (by kernel_rfl) rfl ?_
      refine hK _ _ ?_
      have hkp : ∀ k, k ∉ G → (w.setRow g8 #[.pointer (some ⟨gc, 0, none⟩)]).heap[k]? = w.heap[k]? := fun k hk => setRow_other _ _ _ _ (fun e => hk (e ▸ m8))
      have hsz : (w.setRow g8 #[.pointer (some ⟨gc, 0, none⟩)]).heap.size = w.heap.size := setRow_size _ _ _
      refine ⟨_, v9, v31, _, v33, v34, v35, v36, G, gb, cb, rfl, below_row HB (HG g8 m8).1 _, (fun k hk => ⟨(HG k hk).1, by rw [hsz]; exact (HG k hk).2⟩), H0, H2, ?_, ?_, H4, H5, ?_, ?_, ⟨HX.1, fun _ => ⟨hW 6 (by kernel_rfl), hW 1 (by kernel_rfl)⟩, HX.2.2⟩⟩
      · intro h
        exact ⟨gc, rfl, hC.step (Nat.le_of_eq hsz.symm) (fun k hk => .inl hk) (fun k _ hk => hkp k hk) (fun k hk => hk)⟩
      · intro h
        obtain ⟨e, hK⟩ := H3 h
        exact ⟨e, hK.step (Nat.le_of_eq hsz.symm) (fun k hk => .inl hk) (fun k _ hk => hkp k hk) (fun k hk => hk)⟩
      · intro h
        exact ⟨g8, _, rfl, m8, setRow_heap _ _ _ _ _ _ c8, fun _ => rfl⟩
      · intro h
        obtain ⟨g9, xs, e, m, c, z, e9⟩ := H7 h
        have hne : g9 ≠ g8 := fun e => by
          rw [e, c8] at c
          injection c with c
          injection c with _ c
          cases c
        exact ⟨g9, xs, e, m, (setRow_other _ _ _ _ hne).trans c, z, e9⟩
    | 9, _ =>
      obtain ⟨g9, xs, rfl, m9, c9, z9, e9⟩ := H7 (hW 7 (by kernel_rfl))
      obtain rfl := H5 (hW 5 (by kernel_rfl))
      have hfl : (nums IntKind.u8 f).toArray.size = 16 := by rw [hf]; simp [nums, bytesL_length, hs1]
      refine wpOp_wpK rfl rfl (fun K hK => ?_)
      refine wp_store_row 52 _ _ rfl g9 (nums .u8 f).toArray rfl rfl 52 _ c9 (by rw [hfl]; kernel_rfl) (by rw [hfl, z9]) (nums_one _ _) ?_
      refine hK _ _ ?_
      have hkp : ∀ k, k ∉ G → (w.setRow g9 (nums .u8 f).toArray).heap[k]? = w.heap[k]? := fun k hk => setRow_other _ _ _ _ (fun e => hk (e ▸ m9))
      have hsz : (w.setRow g9 (nums .u8 f).toArray).heap.size = w.heap.size := setRow_size _ _ _
      refine ⟨v8, _, v31, v32, v33, v34, v35, _, G, gb, cb, rfl, below_row HB (HG g9 m9).1 _, (fun k hk => ⟨(HG k hk).1, by rw [hsz]; exact (HG k hk).2⟩), H0, H2, ?_, ?_, H4, (fun _ => rfl), ?_, ?_, ⟨HX.1, HX.2.1, fun _ => hW 7 (by kernel_rfl)⟩⟩
      · intro h
        obtain ⟨gc, e, hK⟩ := H1 h
        exact ⟨gc, e, hK.step (Nat.le_of_eq hsz.symm) (fun k hk => .inl hk) (fun k _ hk => hkp k hk) (fun k hk => hk)⟩
      · intro h
        obtain ⟨e, hK⟩ := H3 h
        exact ⟨e, hK.step (Nat.le_of_eq hsz.symm) (fun k hk => .inl hk) (fun k _ hk => hkp k hk) (fun k hk => hk)⟩
      · intro h
        obtain ⟨g8, x, e, m, c, e8⟩ := H6 h
        have hne : g8 ≠ g9 := fun e => by
          rw [e, c9] at c
          injection c with c
          injection c with _ c
          cases c
        exact ⟨g8, x, e, m, (setRow_other _ _ _ _ hne).trans c, e8⟩
      · intro h
        exact ⟨g9, _, rfl, m9, setRow_heap _ _ _ _ _ _ c9, hfl, fun _ => rfl⟩
    | i + 10, h10 => omega
def cbcFold (keys : List (List Int)) (f p : List Int) (js : List Nat) : List Int × List Int := js.foldl (fun S j => (S.1 ++ Aes.encL keys (Aes.xorS S.2 (Md.blk p j)), Aes.encL keys (Aes.xorS S.2 (Md.blk p j)))) ([], f)
theorem cbcFold_snoc (keys : List (List Int)) (f p : List Int) (js : List Nat) (j : Nat) : cbcFold keys f p (js ++ [j]) = ((cbcFold keys f p js).1 ++ Aes.encL keys (Aes.xorS (cbcFold keys f p js).2 (Md.blk p j)), Aes.encL keys (Aes.xorS (cbcFold keys f p js).2 (Md.blk p j))) := by simp [cbcFold]
theorem cbcFold_range (keys : List (List Int)) (f p : List Int) (m : Nat) : cbcFold keys f p (List.range m) = Md.cbcTo keys f p m := by
  induction m with
  | zero => rfl
  | succ m ih => rw [List.range_succ, cbcFold_snoc, ih]; rfl
theorem cbcFold_ok {keys : List (List Int)} (hk : Aes.keysOk keys) {f p : List Int} (hf : f.length = 16) (of : Aes.ok f) (op : Aes.ok p) (js : List Nat) : (cbcFold keys f p js).2.length = 16 ∧ Aes.ok (cbcFold keys f p js).2 ∧ (cbcFold keys f p js).1.length = 16 * js.length := by
  have h : ∀ (js : List Nat) (S : List Int × List Int), S.2.length = 16 → Aes.ok S.2 → (js.foldl (fun S j => (S.1 ++ Aes.encL keys (Aes.xorS S.2 (Md.blk p j)), Aes.encL keys (Aes.xorS S.2 (Md.blk p j)))) S).2.length = 16 ∧ Aes.ok (js.foldl (fun S j => (S.1 ++ Aes.encL keys (Aes.xorS S.2 (Md.blk p j)), Aes.encL keys (Aes.xorS S.2 (Md.blk p j)))) S).2 ∧ (js.foldl (fun S j => (S.1 ++ Aes.encL keys (Aes.xorS S.2 (Md.blk p j)), Aes.encL keys (Aes.xorS S.2 (Md.blk p j)))) S).1.length = S.1.length + 16 * js.length := by
    intro js
    induction js with
    | nil => exact fun S h1 h2 => ⟨h1, h2, rfl⟩
    | cons j js ih =>
      intro S h1 h2
      have q := ih (S.1 ++ Aes.encL keys (Aes.xorS S.2 (Md.blk p j)), Aes.encL keys (Aes.xorS S.2 (Md.blk p j))) (Aes.encL_length _ _) (Aes.encL_ok hk (Aes.xorS_ok h2 (Md.blk_ok op j)))
      refine ⟨q.1, q.2.1, q.2.2.trans ?_⟩
      simp only [List.length_append, Aes.encL_length, List.length_cons]
      omega
  have q := h js ([], f) hf of
  exact ⟨q.1, q.2.1, q.2.2.trans (by simp)⟩
def SameBut (w : World) (G : List Nat) (W : World) : Prop := ∀ k, k < w.heap.size → k ∉ G → W.heap[k]? = w.heap[k]?
theorem sameBut_own {β : Type} {B : Nat} {w : World} {G : List Nat} (hB : w.heap.size ≤ B) : OwnFrom B (fun (_ : β) W => Aside0 (SameBut w G W ∧ w.heap.size ≤ W.heap.size)) := fun s W W' row hs hg hr =>
  ⟨fun k h1 h2 => (hg.block k (Nat.lt_of_lt_of_le h1 hs.out.2) (fun e => by have := (hr k e.symm).1; omega)).trans (hs.out.1 k h1 h2), Nat.le_trans hs.out.2 hg.size⟩
theorem slotR_own {β : Type} {B0 B g : Nat} {T : TypeId} (F : β → List Int) : OwnFrom B (fun s W => Aside0 (∃ vo, W.heap[g]? = some (.cells #[vo] T (0, 0)) ∧ Kd.R (Kd.int .u8) 5 W B0 (fun _ => True) vo (F s))) := fun s W W' row hs hg hr => ⟨by
  obtain ⟨vo, h1, h2⟩ := hs.out
  refine ⟨vo, (grownBy_keeps_cells hg (fun r e => (hr r e).2) h1 rfl).trans h1, Kd.R_grown2 h2 rfl hg fun k e1 e2 => ?_⟩
  obtain ⟨cells, hc⟩ := own_typed (Kd.own_of_R h2) k e2.symm
  obtain ⟨o, ho, hn⟩ := (hr k e1).2
  rw [hc] at ho
  injection ho with ho
  subst ho
  cases hn⟩
def ceJ (keys : List (List Int)) (f p : List Int) (gc g8 g9 g10 : Nat) (wB w7 : World) (B0 m : Nat) (pre : List (Fin m)) (W : World) : Prop :=
  Aside0 (W.heap[g8]? = some (.cells #[.pointer (some ⟨gc, 0, none⟩)] 50 (0, 0))) ∧ Aside0 (W.heap[g9]? = some (.cells (nums .u8 (cbcFold keys f p (pre.map (·.1))).2).toArray 52 (0, 0))) ∧
  Aside0 (∃ vo, W.heap[g10]? = some (.cells #[vo] 28 (0, 0)) ∧ Kd.R (Kd.int .u8) 5 W B0 (fun _ => True) vo (cbcFold keys f p (pre.map (·.1))).1) ∧
  Aside0 (SameBut w7 [g8, g9, g10] W ∧ w7.heap.size ≤ W.heap.size) ∧ Aside0 (Below wB.heap.size wB W) ∧ Aside0 (B0 ≤ W.heap.size)
theorem ceJ_own (keys : List (List Int)) (f p : List Int) (gc g8 g9 g10 : Nat) (wB w7 : World) (B0 m B : Nat) (hB : wB.heap.size ≤ B) (h7 : w7.heap.size ≤ B) : OwnFrom B (ceJ keys f p gc g8 g9 g10 wB w7 B0 m) :=
  OwnFrom.and (ownFrom_blk B g8 _ (fun _ => #[.pointer (some ⟨gc, 0, none⟩)])) (OwnFrom.and (ownFrom_blk B g9 _ _) (OwnFrom.and (slotR_own _) (OwnFrom.and (sameBut_own h7) (OwnFrom.and (ownFrom_belowA (Nat.le_refl _) hB) (fun _ _ _ _ hs hg _ => ⟨Nat.le_trans hs.out hg.size⟩)))))
set_option maxHeartbeats 8000000 in
set_option maxRecDepth 100000 in
theorem impl_CbcEncrypt_in (a0 a1 : ByteArray) (n : Nat) (A2 : Option Addr) (c2 : Nat) (l2 : List Int) (w0 : World) (hr2 : Kd.C (Kd.int .u8) w0 A2 l2.length l2) (hc2 : l2.length ≤ c2) (hu2 : u8ok l2) (hl2 : l2.length ≤ 65520) (hn : n = 4 ∨ n = 8) (hs0 : a0.size = 4 * n) (hs1 : a1.size = 16) :
    Calls Try.prog 32 #[.string a0, .string a1, .slice A2 l2.length c2] w0 fun e w' => ∃ v0_ : Value, e = .returned (.tuple #[v0_, .int .i64 0]) ∧ Kd.R (Kd.int .u8) 5 w' w0.heap.size (fun _ => True) v0_ (Md.cbcL (Aes.keysL (bytesL a0)) (bytesL a1) (padL l2)) ∧ Below w0.heap.size w0 w' := by
  obtain ⟨keys, hkeys⟩ : ∃ K, K = Aes.keysL (bytesL a0) := ⟨_, rfl⟩
  obtain ⟨p, hp⟩ : ∃ p, p = padL l2 := ⟨_, rfl⟩
  obtain ⟨f, hf⟩ : ∃ f, f = bytesL a1 := ⟨_, rfl⟩
  have HKL : Aside0 (keys.length = n + 7) := ⟨by rw [hkeys, Aes.keysL_length, bytesL_length, hs0]; omega⟩
  have HKN : Aside0 (0 < keys.length ∧ keys.length ≤ 100) := ⟨by rw [HKL.out]; omega⟩
  have HN := Aside0.mk hn
  have HSN := Aside0.mk hs0
  have HS1 := Aside0.mk hs1
  have HKE := Aside0.mk hkeys
  have HR2 := Aside0.mk hr2
  have HC2 := Aside0.mk hc2
  have HU2 := Aside0.mk hu2
  have HL2 := Aside0.mk hl2
  have HPE := Aside0.mk hp
  have HPL : Aside0 (p.length = 16 * (l2.length / 16 + 1)) := ⟨by rw [hp]; exact padL_size l2⟩
  have HPO : Aside0 (Aes.ok p) := ⟨by rw [hp]; exact padL_ok hu2⟩
  have HFL : Aside0 (f.length = 16 ∧ Aes.ok f) := ⟨by rw [hf]; exact ⟨by rw [bytesL_length, hs1], u8ok_bytesL a1⟩⟩
  have HFE := Aside0.mk hf
  have HF := Aside0.mk (long2_g a0 a1 false (decide_eq_false (by omega)).symm)
  have HK := Aside0.mk (isKey_g a0 true (decide_eq_true (by omega)).symm)
  have d1 : decide (65520 < (l2.length : Int)) = false := decide_eq_false (by omega)
  have d2 : decide (65520 < l2.length) = false := decide_eq_false (by omega)
  have d3 : ((a1.size : Int) != 16) = false := by rw [hs1]; rfl
  have d4 : (a1.size : Int) = 16 := by omega
  rw [← hkeys, ← hp, ← hf]
  clear hkeys hn hs0 hs1 hr2 hc2 hu2 hl2 hp hf
  refine (callsIn_wide (n := 3)).1 ?_
  refine callsIn_of_wp_marks Try.func32 rfl trivial ?_ rfl
  refine wpIn_wide.2 ?_
  simp only [Try.ntmps32, List.size_toArray, List.length_cons, List.length_nil, Nat.reduceAdd, Nat.reduceSub, Array.replicate_succ, Array.replicate_zero, List.push_toArray, List.append_toArray, List.nil_append, List.cons_append]
  go_wp2_with fail
  refine (impl_isLong_string.calls _ _ [a0, a1] false _ (C_two_string (g := w0.heap.size) (T := 9) (fr := (0, 0)) (blk_new w0 _)) (Nat.le_refl _) HF.out).mono ?_
  rintro e wa ⟨rfl, hd⟩
  have HBa := Aside0.mk (below_then (below_alloc (Below.refl _ _) _) (by simp) hd.below : Below w0.heap.size w0 wa)
  clear hd
  go_wp2_with fail
  refine (impl_isKey.calls a0 true _ HK.out).mono ?_
  rintro e wc ⟨rfl, hd⟩
  have HBc := Aside0.mk (HBa.out.trans (hd.below.mono HBa.out.size))
  clear hd HBa
  go_upto_region 5 with (fail)
  refine wp_region_any (by kernel_rfl) ?_
  refine ce_r5 a0 a1 A2 l2.length c2 w0.heap.size n keys f HN.out HSN.out HS1.out HKE.out HKN.out.1 HFE.out _ _ (fun gc g8 g9 u34 gb G w5 m8 m9 HG HKP HB5 c8 c9 => ?_)
  unfold ceAct
  go_wp2_with fail
  have HB6 := Aside0.mk (below_alloc (show Below wc.drew.heap.size wc.drew w5 from HB5) (Obj.cells #[Value.slice none 0 0] 28))
  obtain ⟨g10, hg10⟩ : ∃ g, g = w5.heap.size := ⟨_, rfl⟩
  have C10 : Aside0 ((w5.alloc (Obj.cells #[Value.slice none 0 0] 28)).heap[g10]? = some (.cells #[.slice none 0 0] 28 (0, 0))) := ⟨by rw [hg10]; exact blk_new w5 _⟩
  have C8 : Aside0 ((w5.alloc (Obj.cells #[Value.slice none 0 0] 28)).heap[g8]? = some (.cells #[.pointer (some ⟨gc, 0, none⟩)] 50 (0, 0))) := ⟨blk_alloc c8 _⟩
  have C9 : Aside0 ((w5.alloc (Obj.cells #[Value.slice none 0 0] 28)).heap[g9]? = some (.cells (nums .u8 f).toArray 52 (0, 0))) := ⟨blk_alloc c9 _⟩
  have HK6 : Aside0 (Kp (w5.alloc (Obj.cells #[Value.slice none 0 0] 28)) (g10 :: G) (fun W => cipherAt W w0.heap.size gc keys)) := ⟨by
    have h1 := below_alloc (Below.refl w5.heap.size w5) (Obj.cells #[Value.slice none 0 0] 28)
    have h2 := HKP.step (G' := g10 :: G) h1.size (fun k hk => (List.mem_cons.1 hk).elim (fun e => .inr (Nat.le_of_eq (by rw [e, hg10]))) .inl) (fun k hk _ => h1.block k hk) (fun k hk => List.mem_cons_of_mem _ hk)
    exact fun W hW => ce_far (h2 W hW) HBc.out.size (fun _ _ _ => rfl)⟩
  have HG6 : Aside0 (wc.heap.size ≤ g8 ∧ wc.heap.size ≤ g9 ∧ wc.heap.size ≤ g10 ∧ g10 = w5.heap.size ∧ g8 < g10 ∧ g9 < g10) := ⟨by
    have q1 := HG g8 m8
    have q2 := HG g9 m9
    have q3 : wc.heap.size ≤ w5.heap.size := HB5.size
    have q4 : wc.drew.heap.size = wc.heap.size := rfl
    refine ⟨q1.1, q2.1, by omega, hg10, by omega, by omega⟩⟩
  rw [← hg10]
  generalize w5.alloc (Obj.cells #[Value.slice none 0 0] 28) = w6 at HB6 C8 C9 C10 HK6 ⊢
  have HSZ6 : Aside0 (g10 < w6.heap.size) := ⟨blk_lt C10.out⟩
  have HMM : Aside0 (g8 ∈ G ∧ g9 ∈ G ∧ g8 ≠ g9) := ⟨m8, m9, fun e => by rw [e, c9] at c8; injection c8 with c8; injection c8 with _ c8; cases c8⟩
  clear c8 c9 HKP HB5 m8 m9 HG hg10
  have HBw : Aside0 (Below w0.heap.size w0 w6) := ⟨(below_drew1 HBc.out).trans (HB6.out.mono HBc.out.size)⟩
  have HPF : Aside0 (impl_padded.f l2 = some p) := ⟨by unfold impl_padded.f; rw [if_pos (by have := HL2.out; omega), HPE.out]⟩
  refine (impl_padded.calls A2 c2 l2 p w6 (Kd.C_below HR2.out HBw.out) HC2.out HPF.out).mono ?_
  rintro e w7 ⟨vp, rfl, hp, hb7⟩
  obtain ⟨Ap, cp, hvp, hcp, hCp⟩ := Kd.R_reads hp
  subst hvp
  have HP7 := Aside0.mk hCp
  have HCP := Aside0.mk hcp
  have HB7 := Aside0.mk (HB6.out.trans (hb7.mono HB6.out.size))
  have C8 := Aside0.mk ((hb7.block g8 (blk_lt C8.out)).trans C8.out)
  have C9 := Aside0.mk ((hb7.block g9 (blk_lt C9.out)).trans C9.out)
  have C10 := Aside0.mk ((hb7.block g10 (blk_lt C10.out)).trans C10.out)
  have HPG : Aside0 (∀ a, Ap = some a → w6.heap.size ≤ a.block) := ⟨fun a ha => by
    have h1 := own_base (Kd.own_of_R hp) a.block (by rw [ha]; rfl)
    exact h1⟩
  have HK7 : Aside0 (Kp w7 (g10 :: G) (fun W => cipherAt W w0.heap.size gc keys)) := ⟨HK6.out.step hb7.size (fun k hk => .inl hk) (fun k hk _ => hb7.block k hk) (fun k hk => hk)⟩
  have HSZ7 : Aside0 (w6.heap.size ≤ w7.heap.size) := ⟨hb7.size⟩
  clear hp hcp hCp hb7 HK6
  go_wp2_with fail
  refine (chunk_calls Ap p.length cp 16 (by decide) _).mono ?_
  rintro e w8 ⟨rfl, rfl⟩
  go_wp2_with fail
  obtain ⟨m, hm⟩ : ∃ m, m = l2.length / 16 + 1 := ⟨_, rfl⟩
  have HM : Aside0 (p.length = 16 * m ∧ 0 < m ∧ m ≤ 5000) := ⟨by have := HPL.out; have := HL2.out; omega⟩
  obtain ⟨ad, had, _⟩ := HP7.out.2.2 (by have := HM.out; omega)
  subst had
  have HAD : Aside0 (w6.heap.size ≤ ad.block) := ⟨HPG.out ad rfl⟩
  have HSEQ : SeqStopsK Fence.wide 2 Try.prog 89 #[.pointer (some ⟨w7.heap.size, 0, none⟩), .pointer (some ⟨w7.heap.size + 1, 0, none⟩)] (fun x : Fin m => #[Value.slice (some (ad.add (16 * x.1))) 16 16]) (KpB w7.heap.size (w7.heap.size + 1)) (fun ys => ys.map (·.1) = List.range m) (fun pre => ∃ k, k ≤ m ∧ pre.map (·.1) = List.range k) m
      ((w7.alloc (.cells #[.slice (some ad) p.length cp] 28)).alloc (.cells #[.int .i64 16] 3)) := by
    have zz : ((w7.alloc (.cells #[.slice (some ad) p.length cp] 28)).alloc (.cells #[.int .i64 16] 3)).heap.size = w7.heap.size + 2 := by simp
    have h1 := HM.out.1
    have hc := HCP.out
    rw [h1] at hc ⊢
    exact chunk_stops Fence.wide 2 trivial rfl (by decide) _ _ ad 16 m cp (by decide) hc (by have := HM.out; omega) _ (by rw [← h1, zz]; omega) (by rw [← h1, zz]; omega) (box_one _ _ _ _ _ rfl) (box_two _ _ _ _ _ rfl)
  have HKO : Aside0 (Aes.keysOk keys) := ⟨cipherAt_ok HK7.out.here⟩
  refine wp_cuts (α := Fin m) (p := 40) (d := 11) rfl rfl rfl (by simp) (gf := 89) (lb := #[.pointer (some ⟨w7.heap.size, 0, none⟩), .pointer (some ⟨w7.heap.size + 1, 0, none⟩)]) rfl (enters_of Try.func89 (by kernel_rfl) rfl) HSEQ
    (fun h k => KpB.trans h k) (KpB.put (by simp <;> omega) (by simp <;> omega)) (ceJ keys f p gc g8 g9 g10 wc.drew w7 (w7.heap.size + 2) m) (ceJ_own _ _ _ _ _ _ _ _ _ _ _ _ ?hle ?hle2) ?h0 ?body ?done
  case hle => have := HB7.out.size; simp at this ⊢; omega
  case hle2 => simp; omega
  case h0 =>
    refine ⟨⟨blk_alloc (blk_alloc C8.out _) _⟩, ⟨blk_alloc (blk_alloc C9.out _) _⟩, ⟨_, blk_alloc (blk_alloc C10.out _) _, Kd.R_nil _ _ _ _ _⟩, ⟨fun k hk _ => ?_, by simp; omega⟩, ⟨below_alloc (below_alloc HB7.out _) _⟩, ⟨by simp⟩⟩
    have h1 := below_alloc (below_alloc (Below.refl w7.heap.size w7) (Obj.cells #[Value.slice (some ad) p.length cp] 28)) (Obj.cells #[Value.int .i64 16] 3)
    exact h1.block k hk
  case body =>
    rintro l pre x W ⟨I1, I2, I3, I4, I5, I6⟩ hlen
    simp only [List.setIfInBounds_toArray, List.set_cons_succ, List.set_cons_zero]
    refine wpIn_block ?_
    refine wpIn_seq ?_
    refine region_round_any (by kernel_rfl) (by rintro ⟨_, _, h⟩; exact h) (by kernel_rfl) ?_
    change wpAny _ _ _ _ _ _ _ W.drew
    have HX : Aside0 (16 * x.1 + 16 ≤ p.length) := ⟨by have := x.2; have := HM.out; omega⟩
    obtain ⟨WD, hWD⟩ : ∃ WD, WD = W.drew := ⟨_, rfl⟩
    obtain ⟨vo, J3a, JRa⟩ := I3.out
    have J1 : Aside0 (WD.heap[g8]? = some (.cells #[.pointer (some ⟨gc, 0, none⟩)] 50 (0, 0))) := ⟨by rw [hWD]; exact I1.out⟩
    have J2 : Aside0 (WD.heap[g9]? = some (.cells (nums .u8 (cbcFold keys f p (pre.map (·.1))).2).toArray 52 (0, 0))) := ⟨by rw [hWD]; exact I2.out⟩
    have J3 : Aside0 (WD.heap[g10]? = some (.cells #[vo] 28 (0, 0))) := ⟨by rw [hWD]; exact J3a⟩
    have JR : Aside0 (Kd.R (Kd.int .u8) 5 WD (w7.heap.size + 2) (fun _ => True) vo (cbcFold keys f p (pre.map (·.1))).1) := ⟨by rw [hWD]; exact Kd.R_below JRa (below_drew (Below.refl _ _))⟩
    have J4 : Aside0 (SameBut w7 [g8, g9, g10] WD ∧ w7.heap.size ≤ WD.heap.size) := ⟨by rw [hWD]; exact I4.out⟩
    have J5 : Aside0 (Below wc.drew.heap.size wc.drew WD) := ⟨by rw [hWD]; exact I5.out.drew⟩
    have J6 : Aside0 (w7.heap.size + 2 ≤ WD.heap.size) := ⟨by rw [hWD]; exact I6.out⟩
    have KW : Aside0 (∀ B V, KeepsFrom B WD V → KeepsFrom B W V) := ⟨fun B V h => by rw [hWD] at h; exact (keepsFrom_drew _ _).trans h⟩
    have KC : Aside0 (∀ a, WD.cell? a = W.cell? a) := ⟨fun a => by rw [hWD]; rfl⟩
    rw [← hWD]
    clear hWD I1 I2 I3 I4 I5 I6 J3a JRa
    obtain ⟨Sx, hSx⟩ : ∃ S, S = cbcFold keys f p (pre.map (·.1)) := ⟨_, rfl⟩
    rw [← hSx] at J2 JR
    have HSX := Aside0.mk hSx
    have HSL : Aside0 (Sx.2.length = 16 ∧ Aes.ok Sx.2 ∧ Sx.1.length ≤ 16 * m) := ⟨by rw [hSx]; have q := cbcFold_ok HKO.out HFL.out.1 HFL.out.2 HPO.out (pre.map (·.1)); exact ⟨q.1, q.2.1, by rw [q.2.2, List.length_map]; omega⟩⟩
    have HSZ : Aside0 ((nums IntKind.u8 Sx.2).toArray.size = 16) := ⟨by simp [nums, HSL.out.1]⟩
    have HBK : Aside0 ((Md.blk p x.1).length = 16 ∧ Aes.ok (Md.blk p x.1)) := ⟨Md.blk_length _ _ HX.out, Md.blk_ok HPO.out _⟩
    have HBZ : Aside0 ((nums IntKind.u8 (Md.blk p x.1)).length = 16) := ⟨by simp [nums, HBK.out.1]⟩
    have HCW : Aside0 (∀ V, Below WD.heap.size WD V → cipherAt V w0.heap.size gc keys) := ⟨fun V hV => HK7.out V fun k h1 h2 => by
      have h3 := HMM.out
      have h4 := J4.out
      refine (hV.block k (Nat.lt_of_lt_of_le h1 h4.2)).trans (h4.1 k h1 fun hm => h2 ?_)
      rcases List.mem_cons.1 hm with e | hm
      · rw [e]; exact List.mem_cons_of_mem _ h3.1
      rcases List.mem_cons.1 hm with e | hm
      · rw [e]; exact List.mem_cons_of_mem _ h3.2.1
      rcases List.mem_cons.1 hm with e | hm
      · rw [e]; exact List.mem_cons_self
      cases hm⟩
    have HR1D : Aside0 (∀ V, Below WD.heap.size WD V → ∀ j v, (nums .u8 (Md.blk p x.1))[j]? = some v → V.cell? ((ad.add (16 * x.1)).add j) = some v) := ⟨fun V hV => by
      have hC : Kd.C (Kd.int .u8) V (some ad) p.length p := C_cells (by have := HM.out; omega) fun j hj => by
        have hc := C_u8_cell HP7.out rfl j hj
        have hlt : (ad.add j).block < w7.heap.size := cell_lt (by rw [hc]; rfl)
        have hbl : (ad.add j).block = ad.block := add_block _ _
        have h4 := J4.out
        have h5 := HAD.out
        have h6 := HSZ6.out
        have h7 := HG6.out
        rw [← hc]
        exact World.cell?_of_block ((hV.block _ (Nat.lt_of_lt_of_le hlt h4.2)).trans (h4.1 _ hlt (by simp; omega)))
      exact C_nums hC rfl x.1 HX.out⟩
    clear hSx
    have hYc : ∀ V, Below WD.heap.size WD V → V.cell? ⟨g8, 0, none⟩ = some (.pointer (some ⟨gc, 0, none⟩)) := fun V hV => blk_cell ((hV.block _ (blk_lt J1.out)).trans J1.out) 0
    refine wpAny_of_N (S := fun V => Below WD.heap.size WD V) (N := 7) _ _ _ _ ?_
    refine wpAnyN_take (i := 0) (v := .pointer (some ⟨gc, 0, none⟩)) rfl (by kernel_rfl) (by kernel_rfl) (by kernel_rfl) (by kernel_rfl) (fun _ _ _ h => h) (Or.inl ⟨by rfl, fun V hV => ?_⟩) (Below.refl _ _) ?_
    · have c := hYc V hV
      clear hYc
      go_simp
    clear hYc
    refine wpAnyN_take (i := 1) rfl (by kernel_rfl) (by kernel_rfl) (by kernel_rfl) (by kernel_rfl) (fun _ _ _ h => h) (yields_load_row rfl 52 (.tmp 9) rfl g9 rfl 52 _ (0, 0) _ (fun V hV => (hV.block _ (blk_lt J2.out)).trans J2.out) Try.underlying52 rfl (by rw [HSZ.out]; kernel_rfl)) (Below.refl _ _) ?_
    refine wpAnyN_take (i := 2) rfl (by kernel_rfl) (by kernel_rfl) (by kernel_rfl) (by kernel_rfl) (fun _ _ _ h => h) (yields_move rfl (.tmp 11) rfl) (Below.refl _ _) ?_
    refine wpAnyN_take (i := 3) rfl (by kernel_rfl) (by kernel_rfl) (by kernel_rfl) (by kernel_rfl) (fun _ _ _ h => h) (yields_arrayAt rfl 52 (.tmp 43) rfl (some (ad.add (16 * x.1))) 16 16 16 rfl Try.underlying52 (Nat.le_refl _)) (Below.refl _ _) ?_
    refine wpAnyN_take (i := 4) rfl (by kernel_rfl) (by kernel_rfl) (by kernel_rfl) (by kernel_rfl) (fun _ _ _ h => h) (yields_load_any rfl 52 (.tmp 44) rfl (ad.add (16 * x.1)) rfl (nums .u8 (Md.blk p x.1)) _ (fun V hV => HR1D.out V hV) Try.underlying52 rfl (key_size _ HBZ.out)) (Below.refl _ _) ?_
    refine wpAnyN_one (i := 5) (by kernel_rfl) rfl rfl (fun K hK => ?_)
    go_simp
    with_reducible refine (xor_u Sx.2 (Md.blk p x.1) _ HSL.out.1 HBK.out.1).mono ?_
    rintro e w8 ⟨rfl, hb8⟩
    refine hK _ _ (fun _ => hb8) ?_
    clear hK K
    refine wpAnyN_one (i := 6) (by kernel_rfl) rfl rfl (fun K hK => ?_)
    go_simp
    with_reducible refine (enc_u keys _ gc (Aes.xorS Sx.2 (Md.blk p x.1)) _ (HCW.out w8 hb8) HKN.out (Aes.xorS_length _ _) (Aes.xorS_ok HSL.out.2.1 HBK.out.2)).mono ?_
    rintro e w9 ⟨rfl, hb9⟩
    have hb79 := below_then hb8 hb8.size hb9
    refine hK _ _ (fun _ => hb79) ?_
    clear hK K
    obtain ⟨NX, hNX⟩ : ∃ N, N = Aes.encL keys (Aes.xorS Sx.2 (Md.blk p x.1)) := ⟨_, rfl⟩
    have HNX : Aside0 ((Sx.1 ++ NX, NX) = cbcFold keys f p ((pre ++ [x]).map (·.1))) := ⟨by rw [hNX, List.map_append, List.map_cons, List.map_nil, cbcFold_snoc, HSX.out]⟩
    have HNZ : Aside0 ((nums IntKind.u8 NX).toArray.size = 16) := ⟨by rw [hNX]; simp [nums, Aes.encL_length]⟩
    have HNL : Aside0 (NX.length = 16) := ⟨by rw [hNX]; exact Aes.encL_length _ _⟩
    rw [← hNX]
    clear hNX
    have K1 := Aside0.mk ((hb79.block _ (blk_lt J1.out)).trans J1.out)
    have K2 := Aside0.mk ((hb79.block _ (blk_lt J2.out)).trans J2.out)
    have K3 := Aside0.mk ((hb79.block _ (blk_lt J3.out)).trans J3.out)
    have KR := Aside0.mk (Kd.R_below JR.out hb79)
    refine wpAnyN_one (i := 7) (by kernel_rfl) rfl rfl (fun K hK => ?_)
    refine wp_store_row 52 (.tmp 9) (.tmp 47) (by rfl) g9 (nums .u8 NX).toArray (by rfl) (by rfl) 52 _ K2.out (by rw [HNZ.out]; kernel_rfl) (by rw [HNZ.out, HSZ.out]) (nums_one _ _) ?_
    refine hK _ _ (fun h => absurd rfl h) ?_
    clear hK K
    refine wpAnyN_done (by kernel_rfl) ?_ _
    have hg9 : g9 ≠ g10 ∧ g8 ≠ g10 ∧ g8 ≠ g9 ∧ g8 < w7.heap.size ∧ g9 < w7.heap.size ∧ g10 < w7.heap.size := by
      have h1 := HG6.out; have h2 := HSZ6.out; have h3 := HSZ7.out; have h4 := HMM.out
      exact ⟨by omega, by omega, h4.2.2, by omega, by omega, by omega⟩
    have HGG := Aside0.mk hg9
    have hgr : w9.grownBy (w9.setRow g9 (nums .u8 NX).toArray) (some g9) := ⟨rfl, rfl, rfl, by rw [setRow_size]; exact Nat.le_refl _, fun k hk hne => setRow_other _ _ _ _ (fun e => hne (by rw [e]))⟩
    have hob : ∀ k, vo.ownBlock = some k → w7.heap.size + 2 ≤ k := fun k hk => own_base (Kd.own_of_R KR.out) k hk
    obtain ⟨WE, hWE⟩ : ∃ WE, WE = (w9.setRow g9 (nums .u8 NX).toArray).drew := ⟨_, rfl⟩
    have L1 : Aside0 (WE.heap[g8]? = some (.cells #[.pointer (some ⟨gc, 0, none⟩)] 50 (0, 0))) := ⟨by rw [hWE]; exact (setRow_other _ _ _ _ hg9.2.2.1).trans K1.out⟩
    have L2 : Aside0 (WE.heap[g9]? = some (.cells (nums .u8 NX).toArray 52 (0, 0))) := ⟨by rw [hWE]; exact setRow_heap _ _ _ _ _ _ K2.out⟩
    have L3 : Aside0 (WE.heap[g10]? = some (.cells #[vo] 28 (0, 0))) := ⟨by rw [hWE]; exact (setRow_other _ _ _ _ (fun e => hg9.1 e.symm)).trans K3.out⟩
    have LR : Aside0 (Kd.R (Kd.int .u8) 5 WE (w7.heap.size + 2) (fun _ => True) vo Sx.1) := ⟨by
      rw [hWE]
      exact Kd.R_below (Kd.R_grown2 KR.out rfl hgr fun k e1 e2 => by
        have h1 := hob k e2.symm
        injection e1 with e1
        have h2 := hg9.2.2.2.2.1
        omega) (below_drew (Below.refl _ _))⟩
    have LZ : Aside0 (WD.heap.size ≤ WE.heap.size ∧ w7.heap.size + 2 ≤ WE.heap.size) := ⟨by
      have h1 : WE.heap.size = w9.heap.size := by rw [hWE]; exact setRow_size _ _ _
      have h2 := hb79.size
      have h3 := J6.out
      omega⟩
    have LK : Aside0 (∀ k, k < WD.heap.size → k ≠ g9 → WE.heap[k]? = WD.heap[k]?) := ⟨fun k h1 h2 => by
      rw [hWE]
      exact (setRow_other _ _ _ _ h2).trans (hb79.block k h1)⟩
    have LB : Aside0 (Below wc.drew.heap.size wc.drew WE) := ⟨by
      rw [hWE]
      exact (below_row (below_then J5.out J5.out.size hb79) (by have h1 := HG6.out; exact h1.2.1) _).drew⟩
    have LW : Aside0 (∀ B V, KeepsFrom B WE V → KeepsFrom B W V) := ⟨fun B V h => KW.out _ _ (((keepsFrom_below hb79).trans (keepsFrom_row K2.out)).trans (by rw [hWE] at h; exact (keepsFrom_drew _ _).trans h))⟩
    change Code.wpIn _ _ _ _ _ _ _
    refine region_round_any (by kernel_rfl) (by rintro ⟨_, _, h⟩; exact h) (by kernel_rfl) ?_
    change wpAny _ _ _ _ _ _ _ (w9.setRow g9 (nums .u8 NX).toArray).drew
    rw [← hWE]
    clear hWE hgr hob hg9 K1 K2 K3 KR hb8 hb9
    have hC : Kd.C (Kd.int .u8) WE (some ⟨g9, 0, none⟩) 16 NX := by
      have h := C_row_int (l := NX) L2.out (by rw [HNL.out]; decide)
      rw [HNL.out] at h
      exact h
    refine wpAny_of_N (S := fun V => V.heap[g10]? = some (.cells #[vo] 28 (0, 0))) (N := 3) _ _ _ _ ?_
    refine wpAnyN_take (i := 0) (v := vo) rfl (by kernel_rfl) (by kernel_rfl) (by kernel_rfl) (by kernel_rfl) (fun _ _ _ h => h) (Or.inl ⟨by rfl, fun V hV => ?_⟩) L3.out ?_
    · have c := blk_cell hV 0
      go_simp
    refine wpAnyN_take (i := 1) (v := .slice (some ⟨g9, 0, none⟩) 16 16) rfl (by kernel_rfl) (by kernel_rfl) (by kernel_rfl) (by kernel_rfl) (fun _ _ _ h => h) (Or.inl ⟨by rfl, fun V hV => ?_⟩) L3.out ?_
    · go_simp
    refine wpAnyN_one (i := 2) (by kernel_rfl) rfl rfl (fun K hK => ?_)
    refine opWp_append_R rfl (.tmp 48) (.tmp 49) 28 5 rfl Try.underlying28 info5 NX rfl LR.out (Below.refl (w7.heap.size + 2) WE) LZ.out.2 (some ⟨g9, 0, none⟩) 16 16 rfl hC (by have h1 := HSL.out; have h2 := HM.out; omega) (Sx.1 ++ NX) rfl ?_
    intro v' w10 hR' hB' hgr hown
    have hg9 := HGG.out
    have M3 : w10.heap[g10]? = some (.cells #[vo] 28 (0, 0)) := (hB'.block g10 (by omega)).trans L3.out
    refine hK _ _ (fun _ => M3) ?_
    clear hK K
    refine wpAnyN_one (i := 3) (by kernel_rfl) rfl rfl (fun K hK => ?_)
    obtain ⟨A', c', hv', _⟩ := Kd.R_reads hR'
    refine wp_store_one 28 (.tmp 10) (.tmp 50) rfl g10 v' rfl rfl 28 vo M3 (by kernel_rfl) (by rw [hv']; rfl) ?_
    refine hK _ _ (fun h => absurd rfl h) ?_
    clear hK K
    refine wpAnyN_done (by kernel_rfl) ?_ _
    have hkg : ∀ B, KeepsFrom B WE w10 := fun B => ⟨hgr.size, fun k o _ hk ho => by
      have hlt := (Array.getElem?_eq_some_iff.1 hk).1
      refine (hgr.block k hlt fun e => ?_).trans hk
      obtain ⟨cells, hc⟩ := own_typed (Kd.own_of_R LR.out) k e.symm
      rw [hc] at hk
      injection hk with hk
      subst hk
      cases ho⟩
    have hz := LZ.out
    have hgw : w10.grownBy (w10.setRow g10 #[v']) (some g10) := ⟨rfl, rfl, rfl, by rw [setRow_size]; exact Nat.le_refl _, fun k hk hne => setRow_other _ _ _ _ (fun e => hne (by rw [e]))⟩
    refine ⟨LW.out _ _ ((hkg _).trans (keepsFrom_row M3)), fun a ha => ?_, ⟨?_⟩, ⟨?_⟩, ⟨?_⟩, ⟨?_, ?_⟩, ⟨?_⟩, ⟨?_⟩⟩
    · have h1 : a.block < w7.heap.size + 2 := by omega
      have h2 := J6.out
      rw [World.cell?_of_block ((setRow_other _ _ _ _ (by omega)).trans ((hB'.block _ h1).trans (LK.out _ (by omega) (by omega)))), KC.out]
    · exact (setRow_other _ _ _ _ hg9.2.1).trans ((hB'.block g8 (by omega)).trans L1.out)
    · rw [← HNX.out]
      exact (setRow_other _ _ _ _ hg9.1).trans ((hB'.block g9 (by omega)).trans L2.out)
    · rw [← HNX.out]
      refine ⟨v', setRow_heap _ _ _ _ _ _ M3, Kd.R_grown2 hR' rfl hgw fun k e1 e2 => ?_⟩
      have h1 := own_base (Kd.own_of_R hR') k e2.symm
      injection e1 with e1
      omega
    · intro k h1 h2
      simp only [List.mem_cons, List.not_mem_nil, or_false, not_or] at h2
      have h3 := J6.out
      exact (setRow_other _ _ _ _ h2.2.2).trans ((hB'.block k (by omega)).trans ((LK.out k (by omega) h2.2.1).trans (J4.out.1 k h1 (by simp only [List.mem_cons, List.not_mem_nil, or_false, not_or]; exact h2))))
    · rw [setRow_size]
      have h1 := hgr.size
      omega
    · refine below_row (LB.out.trans (hB'.mono ?_)) (HG6.out.2.2.1) _
      have h1 := HB7.out.size
      omega
    · rw [setRow_size]
      have h1 := hgr.size
      omega
  case done =>
    rintro D xs W hD hxs ⟨I1, I2, I3, I4, I5, I6⟩ hK
    rw [hxs, cbcFold_range] at I3
    obtain ⟨vo, J3, JR⟩ := I3.out
    have hS : Md.cbcTo keys f p m = Md.cbcTo keys f p (p.length / 16) := by congr 1; have := HM.out; omega
    have HRR : Aside0 (Kd.R (Kd.int .u8) 5 W (w7.heap.size + 2) (fun _ => True) vo (Md.cbcL keys f p)) := ⟨by unfold Md.cbcL; rw [← hS]; exact JR⟩
    have HBF : Aside0 (Below w0.heap.size w0 W) := ⟨(below_drew1 HBc.out).trans (I5.out.mono HBc.out.size)⟩
    have hsz0 : Aside0 (w0.heap.size ≤ w7.heap.size + 2) := ⟨by have h1 := HBc.out.size; have h2 := HB7.out.size; have h3 : wc.drew.heap.size = wc.heap.size := rfl; omega⟩
    have HDD := Aside0.mk hK
    have HDG : Aside0 (w7.heap.size + 2 ≤ D) := ⟨by simp at hD; omega⟩
    have J10 := blk_cell J3 0
    clear I1 I2 I3 I4 I5 I6 hK hxs hD JR J3 hS
    go_wp2
    refine ⟨by simp, .inl ⟨_, _, rfl, run_takeDeferred HDD.out, ?_⟩⟩
    have hbf : Below w0.heap.size W (W.putObj D (.deferred none)) := belowK_b (w := w0) (Nat.le_refl _) W D _ _ (by have := hsz0.out; have := HDG.out; omega) HDD.out rfl rfl
    refine ⟨_, results_tmp2 rfl _ _ _, _, rfl, ?_, HBF.out.trans hbf⟩
    have hg := grownBy_putObj' W D (.deferred none)
    refine Kd.R_lower (Kd.R_grown2 HRR.out rfl hg fun k e1 e2 => ?_) hsz0.out
    injection e1 with e1
    obtain ⟨cells, hc⟩ := own_typed (Kd.own_of_R HRR.out) k e2.symm
    rw [← e1, HDD.out] at hc
    cases hc
set_option maxHeartbeats 4000000 in
set_option maxRecDepth 100000 in
theorem impl_CbcEncrypt.calls (a0 a1 : ByteArray) (A2 : Option Addr) (c2 : Nat) (l2 : List Int) (r1 : List Int) (r2 : Int) (w0 : World) (hr2 : Kd.C (Kd.int .u8) w0 A2 l2.length l2) (hc2 : l2.length ≤ c2) (h : impl_CbcEncrypt.f a0 a1 l2 = some (r1, r2)) :
    Calls Try.prog 32 #[.string a0, .string a1, .slice A2 l2.length c2] w0 fun e w' => ∃ v0_ : Value, e = .returned (.tuple #[v0_, .int .i64 r2]) ∧ Kd.R (Kd.int .u8) 5 w' w0.heap.size (fun _ => True) v0_ r1 ∧ Below w0.heap.size w0 w' := by
  unfold impl_CbcEncrypt.f at h
  by_cases hu : u8b l2 = true
  · rw [if_pos hu] at h
    by_cases h1 : 65536 < a0.size ∨ 65536 < a1.size
    · rw [if_pos (by omega)] at h
      obtain ⟨rfl, rfl⟩ : ([] : List Int) = r1 ∧ (2 : Int) = r2 := by simpa using h
      have HF := Aside0.mk (long2_g a0 a1 true (decide_eq_true h1).symm)
      clear h h1 hu
      go_enter Try.func32, Try.ntmps32
      go_wp2_with fail
      refine (impl_isLong_string.calls _ _ [a0, a1] true _ (C_two_string (g := w0.heap.size) (T := 9) (fr := (0, 0)) (blk_new w0 _)) (Nat.le_refl _) HF.out).mono ?_
      rintro e wa ⟨rfl, hd⟩
      have HBa := Aside0.mk (below_then (below_alloc (Below.refl _ _) _) (by simp) hd.below : Below w0.heap.size w0 wa)
      clear hd
      go_wp2
      go_ret2
      exact ⟨_, rfl, Kd.R_nil _ _ _ _ _, HBa.out⟩
    have HF := Aside0.mk (long2_g a0 a1 false (decide_eq_false h1).symm)
    by_cases h2 : 65520 < l2.length
    · rw [if_pos (by omega)] at h
      obtain ⟨rfl, rfl⟩ : ([] : List Int) = r1 ∧ (2 : Int) = r2 := by simpa using h
      have d1 : decide (65520 < (l2.length : Int)) = true := decide_eq_true (by omega)
      have d2 : decide (65520 < l2.length) = true := decide_eq_true h2
      clear h h1 h2 hu
      go_enter Try.func32, Try.ntmps32
      go_wp2_with fail
      refine (impl_isLong_string.calls _ _ [a0, a1] false _ (C_two_string (g := w0.heap.size) (T := 9) (fr := (0, 0)) (blk_new w0 _)) (Nat.le_refl _) HF.out).mono ?_
      rintro e wa ⟨rfl, hd⟩
      have HBa := Aside0.mk (below_then (below_alloc (Below.refl _ _) _) (by simp) hd.below : Below w0.heap.size w0 wa)
      clear hd
      go_wp2
      go_ret2
      exact ⟨_, rfl, Kd.R_nil _ _ _ _ _, HBa.out⟩
    have d1 : decide (65520 < (l2.length : Int)) = false := decide_eq_false (by omega)
    have d2 : decide (65520 < l2.length) = false := decide_eq_false h2
    rw [if_neg (by omega)] at h
    by_cases h3 : a0.size = 16 ∨ a0.size = 32
    · by_cases h4 : a1.size = 16
      · rw [if_pos ⟨h3, h4⟩] at h
        obtain ⟨rfl, rfl⟩ : Md.cbcL (Aes.keysL (bytesL a0)) (bytesL a1) (padL l2) = r1 ∧ (0 : Int) = r2 := by simpa using h
        rcases h3 with e | e
        · exact impl_CbcEncrypt_in a0 a1 4 A2 c2 l2 w0 hr2 hc2 (u8b_ok hu) (by omega) (.inl rfl) e h4
        · exact impl_CbcEncrypt_in a0 a1 8 A2 c2 l2 w0 hr2 hc2 (u8b_ok hu) (by omega) (.inr rfl) e h4
      rw [if_neg (fun h => h4 h.2)] at h
      obtain ⟨rfl, rfl⟩ : ([] : List Int) = r1 ∧ (1 : Int) = r2 := by simpa using h
      have HK := Aside0.mk (isKey_g a0 true (decide_eq_true h3).symm)
      have d3 : ((a1.size : Int) != 16) = true := by rw [bne_iff_ne]; omega
      have d4 : ¬ (a1.size : Int) = 16 := by omega
      have d5 : decide ((a1.size : Int) = 16) = false := decide_eq_false d4
      have d6 : decide (a1.size = 16) = false := decide_eq_false h4
      have d7 : ((a1.size : Int) == 16) = false := by rw [beq_eq_false_iff_ne]; exact d4
      clear h h1 h2 hu h3 h4
      go_enter Try.func32, Try.ntmps32
      go_wp2_with fail
      refine (impl_isLong_string.calls _ _ [a0, a1] false _ (C_two_string (g := w0.heap.size) (T := 9) (fr := (0, 0)) (blk_new w0 _)) (Nat.le_refl _) HF.out).mono ?_
      rintro e wa ⟨rfl, hd⟩
      have HBa := Aside0.mk (below_then (below_alloc (Below.refl _ _) _) (by simp) hd.below : Below w0.heap.size w0 wa)
      clear hd
      go_wp2_with fail
      refine (impl_isKey.calls a0 true _ HK.out).mono ?_
      rintro e wc ⟨rfl, hd⟩
      have HBc := Aside0.mk (HBa.out.trans (hd.below.mono HBa.out.size))
      clear hd HBa
      go_wp2
      go_ret2
      exact ⟨_, rfl, Kd.R_nil _ _ _ _ _, HBc.out⟩
    · rw [if_neg (fun h => h3 h.1)] at h
      obtain ⟨rfl, rfl⟩ : ([] : List Int) = r1 ∧ (1 : Int) = r2 := by simpa using h
      have HK := Aside0.mk (isKey_g a0 false (decide_eq_false h3).symm)
      clear h h1 h2 hu h3
      go_enter Try.func32, Try.ntmps32
      go_wp2_with fail
      refine (impl_isLong_string.calls _ _ [a0, a1] false _ (C_two_string (g := w0.heap.size) (T := 9) (fr := (0, 0)) (blk_new w0 _)) (Nat.le_refl _) HF.out).mono ?_
      rintro e wa ⟨rfl, hd⟩
      have HBa := Aside0.mk (below_then (below_alloc (Below.refl _ _) _) (by simp) hd.below : Below w0.heap.size w0 wa)
      clear hd
      go_wp2_with fail
      refine (impl_isKey.calls a0 false _ HK.out).mono ?_
      rintro e wc ⟨rfl, hd⟩
      have HBc := Aside0.mk (HBa.out.trans (hd.below.mono HBa.out.size))
      clear hd HBa
      go_wp2
      go_ret2
      exact ⟨_, rfl, Kd.R_nil _ _ _ _ _, HBc.out⟩
  · rw [if_neg hu] at h
    cases h
end Go.Proofs.Ytfbggdlidelliaa.P
namespace Go.Proofs.Ytfbggdlidelliaa.P
open Go.RowKit Go.Proofs.YtfbggdlidelliaaW.PrintWords Go.Proofs.YtfbggdlidelliaaW.PrintLast Go.Proofs.YtfbggdlidelliaaW.PrintMore
attribute [local go_sem] min2_int min_two
set_option linter.unusedVariables false
set_option linter.unusedSimpArgs false
theorem isLong_byte_1.calls (A : Option Addr) (n c : Nat) (w : World) : Calls Try.prog 88 #[.slice A n c] w fun e w' => e = .returned (.bool (decide (65536 < (n : Int)))) ∧ w = w' := by
  go_enter Try.func88, Try.ntmps88
  go_wp2
  go_ret
  exact ⟨rfl, rfl⟩
def isLong_byte_idx (l0 : List (List Int)) (w : World) (e : Ending) (w' : World) : Prop :=
  ∃ i : Int, e = .returned (.int .i64 i) ∧ decide (0 ≤ i) = (l0.any fun t => decide (65536 < (t.length : Int))) ∧ w = w'
theorem isLong_byte_at {w : World} {A0 : Option Addr} {l0 : List (List Int)} (hr0 : Kd.C (Kd.slice 5 (Kd.int .u8)) w A0 l0.length l0) (k : Nat) (hk : k < l0.length) :
    ∃ ad A c, A0 = some ad ∧ w.cell? (ad.add k) = some (.slice A l0[k].length c) := by
  obtain ⟨ad, c, rfl, _, ⟨A, cap, hc, _⟩, hw⟩ := Kd.C_get hr0 ([] : List Int) (k : Int) (by omega) (by omega)
  refine ⟨ad, A, cap, rfl, ?_⟩
  subst hc
  have := hw 0 _ rfl
  simpa [Kd.slice, List.getD_eq_getElem?_getD, hk] using this
theorem IndexFunc_byte.calls (A0 : Option Addr) (c0 : Nat) (l0 : List (List Int)) (w : World) (hr0 : Kd.C (Kd.slice 5 (Kd.int .u8)) w A0 l0.length l0) :
    Calls Try.prog 105 #[.slice A0 l0.length c0, .func (.func 88) #[] #[]] w (isLong_byte_idx l0 w) := by
  have HR0 := Aside0.mk hr0
  clear hr0
  have hm : l0.length ≤ 9223372036854775807 := HR0.out.2.1
  go_enter Try.func105, Try.ntmps105
  go_wp2
  go_loop [8] (fun i => ∃ k : Nat, k ≤ l0.length ∧ i = .int .i64 k ∧ Aside0 (∀ j (hj : j < l0.length), j < k → ¬ 65536 < l0[j].length)) (fun i => l0.length - (intOf i).toNat)
  case atStart => exact ⟨0, Nat.zero_le _, rfl, ⟨fun _ _ h => absurd h (by omega)⟩⟩
  case round =>
    obtain ⟨k, hk, rfl, HA⟩ := hrel
    by_cases hlt : k < l0.length
    · obtain ⟨ad, A, c, had, hcell⟩ := isLong_byte_at HR0.out k hlt
      subst had
      by_cases hbig : 65536 < l0[k].length
      · have HF : Aside0 (isLong_byte_idx l0 w (.returned (.int .i64 (k : Int))) w) := ⟨⟨k, rfl, by
          rw [show decide ((0 : Int) ≤ (k : Int)) = true from decide_eq_true (by omega)]
          exact (List.any_eq_true.2 ⟨l0[k], List.getElem_mem hlt, by simp; omega⟩).symm, rfl⟩⟩
        have hd : decide (65536 < (l0[k].length : Int)) = true := decide_eq_true (by omega)
        go_wp2_with (go_at_call 88; refine (isLong_byte_1.calls _ _ _ _).mono ?_; rintro e w' ⟨rfl, rfl⟩)
        go_ret
        exact HF.out
      · have hd : decide (65536 < (l0[k].length : Int)) = false := decide_eq_false (by omega)
        have HA1 : Aside0 (∀ j (hj : j < l0.length), j < k + 1 → ¬ 65536 < l0[j].length) := ⟨fun j hj hjk => by
          rcases Nat.lt_or_ge j k with h | h
          · exact HA.out j hj h
          · obtain rfl : j = k := by omega
            exact hbig⟩
        go_wp2_with (go_at_call 88; refine (isLong_byte_1.calls _ _ _ _).mono ?_; rintro e w' ⟨rfl, rfl⟩)
        go_round
        case rel => exact ⟨k + 1, by omega, by go_num, HA1⟩
        case measure => simp [intOf]; omega
    · have HF : Aside0 (isLong_byte_idx l0 w (.returned (.int .i64 (-1))) w) := ⟨⟨-1, rfl, by
        rw [show decide ((0 : Int) ≤ -1) = false from rfl]
        refine (List.any_eq_false.2 fun x hx => ?_).symm
        obtain ⟨j, hj, rfl⟩ := List.mem_iff_getElem.1 hx
        have := HA.out j hj (by omega)
        simp; omega, rfl⟩⟩
      go_wp2
      go_ret
      exact HF.out
theorem ContainsFunc_byte.calls (A0 : Option Addr) (c0 : Nat) (l0 : List (List Int)) (w : World) (hr0 : Kd.C (Kd.slice 5 (Kd.int .u8)) w A0 l0.length l0) :
    Calls Try.prog 87 #[.slice A0 l0.length c0, .func (.func 88) #[] #[]] w fun e w' => e = .returned (.bool (l0.any fun t => decide (65536 < (t.length : Int)))) ∧ w = w' := by
  go_enter Try.func87, Try.ntmps87
  go_wp2_with (go_at_call 105; refine (IndexFunc_byte.calls _ _ _ _ hr0).mono ?_; rintro e w' ⟨i, rfl, hi, rfl⟩)
  go_ret
  exact ⟨by rw [← hi]; simp, rfl⟩
def impl_isLong_byte.f (l0 : List (List Int)) : Option (Bool) := some (l0.any fun t => decide (65536 < (t.length : Int)))
theorem impl_isLong_byte.calls (A0 : Option Addr) (c0 : Nat) (l0 : List (List Int)) (r : Bool) (w : World) (hr0 : Kd.C (Kd.slice 5 (Kd.int .u8)) w A0 l0.length l0) (hc0 : l0.length ≤ c0) (h : impl_isLong_byte.f l0 = some r) :
    Calls Try.prog 54 #[.slice A0 l0.length c0] w fun e w' => e = .returned (.bool r) ∧ Drawn0 w w' := by
  unfold impl_isLong_byte.f at h
  injection h with h
  have H := Aside0.mk h
  clear h
  go_enter Try.func54, Try.ntmps54
  go_wp2_with (go_at_call 87; refine (ContainsFunc_byte.calls _ _ _ _ hr0).mono ?_; rintro e w' ⟨rfl, rfl⟩)
  go_ret
  exact ⟨by rw [← H.out]; rfl, Drawn0.refl _⟩
theorem C_one_slice {W : World} {g : Nat} {A : Option Addr} {n c : Nat} {xs : List Int} {T : TypeId} {fr : Nat × Nat} (h : W.heap[g]? = some (.cells #[.slice A n c] T fr)) (hn : xs.length = n) (hc : n ≤ c) (hC : Kd.C (Kd.int .u8) W A xs.length xs) :
    Kd.C (Kd.slice 5 (Kd.int .u8)) W (some ⟨g, 0, none⟩) 1 [xs] := by
  subst hn
  refine ⟨rfl, by decide, fun _ => ⟨⟨g, 0, none⟩, rfl, fun j p hj => ?_⟩⟩
  match j, hj with
  | 0, hj =>
    obtain rfl : xs = p := by simpa using hj
    refine ⟨[.slice A xs.length c], rfl, ⟨A, c, rfl, hc, hC⟩, fun i u hu => ?_⟩
    match i, hu with
    | 0, hu =>
      obtain rfl : Value.slice A xs.length c = u := by simpa using hu
      simp [World.cell?, Addr.add, h]
def bytes_Equal.f (l0 : List Int) (l1 : List Int) : Option (Bool) := some ((strOfNums l0).toList == (strOfNums l1).toList)
set_option maxHeartbeats 8000000 in
set_option maxRecDepth 100000 in
theorem bytes_Equal.calls (A0 : Option Addr) (c0 : Nat) (l0 : List Int) (A1 : Option Addr) (c1 : Nat) (l1 : List Int) (r : Bool) (w : World) (hr0 : Kd.C (Kd.int .u8) w A0 l0.length l0) (hc0 : l0.length ≤ c0) (hr1 : Kd.C (Kd.int .u8) w A1 l1.length l1) (hc1 : l1.length ≤ c1) (h : bytes_Equal.f l0 l1 = some r) :
    Calls Try.prog 95 #[.slice A0 l0.length c0, .slice A1 l1.length c1] w fun e w' => e = .returned (.bool r) ∧ Drawn0 w w' := by
  have HR0 := Aside0.mk hr0
  have HC0 := Aside0.mk hc0
  clear hr0 hc0
  have HR1 := Aside0.mk hr1
  have HC1 := Aside0.mk hc1
  clear hr1 hc1
  have H : (some ((strOfNums l0).toList == (strOfNums l1).toList)) = some r := h
  clear h
  obtain rfl := Option.some.inj H
  have hcv3 := Kd.C_string (P := Try.prog) (A := A0) (c := c0) Try.underlying28 Try.underlying5 Try.underlying9 HR0.out
  have hcv4 := Kd.C_string (P := Try.prog) (A := A1) (c := c1) Try.underlying28 Try.underlying5 Try.underlying9 HR1.out
  go_enter Try.func95, Try.ntmps95
  go_wp2
  go_ret
  exact ⟨by first | rfl | (simp; done) | (simp [*]; done), by repeat (first | exact Drawn0.refl _ | apply Drawn0.step)⟩
def unpadPost (l0 : List Int) (w : World) (e : Ending) (w' : World) : Prop :=
  Below w.heap.size w w' ∧ ((unpadL l0 = none ∧ e = .returned (.tuple #[.slice none 0 0, .bool false])) ∨
    ∃ (r : List Int) (A : Option Addr) (c : Nat), unpadL l0 = some r ∧ e = .returned (.tuple #[.slice A r.length c, .bool true]) ∧ r.length ≤ c ∧ Kd.C (Kd.int .u8) w' A r.length r)
set_option maxHeartbeats 4000000 in
set_option maxRecDepth 100000 in
theorem unpadded_short (A0 : Option Addr) (c0 : Nat) (l0 : List Int) (w : World) (h : l0.length = 0) :
    Calls Try.prog 63 #[.slice A0 l0.length c0] w (unpadPost l0 w) := by
  have HB := Aside0.mk (Below.refl w.heap.size w)
  have HN : Aside0 (unpadL l0 = none) := ⟨by unfold unpadL; rw [if_pos h]⟩
  have h0 : ((l0.length : Int) == 0) = true := by rw [h]; rfl
  clear h
  go_enter Try.func63, Try.ntmps63
  go_wp2
  go_ret2
  exact ⟨HB.out, .inl ⟨HN.out, rfl⟩⟩
set_option maxHeartbeats 4000000 in
set_option maxRecDepth 100000 in
theorem unpadded_long (ad : Addr) (c0 : Nat) (l0 : List Int) (q : Nat) (w : World) (hr0 : Kd.C (Kd.int .u8) w (some ad) l0.length l0) (hc0 : l0.length ≤ c0) (hl : l0.length < 140737488355000) (h0 : 0 < l0.length) (hn : rd l0 ((l0.length : Int) - 1) = (q : Int)) (hq : q ≤ 255)
    (hcell : w.cell? (ad.add (l0.length - 1)) = some (.int .u8 (q : Int))) :
    Calls Try.prog 63 #[.slice (some ad) l0.length c0] w (unpadPost l0 w) := by
  have HR0 := Aside0.mk hr0
  have HC0 := Aside0.mk hc0
  have HN : Aside0 (unpadL l0 = if l0.length < q then none else if ((strOfNums (padL (l0.take (l0.length - q)))).toList == (strOfNums l0).toList) = true then some (l0.take (l0.length - q)) else none) := ⟨by
    unfold unpadL
    rw [if_neg (by omega), hn]
    rfl⟩
  have HB := Aside0.mk (Below.refl w.heap.size w)
  have hz : ((l0.length : Int) == 0) = false := beq_eq_false_iff_ne.2 (by omega)
  have e1 : ((l0.length : Int) - 1).toNat = l0.length - 1 := by omega
  by_cases hgt : l0.length < q
  · clear hr0 hn
    have d1 : decide ((q : Int) > (l0.length : Int)) = true := decide_eq_true (by omega)
    have dn : decide (l0.length < q) = true := decide_eq_true hgt
    have HN1 : Aside0 (unpadL l0 = none) := ⟨by rw [HN.out, if_pos hgt]⟩
    go_enter Try.func63, Try.ntmps63
    go_wp2
    go_ret2
    exact ⟨HB.out, .inl ⟨HN1.out, rfl⟩⟩
  · have d1 : decide ((q : Int) > (l0.length : Int)) = false := decide_eq_false (by omega)
    have dn : decide (l0.length < q) = false := decide_eq_false hgt
    obtain ⟨t, ht⟩ : ∃ t, t = l0.take (l0.length - q) := ⟨_, rfl⟩
    have tl : t.length = l0.length - q := by rw [ht, List.length_take]; omega
    have es : ((l0.length : Int) - (q : Int)).toNat = t.length := by omega
    have s0 : (0 : Int) ≤ (l0.length : Int) - (q : Int) := by omega
    have s1 : (l0.length : Int) - (q : Int) ≤ (c0 : Int) := by omega
    have HT : Aside0 (Kd.C (Kd.int .u8) w (some ad) t.length t) := ⟨by
      have := Kd.C_take (m := l0.length - q) hr0 (by omega)
      rw [← ht] at this
      exact this⟩
    have HTC : Aside0 (t.length ≤ c0) := ⟨by omega⟩
    have HP : Aside0 (impl_padded.f t = some (padL t)) := ⟨by unfold impl_padded.f; rw [if_pos (by omega)]⟩
    have HE : Aside0 (bytes_Equal.f (padL t) l0 = some ((strOfNums (padL t)).toList == (strOfNums l0).toList)) := ⟨rfl⟩
    have HN1 : Aside0 (unpadL l0 = if ((strOfNums (padL t)).toList == (strOfNums l0).toList) = true then some t else none) := ⟨by rw [HN.out, if_neg hgt, ← ht]⟩
    generalize ((strOfNums (padL t)).toList == (strOfNums l0).toList) = b at HE HN1
    clear ht hr0 hn hgt hc0
    go_enter Try.func63, Try.ntmps63
    have TL := Aside0.mk tl
    clear tl
    go_wp2_with fail
    (first | rw [← TL.out] | skip)
    refine (impl_padded.calls (some ad) c0 t _ _ HT.out HTC.out HP.out).mono ?_
    rintro e w' ⟨v0, rfl, hR, hb⟩
    obtain ⟨A, c, rfl, hlc, hC⟩ := Kd.R_reads hR
    have HC := Aside0.mk hC
    have HLC := Aside0.mk hlc
    have HB1 := Aside0.mk hb
    have HR1 := Aside0.mk (Kd.C_below HR0.out hb)
    have HT1 := Aside0.mk (Kd.C_below HT.out hb)
    clear hR hb hC hlc
    go_wp2_with fail
    refine (bytes_Equal.calls _ _ _ _ _ _ _ _ HC.out HLC.out HR1.out HC0.out HE.out).mono ?_
    rintro e w2 ⟨rfl, hd⟩
    have HB2 := Aside0.mk (below_then HB1.out HB1.out.size hd.below)
    have HT2 := Aside0.mk (Kd.C_below HT1.out hd.below)
    clear hd
    cases b with
    | true =>
      go_wp2
      go_ret2
      exact ⟨HB2.out, .inr ⟨t, _, _, HN1.out, rfl, HTC.out, HT2.out⟩⟩
    | false =>
      go_wp2
      go_ret2
      exact ⟨HB2.out, .inl ⟨HN1.out, rfl⟩⟩
theorem unpadded_calls (A0 : Option Addr) (c0 : Nat) (l0 : List Int) (w : World) (hr0 : Kd.C (Kd.int .u8) w A0 l0.length l0) (hc0 : l0.length ≤ c0) (hl : l0.length < 140737488355000) (hu : ∀ x ∈ l0, 0 ≤ x ∧ x ≤ 255) :
    Calls Try.prog 63 #[.slice A0 l0.length c0] w (unpadPost l0 w) := by
  rcases Nat.eq_zero_or_pos l0.length with h0 | h0
  · exact unpadded_short A0 c0 l0 w h0
  · obtain ⟨ad, c, rfl, hs, hk, hcell⟩ := Kd.C_get hr0 0 ((l0.length - 1 : Nat) : Int) (by omega) (by omega)
    have e2 : l0.getD (l0.length - 1) 0 = l0[l0.length - 1] := by
      rw [List.getD_eq_getElem?_getD, List.getElem?_eq_getElem (by omega)]; rfl
    rw [Int.toNat_natCast, e2] at hk
    rw [Int.toNat_natCast] at hcell
    obtain ⟨u0, u1⟩ := hu _ (List.getElem_mem (l := l0) (n := l0.length - 1) (by omega))
    have e3 : rd l0 ((l0.length : Int) - 1) = l0[l0.length - 1] := by
      have : (l0.length : Int) - 1 = ((l0.length - 1 : Nat) : Int) := by omega
      rw [this]
      unfold rd
      rw [Int.toNat_natCast]
      exact e2
    have hc : c = [Value.int .u8 l0[l0.length - 1]] := hk
    rw [hc] at hcell
    have h1 := hcell 0 _ rfl
    have h2 : (l0.length - 1) * (Kd.int IntKind.u8).sz + 0 = l0.length - 1 := by show (l0.length - 1) * 1 + 0 = _; omega
    rw [h2] at h1
    refine unpadded_long ad c0 l0 (l0[l0.length - 1]).toNat w hr0 hc0 hl h0 (by rw [e3]; omega) (by omega) ?_
    rw [Int.toNat_of_nonneg u0]
    exact h1
def bytes_Clone.f (l0 : List Int) : Option (List Int) := if l0.length < 140737488355328 then some l0 else none
set_option maxHeartbeats 4000000 in
set_option maxRecDepth 100000 in
theorem bytes_Clone.calls (A0 : Option Addr) (c0 : Nat) (l0 : List Int) (r : List Int) (w : World) (hr0 : Kd.C (Kd.int .u8) w A0 l0.length l0) (hc0 : l0.length ≤ c0) (h : bytes_Clone.f l0 = some r) :
    Calls Try.prog 64 #[.slice A0 l0.length c0] w fun e w' => ∃ v0_ : Value, e = .returned (v0_) ∧ Kd.R (Kd.int .u8) 5 w' w.heap.size (fun _ => True) v0_ r ∧ Below w.heap.size w w' := by
  have HR0 := Aside0.mk hr0
  have HC0 := Aside0.mk hc0
  have HB := Aside0.mk (Below.refl w.heap.size w)
  unfold bytes_Clone.f at h
  by_cases c2 : l0.length < 140737488355328
  · rw [if_pos c2] at h
    injection h with h
    subst h
    have LMc2 := Aside0.mk c2
    clear c2
    have q22 : ∀ (w : World) (a : Option Addr) (n c n' c' : Nat), (binOp .eql 28 (.slice a n c) (.slice none n' c')).run Try.prog w = .ok (.bool a.isNone) w := fun w a n c n' c' => Lib.run_eql_slice_nil w _ _ a n c n' c' Try.underlying28
    cases A0 with
    | none =>
      have h0 : l0 = [] := by
        rcases Nat.eq_zero_or_pos l0.length with e | e
        · exact List.eq_nil_of_length_eq_zero e
        · obtain ⟨ad, e1, _⟩ := hr0.2.2 e
          cases e1
      subst h0
      clear hr0 hc0
      go_enter Try.func64, Try.ntmps64
      go_wp2
      go_ret
      exact ⟨_, rfl, Kd.R_nil _ _ _ _ _, HB.out⟩
    | some ad =>
      clear hr0 hc0
      obtain ⟨y101, hy101⟩ : ∃ y_ : List Int, y_ = (([] : List Int)) := ⟨_, rfl⟩
      have Ny101 := Aside0.mk hy101
      obtain ⟨y104, hy104⟩ : ∃ y_ : List Int, y_ = (y101 ++ l0) := ⟨_, rfl⟩
      have Ny104 := Aside0.mk hy104
      clear hy101 hy104
      go_enter Try.func64, Try.ntmps64
      go_wp2_with (first | ((with_reducible refine gate_dst (N := 5) rfl ?_); refine Kd.R_lit (Kd.int .u8) _ 5 ?hg (N := 5) ?hd (xs := ([] : List Int)) (inner := []) (ok := fun _ => True) (okp := fun _ => True) ?hr ?hp (fun _ hk => hk) trivial (Below.refl _ _) (Nat.le_refl _) (by simp) ?_; (case hd => rfl); (case hg => rfl); (case hr => first | (go_simp; done) | (go_simp; rfl)); (case hp => exact (Reps.none _ _)); intro v102 w3 ho4 hb hg_ hnew_; clear hg_ hnew_; (first | rw [← Ny101.out] at ho4 | (simp only [Int.reduceToNat] at ho4; rw [← Ny101.out] at ho4)); have n0_ := Aside0.mk (Kd.R_lower ho4 (below_size HB.out)); have n1_ := Aside0.mk (below_step HB.out hb); clear HB; have HO103 := n0_; have HB := n1_; clear n0_ n1_; clear hb ho4) | ((with_reducible refine gate_builtin (b := .append) (xs := #[.tmp 5, .tmp 6]) rfl ?_); at_builtin; refine Kd.R_append_rows (Kd.int .u8) (w0 := w) w.heap.size rfl (.tmp 5) (.tmp 6) 28 5 (.int .u8 0) 1 rfl Try.underlying28 info5 rfl (by decide) (by omega) v102 y101 l0 _ _ _ (fun _ => True) (fun _ => False) rfl rfl ?aO ?aR (fun _ _ h => h) (fun _ h => h.elim) ?aF ?aB ?aS ?aL ?_; (case aR => exact (Kd.C_below HR0.out HB.out)); (case aB => exact HB.out); (case aF => exact (fun _ _ => trivial)); (case aO => exact HO103.out); (case aS => exact (below_size HB.out)); (case aL => have := LMc2.out; have e := Ny101.out; subst e; simp; omega); intro v105 w5 ho hb hg hat; rw [← Ny104.out] at ho; have n0_ := Aside0.mk (hb); have n1_ := Aside0.mk (ho); clear HB; clear HO103; have HB := n0_; have HO106 := n1_; clear n0_ n1_; clear ho hb hg hat))
      go_ret
      have e1 := Ny104.out
      have e2 := Ny101.out
      subst e2
      simp only [List.nil_append] at e1
      subst e1
      exact ⟨_, rfl, HO106.out, HB.out⟩
  · rw [if_neg c2] at h
    exact absurd h (by simp)
end Go.Proofs.Ytfbggdlidelliaa.P

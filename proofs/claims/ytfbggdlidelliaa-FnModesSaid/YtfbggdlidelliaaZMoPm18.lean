/- Laid by a program of this session: of Pm18 what this law uses. -/
import Derived.Test.YtfbggdlidelliaaZMoM11
import Derived.Test.YtfbggdlidelliaaZMoPm7
import Derived.Test.YtfbggdlidelliaaZMoPm8
import Derived.Test.YtfbggdlidelliaaZMoPm9
import Derived.Test.YtfbggdlidelliaaZMoPm10
import Derived.Test.YtfbggdlidelliaaZMoPm11
import Derived.Test.YtfbggdlidelliaaZMoM22
import Derived.Test.YtfbggdlidelliaaZMoPm16
namespace Go.Proofs.Ytfbggdlidelliaa.P
open Go.RowKit Go.Proofs.YtfbggdlidelliaaW.PrintWords Go.Proofs.YtfbggdlidelliaaW.PrintLast Go.Proofs.YtfbggdlidelliaaW.PrintMore
attribute [local go_sem] min2_int min_two
set_option linter.unusedVariables false
set_option linter.unusedSimpArgs false
def impl_CbcDecrypt.f (a0 a1 : ByteArray) (l2 : List Int) : Option (List Int × Int) :=
  if u8b l2 = true then
    (if 65536 < a0.size ∨ 65536 < a1.size ∨ 65536 < l2.length then some ([], 2)
     else if (a0.size = 16 ∨ a0.size = 32) ∧ a1.size = 16 then
       (if l2.length % 16 ≠ 0 then some ([], 3)
        else (match unpadL (Md.uncL (Aes.keysL (bytesL a0)) (bytesL a1) l2) with
           | some r => some (r, 0)
           | none => some ([], 3)))
     else some ([], 1))
  else none
theorem longB_g (l : List Int) (b : Bool) (h : b = decide (65536 < l.length)) : impl_isLong_byte.f [l] = some b := by
  subst h
  unfold impl_isLong_byte.f
  congr 1
  simp only [List.any_cons, List.any_nil, Bool.or_false]
  exact decide_eq_decide.2 (by omega)
@[reducible] def cdAct (a0 a1 : ByteArray) (A2 : Option Addr) (n2 c2 g0 g1 : Nat) (v8 v9 v31 v32 v33 v34 v35 v36 : Value) : Act := { tmps := #[.string a0, .string a1, .slice A2 n2 c2, undef, undef, undef, .slice none 0 0, .int .i64 0, v8, v9, undef, undef, undef, undef, undef, .bool false, .string a0, .string a1, .slice (some { block := g0, off := 0 }) 2 2, .bool false, .bool false, .slice A2 n2 c2, .slice (some { block := g1, off := 0 }) 1 1, .bool false, .bool false, .bool false, .string a0, .bool true, .bool false, .bool false, .string a1, .int .i64 16, .bool false, .bool false, .bool false, .slice A2 n2 c2, .int .i64 (n2 : Int), .int .i64 0, .bool false, v31, v32, v33, v34, v35, v36, undef, undef, undef, undef, undef, undef, undef, undef, undef, undef, undef, undef, undef, undef, undef, undef, undef, undef, undef, undef, undef, undef, undef, undef, undef], defers := [] }
def cdI (a0 a1 : ByteArray) (A2 : Option Addr) (n2 c2 g0 g1 : Nat) (keys : List (List Int)) (f : List Int) (w1 : World) (b : Nat → Bool) (a : Act) (w : World) : Prop :=
  ∃ (v8 v9 v31 v32 v33 v34 v35 v36 : Value) (G : List Nat) (gb cb : Nat), a = cdAct a0 a1 A2 n2 c2 g0 g1 v8 v9 v31 v32 v33 v34 v35 v36 ∧ Below w1.heap.size w1 w ∧ (∀ k ∈ G, w1.heap.size ≤ k ∧ k < w.heap.size) ∧
  (b 0 = true → v31 = .string a0) ∧ (b 2 = true → v33 = .string a1) ∧
  (b 1 = true → ∃ gc, v32 = .pointer (some ⟨gc, 0, none⟩) ∧ Kp w G (fun W => cipherAt W w1.heap.size gc keys)) ∧
  (b 3 = true → v34 = .slice (some ⟨gb, 0, none⟩) 16 cb ∧ Kp w G (fun W => W.rangeAt gb 0 (nums .u8 f))) ∧
  (b 4 = true → v35 = .pointer (some ⟨gb, 0, none⟩)) ∧ (b 5 = true → v36 = .agg (nums .u8 f).toArray) ∧
  (b 6 = true → ∃ g8 x, v8 = .pointer (some ⟨g8, 0, none⟩) ∧ g8 ∈ G ∧ w.heap[g8]? = some (.cells #[x] 50 (0, 0)) ∧ (b 8 = true → x = v32)) ∧
  (b 7 = true → ∃ g9 xs, v9 = .pointer (some ⟨g9, 0, none⟩) ∧ g9 ∈ G ∧ w.heap[g9]? = some (.cells xs 52 (0, 0)) ∧ xs.size = 16 ∧ (b 9 = true → xs = (nums .u8 f).toArray)) ∧
  ((b 4 = true → b 3 = true) ∧ (b 8 = true → b 6 = true ∧ b 1 = true) ∧ (b 9 = true → b 7 = true))
theorem cd_far {W W' : World} {B B0 g : Nat} {keys : List (List Int)} (h : cipherAt W B0 g keys) (hB : B ≤ B0) (hk : ∀ k, B0 ≤ k → k < W.heap.size → W'.heap[k]? = W.heap[k]?) : cipherAt W' B g keys := by
  obtain ⟨cs, gk, ck, h1, h2, h3, h4, h5, h6, h7⟩ := h
  have hlt : g < W.heap.size := (Array.getElem?_eq_some_iff.1 h4).1
  refine ⟨cs, gk, ck, Nat.le_trans hB h1, Nat.le_trans hB h2, h3, (hk g h1 hlt).trans h4, h5, h6, fun i hi j v hv => ?_⟩
  have hc := h7 i hi j v hv
  have hlk : (⟨gk, i * 16 + j, none⟩ : Addr).block < W.heap.size := cell_lt (by rw [hc]; rfl)
  exact (World.cell?_of_block (hk gk h2 hlk)).trans hc
set_option maxHeartbeats 4000000 in
set_option maxRecDepth 100000 in
theorem cd_r5 (a0 a1 : ByteArray) (A2 : Option Addr) (n2 c2 g0 g1 : Nat) (n : Nat) (keys : List (List Int)) (f : List Int) (hn : n = 4 ∨ n = 8) (hs0 : a0.size = 4 * n) (hs1 : a1.size = 16) (hk : keys = Aes.keysL (bytesL a0)) (hk0 : 0 < keys.length) (hf : f = bytesL a1) (Q : Exit → Act → World → Prop) (w1 : World)
    (h : ∀ gc g8 g9 u34 gb G w, g8 ∈ G → g9 ∈ G → (∀ k ∈ G, w1.heap.size ≤ k ∧ k < w.heap.size) → Kp w G (fun W => cipherAt W w1.heap.size gc keys) → Below w1.heap.size w1 w → w.heap[g8]? = some (.cells #[.pointer (some ⟨gc, 0, none⟩)] 50 (0, 0)) → w.heap[g9]? = some (.cells (nums .u8 f).toArray 52 (0, 0)) →
      Q .normal (cdAct a0 a1 A2 n2 c2 g0 g1 (.pointer (some ⟨g8, 0, none⟩)) (.pointer (some ⟨g9, 0, none⟩)) (.string a0) (.pointer (some ⟨gc, 0, none⟩)) (.string a1) u34 (.pointer (some ⟨gb, 0, none⟩)) (.agg (nums .u8 f).toArray)) w) :
    wpAny Try.prog .any (opsOf Try.f36 7) Q 10 (Array.replicate 10 false) (cdAct a0 a1 A2 n2 c2 g0 g1 undef undef undef undef undef undef undef undef) w1 := by
  refine wpAny_inv (fun L a w => cdI a0 a1 A2 n2 c2 g0 g1 keys f w1 (fun j => L.getD j false) a w) (by kernel_rfl) ?done ?step 10 _ _ _ (by kernel_rfl) (by decide) ?start
  case start =>
    refine ⟨undef, undef, undef, undef, undef, undef, undef, undef, [], 0, 0, rfl, Below.refl _ _, (fun k hk => by cases hk), ?_, ?_, ?_, ?_, ?_, ?_, ?_, ?_, ⟨?_, ?_, ?_⟩⟩ <;> (intro h0; cases h0)
  case done =>
    rintro L a w ⟨v8, v9, v31, v32, v33, v34, v35, v36, G, gb, cb, rfl, HB, HG, H0, H2, H1, H3, H4, H5, H6, H7, HX⟩ hL hall
    have al : ∀ i, i < 10 → L.getD i false = true := hall
    obtain rfl := H0 (al 0 (by decide))
    obtain rfl := H2 (al 2 (by decide))
    obtain ⟨gc, rfl, hC⟩ := H1 (al 1 (by decide))
    obtain rfl := H4 (al 4 (by decide))
    obtain rfl := H5 (al 5 (by decide))
    obtain ⟨g8, x, rfl, m8, c8, e8⟩ := H6 (al 6 (by decide))
    obtain ⟨g9, xs, rfl, m9, c9, _, e9⟩ := H7 (al 7 (by decide))
    rw [e8 (al 8 (by decide))] at c8
    rw [e9 (al 9 (by decide))] at c9
    exact h gc g8 g9 v34 gb G w m8 m9 HG hC HB c8 c9
  case step =>
    rintro L a w i ⟨v8, v9, v31, v32, v33, v34, v35, v36, G, gb, cb, rfl, HB, HG, H0, H2, H1, H3, H4, H5, H6, H7, HX⟩ hL hi hlt
    have hl10 : L.size = 10 := hL
    have hlt10 : i < 10 := hlt
    have hW : ∀ j, lastWaits .any (opsOf Try.f36 7) i j = true → L.getD j false = true := fun j hj => ready_waits hi j hj
    have hfresh := (mem_ready.1 hi).1
    have hff : L.getD i false = false := by
      have h2 : i < L.size := by omega
      simp only [Array.getD, h2, dif_pos] at hfresh ⊢
      exact hfresh
    simp only [set_bits L i (by omega)]
    match i, hlt10 with
    | 0, _ =>
      refine wpOp_val (v := .string a0) (w1 := w) rfl rfl (by go_simp; try rfl) ?_
      exact ⟨v8, v9, .string a0, v32, v33, v34, v35, v36, G, gb, cb, rfl, HB, HG, fun _ => rfl, H2, H1, H3, H4, H5, H6, H7, HX⟩
    | 1, _ =>
      obtain rfl := H0 (hW 0 (by kernel_rfl))
      refine wpOp_goes rfl rfl Try.func44 (by kernel_rfl) rfl #[.string a0] rfl (by simp only [List.map_toArray, List.map_cons, List.map_nil]; rfl) ?_
      refine (impl_cipherOf_in a0 n w hn hs0).mono ?_
      rintro e w2 ⟨gc, rfl, hC, hb⟩
      rw [← hk] at hC
      refine ⟨_, rfl, v8, v9, .string a0, _, v33, v34, v35, v36, G, gb, cb, rfl, HB.trans (hb.mono HB.size), (fun k hk => ⟨(HG k hk).1, Nat.lt_of_lt_of_le (HG k hk).2 hb.size⟩), (fun _ => rfl), H2, ?_, ?_, H4, H5, ?_, ?_, ⟨HX.1, fun h => ⟨(HX.2.1 h).1, rfl⟩, HX.2.2⟩⟩
      · intro h
        exact ⟨gc, rfl, fun W' hW' => cd_far hC HB.size (fun k h1 h2 => hW' k h2 (fun hm => absurd (HG k hm).2 (by omega)))⟩
      · intro h
        obtain ⟨e, hK⟩ := H3 h
        exact ⟨e, hK.step hb.size (fun k hk => .inl hk) (fun k hk _ => hb.block k hk) (fun k hk => hk)⟩
      · intro h
        obtain ⟨g8, x, e, m, c, e8⟩ := H6 h
        exact ⟨g8, x, e, m, (hb.block _ (HG _ m).2).trans c, fun h8 => absurd (hff.symm.trans (HX.2.1 h8).2) (by decide)⟩
      · intro h
        obtain ⟨g9, xs, e, m, c, z, e9⟩ := H7 h
        exact ⟨g9, xs, e, m, (hb.block _ (HG _ m).2).trans c, z, e9⟩
    | 2, _ =>
      refine wpOp_val (v := .string a1) (w1 := w) rfl rfl (by go_simp; try rfl) ?_
      exact ⟨v8, v9, v31, v32, .string a1, v34, v35, v36, G, gb, cb, rfl, HB, HG, H0, fun _ => rfl, H1, H3, H4, H5, H6, H7, HX⟩
    | 3, _ =>
      obtain rfl := H2 (hW 2 (by kernel_rfl))
      have hb := bytes_below (Below.refl w.heap.size w) (Nat.le_refl _) 5 a1
      refine wpOp_val rfl rfl (run_conv_op 9 28 5 _ a1 rfl rfl Try.underlying9 Try.underlying28 Try.underlying5) ?_
      refine ⟨v8, v9, v31, v32, .string a1, _, v35, v36, G, w.heap.size, grownCap w a1.size 0 5, rfl, HB.trans (hb.mono HB.size), (fun k hk => ⟨(HG k hk).1, Nat.lt_of_lt_of_le (HG k hk).2 hb.size⟩), H0, (fun _ => rfl), ?_, ?_, ?_, H5, ?_, ?_, ⟨fun _ => rfl, HX.2⟩⟩
      · intro h
        obtain ⟨gc, e, hK⟩ := H1 h
        exact ⟨gc, e, hK.step hb.size (fun k hk => .inl hk) (fun k hk _ => hb.block k hk) (fun k hk => hk)⟩
      · intro h
        refine ⟨by rw [hs1], fun W' hW' => ?_⟩
        have hr := bytes_range w 5 a1
        intro j v hv
        rw [hf] at hv
        have hc := hr j v hv
        exact (World.cell?_of_block (hW' _ (cell_lt (a := ⟨w.heap.size, 0 + j, none⟩) (by rw [hc]; rfl)) (fun hm => absurd (HG _ hm).2 (Nat.lt_irrefl _)))).trans hc
      · intro h
        exact absurd (hff.symm.trans (HX.1 h)) (by decide)
      · intro h
        obtain ⟨g8, x, e, m, c, e8⟩ := H6 h
        exact ⟨g8, x, e, m, (hb.block _ (HG _ m).2).trans c, e8⟩
      · intro h
        obtain ⟨g9, xs, e, m, c, z, e9⟩ := H7 h
        exact ⟨g9, xs, e, m, (hb.block _ (HG _ m).2).trans c, z, e9⟩
    | 4, _ =>
      obtain ⟨rfl, hR⟩ := H3 (hW 3 (by kernel_rfl))
      refine wpOp_val rfl rfl (arr_at_wp 52 _ (some ⟨gb, 0, none⟩) 16 cb 16 rfl rfl Try.underlying52 (Nat.le_refl _)) ?_
      exact ⟨v8, v9, v31, v32, v33, _, _, v36, G, gb, cb, rfl, HB, HG, H0, H2, H1, (fun _ => ⟨rfl, hR⟩), (fun _ => rfl), H5, H6, H7, ⟨fun _ => hW 3 (by kernel_rfl), HX.2⟩⟩
    | 5, _ =>
      obtain rfl := H4 (hW 4 (by kernel_rfl))
      obtain ⟨e3, hR⟩ := H3 (HX.1 (hW 4 (by kernel_rfl)))
      have hfl : (nums IntKind.u8 f).length = 16 := by rw [hf]; simp [nums, bytesL_length, hs1]
      refine wpOp_val (v := .agg (nums .u8 f).toArray) (w1 := w) rfl rfl ?_ ?_
      · exact load_mid_wp 52 _ rfl gb 0 rfl _ _ hR.here Try.underlying52 rfl (key_size f hfl)
      exact ⟨v8, v9, v31, v32, v33, v34, _, _, G, gb, cb, rfl, HB, HG, H0, H2, H1, H3, (fun _ => rfl), (fun _ => rfl), H6, H7, HX⟩
    | 6, _ =>
      have hb := below_alloc (Below.refl w.heap.size w) (Obj.cells #[.pointer none] 50)
      refine wpOp_wpK rfl rfl (fun K hK => ?_)
      go_simp
      refine hK _ _ ?_
      refine ⟨_, v9, v31, v32, v33, v34, v35, v36, w.heap.size :: G, gb, cb, rfl, below_alloc HB _, ?_, H0, H2, ?_, ?_, H4, H5, ?_, ?_, ⟨HX.1, fun h => ⟨rfl, (HX.2.1 h).2⟩, HX.2.2⟩⟩
      · intro k hk
        rcases List.mem_cons.1 hk with rfl | hk
        · exact ⟨HB.size, by simp⟩
        · exact ⟨(HG k hk).1, Nat.lt_of_lt_of_le (HG k hk).2 hb.size⟩
      · intro h
        obtain ⟨gc, e, hK⟩ := H1 h
        exact ⟨gc, e, hK.step hb.size (fun k hk => (List.mem_cons.1 hk).elim (fun e => .inr (Nat.le_of_eq e.symm)) .inl) (fun k hk _ => hb.block k hk) (fun k hk => List.mem_cons_of_mem _ hk)⟩
      · intro h
        obtain ⟨e, hK⟩ := H3 h
        exact ⟨e, hK.step hb.size (fun k hk => (List.mem_cons.1 hk).elim (fun e => .inr (Nat.le_of_eq e.symm)) .inl) (fun k hk _ => hb.block k hk) (fun k hk => List.mem_cons_of_mem _ hk)⟩
      · intro h
        exact ⟨w.heap.size, .pointer none, rfl, List.mem_cons_self, blk_new w _, fun h8 => absurd (hff.symm.trans (HX.2.1 h8).1) (by decide)⟩
      · intro h
        obtain ⟨g9, xs, e, m, c, z, e9⟩ := H7 h
        exact ⟨g9, xs, e, List.mem_cons_of_mem _ m, (hb.block _ (HG _ m).2).trans c, z, e9⟩
    | 7, _ =>
      have hb := below_alloc (Below.refl w.heap.size w) (Obj.cells (nums .u8 (List.replicate 16 0)).toArray 52)
      refine wpOp_wpK rfl rfl (fun K hK => ?_)
      go_simp
      refine hK _ _ ?_
      refine ⟨v8, _, v31, v32, v33, v34, v35, v36, w.heap.size :: G, gb, cb, rfl, below_alloc HB _, ?_, H0, H2, ?_, ?_, H4, H5, ?_, ?_, ⟨HX.1, HX.2.1, fun _ => rfl⟩⟩
      · intro k hk
        rcases List.mem_cons.1 hk with rfl | hk
        · exact ⟨HB.size, by simp⟩
        · exact ⟨(HG k hk).1, Nat.lt_of_lt_of_le (HG k hk).2 hb.size⟩
      · intro h
        obtain ⟨gc, e, hK⟩ := H1 h
        exact ⟨gc, e, hK.step hb.size (fun k hk => (List.mem_cons.1 hk).elim (fun e => .inr (Nat.le_of_eq e.symm)) .inl) (fun k hk _ => hb.block k hk) (fun k hk => List.mem_cons_of_mem _ hk)⟩
      · intro h
        obtain ⟨e, hK⟩ := H3 h
        exact ⟨e, hK.step hb.size (fun k hk => (List.mem_cons.1 hk).elim (fun e => .inr (Nat.le_of_eq e.symm)) .inl) (fun k hk _ => hb.block k hk) (fun k hk => List.mem_cons_of_mem _ hk)⟩
      · intro h
        obtain ⟨g8, x, e, m, c, e8⟩ := H6 h
        exact ⟨g8, x, e, List.mem_cons_of_mem _ m, (hb.block _ (HG _ m).2).trans c, e8⟩
      · intro h
        exact ⟨w.heap.size, (nums .u8 (List.replicate 16 0)).toArray, rfl, List.mem_cons_self, blk_new w _, rfl, fun h9 => absurd (hff.symm.trans (HX.2.2 h9)) (by decide)⟩
    | 8, _ =>
      obtain ⟨g8, x, rfl, m8, c8, e8⟩ := H6 (hW 6 (by kernel_rfl))
      obtain ⟨gc, rfl, hC⟩ := H1 (hW 1 (by kernel_rfl))
      refine wpOp_wpK rfl rfl (fun K hK => ?_)
      refine wp_store_one 50 _ _ rfl g8 (.pointer (some ⟨gc, 0, none⟩)) rfl rfl 50 x c8 (by kernel_rfl) rfl ?_
      refine hK _ _ ?_
      have hkp : ∀ k, k ∉ G → (w.setRow g8 #[.pointer (some ⟨gc, 0, none⟩)]).heap[k]? = w.heap[k]? := fun k hk => setRow_other _ _ _ _ (fun e => hk (e ▸ m8))
      have hsz : (w.setRow g8 #[.pointer (some ⟨gc, 0, none⟩)]).heap.size = w.heap.size := setRow_size _ _ _
      refine ⟨_, v9, v31, _, v33, v34, v35, v36, G, gb, cb, rfl, below_row HB (HG g8 m8).1 _, (fun k hk => ⟨(HG k hk).1, by rw [hsz]; exact (HG k hk).2⟩), H0, H2, ?_, ?_, H4, H5, ?_, ?_, ⟨HX.1, fun _ => ⟨hW 6 (by kernel_rfl), hW 1 (by kernel_rfl)⟩, HX.2.2⟩⟩
      · intro h
        exact ⟨gc, rfl, hC.step (Nat.le_of_eq hsz.symm) (fun k hk => .inl hk) (fun k _ hk => hkp k hk) (fun k hk => hk)⟩
      · intro h
        obtain ⟨e, hK⟩ := H3 h
        exact ⟨e, hK.step (Nat.le_of_eq hsz.symm) (fun k hk => .inl hk) (fun k _ hk => hkp k hk) (fun k hk => hk)⟩
      · intro h
        exact ⟨g8, _, rfl, m8, setRow_heap _ _ _ _ _ _ c8, fun _ => rfl⟩
      · intro h
        obtain ⟨g9, xs, e, m, c, z, e9⟩ := H7 h
        have hne : g9 ≠ g8 := fun e => by
          rw [e, c8] at c
          injection c with c
          injection c with _ c
          cases c
        exact ⟨g9, xs, e, m, (setRow_other _ _ _ _ hne).trans c, z, e9⟩
    | 9, _ =>
      obtain ⟨g9, xs, rfl, m9, c9, z9, e9⟩ := H7 (hW 7 (by kernel_rfl))
      obtain rfl := H5 (hW 5 (by kernel_rfl))
      have hfl : (nums IntKind.u8 f).toArray.size = 16 := by rw [hf]; simp [nums, bytesL_length, hs1]
      refine wpOp_wpK rfl rfl (fun K hK => ?_)
      refine wp_store_row 52 _ _ rfl g9 (nums .u8 f).toArray rfl rfl 52 _ c9 (by rw [hfl]; kernel_rfl) (by rw [hfl, z9]) (nums_one _ _) ?_
      refine hK _ _ ?_
      have hkp : ∀ k, k ∉ G → (w.setRow g9 (nums .u8 f).toArray).heap[k]? = w.heap[k]? := fun k hk => setRow_other _ _ _ _ (fun e => hk (e ▸ m9))
      have hsz : (w.setRow g9 (nums .u8 f).toArray).heap.size = w.heap.size := setRow_size _ _ _
      refine ⟨v8, _, v31, v32, v33, v34, v35, _, G, gb, cb, rfl, below_row HB (HG g9 m9).1 _, (fun k hk => ⟨(HG k hk).1, by rw [hsz]; exact (HG k hk).2⟩), H0, H2, ?_, ?_, H4, (fun _ => rfl), ?_, ?_, ⟨HX.1, HX.2.1, fun _ => hW 7 (by kernel_rfl)⟩⟩
      · intro h
        obtain ⟨gc, e, hK⟩ := H1 h
        exact ⟨gc, e, hK.step (Nat.le_of_eq hsz.symm) (fun k hk => .inl hk) (fun k _ hk => hkp k hk) (fun k hk => hk)⟩
      · intro h
        obtain ⟨e, hK⟩ := H3 h
        exact ⟨e, hK.step (Nat.le_of_eq hsz.symm) (fun k hk => .inl hk) (fun k _ hk => hkp k hk) (fun k hk => hk)⟩
      · intro h
        obtain ⟨g8, x, e, m, c, e8⟩ := H6 h
        have hne : g8 ≠ g9 := fun e => by
          rw [e, c9] at c
          injection c with c
          injection c with _ c
          cases c
        exact ⟨g8, x, e, m, (setRow_other _ _ _ _ hne).trans c, e8⟩
      · intro h
        exact ⟨g9, _, rfl, m9, setRow_heap _ _ _ _ _ _ c9, hfl, fun _ => rfl⟩
    | i + 10, h10 => omega
theorem wpAnyN_two {P : Program} {ops : Array Oper} {Q : Exit → Act → World → Prop} {md : Region.Mode} {S : World → Prop} {N i j : Nat} {oi oj : Oper} {fuel : Nat} {listed : Array Bool} {a : Act} {w : World} (hr : Region.ready md ops listed = [i, j]) (hi : ops[i]? = some oi) (hgi : oi.guard = none) (hj : ops[j]? = some oj) (hgj : oj.guard = none)
    (h1 : ∀ K : Act → World → Prop, (∀ a' w', (i ≠ N → S w') → wpAnyN P md ops Q S N fuel (listed.setIfInBounds i true) a' w' → K a' w') → oi.wp P a w K Q)
    (h2 : ∀ K : Act → World → Prop, (∀ a' w', (j ≠ N → S w') → wpAnyN P md ops Q S N fuel (listed.setIfInBounds j true) a' w' → K a' w') → oj.wp P a w K Q) : wpAnyN P md ops Q S N (fuel + 1) listed a w := by
  refine ⟨fun h0 => (by rw [hr] at h0; cases h0), fun q hq => ?_⟩
  rw [hr] at hq
  rcases List.mem_cons.1 hq with rfl | hq
  · exact wpOp_wpK hi hgi fun K hK => h1 K fun a' w' k1 k2 => hK _ _ ⟨k1, k2⟩
  · obtain rfl : q = j := by simpa using hq
    exact wpOp_wpK hj hgj fun K hK => h2 K fun a' w' k1 k2 => hK _ _ ⟨k1, k2⟩
def uncFold (keys : List (List Int)) (f p : List Int) (js : List Nat) : List Int × List Int := js.foldl (fun S j => (S.1 ++ Aes.xorS S.2 (Aes.decL keys (Md.blk p j)), Md.blk p j)) ([], f)
theorem uncFold_snoc (keys : List (List Int)) (f p : List Int) (js : List Nat) (j : Nat) : uncFold keys f p (js ++ [j]) = ((uncFold keys f p js).1 ++ Aes.xorS (uncFold keys f p js).2 (Aes.decL keys (Md.blk p j)), Md.blk p j) := by simp [uncFold]
theorem uncFold_range (keys : List (List Int)) (f p : List Int) (m : Nat) : uncFold keys f p (List.range m) = Md.uncTo keys f p m := by
  induction m with
  | zero => rfl
  | succ m ih => rw [List.range_succ, uncFold_snoc, ih]; rfl
theorem uncFold_ok (keys : List (List Int)) {f p : List Int} {m : Nat} (hm : p.length = 16 * m) (hf : f.length = 16) (of : Aes.ok f) (op : Aes.ok p) (js : List (Fin m)) : (uncFold keys f p (js.map (·.1))).2.length = 16 ∧ Aes.ok (uncFold keys f p (js.map (·.1))).2 ∧ (uncFold keys f p (js.map (·.1))).1.length = 16 * js.length := by
  have h : ∀ (js : List (Fin m)) (S : List Int × List Int), S.2.length = 16 → Aes.ok S.2 → ((js.map (·.1)).foldl (fun S j => (S.1 ++ Aes.xorS S.2 (Aes.decL keys (Md.blk p j)), Md.blk p j)) S).2.length = 16 ∧ Aes.ok ((js.map (·.1)).foldl (fun S j => (S.1 ++ Aes.xorS S.2 (Aes.decL keys (Md.blk p j)), Md.blk p j)) S).2 ∧ ((js.map (·.1)).foldl (fun S j => (S.1 ++ Aes.xorS S.2 (Aes.decL keys (Md.blk p j)), Md.blk p j)) S).1.length = S.1.length + 16 * js.length := by
    intro js
    induction js with
    | nil => exact fun S h1 h2 => ⟨h1, h2, rfl⟩
    | cons j js ih =>
      intro S h1 h2
      have q := ih (S.1 ++ Aes.xorS S.2 (Aes.decL keys (Md.blk p j.1)), Md.blk p j.1) (Md.blk_length _ _ (by have := j.2; omega)) (Md.blk_ok op _)
      refine ⟨q.1, q.2.1, q.2.2.trans ?_⟩
      simp only [List.length_append, Aes.xorS_length, List.length_cons]
      omega
  have q := h js ([], f) hf of
  exact ⟨q.1, q.2.1, q.2.2.trans (by simp)⟩
def cdJ (keys : List (List Int)) (f p : List Int) (gc g8 g9 g10 : Nat) (wB w7 : World) (B0 m : Nat) (pre : List (Fin m)) (W : World) : Prop :=
  Aside0 (W.heap[g8]? = some (.cells #[.pointer (some ⟨gc, 0, none⟩)] 50 (0, 0))) ∧ Aside0 (W.heap[g9]? = some (.cells (nums .u8 (uncFold keys f p (pre.map (·.1))).2).toArray 52 (0, 0))) ∧
  Aside0 (∃ vo, W.heap[g10]? = some (.cells #[vo] 28 (0, 0)) ∧ Kd.R (Kd.int .u8) 5 W B0 (fun _ => True) vo (uncFold keys f p (pre.map (·.1))).1) ∧
  Aside0 (SameBut w7 [g8, g9, g10] W ∧ w7.heap.size ≤ W.heap.size) ∧ Aside0 (Below wB.heap.size wB W) ∧ Aside0 (B0 ≤ W.heap.size)
theorem cdJ_own (keys : List (List Int)) (f p : List Int) (gc g8 g9 g10 : Nat) (wB w7 : World) (B0 m B : Nat) (hB : wB.heap.size ≤ B) (h7 : w7.heap.size ≤ B) : OwnFrom B (cdJ keys f p gc g8 g9 g10 wB w7 B0 m) :=
  OwnFrom.and (ownFrom_blk B g8 _ (fun _ => #[.pointer (some ⟨gc, 0, none⟩)])) (OwnFrom.and (ownFrom_blk B g9 _ _) (OwnFrom.and (slotR_own _) (OwnFrom.and (sameBut_own h7) (OwnFrom.and (ownFrom_belowA (Nat.le_refl _) hB) (fun _ _ _ _ hs hg _ => ⟨Nat.le_trans hs.out hg.size⟩)))))
theorem wpList_load_any {P : Program} {ops : Array Oper} {rest : List Oper} {op : Oper} {a : Act} {w : World} {Q : Exit → Act → World → Prop} (hgd : op.guard = none) (ty : TypeId) (x : Operand) (ho : op.op = .load ty x)
    (ad : Addr) (hx : a.eval x = .pointer (some ad)) (cs : List Value) (d : TypeDesc) (hc : ∀ j v, cs[j]? = some v → w.cell? (ad.add j) = some v)
    (hu : P.underlying ty = some d) (hd : d.isRow = true) (hi : (P.info? ty).map (·.size) = some cs.length)
    (h : wpList P ops Q rest (a.put op.dst (.agg cs.toArray)) w) : wpList P ops Q (op :: rest) a w :=
  wpList_plain hgd fun K hK => by
    unfold Oper.wp execOp
    simp only [ho, hx, Instr.loadAt, Instr.sureAddr, Sem.run_bind, Sem.run_pure, Result.andThen_ok, run_loadVar_any w ad ty cs d hc hu hd hi]
    exact hK _ _ h
theorem R_one {T : TypeId} {W : World} {B : Nat} {v : Value} {l : List Int} (h : Kd.R (Kd.int .u8) T W B (fun _ => True) v l) : v.oneCell' = true := by
  obtain ⟨A, c, rfl, _⟩ := Kd.R_reads h
  rfl
theorem dec_u (keys : List (List Int)) (B g : Nat) (b : List Int) (w : World) (hC : cipherAt w B g keys) (hk : 0 < keys.length ∧ keys.length ≤ 100) (hb : b.length = 16) (ob : Aes.ok b) :
    Calls Try.prog 52 #[.pointer (some ⟨g, 0, none⟩), .agg (nums .u8 b).toArray] w fun e w' => e = .returned (.agg (nums .u8 (Aes.decL keys b)).toArray) ∧ Below w.heap.size w w' := impl_decrypt_in keys B g b w hC hk hb ob
set_option maxHeartbeats 8000000 in
set_option maxRecDepth 100000 in
theorem impl_CbcDecrypt_in (a0 a1 : ByteArray) (n : Nat) (A2 : Option Addr) (c2 : Nat) (l2 : List Int) (w0 : World) (r1 : List Int) (r2 : Int) (hr2 : Kd.C (Kd.int .u8) w0 A2 l2.length l2) (hc2 : l2.length ≤ c2) (hu2 : u8ok l2) (hl2 : l2.length ≤ 65536) (hn : n = 4 ∨ n = 8) (hs0 : a0.size = 4 * n) (hs1 : a1.size = 16)
    (m : Nat) (hm : l2.length = 16 * m)
    (hres : (match unpadL (Md.uncL (Aes.keysL (bytesL a0)) (bytesL a1) l2) with | some r => some (r, (0 : Int)) | none => some ([], 3)) = some (r1, r2)) :
    Calls Try.prog 36 #[.string a0, .string a1, .slice A2 l2.length c2] w0 fun e w' => ∃ v0_ : Value, e = .returned (.tuple #[v0_, .int .i64 r2]) ∧ Kd.R (Kd.int .u8) 5 w' w0.heap.size (fun _ => True) v0_ r1 ∧ Below w0.heap.size w0 w' := by
  obtain ⟨keys, hkeys⟩ : ∃ K, K = Aes.keysL (bytesL a0) := ⟨_, rfl⟩
  obtain ⟨f, hf⟩ : ∃ f, f = bytesL a1 := ⟨_, rfl⟩
  have HKL : Aside0 (keys.length = n + 7) := ⟨by rw [hkeys, Aes.keysL_length, bytesL_length, hs0]; omega⟩
  have HKN : Aside0 (0 < keys.length ∧ keys.length ≤ 100) := ⟨by rw [HKL.out]; omega⟩
  have HN := Aside0.mk hn
  have HSN := Aside0.mk hs0
  have HS1 := Aside0.mk hs1
  have HKE := Aside0.mk hkeys
  have HR2 := Aside0.mk hr2
  have HC2 := Aside0.mk hc2
  have HU2 := Aside0.mk hu2
  have HL2 := Aside0.mk hl2
  have HM := Aside0.mk hm
  rw [← hkeys, ← hf] at hres
  have HRES := Aside0.mk hres
  have HFL : Aside0 (f.length = 16 ∧ Aes.ok f) := ⟨by rw [hf]; exact ⟨by rw [bytesL_length, hs1], u8ok_bytesL a1⟩⟩
  have HFE := Aside0.mk hf
  have HF := Aside0.mk (long2_g a0 a1 false (decide_eq_false (by omega)).symm)
  have HF2 := Aside0.mk (longB_g l2 false (decide_eq_false (by omega)).symm)
  have HK := Aside0.mk (isKey_g a0 true (decide_eq_true (by omega)).symm)
  have d3 : ((a1.size : Int) != 16) = false := by rw [hs1]; rfl
  have d4 : (a1.size : Int) = 16 := by omega
  have d5 : (l2.length : Int) % 16 = 0 := by omega
  have d6 : Int.tmod (l2.length : Int) 16 = 0 := (Int.tmod_eq_emod_of_nonneg (Int.natCast_nonneg _)).trans d5
  clear hkeys hn hs0 hs1 hr2 hc2 hu2 hl2 hf hres hm
  refine (callsIn_wide (n := 3)).1 ?_
  refine callsIn_of_wp_marks Try.func36 rfl trivial ?_ rfl
  refine wpIn_wide.2 ?_
  simp only [Try.ntmps36, List.size_toArray, List.length_cons, List.length_nil, Nat.reduceAdd, Nat.reduceSub, Array.replicate_succ, Array.replicate_zero, List.push_toArray, List.append_toArray, List.nil_append, List.cons_append]
  go_wp2_with fail
  refine (impl_isLong_string.calls _ _ [a0, a1] false _ (C_two_string (g := w0.heap.size) (T := 9) (fr := (0, 0)) (blk_new w0 _)) (Nat.le_refl _) HF.out).mono ?_
  rintro e wa ⟨rfl, hd⟩
  have HBa := Aside0.mk (below_then (below_alloc (Below.refl _ _) _) (by simp) hd.below : Below w0.heap.size w0 wa)
  clear hd
  go_wp2_with fail
  have hC := C_one_slice (c := c2) (xs := l2) (blk_new wa (Obj.cells #[Value.slice A2 l2.length c2] 28)) rfl HC2.out (Kd.C_alloc (Kd.C_below HR2.out HBa.out) _)
  refine (impl_isLong_byte.calls _ 1 [l2] _ _ hC (Nat.le_refl _) HF2.out).mono ?_
  rintro e wb ⟨rfl, hd⟩
  have HBb := Aside0.mk (below_then (below_alloc HBa.out _) (by have := HBa.out.size; simp; omega) hd.below : Below w0.heap.size w0 wb)
  clear hd hC
  go_wp2_with fail
  refine (impl_isKey.calls a0 true _ HK.out).mono ?_
  rintro e wc ⟨rfl, hd⟩
  have HBc := Aside0.mk (HBb.out.trans (hd.below.mono HBb.out.size))
  clear hd HBb
  go_upto_region 7 with (fail)
  refine wp_region_any (by kernel_rfl) ?_
  refine cd_r5 a0 a1 A2 l2.length c2 w0.heap.size wa.heap.size n keys f HN.out HSN.out HS1.out HKE.out HKN.out.1 HFE.out _ _ (fun gc g8 g9 u34 gb G w5 m8 m9 HG HKP HB5 c8 c9 => ?_)
  unfold cdAct
  go_wp2_with fail
  have HB6 := Aside0.mk (below_alloc (show Below wc.drew.heap.size wc.drew w5 from HB5) (Obj.cells #[Value.slice none 0 0] 28))
  obtain ⟨g10, hg10⟩ : ∃ g, g = w5.heap.size := ⟨_, rfl⟩
  have C10 : Aside0 ((w5.alloc (Obj.cells #[Value.slice none 0 0] 28)).heap[g10]? = some (.cells #[.slice none 0 0] 28 (0, 0))) := ⟨by rw [hg10]; exact blk_new w5 _⟩
  have C8 : Aside0 ((w5.alloc (Obj.cells #[Value.slice none 0 0] 28)).heap[g8]? = some (.cells #[.pointer (some ⟨gc, 0, none⟩)] 50 (0, 0))) := ⟨blk_alloc c8 _⟩
  have C9 : Aside0 ((w5.alloc (Obj.cells #[Value.slice none 0 0] 28)).heap[g9]? = some (.cells (nums .u8 f).toArray 52 (0, 0))) := ⟨blk_alloc c9 _⟩
  have HK6 : Aside0 (Kp (w5.alloc (Obj.cells #[Value.slice none 0 0] 28)) (g10 :: G) (fun W => cipherAt W w0.heap.size gc keys)) := ⟨by
    have h1 := below_alloc (Below.refl w5.heap.size w5) (Obj.cells #[Value.slice none 0 0] 28)
    have h2 := HKP.step (G' := g10 :: G) h1.size (fun k hk => (List.mem_cons.1 hk).elim (fun e => .inr (Nat.le_of_eq (by rw [e, hg10]))) .inl) (fun k hk _ => h1.block k hk) (fun k hk => List.mem_cons_of_mem _ hk)
    exact fun W hW => ce_far (h2 W hW) HBc.out.size (fun _ _ _ => rfl)⟩
  have HG6 : Aside0 (wc.heap.size ≤ g8 ∧ wc.heap.size ≤ g9 ∧ wc.heap.size ≤ g10 ∧ g10 = w5.heap.size ∧ g8 < g10 ∧ g9 < g10) := ⟨by
    have q1 := HG g8 m8
    have q2 := HG g9 m9
    have q3 : wc.heap.size ≤ w5.heap.size := HB5.size
    have q4 : wc.drew.heap.size = wc.heap.size := rfl
    refine ⟨q1.1, q2.1, by omega, hg10, by omega, by omega⟩⟩
  rw [← hg10]
  generalize w5.alloc (Obj.cells #[Value.slice none 0 0] 28) = w6 at HB6 C8 C9 C10 HK6 ⊢
  have HSZ6 : Aside0 (g10 < w6.heap.size) := ⟨blk_lt C10.out⟩
  have HMM : Aside0 (g8 ∈ G ∧ g9 ∈ G ∧ g8 ≠ g9) := ⟨m8, m9, fun e => by rw [e, c9] at c8; injection c8 with c8; injection c8 with _ c8; cases c8⟩
  clear c8 c9 HKP HB5 m8 m9 HG hg10
  have HBw : Aside0 (Below w0.heap.size w0 w6) := ⟨(below_drew1 HBc.out).trans (HB6.out.mono HBc.out.size)⟩
  have HP7 : Aside0 (Kd.C (Kd.int .u8) w6 A2 l2.length l2) := ⟨Kd.C_below HR2.out HBw.out⟩
  refine (chunk_calls A2 l2.length c2 16 (by decide) _).mono ?_
  rintro e w8 ⟨rfl, rfl⟩
  go_wp2_with fail
  have HMB : Aside0 (m ≤ 5000) := ⟨by have := HM.out; have := HL2.out; omega⟩
  obtain ⟨ad, had⟩ : ∃ ad : Addr, 0 < m → A2 = some ad := by
    rcases Nat.eq_zero_or_pos m with h | h
    · exact ⟨⟨0, 0, none⟩, fun h2 => absurd h2 (by omega)⟩
    · obtain ⟨ad, e, _⟩ := HR2.out.2.2 (by have := HM.out; omega)
      exact ⟨ad, fun _ => e⟩
  have HSEQ : SeqStopsK Fence.wide 2 Try.prog 89 #[.pointer (some ⟨w6.heap.size, 0, none⟩), .pointer (some ⟨w6.heap.size + 1, 0, none⟩)] (fun x : Fin m => #[Value.slice (some (ad.add (16 * x.1))) 16 16]) (KpB w6.heap.size (w6.heap.size + 1)) (fun ys => ys.map (·.1) = List.range m) (fun pre => ∃ k, k ≤ m ∧ pre.map (·.1) = List.range k) m
      ((w6.alloc (.cells #[.slice A2 l2.length c2] 28)).alloc (.cells #[.int .i64 16] 3)) := by
    have zz : ((w6.alloc (.cells #[.slice A2 l2.length c2] 28)).alloc (.cells #[.int .i64 16] 3)).heap.size = w6.heap.size + 2 := by simp
    have h1 := HM.out
    have hc := HC2.out
    rcases Nat.eq_zero_or_pos m with h | h
    · subst h
      have h0 : l2.length = 0 := by omega
      rw [h0] at zz ⊢
      exact chunk_stops_nil Fence.wide 2 trivial rfl _ _ A2 16 c2 _ _ (by rw [zz]; omega) (box_one _ _ _ _ _ rfl)
    · have e := had h
      subst e
      rw [h1] at hc zz ⊢
      exact chunk_stops Fence.wide 2 trivial rfl (by decide) _ _ ad 16 m c2 (by decide) hc (by have := HMB.out; omega) _ (by rw [zz]; omega) (by rw [zz]; omega) (box_one _ _ _ _ _ rfl) (box_two _ _ _ _ _ rfl)
  have HKO : Aside0 (Aes.keysOk keys) := ⟨cipherAt_ok HK6.out.here⟩
  refine wp_cuts (α := Fin m) (p := 47) (d := 11) rfl rfl rfl (by simp) (gf := 89) (lb := #[.pointer (some ⟨w6.heap.size, 0, none⟩), .pointer (some ⟨w6.heap.size + 1, 0, none⟩)]) rfl (enters_of Try.func89 (by kernel_rfl) rfl) HSEQ
    (fun h k => KpB.trans h k) (KpB.put (by simp <;> omega) (by simp <;> omega)) (cdJ keys f l2 gc g8 g9 g10 wc.drew w6 (w6.heap.size + 2) m) (cdJ_own _ _ _ _ _ _ _ _ _ _ _ _ ?hle ?hle2) ?h0 ?body ?done
  case hle => have := HB6.out.size; simp at this ⊢; omega
  case hle2 => simp; omega
  case h0 =>
    refine ⟨⟨blk_alloc (blk_alloc C8.out _) _⟩, ⟨blk_alloc (blk_alloc C9.out _) _⟩, ⟨_, blk_alloc (blk_alloc C10.out _) _, Kd.R_nil _ _ _ _ _⟩, ⟨fun k hk _ => ?_, by simp; omega⟩, ⟨below_alloc (below_alloc HB6.out _) _⟩, ⟨by simp⟩⟩
    have h1 := below_alloc (below_alloc (Below.refl w6.heap.size w6) (Obj.cells #[Value.slice A2 l2.length c2] 28)) (Obj.cells #[Value.int .i64 16] 3)
    exact h1.block k hk
  case body =>
    rintro l pre x W ⟨I1, I2, I3, I4, I5, I6⟩ hlen
    simp only [List.setIfInBounds_toArray, List.set_cons_succ, List.set_cons_zero]
    refine wpIn_block ?_
    refine wpIn_seq ?_
    refine region_round_any (by kernel_rfl) (by rintro ⟨_, _, h⟩; exact h) (by kernel_rfl) ?_
    change wpAny _ _ _ _ _ _ _ W.drew
    have HX : Aside0 (16 * x.1 + 16 ≤ l2.length) := ⟨by have := x.2; have := HM.out; omega⟩
    have HAE : Aside0 (A2 = some ad) := ⟨had (Nat.lt_of_le_of_lt (Nat.zero_le _) x.2)⟩
    obtain ⟨WD, hWD⟩ : ∃ WD, WD = W.drew := ⟨_, rfl⟩
    obtain ⟨vo, J3a, JRa⟩ := I3.out
    have J1 : Aside0 (WD.heap[g8]? = some (.cells #[.pointer (some ⟨gc, 0, none⟩)] 50 (0, 0))) := ⟨by rw [hWD]; exact I1.out⟩
    have J2 : Aside0 (WD.heap[g9]? = some (.cells (nums .u8 (uncFold keys f l2 (pre.map (·.1))).2).toArray 52 (0, 0))) := ⟨by rw [hWD]; exact I2.out⟩
    have J3 : Aside0 (WD.heap[g10]? = some (.cells #[vo] 28 (0, 0))) := ⟨by rw [hWD]; exact J3a⟩
    have JR : Aside0 (Kd.R (Kd.int .u8) 5 WD (w6.heap.size + 2) (fun _ => True) vo (uncFold keys f l2 (pre.map (·.1))).1) := ⟨by rw [hWD]; exact Kd.R_below JRa (below_drew (Below.refl _ _))⟩
    have J4 : Aside0 (SameBut w6 [g8, g9, g10] WD ∧ w6.heap.size ≤ WD.heap.size) := ⟨by rw [hWD]; exact I4.out⟩
    have J5 : Aside0 (Below wc.drew.heap.size wc.drew WD) := ⟨by rw [hWD]; exact I5.out.drew⟩
    have J6 : Aside0 (w6.heap.size + 2 ≤ WD.heap.size) := ⟨by rw [hWD]; exact I6.out⟩
    have KW : Aside0 (∀ B V, KeepsFrom B WD V → KeepsFrom B W V) := ⟨fun B V h => by rw [hWD] at h; exact (keepsFrom_drew _ _).trans h⟩
    have KC : Aside0 (∀ a, WD.cell? a = W.cell? a) := ⟨fun a => by rw [hWD]; rfl⟩
    rw [← hWD]
    clear hWD I1 I2 I3 I4 I5 I6 J3a JRa
    obtain ⟨Sx, hSx⟩ : ∃ S, S = uncFold keys f l2 (pre.map (·.1)) := ⟨_, rfl⟩
    rw [← hSx] at J2 JR
    have HSX := Aside0.mk hSx
    have HSL : Aside0 (Sx.2.length = 16 ∧ Aes.ok Sx.2 ∧ Sx.1.length ≤ 16 * m) := ⟨by rw [hSx]; have q := uncFold_ok keys HM.out HFL.out.1 HFL.out.2 HU2.out pre; exact ⟨q.1, q.2.1, by rw [q.2.2]; omega⟩⟩
    have HSZ : Aside0 ((nums IntKind.u8 Sx.2).toArray.size = 16) := ⟨by simp [nums, HSL.out.1]⟩
    have HBK : Aside0 ((Md.blk l2 x.1).length = 16 ∧ Aes.ok (Md.blk l2 x.1)) := ⟨Md.blk_length _ _ HX.out, Md.blk_ok HU2.out _⟩
    have HBZ : Aside0 ((nums IntKind.u8 (Md.blk l2 x.1)).length = 16) := ⟨by simp [nums, HBK.out.1]⟩
    have HCW : Aside0 (∀ V, Below WD.heap.size WD V → cipherAt V w0.heap.size gc keys) := ⟨fun V hV => HK6.out V fun k h1 h2 => by
      have h3 := HMM.out
      have h4 := J4.out
      refine (hV.block k (Nat.lt_of_lt_of_le h1 h4.2)).trans (h4.1 k h1 fun hm => h2 ?_)
      rcases List.mem_cons.1 hm with e | hm
      · rw [e]; exact List.mem_cons_of_mem _ h3.1
      rcases List.mem_cons.1 hm with e | hm
      · rw [e]; exact List.mem_cons_of_mem _ h3.2.1
      rcases List.mem_cons.1 hm with e | hm
      · rw [e]; exact List.mem_cons_self
      cases hm⟩
    have HR1G : Aside0 (∀ V : World, (∀ k, k < w0.heap.size → V.heap[k]? = w0.heap[k]?) → ∀ j v, (nums .u8 (Md.blk l2 x.1))[j]? = some v → V.cell? ((ad.add (16 * x.1)).add j) = some v) := ⟨fun V hV => by
      have hC0 : Kd.C (Kd.int .u8) w0 (some ad) l2.length l2 := by rw [← HAE.out]; exact HR2.out
      have hC : Kd.C (Kd.int .u8) V (some ad) l2.length l2 := C_cells (by have := HL2.out; omega) fun j hj => by
        have hc := C_u8_cell hC0 rfl j hj
        have hlt : (ad.add j).block < w0.heap.size := cell_lt (by rw [hc]; rfl)
        rw [← hc]
        exact World.cell?_of_block (hV _ hlt)
      exact C_nums hC rfl x.1 HX.out⟩
    have HWB : Aside0 (∀ k, k < w0.heap.size → WD.heap[k]? = w0.heap[k]?) := ⟨fun k hk => by
      have h2 : k < wc.drew.heap.size := Nat.lt_of_lt_of_le hk HBc.out.size
      exact (J5.out.block k h2).trans (HBc.out.block k hk)⟩
    have HWZ : Aside0 (w0.heap.size ≤ WD.heap.size) := ⟨by
      have h1 : wc.drew.heap.size = wc.heap.size := rfl
      have h2 := HBc.out.size
      have h3 := J5.out.size
      omega⟩
    have HR1D : Aside0 (∀ V, Below WD.heap.size WD V → ∀ j v, (nums .u8 (Md.blk l2 x.1))[j]? = some v → V.cell? ((ad.add (16 * x.1)).add j) = some v) := ⟨fun V hV => HR1G.out V fun k hk => (hV.block k (Nat.lt_of_lt_of_le hk HWZ.out)).trans (HWB.out k hk)⟩
    clear hSx
    have hYc : ∀ V, Below WD.heap.size WD V → V.cell? ⟨g8, 0, none⟩ = some (.pointer (some ⟨gc, 0, none⟩)) := fun V hV => blk_cell ((hV.block _ (blk_lt J1.out)).trans J1.out) 0
    refine wpAny_of_N (S := fun V => Below WD.heap.size WD V) (N := 8) _ _ _ _ ?_
    refine wpAnyN_take (i := 0) rfl (by kernel_rfl) (by kernel_rfl) (by kernel_rfl) (by kernel_rfl) (fun _ _ _ h => h) (yields_load_row rfl 52 (.tmp 9) rfl g9 rfl 52 _ (0, 0) _ (fun V hV => (hV.block _ (blk_lt J2.out)).trans J2.out) Try.underlying52 rfl (by rw [HSZ.out]; kernel_rfl)) (Below.refl _ _) ?_
    refine wpAnyN_take (i := 1) (v := .pointer (some ⟨gc, 0, none⟩)) rfl (by kernel_rfl) (by kernel_rfl) (by kernel_rfl) (by kernel_rfl) (fun _ _ _ h => h) (Or.inl ⟨by rfl, fun V hV => ?_⟩) (Below.refl _ _) ?_
    · have c := hYc V hV
      clear hYc
      go_simp
    clear hYc
    refine wpAnyN_take (i := 2) rfl (by kernel_rfl) (by kernel_rfl) (by kernel_rfl) (by kernel_rfl) (fun _ _ _ h => h) (yields_move rfl (.tmp 11) rfl) (Below.refl _ _) ?_
    refine wpAnyN_take (i := 3) rfl (by kernel_rfl) (by kernel_rfl) (by kernel_rfl) (by kernel_rfl) (fun _ _ _ h => h) (yields_arrayAt rfl 52 (.tmp 50) rfl (some (ad.add (16 * x.1))) 16 16 16 rfl Try.underlying52 (Nat.le_refl _)) (Below.refl _ _) ?_
    refine wpAnyN_take (i := 4) rfl (by kernel_rfl) (by kernel_rfl) (by kernel_rfl) (by kernel_rfl) (fun _ _ _ h => h) (yields_load_any rfl 52 (.tmp 51) rfl (ad.add (16 * x.1)) rfl (nums .u8 (Md.blk l2 x.1)) _ (fun V hV => HR1D.out V hV) Try.underlying52 rfl (key_size _ HBZ.out)) (Below.refl _ _) ?_
    obtain ⟨DX, hDX⟩ : ∃ D, D = Aes.decL keys (Md.blk l2 x.1) := ⟨_, rfl⟩
    obtain ⟨OX, hOX⟩ : ∃ O, O = Aes.xorS Sx.2 DX := ⟨_, rfl⟩
    have HDX := Aside0.mk hDX
    have HOX := Aside0.mk hOX
    have HDL : Aside0 (DX.length = 16) := ⟨by rw [hDX]; exact Aes.decL_length _ _⟩
    clear hDX hOX
    obtain ⟨zz, hzz⟩ : ∃ z : Array Value, z = #[Value.int .u8 0, Value.int .u8 0, Value.int .u8 0, Value.int .u8 0, Value.int .u8 0, Value.int .u8 0, Value.int .u8 0, Value.int .u8 0, Value.int .u8 0, Value.int .u8 0, Value.int .u8 0, Value.int .u8 0, Value.int .u8 0, Value.int .u8 0, Value.int .u8 0, Value.int .u8 0] := ⟨_, rfl⟩
    have HZZ : Aside0 (zz.size = 16) := ⟨by rw [hzz]; rfl⟩
    refine wpAnyN_two (i := 5) (j := 7) (by kernel_rfl) rfl rfl rfl rfl (fun K hK => ?c5) (fun K hK => ?c7)
    case' c5 =>
      go_simp
      with_reducible refine (dec_u keys _ gc (Md.blk l2 x.1) _ (HCW.out WD (Below.refl _ _)) HKN.out HBK.out.1 HBK.out.2).mono ?_
      rw [← HDX.out]
      rintro e w8 ⟨rfl, hb8⟩
      refine hK _ _ (fun _ => hb8) ?_
      clear hK K
      refine wpAnyN_two (i := 6) (j := 7) (by kernel_rfl) rfl rfl rfl rfl (fun K hK => ?c56) (fun K hK => ?c57)
    case' c56 =>
      go_simp
      with_reducible refine (xor_u Sx.2 DX _ HSL.out.1 HDL.out).mono ?_
      rw [← HOX.out]
      rintro e w9 ⟨rfl, hb9⟩
      have hb89 := below_then hb8 hb8.size hb9
      refine hK _ _ (fun _ => hb89) ?_
      clear hK K
      refine wpAnyN_one (i := 7) (by kernel_rfl) rfl rfl (fun K hK => ?_)
      go_simp
      rw [← hzz]
      have HB9 := Aside0.mk (below_alloc hb89 (Obj.cells zz 52))
      refine hK _ _ (fun _ => HB9.out) ?_
      clear hK K
      have G12 : Aside0 (∃ z : Array Value, z.size = 16 ∧ (w9.alloc (Obj.cells zz 52)).heap[w9.heap.size]? = some (.cells z 52 (0, 0))) := ⟨_, HZZ.out, blk_new _ _⟩
      have HGE : WD.heap.size ≤ w9.heap.size := hb89.size
      clear hb8 hb9 hb89
      generalize w9.alloc (Obj.cells zz 52) = W9 at HB9 G12 ⊢
      generalize w9.heap.size = g12 at HGE G12 ⊢
    case' c57 =>
      go_simp
      rw [← hzz]
      have hA := below_alloc hb8 (Obj.cells zz 52)
      refine hK _ _ (fun _ => hA) ?_
      clear hK K
      have G12a : (w8.alloc (Obj.cells zz 52)).heap[w8.heap.size]? = some (.cells zz 52 (0, 0)) := blk_new _ _
      have HGE : WD.heap.size ≤ w8.heap.size := hb8.size
      generalize w8.alloc (Obj.cells zz 52) = wA at hA G12a ⊢
      generalize w8.heap.size = g12 at HGE G12a ⊢
      refine wpAnyN_one (i := 6) (by kernel_rfl) rfl rfl (fun K hK => ?_)
      go_simp
      with_reducible refine (xor_u Sx.2 DX _ HSL.out.1 HDL.out).mono ?_
      rw [← HOX.out]
      rintro e W9 ⟨rfl, hb9⟩
      have HB9 := Aside0.mk (below_then hA hA.size hb9)
      refine hK _ _ (fun _ => HB9.out) ?_
      clear hK K
      have G12 : Aside0 (∃ z : Array Value, z.size = 16 ∧ W9.heap[g12]? = some (.cells z 52 (0, 0))) := ⟨_, HZZ.out, (hb9.block _ (blk_lt G12a)).trans G12a⟩
      clear hA hb8 hb9 G12a
    case' c7 =>
      go_simp
      rw [← hzz]
      have hA := below_alloc (Below.refl WD.heap.size WD) (Obj.cells zz 52)
      refine hK _ _ (fun _ => hA) ?_
      clear hK K
      have G12a : (WD.alloc (Obj.cells zz 52)).heap[WD.heap.size]? = some (.cells zz 52 (0, 0)) := blk_new _ _
      obtain ⟨g12, hg12⟩ : ∃ g, g = WD.heap.size := ⟨_, rfl⟩
      have HGE : WD.heap.size ≤ g12 := Nat.le_of_eq hg12.symm
      generalize WD.alloc (Obj.cells zz 52) = wA at hA G12a ⊢
      rw [← hg12] at G12a ⊢
      have HG12 := Aside0.mk hg12
      clear hg12
      refine wpAnyN_one (i := 5) (by kernel_rfl) rfl rfl (fun K hK => ?_)
      go_simp
      with_reducible refine (dec_u keys _ gc (Md.blk l2 x.1) _ (HCW.out wA hA) HKN.out HBK.out.1 HBK.out.2).mono ?_
      rw [← HDX.out]
      rintro e w8 ⟨rfl, hb8⟩
      have hb78 := below_then hA hA.size hb8
      have G12b := (hb8.block _ (blk_lt G12a)).trans G12a
      refine hK _ _ (fun _ => by rw [HG12.out]; exact hb78) ?_
      clear hK K
      refine wpAnyN_one (i := 6) (by kernel_rfl) rfl rfl (fun K hK => ?_)
      go_simp
      with_reducible refine (xor_u Sx.2 DX _ HSL.out.1 HDL.out).mono ?_
      rw [← HOX.out]
      rintro e W9 ⟨rfl, hb9⟩
      have HB9 := Aside0.mk (below_then hb78 hb78.size hb9)
      refine hK _ _ (fun _ => by rw [HG12.out]; exact HB9.out) ?_
      clear hK K
      have G12 : Aside0 (∃ z : Array Value, z.size = 16 ∧ W9.heap[g12]? = some (.cells z 52 (0, 0))) := ⟨_, HZZ.out, (hb9.block _ (blk_lt G12b)).trans G12b⟩
      clear hA hb8 hb9 G12a hb78 G12b HG12
    all_goals
      obtain ⟨z12, hz12, G12⟩ := G12.out
      have G12 := Aside0.mk G12
      have HGE := Aside0.mk HGE
      have HZ12 := Aside0.mk hz12
      have HOZ : Aside0 ((nums IntKind.u8 OX).toArray.size = 16) := ⟨by rw [HOX.out]; simp [nums, Aes.xorS_length]⟩
      have HOL : Aside0 (OX.length = 16) := ⟨by rw [HOX.out]; exact Aes.xorS_length _ _⟩
      clear hz12
      refine wpAnyN_one (i := 8) (by kernel_rfl) rfl rfl (fun K hK => ?_)
      refine wp_store_row 52 (.tmp 12) (.tmp 54) (by rfl) g12 (nums .u8 OX).toArray (by rfl) (by rfl) 52 _ G12.out (by rw [HOZ.out]; kernel_rfl) (by rw [HOZ.out, HZ12.out]) (nums_one _ _) ?_
      refine hK _ _ (fun h => absurd rfl h) ?_
      clear hK K
      refine wpAnyN_done (by kernel_rfl) ?_ _
      have HGG : Aside0 (g9 ≠ g10 ∧ g8 ≠ g10 ∧ g8 ≠ g9 ∧ g8 < w6.heap.size ∧ g9 < w6.heap.size ∧ g10 < w6.heap.size ∧ w0.heap.size ≤ g8 ∧ w0.heap.size ≤ g9 ∧ w0.heap.size ≤ g10) := ⟨by
        have h1 := HG6.out; have h2 := HSZ6.out; have h4 := HMM.out; have h5 := HBc.out.size
        exact ⟨by omega, by omega, h4.2.2, by omega, by omega, by omega, by omega, by omega, by omega⟩⟩
      obtain ⟨WE, hWE⟩ : ∃ WE, WE = (W9.setRow g12 (nums .u8 OX).toArray).drew := ⟨_, rfl⟩
      have HBE : Aside0 (Below WD.heap.size WD WE) := ⟨by rw [hWE]; exact (below_row HB9.out HGE.out _).drew⟩
      have L12 : Aside0 (WE.heap[g12]? = some (.cells (nums .u8 OX).toArray 52 (0, 0))) := ⟨by rw [hWE]; exact setRow_heap _ _ _ _ _ _ G12.out⟩
      change Code.wpIn _ _ _ _ _ _ _
      refine wpIn_seq ?_
      refine region_round_any (by kernel_rfl) (by rintro ⟨_, _, h⟩; exact h) (by kernel_rfl) ?_
      change wpAny _ _ _ _ _ _ _ (W9.setRow g12 (nums .u8 OX).toArray).drew
      rw [← hWE]
      clear hWE G12 HB9
      have L3 : Aside0 (WE.heap[g10]? = some (.cells #[vo] 28 (0, 0))) := ⟨(HBE.out.block _ (blk_lt J3.out)).trans J3.out⟩
      have LR : Aside0 (Kd.R (Kd.int .u8) 5 WE (w6.heap.size + 2) (fun _ => True) vo Sx.1) := ⟨Kd.R_below JR.out HBE.out⟩
      have LZ : Aside0 (WD.heap.size ≤ WE.heap.size ∧ w6.heap.size + 2 ≤ WE.heap.size) := ⟨by
        have h2 := HBE.out.size
        have h3 := J6.out
        omega⟩
      have hC : Kd.C (Kd.int .u8) WE (some ⟨g12, 0, none⟩) 16 OX := by
        have h := C_row_int (l := OX) L12.out (by rw [HOL.out]; decide)
        rw [HOL.out] at h
        exact h
      refine wpAny_of_N (S := fun V => V.heap[g10]? = some (.cells #[vo] 28 (0, 0))) (N := 3) _ _ _ _ ?_
      refine wpAnyN_take (i := 0) (v := vo) rfl (by kernel_rfl) (by kernel_rfl) (by kernel_rfl) (by kernel_rfl) (fun _ _ _ h => h) (Or.inl ⟨by rfl, fun V hV => ?_⟩) L3.out ?_
      · have c := blk_cell hV 0
        go_simp
      refine wpAnyN_take (i := 1) (v := .slice (some ⟨g12, 0, none⟩) 16 16) rfl (by kernel_rfl) (by kernel_rfl) (by kernel_rfl) (by kernel_rfl) (fun _ _ _ h => h) (Or.inl ⟨by rfl, fun V hV => ?_⟩) L3.out ?_
      · go_simp
      refine wpAnyN_one (i := 2) (by kernel_rfl) rfl rfl (fun K hK => ?_)
      refine opWp_append_R rfl (.tmp 55) (.tmp 56) 28 5 rfl Try.underlying28 info5 OX rfl LR.out (Below.refl (w6.heap.size + 2) WE) LZ.out.2 (some ⟨g12, 0, none⟩) 16 16 rfl hC (by have h1 := HSL.out; have h2 := HM.out; have h3 := HL2.out; omega) (Sx.1 ++ OX) rfl ?_
      intro v' w10 hR' hB' hgr hown
      have M3 : w10.heap[g10]? = some (.cells #[vo] 28 (0, 0)) := (hB'.block g10 (by have := HGG.out; omega)).trans L3.out
      refine hK _ _ (fun _ => M3) ?_
      clear hK K
      refine wpAnyN_one (i := 3) (by kernel_rfl) rfl rfl (fun K hK => ?_)
      have hv' : v'.oneCell' = true := R_one hR'
      with_reducible refine wp_store_one 28 (.tmp 10) (.tmp 57) (by kernel_rfl) g10 v' (by kernel_rfl) (by kernel_rfl) 28 vo M3 (by kernel_rfl) hv' ?_
      refine hK _ _ (fun h => absurd rfl h) ?_
      clear hK K
      refine wpAnyN_done (by kernel_rfl) ?_ _
      have hkg : ∀ B, KeepsFrom B WE w10 := fun B => ⟨hgr.size, fun k o _ hk ho => by
        have hlt := (Array.getElem?_eq_some_iff.1 hk).1
        refine (hgr.block k hlt fun e => ?_).trans hk
        obtain ⟨cells, hc⟩ := own_typed (Kd.own_of_R LR.out) k e.symm
        rw [hc] at hk
        injection hk with hk
        subst hk
        cases ho⟩
      have hgw : w10.grownBy (w10.setRow g10 #[v']) (some g10) := ⟨rfl, rfl, rfl, by rw [setRow_size]; exact Nat.le_refl _, fun k hk hne => setRow_other _ _ _ _ (fun e => hne (by rw [e]))⟩
      have F10 : Aside0 ((w10.setRow g10 #[v']).heap[g10]? = some (.cells #[v'] 28 (0, 0))) := ⟨setRow_heap _ _ _ _ _ _ M3⟩
      have FR : Aside0 (Kd.R (Kd.int .u8) 5 (w10.setRow g10 #[v']) (w6.heap.size + 2) (fun _ => True) v' (Sx.1 ++ OX)) := ⟨Kd.R_grown2 hR' rfl hgw fun k e1 e2 => by
        have h1 := own_base (Kd.own_of_R hR') k e2.symm
        have h2 := HGG.out
        injection e1 with e1
        omega⟩
      have FO : Aside0 (∀ k, k < w6.heap.size + 2 → k ≠ g10 → (w10.setRow g10 #[v']).heap[k]? = WD.heap[k]?) := ⟨fun k h1 h2 => (setRow_other _ _ _ _ h2).trans ((hB'.block k h1).trans (HBE.out.block k (Nat.lt_of_lt_of_le h1 J6.out)))⟩
      have FK : Aside0 (∀ B V, KeepsFrom B (w10.setRow g10 #[v']) V → KeepsFrom B W V) := ⟨fun B V h => KW.out _ _ ((keepsFrom_below HBE.out).trans (((hkg _).trans (keepsFrom_row M3)).trans h))⟩
      have FZ : Aside0 (WD.heap.size ≤ (w10.setRow g10 #[v']).heap.size) := ⟨by rw [setRow_size]; exact Nat.le_trans LZ.out.1 hgr.size⟩
      have FB : Aside0 (Below wc.drew.heap.size wc.drew (w10.setRow g10 #[v'])) := ⟨by
        refine below_row ((below_then J5.out J5.out.size HBE.out).trans (hB'.mono ?_)) (HG6.out.2.2.1) _
        have h1 := HB6.out.size
        have h2 := HG6.out
        have h3 : wc.drew.heap.size = wc.heap.size := rfl
        have h4 := HSZ6.out
        omega⟩
      clear hkg hR' hB' hgr hown hv' hC M3 hgw LR L3 LZ L12 HBE
      change Code.wpIn _ _ _ _ _ _ _
      generalize w10.setRow g10 #[v'] = WF at F10 FR FO FK FZ FB ⊢
      have FW0 : Aside0 (∀ k, k < w0.heap.size → WF.heap[k]? = w0.heap[k]?) := ⟨fun k hk => by
        have h1 := HGG.out
        exact (FO.out k (by omega) (by omega)).trans (HWB.out k hk)⟩
      have F9 : Aside0 (WF.heap[g9]? = some (.cells (nums .u8 Sx.2).toArray 52 (0, 0))) := ⟨by
        have h1 := HGG.out
        exact (FO.out g9 (by omega) h1.1).trans J2.out⟩
      have F8 : Aside0 (WF.heap[g8]? = some (.cells #[.pointer (some ⟨gc, 0, none⟩)] 50 (0, 0))) := ⟨by
        have h1 := HGG.out
        exact (FO.out g8 (by omega) h1.2.1).trans J1.out⟩
      have FC := Aside0.mk (HR1G.out WF FW0.out)
      have hk16 := k16_at (ad.add (16 * x.1)) 16 WF
      have HBQ : Aside0 ((nums IntKind.u8 (Md.blk l2 x.1)).toArray.size = 16) := ⟨by simp [HBZ.out]⟩
      have HNX : Aside0 ((Sx.1 ++ OX, Md.blk l2 x.1) = uncFold keys f l2 ((pre ++ [x]).map (·.1))) := ⟨by rw [HOX.out, HDX.out, List.map_append, List.map_cons, List.map_nil, uncFold_snoc, ← HSX.out]⟩
      refine region_round (by kernel_rfl) (by rintro ⟨_, _, h⟩; exact h) ?_
      go_wp2_with (first
        | ((with_reducible refine gate_dst (N := 60) rfl ?_); (refine wpList_load_any (by rfl) 52 (.tmp 59) (by rfl) (ad.add (16 * x.1)) (by rfl) (nums .u8 (Md.blk l2 x.1)) _ FC.out Try.underlying52 rfl (key_size _ HBZ.out) ?_))
        | (refine wpList_store_row (by rfl) 52 (.tmp 9) (.tmp 60) (by rfl) g9 (nums .u8 (Md.blk l2 x.1)).toArray (by rfl) (by rfl) 52 _ F9.out (by rw [HBQ.out]; kernel_rfl) (by rw [HBQ.out, HSZ.out]) (nums_one _ _) ?_))
      have hgr9 : WF.grownBy (WF.setRow g9 (nums .u8 (Md.blk l2 x.1)).toArray) (some g9) := ⟨rfl, rfl, rfl, by rw [setRow_size]; exact Nat.le_refl _, fun k hk hne => setRow_other _ _ _ _ (fun e => hne (by rw [e]))⟩
      have hGG := HGG.out
      refine ⟨FK.out _ _ (keepsFrom_row F9.out), fun a ha => ?_, ⟨?_⟩, ⟨?_⟩, ⟨?_⟩, ⟨?_, ?_⟩, ⟨?_⟩, ⟨?_⟩⟩
      · have h1 : a.block < w6.heap.size + 2 := by omega
        rw [World.cell?_of_block ((setRow_other _ _ _ _ (by omega)).trans (FO.out _ h1 (by omega))), KC.out]
      · exact (setRow_other _ _ _ _ hGG.2.2.1).trans F8.out
      · rw [← HNX.out]
        exact setRow_heap _ _ _ _ _ _ F9.out
      · rw [← HNX.out]
        refine ⟨v', (setRow_other _ _ _ _ (fun e => hGG.1 e.symm)).trans F10.out, Kd.R_grown2 FR.out rfl hgr9 fun k e1 e2 => ?_⟩
        have h1 := own_base (Kd.own_of_R FR.out) k e2.symm
        injection e1 with e1
        omega
      · intro k h1 h2
        simp only [List.mem_cons, List.not_mem_nil, or_false, not_or] at h2
        exact (setRow_other _ _ _ _ h2.2.1).trans ((FO.out k (by omega) h2.2.2).trans (J4.out.1 k h1 (by simp only [List.mem_cons, List.not_mem_nil, or_false, not_or]; exact h2)))
      · rw [setRow_size]
        have h1 := FZ.out
        have h2 := J4.out.2
        omega
      · refine below_row FB.out ?_ _
        exact HG6.out.2.1
      · rw [setRow_size]
        have h1 := FZ.out
        have h2 := J6.out
        omega
  case done =>
    rintro D xs W hD hxs ⟨I1, I2, I3, I4, I5, I6⟩ hK
    rw [hxs, uncFold_range] at I3
    obtain ⟨vo, J3, JR⟩ := I3.out
    have hS : Md.uncTo keys f l2 m = Md.uncTo keys f l2 (l2.length / 16) := by congr 1; have := HM.out; omega
    obtain ⟨PX, hPX⟩ : ∃ P, P = Md.uncL keys f l2 := ⟨_, rfl⟩
    have HRR : Aside0 (Kd.R (Kd.int .u8) 5 W (w6.heap.size + 2) (fun _ => True) vo PX) := ⟨by rw [hPX]; unfold Md.uncL; rw [← hS]; exact JR⟩
    have HPO : Aside0 (Aes.ok PX) := ⟨by rw [hPX]; exact (Md.uncTo_ok HKO.out HFL.out.2 HU2.out _).1⟩
    have HPL : Aside0 (PX.length ≤ 65536) := ⟨by rw [hPX]; unfold Md.uncL; rw [Md.uncTo_length]; have := HL2.out; omega⟩
    have hres := HRES.out
    rw [← hPX] at hres
    have HBF : Aside0 (Below w0.heap.size w0 W) := ⟨(below_drew1 HBc.out).trans (I5.out.mono HBc.out.size)⟩
    have hsz0 : Aside0 (w0.heap.size ≤ w6.heap.size + 2) := ⟨by have h1 := HBc.out.size; have h2 := HB6.out.size; have h3 : wc.drew.heap.size = wc.heap.size := rfl; omega⟩
    have HDD := Aside0.mk hK
    have HDG : Aside0 (w6.heap.size + 2 ≤ D) := ⟨by simp at hD; omega⟩
    have J10 := blk_cell J3 0
    obtain ⟨Ap, cp, hvp, hcp, hCp⟩ := Kd.R_reads HRR.out
    subst hvp
    have HPC := Aside0.mk hCp
    have HCP := Aside0.mk hcp
    clear I1 I2 I3 I4 I5 I6 hK hxs hD JR J3 hS hcp hCp hPX
    go_wp2_with fail
    refine (unpadded_calls Ap cp PX W HPC.out HCP.out (by have := HPL.out; omega) HPO.out).mono ?_
    rintro e w9 ⟨hb9, hp⟩
    have HB9 := Aside0.mk (HBF.out.trans (hb9.mono HBF.out.size))
    have HD9 := Aside0.mk ((hb9.block D (blk_lt HDD.out)).trans HDD.out)
    clear J10 hb9
    rcases hp with ⟨hu, rfl⟩ | ⟨r, A, c, hu, rfl, hc, hC⟩
    · rw [hu] at hres
      obtain ⟨rfl, rfl⟩ : ([] : List Int) = r1 ∧ (3 : Int) = r2 := by simpa using hres
      clear hres hu
      go_wp2
      refine ⟨by simp, .inl ⟨_, _, rfl, run_takeDeferred HD9.out, ?_⟩⟩
      refine ⟨_, results_tmp2 rfl _ _ _, _, rfl, Kd.R_nil _ _ _ _ _, HB9.out.trans (belowK_b (w := w0) (Nat.le_refl _) w9 D _ _ (by have := hsz0.out; have := HDG.out; omega) HD9.out rfl rfl)⟩
    · rw [hu] at hres
      obtain ⟨rfl, rfl⟩ : r = r1 ∧ (0 : Int) = r2 := by simpa using hres
      have HC9 := Aside0.mk hC
      have HCC := Aside0.mk hc
      have hrl : r.length ≤ PX.length := by
        unfold unpadL at hu
        split at hu
        · cases hu
        · split at hu
          · cases hu
          · split at hu
            · injection hu with hu
              rw [← hu, List.length_take]; omega
            · cases hu
      have HCL : Aside0 (bytes_Clone.f r = some r) := ⟨by unfold bytes_Clone.f; rw [if_pos (by have := HPL.out; omega)]⟩
      clear hres hC hc hrl hu
      go_wp2_with fail
      refine (bytes_Clone.calls A c r r w9 HC9.out HCC.out HCL.out).mono ?_
      rintro e w10 ⟨v, rfl, hv, hb10⟩
      have HB10 := Aside0.mk (HB9.out.trans (hb10.mono HB9.out.size))
      have HD10 := Aside0.mk ((hb10.block D (blk_lt HD9.out)).trans HD9.out)
      have HV := Aside0.mk hv
      have HZ9 : Aside0 (w0.heap.size ≤ w9.heap.size) := ⟨HB9.out.size⟩
      clear hv hb10
      go_wp2
      refine ⟨by simp, .inl ⟨_, _, rfl, run_takeDeferred HD10.out, ?_⟩⟩
      have hbf : Below w0.heap.size w10 (w10.putObj D (.deferred none)) := belowK_b (w := w0) (Nat.le_refl _) w10 D _ _ (by have := hsz0.out; have := HDG.out; omega) HD10.out rfl rfl
      refine ⟨_, results_tmp2 rfl _ _ _, _, rfl, ?_, HB10.out.trans hbf⟩
      have hg := grownBy_putObj' w10 D (.deferred none)
      refine Kd.R_lower (Kd.R_grown2 HV.out rfl hg fun k e1 e2 => ?_) HZ9.out
      injection e1 with e1
      obtain ⟨cells, hc⟩ := own_typed (Kd.own_of_R HV.out) k e2.symm
      rw [← e1, HD10.out] at hc
      cases hc
set_option maxHeartbeats 4000000 in
set_option maxRecDepth 100000 in
theorem impl_CbcDecrypt.calls (a0 a1 : ByteArray) (A2 : Option Addr) (c2 : Nat) (l2 : List Int) (r1 : List Int) (r2 : Int) (w0 : World) (hr2 : Kd.C (Kd.int .u8) w0 A2 l2.length l2) (hc2 : l2.length ≤ c2) (h : impl_CbcDecrypt.f a0 a1 l2 = some (r1, r2)) :
    Calls Try.prog 36 #[.string a0, .string a1, .slice A2 l2.length c2] w0 fun e w' => ∃ v0_ : Value, e = .returned (.tuple #[v0_, .int .i64 r2]) ∧ Kd.R (Kd.int .u8) 5 w' w0.heap.size (fun _ => True) v0_ r1 ∧ Below w0.heap.size w0 w' := by
  unfold impl_CbcDecrypt.f at h
  by_cases hu : ¬ (u8b l2 = true)
  · rw [if_neg hu] at h
    cases h
  replace hu := Classical.not_not.1 hu
  rw [if_pos hu] at h
  by_cases h1 : 65536 < a0.size ∨ 65536 < a1.size
  · rw [if_pos (by omega)] at h
    obtain ⟨rfl, rfl⟩ : ([] : List Int) = r1 ∧ (2 : Int) = r2 := by simpa using h
    have HF := Aside0.mk (long2_g a0 a1 true (decide_eq_true h1).symm)
    clear h h1 hu
    go_enter Try.func36, Try.ntmps36
    go_wp2_with fail
    refine (impl_isLong_string.calls _ _ [a0, a1] true _ (C_two_string (g := w0.heap.size) (T := 9) (fr := (0, 0)) (blk_new w0 _)) (Nat.le_refl _) HF.out).mono ?_
    rintro e wa ⟨rfl, hd⟩
    have HBa := Aside0.mk (below_then (below_alloc (Below.refl _ _) _) (by simp) hd.below : Below w0.heap.size w0 wa)
    clear hd
    go_wp2
    go_ret2
    exact ⟨_, rfl, Kd.R_nil _ _ _ _ _, HBa.out⟩
  have HF := Aside0.mk (long2_g a0 a1 false (decide_eq_false h1).symm)
  have HR2 := Aside0.mk hr2
  have HC2 := Aside0.mk hc2
  by_cases h2 : 65536 < l2.length
  · rw [if_pos (by omega)] at h
    obtain ⟨rfl, rfl⟩ : ([] : List Int) = r1 ∧ (2 : Int) = r2 := by simpa using h
    have HF2 := Aside0.mk (longB_g l2 true (decide_eq_true h2).symm)
    clear h h1 hu h2 hr2 hc2
    go_enter Try.func36, Try.ntmps36
    go_wp2_with fail
    refine (impl_isLong_string.calls _ _ [a0, a1] false _ (C_two_string (g := w0.heap.size) (T := 9) (fr := (0, 0)) (blk_new w0 _)) (Nat.le_refl _) HF.out).mono ?_
    rintro e wa ⟨rfl, hd⟩
    have HBa := Aside0.mk (below_then (below_alloc (Below.refl _ _) _) (by simp) hd.below : Below w0.heap.size w0 wa)
    clear hd
    go_wp2_with fail
    have hC := C_one_slice (c := c2) (xs := l2) (blk_new wa (Obj.cells #[Value.slice A2 l2.length c2] 28)) rfl HC2.out (Kd.C_alloc (Kd.C_below HR2.out HBa.out) _)
    refine (impl_isLong_byte.calls _ 1 [l2] _ _ hC (Nat.le_refl _) HF2.out).mono ?_
    rintro e wb ⟨rfl, hd⟩
    have HBb := Aside0.mk (below_then (below_alloc HBa.out _) (by have := HBa.out.size; simp; omega) hd.below : Below w0.heap.size w0 wb)
    clear hd hC
    go_wp2
    go_ret2
    exact ⟨_, rfl, Kd.R_nil _ _ _ _ _, HBb.out⟩
  have HF2 := Aside0.mk (longB_g l2 false (decide_eq_false h2).symm)
  rw [if_neg (by omega)] at h
  by_cases h3 : ¬ (a0.size = 16 ∨ a0.size = 32)
  · rw [if_neg (fun h => h3 h.1)] at h
    obtain ⟨rfl, rfl⟩ : ([] : List Int) = r1 ∧ (1 : Int) = r2 := by simpa using h
    have HK := Aside0.mk (isKey_g a0 false (decide_eq_false h3).symm)
    clear h h1 hu h2 hr2 hc2 h3
    go_enter Try.func36, Try.ntmps36
    go_wp2_with fail
    refine (impl_isLong_string.calls _ _ [a0, a1] false _ (C_two_string (g := w0.heap.size) (T := 9) (fr := (0, 0)) (blk_new w0 _)) (Nat.le_refl _) HF.out).mono ?_
    rintro e wa ⟨rfl, hd⟩
    have HBa := Aside0.mk (below_then (below_alloc (Below.refl _ _) _) (by simp) hd.below : Below w0.heap.size w0 wa)
    clear hd
    go_wp2_with fail
    have hC := C_one_slice (c := c2) (xs := l2) (blk_new wa (Obj.cells #[Value.slice A2 l2.length c2] 28)) rfl HC2.out (Kd.C_alloc (Kd.C_below HR2.out HBa.out) _)
    refine (impl_isLong_byte.calls _ 1 [l2] _ _ hC (Nat.le_refl _) HF2.out).mono ?_
    rintro e wb ⟨rfl, hd⟩
    have HBb := Aside0.mk (below_then (below_alloc HBa.out _) (by have := HBa.out.size; simp; omega) hd.below : Below w0.heap.size w0 wb)
    clear hd hC
    go_wp2_with fail
    refine (impl_isKey.calls a0 false _ HK.out).mono ?_
    rintro e wc ⟨rfl, hd⟩
    have HBc := Aside0.mk (HBb.out.trans (hd.below.mono HBb.out.size))
    clear hd HBb
    go_wp2
    go_ret2
    exact ⟨_, rfl, Kd.R_nil _ _ _ _ _, HBc.out⟩
  replace h3 := Classical.not_not.1 h3
  by_cases h4 : ¬ (a1.size = 16)
  · rw [if_neg (fun h => h4 h.2)] at h
    obtain ⟨rfl, rfl⟩ : ([] : List Int) = r1 ∧ (1 : Int) = r2 := by simpa using h
    have HK := Aside0.mk (isKey_g a0 true (decide_eq_true h3).symm)
    have d3 : ((a1.size : Int) != 16) = true := by rw [bne_iff_ne]; omega
    have d4 : ¬ (a1.size : Int) = 16 := by omega
    have d5 : decide ((a1.size : Int) = 16) = false := decide_eq_false d4
    have d6 : decide (a1.size = 16) = false := decide_eq_false h4
    have d7 : ((a1.size : Int) == 16) = false := by rw [beq_eq_false_iff_ne]; exact d4
    clear h h1 hu h2 hr2 hc2 h3 h4
    go_enter Try.func36, Try.ntmps36
    go_wp2_with fail
    refine (impl_isLong_string.calls _ _ [a0, a1] false _ (C_two_string (g := w0.heap.size) (T := 9) (fr := (0, 0)) (blk_new w0 _)) (Nat.le_refl _) HF.out).mono ?_
    rintro e wa ⟨rfl, hd⟩
    have HBa := Aside0.mk (below_then (below_alloc (Below.refl _ _) _) (by simp) hd.below : Below w0.heap.size w0 wa)
    clear hd
    go_wp2_with fail
    have hC := C_one_slice (c := c2) (xs := l2) (blk_new wa (Obj.cells #[Value.slice A2 l2.length c2] 28)) rfl HC2.out (Kd.C_alloc (Kd.C_below HR2.out HBa.out) _)
    refine (impl_isLong_byte.calls _ 1 [l2] _ _ hC (Nat.le_refl _) HF2.out).mono ?_
    rintro e wb ⟨rfl, hd⟩
    have HBb := Aside0.mk (below_then (below_alloc HBa.out _) (by have := HBa.out.size; simp; omega) hd.below : Below w0.heap.size w0 wb)
    clear hd hC
    go_wp2_with fail
    refine (impl_isKey.calls a0 true _ HK.out).mono ?_
    rintro e wc ⟨rfl, hd⟩
    have HBc := Aside0.mk (HBb.out.trans (hd.below.mono HBb.out.size))
    clear hd HBb
    go_wp2
    go_ret2
    exact ⟨_, rfl, Kd.R_nil _ _ _ _ _, HBc.out⟩
  replace h4 := Classical.not_not.1 h4
  rw [if_pos ⟨h3, h4⟩] at h
  by_cases h5 : l2.length % 16 = 0
  · rw [if_neg (fun hn => hn h5)] at h
    rcases h3 with e | e
    · exact impl_CbcDecrypt_in a0 a1 4 A2 c2 l2 w0 r1 r2 hr2 hc2 (u8b_ok hu) (by omega) (.inl rfl) e h4 (l2.length / 16) (by omega) h
    · exact impl_CbcDecrypt_in a0 a1 8 A2 c2 l2 w0 r1 r2 hr2 hc2 (u8b_ok hu) (by omega) (.inr rfl) e h4 (l2.length / 16) (by omega) h
  · rw [if_pos h5] at h
    obtain ⟨rfl, rfl⟩ : ([] : List Int) = r1 ∧ (3 : Int) = r2 := by simpa using h
    have HK := Aside0.mk (isKey_g a0 true (decide_eq_true h3).symm)
    have d3 : ((a1.size : Int) != 16) = false := by rw [h4]; rfl
    have d4 : (a1.size : Int) = 16 := by omega
    obtain ⟨q, hq, hq0⟩ : ∃ q : Int, Int.tmod (l2.length : Int) 16 = q ∧ q ≠ 0 := ⟨_, rfl, by rw [Int.tmod_eq_emod_of_nonneg (Int.natCast_nonneg _)]; omega⟩
    have hqd : (q != 0) = true := by rw [bne_iff_ne]; exact hq0
    have hqe : (l2.length : Int) % 16 = q := by rw [← hq, Int.tmod_eq_emod_of_nonneg (Int.natCast_nonneg _)]
    clear h h1 hu h2 hr2 hc2 h3 h4 h5
    go_enter Try.func36, Try.ntmps36
    go_wp2_with fail
    refine (impl_isLong_string.calls _ _ [a0, a1] false _ (C_two_string (g := w0.heap.size) (T := 9) (fr := (0, 0)) (blk_new w0 _)) (Nat.le_refl _) HF.out).mono ?_
    rintro e wa ⟨rfl, hd⟩
    have HBa := Aside0.mk (below_then (below_alloc (Below.refl _ _) _) (by simp) hd.below : Below w0.heap.size w0 wa)
    clear hd
    go_wp2_with fail
    have hC := C_one_slice (c := c2) (xs := l2) (blk_new wa (Obj.cells #[Value.slice A2 l2.length c2] 28)) rfl HC2.out (Kd.C_alloc (Kd.C_below HR2.out HBa.out) _)
    refine (impl_isLong_byte.calls _ 1 [l2] _ _ hC (Nat.le_refl _) HF2.out).mono ?_
    rintro e wb ⟨rfl, hd⟩
    have HBb := Aside0.mk (below_then (below_alloc HBa.out _) (by have := HBa.out.size; simp; omega) hd.below : Below w0.heap.size w0 wb)
    clear hd hC
    go_wp2_with fail
    refine (impl_isKey.calls a0 true _ HK.out).mono ?_
    rintro e wc ⟨rfl, hd⟩
    have HBc := Aside0.mk (HBb.out.trans (hd.below.mono HBb.out.size))
    clear hd HBb
    go_wp2
    go_ret2
    exact ⟨_, rfl, Kd.R_nil _ _ _ _ _, HBc.out⟩
end Go.Proofs.Ytfbggdlidelliaa.P

/- Laid by a program of this session: of Px10 what this law uses. -/
import Derived.Test.YtfbggdlidelliaaZAesPx0
import Derived.Test.YtfbggdlidelliaaZAesPx6
import Derived.Test.YtfbggdlidelliaaZAesPx7
import Derived.Test.YtfbggdlidelliaaZAesPx8
import Derived.Test.YtfbggdlidelliaaZAesPx9
namespace Go.Proofs.Ytfbggdlidelliaa.P
open Go.RowKit Go.Proofs.YtfbggdlidelliaaW.PrintWords Go.Proofs.YtfbggdlidelliaaW.PrintLast
set_option linter.unusedVariables false
set_option linter.unusedSimpArgs false
def encB_T4 : Bool × List (List Nat × List Nat) := (true, [([], []), ([0], [0]), ([], []), ([2], [2]), ([3], [3]), ([4], [4]), ([1, 5, 1], [1, 5]), ([], []), ([7, 6, 6, 0, 1, 2, 3, 4, 5, 6, 7], [6, 7])])
def encB_B4 : List Nat := [0, 1, 0, 4, 12, 28, 63, 0, 255]
theorem encB_tab4 : rtab .any (opsOf Try.f23 4) = encB_T4 := by kernel_rfl
theorem encB_bits4 : waitsOk encB_T4.2 encB_B4 = true := by kernel_rfl
def impl_EncryptBlock.f (a0 a1 : ByteArray) : Option (ByteArray × Int) := if 65536 < a0.size ∨ 65536 < a1.size then some (⟨#[]⟩, 2) else if (a0.size = 16 ∨ a0.size = 32) ∧ a1.size = 16 then some (strOfNums (Aes.encL (Aes.keysL (bytesL a0)) (bytesL a1)), 0) else some (⟨#[]⟩, 1)
set_option maxHeartbeats 8000000 in
set_option maxRecDepth 100000 in
theorem impl_EncryptBlock.calls (a0 a1 : ByteArray) (r1 : ByteArray) (r2 : Int) (w0 : World) (h : impl_EncryptBlock.f a0 a1 = some (r1, r2)) :
    Calls Try.prog 23 #[.string a0, .string a1] w0 fun e w' => e = .returned (.tuple #[.string r1, .int .i64 r2]) ∧ Below w0.heap.size w0 w' := by
  unfold impl_EncryptBlock.f at h
  have HF := Aside0.mk (blockCode_f a0 a1)
  by_cases hg : ¬ (65536 < a0.size ∨ 65536 < a1.size) ∧ (a0.size = 16 ∨ a0.size = 32) ∧ a1.size = 16
  · rw [if_neg hg.1, if_pos hg.2] at h
    obtain ⟨rfl, rfl⟩ : strOfNums (Aes.encL (Aes.keysL (bytesL a0)) (bytesL a1)) = r1 ∧ (0 : Int) = r2 := by simpa using h
    have HE : Aside0 (blockCodeOf a0 a1 = 0) := ⟨by unfold blockCodeOf; rw [if_neg hg.1, if_pos hg.2]⟩
    obtain ⟨n, hn, hsn⟩ : ∃ n, (n = 4 ∨ n = 8) ∧ a0.size = 4 * n := by rcases hg.2.1 with e | e; exact ⟨4, .inl rfl, e⟩; exact ⟨8, .inr rfl, e⟩
    obtain ⟨keys, hkeys⟩ : ∃ K, K = Aes.keysL (bytesL a0) := ⟨_, rfl⟩
    have HKL : Aside0 (keys.length = n + 7) := ⟨by rw [hkeys, Aes.keysL_length, bytesL_length, hsn]; omega⟩
    have HKN : Aside0 (0 < keys.length ∧ keys.length ≤ 100) := ⟨by rw [HKL.out]; omega⟩
    have HN := Aside0.mk hn
    have HSN := Aside0.mk hsn
    have HKE := Aside0.mk hkeys
    have hs1 := hg.2.2
    have HL1 : Aside0 ((bytesL a1).length = 16) := ⟨by rw [bytesL_length, hs1]⟩
    have HOK : Aside0 (Aes.ok (bytesL a1)) := ⟨by exact u8ok_bytesL a1⟩
    have HNB : Aside0 ((nums IntKind.u8 (bytesL a1)).length = 16) := ⟨by simp [nums, HL1.out]⟩
    have HFL : Aside0 ((Aes.encL keys (bytesL a1)).length = 16) := ⟨Aes.encL_length _ _⟩
    have HSX : Aside0 ((nums IntKind.u8 (Aes.encL keys (bytesL a1))).toArray.size = 16) := ⟨by simp [nums, HFL.out]⟩
    rw [← hkeys]
    clear h hg hn hsn hkeys
    go_enter Try.func23, Try.ntmps23
    go_wp2_with fail
    refine (impl_blockCode.calls a0 a1 _ _ HF.out).mono ?_
    rintro e W1 ⟨rfl, hb1⟩
    have HB := Aside0.mk hb1
    rw [HE.out]
    clear hb1
    go_upto_region 4 with (fail)
    refine start_ (n := 9) (S := fun _ => True) (ds := []) #[false, false, false, false, false, false, false, false, false] (by kernel_rfl) rfl rfl trivial (fun _ => ?_)
    refine with_tabW encB_tab4 encB_bits4 (fun HT_ HW_ => ?_)
    have HB := Aside0.mk (below_drew1 HB.out)
    generalize W1.drew = wD at HB ⊢
    refine pure_ (i := 0) (N := some 14) (v := ?_) (a' := ?_) #[true, false, false, false, false, false, false, false, false] rfl rfl (any_of HT_.out (by kernel_rfl)) (fun _ _ _ h => h) (Or.inl ⟨by rfl, ?_⟩) ?_ ?_
    rotate_left
    · intro w'
      go_simp
      with_reducible rfl
    rotate_left
    · simp only [Act.put, List.setIfInBounds_toArray, List.set_cons_zero, List.set_cons_succ, i64_w, i32_w]
      rfl
    refine pure_ (i := 2) (N := some 16) (v := ?_) (a' := ?_) #[true, false, true, false, false, false, false, false, false] rfl rfl (any_of HT_.out (by kernel_rfl)) (fun _ _ _ h => h) (Or.inl ⟨by rfl, ?_⟩) ?_ ?_
    rotate_left
    · intro w'
      go_simp
      with_reducible rfl
    rotate_left
    · simp only [Act.put, List.setIfInBounds_toArray, List.set_cons_zero, List.set_cons_succ, i64_w, i32_w]
      rfl
    refine three_ (i := 1) (j := 3) (k := 7) (Ni := some 15) (Nj := some 17) (Nk := some 7) #[true, true, true, false, false, false, false, false, false] #[true, false, true, true, false, false, false, false, false] #[true, false, true, false, false, false, false, true, false] rfl rfl rfl rfl rfl rfl (three_of HT_.out (by kernel_rfl)) (by decide) (by decide) (by decide) (fun K hK => ?_) (fun K hK => ?_) (fun K hK => ?_)
    · skip
      refine goes_ Try.func44 (by kernel_rfl) rfl #[.string a0] (by rfl) rfl rfl (by (try simp only [List.map_toArray, List.map_cons, List.map_nil]); first | done | rfl) ?_
      with_reducible refine (impl_cipherOf_in a0 n _ HN.out HSN.out).mono ?_
      rintro e v1 ⟨g, rfl, hC, hst⟩
      rw [← HKE.out] at hC
      refine ⟨_, rfl, ?_⟩
      have HC := Aside0.mk hC
      clear hC
      have HB := Aside0.mk (HB.out.trans (hst.mono HB.out.size))
      clear hst
      refine hK.out _ _ trivial (fun _ => ?_)
      clear hK K
      refine norm_ (a' := ?_) ?_ ?_
      rotate_left
      · show Act.put _ (some 15) _ = _
        simp only [Act.put, List.setIfInBounds_toArray, List.set_cons_zero, List.set_cons_succ, i64_w, i32_w]
        rfl
      refine two_ (i := 3) (j := 7) (Ni := some 17) (Nj := some 7) #[true, true, true, true, false, false, false, false, false] #[true, true, true, false, false, false, false, true, false] rfl rfl rfl rfl (two_of HT_.out (by kernel_rfl)) (by decide) (by decide) (fun K hK => ?_) (fun K hK => ?_)
      · skip
        refine value_ (by rfl) rfl (run_conv_op _ _ _ _ _ rfl rfl Try.underlying9 Try.underlying28 Try.underlying5) ?_
        obtain ⟨gb, hgb⟩ : ∃ g, g = v1.heap.size := ⟨_, rfl⟩
        have HR : (Lib.bytesWorld v1 5 a1).rangeAt gb 0 (nums .u8 (bytesL a1)) := by rw [hgb]; exact bytes_range v1 5 a1
        have hst : Below v1.heap.size v1 (Lib.bytesWorld v1 5 a1) := bytes_below (Below.refl _ _) (Nat.le_refl _) _ _
        rw [← hgb, hs1]
        generalize grownCap v1 16 0 5 = cb
        generalize Lib.bytesWorld v1 5 a1 = v2 at HR hst ⊢
        clear hgb
        have HC := Aside0.mk (cipherAt_below HC.out HKN.out.1 hst)
        have HB := Aside0.mk (HB.out.trans (hst.mono HB.out.size))
        clear hst
        refine hK.out _ _ trivial (fun _ => ?_)
        clear hK K
        refine norm_ (a' := ?_) ?_ ?_
        rotate_left
        · show Act.put _ (some 17) _ = _
          simp only [Act.put, List.setIfInBounds_toArray, List.set_cons_zero, List.set_cons_succ, i64_w, i32_w]
          rfl
        have hHeld := HR
        clear HR
        refine swap_ (S := fun w' => w'.rangeAt gb 0 (nums .u8 (bytesL a1))) (ds := [8]) _ _ _ _ ?_
        refine pure_ (i := 4) (N := some 18) (v := ?_) (a' := ?_) #[true, true, true, true, true, false, false, false, false] rfl rfl (any_of HT_.out (by kernel_rfl)) (fun _ _ _ h => h) (Or.inl ⟨by rfl, ?_⟩) ?_ ?_
        rotate_left
        · intro w'
          refine arr_at_wp 52 (.tmp 17) (some ⟨gb, 0, none⟩) 16 cb 16 ?_ ?_ Try.underlying52 (Nat.le_refl 16) <;> rfl
        rotate_left
        · simp only [Act.put, List.setIfInBounds_toArray, List.set_cons_zero, List.set_cons_succ, i64_w, i32_w]
          rfl
        refine take_ (i := 5) (N := some 19) (v := ?_) (a' := ?_) #[true, true, true, true, true, true, false, false, false] rfl rfl (take_ofW HT_.out HW_.out (by kernel_rfl)) (fun _ _ _ h => h) ?hy3 hHeld ?heq3 ?hrest3
        case hy3 => (refine yieldsIf_load_mid ?_ 52 (.tmp 18) ?_ gb 0 ?_ (nums .u8 (bytesL a1)) _ ?_ Try.underlying52 ?_ ?_; rfl; rfl; rfl; exact (fun w_ h_ => h_); rfl; exact key_size (bytesL a1) HNB.out)
        case heq3 =>
          simp only [Act.put, List.setIfInBounds_toArray, List.set_cons_zero, List.set_cons_succ, i64_w, i32_w]
          rfl
        refine two_ (i := 6) (j := 7) (Ni := some 20) (Nj := some 7) #[true, true, true, true, true, true, true, false, false] #[true, true, true, true, true, true, false, true, false] rfl rfl rfl rfl (two_of HT_.out (by kernel_rfl)) (by decide) (by decide) (fun K hK => ?_) (fun K hK => ?_)
        · skip
          refine goes_ Try.func50 (by kernel_rfl) rfl #[.pointer (some ⟨g, 0, none⟩), arr8 (bytesL a1)] (by rfl) rfl rfl (by (try simp only [List.map_toArray, List.map_cons, List.map_nil]); first | done | rfl) ?_
          with_reducible refine (impl_encrypt_in keys _ g (bytesL a1) _ HC.out HKN.out HL1.out HOK.out).mono ?_
          rintro e v4 ⟨rfl, hst⟩
          refine ⟨_, rfl, ?_⟩
          have HC := Aside0.mk (cipherAt_below HC.out HKN.out.1 hst)
          have HR : v4.rangeAt gb 0 (nums .u8 (bytesL a1)) := range_below hHeld hst
          clear hHeld
          have HB := Aside0.mk (HB.out.trans (hst.mono HB.out.size))
          clear hst
          refine hK.out _ _ HR (fun hHeld => ?_)
          clear hK K HR
          refine norm_ (a' := ?_) ?_ ?_
          rotate_left
          · show Act.put _ (some 20) _ = _
            simp only [Act.put, List.setIfInBounds_toArray, List.set_cons_zero, List.set_cons_succ, i64_w, i32_w]
            rfl
          refine one_ (i := 7) (N := some 7) #[true, true, true, true, true, true, true, true, false] rfl rfl (one_of HT_.out (by kernel_rfl)) (by decide) (fun K hK => ?_)
          go_simp
          show K _ (v4.alloc (.cells (nums .u8 (List.replicate 16 0)).toArray 52))
          obtain ⟨g7, hg7⟩ : ∃ g, g = v4.heap.size := ⟨_, rfl⟩
          have HG7 : Aside0 (w0.heap.size ≤ g7) := ⟨by rw [hg7]; exact HB.out.size⟩
          have G7 : Aside0 ((v4.alloc (.cells (nums .u8 (List.replicate 16 0)).toArray 52)).heap[g7]? = some (.cells (nums .u8 (List.replicate 16 0)).toArray 52 (0, 0))) := ⟨by rw [hg7]; exact blk_new v4 _⟩
          have hst : Below v4.heap.size v4 (v4.alloc (.cells (nums .u8 (List.replicate 16 0)).toArray 52)) := below_alloc (Below.refl _ _) _
          rw [← hg7]
          generalize v4.alloc (.cells (nums .u8 (List.replicate 16 0)).toArray 52) = v5 at G7 hst ⊢
          clear hg7
          have HC := Aside0.mk (cipherAt_below HC.out HKN.out.1 hst)
          have HR : v5.rangeAt gb 0 (nums .u8 (bytesL a1)) := range_below hHeld hst
          clear hHeld
          have HB := Aside0.mk (HB.out.trans (hst.mono HB.out.size))
          clear hst
          refine hK.out _ _ HR (fun hHeld => ?_)
          clear hK K HR
          refine last_ (i := 8) (N := none) #[true, true, true, true, true, true, true, true, true] rfl rfl (one_of HT_.out (by kernel_rfl)) (by decide) (fun K hK => ?_)
          refine wp_store_row 52 (.tmp 7) (.tmp 20) (by rfl) g7 (nums .u8 (Aes.encL keys (bytesL a1))).toArray (by rfl) (by rfl) 52 _ G7.out (by rw [HSX.out]; kernel_rfl) (by rw [HSX.out]; rfl) (nums_one _ _) ?_
          simp only [Act.put]
          refine hK.out _ _ ?_
          clear hK K
          refine done_ (done_of HT_.out (by kernel_rfl)) ?_
          have G7 := Aside0.mk (setRow_heap v5 g7 _ (nums .u8 (Aes.encL keys (bytesL a1))).toArray _ _ G7.out)
          have HB := Aside0.mk (below_row HB.out HG7.out (nums .u8 (Aes.encL keys (bytesL a1))).toArray)
          generalize v5.setRow g7 (nums .u8 (Aes.encL keys (bytesL a1))).toArray = wF at G7 HB ⊢
          clear hHeld HC
          have ks := Kd.C_string (P := Try.prog) (dst := 9) (src := 28) (c := 16) Try.underlying28 Try.underlying5 Try.underlying9 (C_row_int (l := Aes.encL keys (bytesL a1)) G7.out (by rw [HFL.out]; decide))
          rw [HFL.out] at ks
          go_wp2
          go_ret2
          exact ⟨rfl, HB.out⟩
        · skip
          go_simp
          show K _ (v2.alloc (.cells (nums .u8 (List.replicate 16 0)).toArray 52))
          obtain ⟨g7, hg7⟩ : ∃ g, g = v2.heap.size := ⟨_, rfl⟩
          have HG7 : Aside0 (w0.heap.size ≤ g7) := ⟨by rw [hg7]; exact HB.out.size⟩
          have G7 : Aside0 ((v2.alloc (.cells (nums .u8 (List.replicate 16 0)).toArray 52)).heap[g7]? = some (.cells (nums .u8 (List.replicate 16 0)).toArray 52 (0, 0))) := ⟨by rw [hg7]; exact blk_new v2 _⟩
          have hst : Below v2.heap.size v2 (v2.alloc (.cells (nums .u8 (List.replicate 16 0)).toArray 52)) := below_alloc (Below.refl _ _) _
          rw [← hg7]
          generalize v2.alloc (.cells (nums .u8 (List.replicate 16 0)).toArray 52) = v7 at G7 hst ⊢
          clear hg7
          have HC := Aside0.mk (cipherAt_below HC.out HKN.out.1 hst)
          have HR : v7.rangeAt gb 0 (nums .u8 (bytesL a1)) := range_below hHeld hst
          clear hHeld
          have HB := Aside0.mk (HB.out.trans (hst.mono HB.out.size))
          clear hst
          refine hK.out _ _ HR (fun hHeld => ?_)
          clear hK K HR
          refine one_ (i := 6) (N := some 20) #[true, true, true, true, true, true, true, true, false] rfl rfl (one_of HT_.out (by kernel_rfl)) (by decide) (fun K hK => ?_)
          refine goes_ Try.func50 (by kernel_rfl) rfl #[.pointer (some ⟨g, 0, none⟩), arr8 (bytesL a1)] (by rfl) rfl rfl (by (try simp only [List.map_toArray, List.map_cons, List.map_nil]); first | done | rfl) ?_
          with_reducible refine (impl_encrypt_in keys _ g (bytesL a1) _ HC.out HKN.out HL1.out HOK.out).mono ?_
          rintro e v8 ⟨rfl, hst⟩
          refine ⟨_, rfl, ?_⟩
          have HC := Aside0.mk (cipherAt_below HC.out HKN.out.1 hst)
          have G7 := Aside0.mk ((hst.block g7 (blk_lt G7.out)).trans G7.out)
          have HR : v8.rangeAt gb 0 (nums .u8 (bytesL a1)) := range_below hHeld hst
          clear hHeld
          have HB := Aside0.mk (HB.out.trans (hst.mono HB.out.size))
          clear hst
          refine hK.out _ _ HR (fun hHeld => ?_)
          clear hK K HR
          refine norm_ (a' := ?_) ?_ ?_
          rotate_left
          · show Act.put _ (some 20) _ = _
            simp only [Act.put, List.setIfInBounds_toArray, List.set_cons_zero, List.set_cons_succ, i64_w, i32_w]
            rfl
          refine last_ (i := 8) (N := none) #[true, true, true, true, true, true, true, true, true] rfl rfl (one_of HT_.out (by kernel_rfl)) (by decide) (fun K hK => ?_)
          refine wp_store_row 52 (.tmp 7) (.tmp 20) (by rfl) g7 (nums .u8 (Aes.encL keys (bytesL a1))).toArray (by rfl) (by rfl) 52 _ G7.out (by rw [HSX.out]; kernel_rfl) (by rw [HSX.out]; rfl) (nums_one _ _) ?_
          simp only [Act.put]
          refine hK.out _ _ ?_
          clear hK K
          refine done_ (done_of HT_.out (by kernel_rfl)) ?_
          have G7 := Aside0.mk (setRow_heap v8 g7 _ (nums .u8 (Aes.encL keys (bytesL a1))).toArray _ _ G7.out)
          have HB := Aside0.mk (below_row HB.out HG7.out (nums .u8 (Aes.encL keys (bytesL a1))).toArray)
          generalize v8.setRow g7 (nums .u8 (Aes.encL keys (bytesL a1))).toArray = wF at G7 HB ⊢
          clear hHeld HC
          have ks := Kd.C_string (P := Try.prog) (dst := 9) (src := 28) (c := 16) Try.underlying28 Try.underlying5 Try.underlying9 (C_row_int (l := Aes.encL keys (bytesL a1)) G7.out (by rw [HFL.out]; decide))
          rw [HFL.out] at ks
          go_wp2
          go_ret2
          exact ⟨rfl, HB.out⟩
      · skip
        go_simp
        show K _ (v1.alloc (.cells (nums .u8 (List.replicate 16 0)).toArray 52))
        obtain ⟨g7, hg7⟩ : ∃ g, g = v1.heap.size := ⟨_, rfl⟩
        have HG7 : Aside0 (w0.heap.size ≤ g7) := ⟨by rw [hg7]; exact HB.out.size⟩
        have G7 : Aside0 ((v1.alloc (.cells (nums .u8 (List.replicate 16 0)).toArray 52)).heap[g7]? = some (.cells (nums .u8 (List.replicate 16 0)).toArray 52 (0, 0))) := ⟨by rw [hg7]; exact blk_new v1 _⟩
        have hst : Below v1.heap.size v1 (v1.alloc (.cells (nums .u8 (List.replicate 16 0)).toArray 52)) := below_alloc (Below.refl _ _) _
        rw [← hg7]
        generalize v1.alloc (.cells (nums .u8 (List.replicate 16 0)).toArray 52) = v10 at G7 hst ⊢
        clear hg7
        have HC := Aside0.mk (cipherAt_below HC.out HKN.out.1 hst)
        have HB := Aside0.mk (HB.out.trans (hst.mono HB.out.size))
        clear hst
        refine hK.out _ _ trivial (fun _ => ?_)
        clear hK K
        refine one_ (i := 3) (N := some 17) #[true, true, true, true, false, false, false, true, false] rfl rfl (one_of HT_.out (by kernel_rfl)) (by decide) (fun K hK => ?_)
        refine value_ (by rfl) rfl (run_conv_op _ _ _ _ _ rfl rfl Try.underlying9 Try.underlying28 Try.underlying5) ?_
        obtain ⟨gb, hgb⟩ : ∃ g, g = v10.heap.size := ⟨_, rfl⟩
        have HR : (Lib.bytesWorld v10 5 a1).rangeAt gb 0 (nums .u8 (bytesL a1)) := by rw [hgb]; exact bytes_range v10 5 a1
        have hst : Below v10.heap.size v10 (Lib.bytesWorld v10 5 a1) := bytes_below (Below.refl _ _) (Nat.le_refl _) _ _
        rw [← hgb, hs1]
        generalize grownCap v10 16 0 5 = cb
        generalize Lib.bytesWorld v10 5 a1 = v11 at HR hst ⊢
        clear hgb
        have HC := Aside0.mk (cipherAt_below HC.out HKN.out.1 hst)
        have G7 := Aside0.mk ((hst.block g7 (blk_lt G7.out)).trans G7.out)
        have HB := Aside0.mk (HB.out.trans (hst.mono HB.out.size))
        clear hst
        refine hK.out _ _ trivial (fun _ => ?_)
        clear hK K
        refine norm_ (a' := ?_) ?_ ?_
        rotate_left
        · show Act.put _ (some 17) _ = _
          simp only [Act.put, List.setIfInBounds_toArray, List.set_cons_zero, List.set_cons_succ, i64_w, i32_w]
          rfl
        have hHeld := HR
        clear HR
        refine swap_ (S := fun w' => w'.rangeAt gb 0 (nums .u8 (bytesL a1))) (ds := [8]) _ _ _ _ ?_
        refine pure_ (i := 4) (N := some 18) (v := ?_) (a' := ?_) #[true, true, true, true, true, false, false, true, false] rfl rfl (any_of HT_.out (by kernel_rfl)) (fun _ _ _ h => h) (Or.inl ⟨by rfl, ?_⟩) ?_ ?_
        rotate_left
        · intro w'
          refine arr_at_wp 52 (.tmp 17) (some ⟨gb, 0, none⟩) 16 cb 16 ?_ ?_ Try.underlying52 (Nat.le_refl 16) <;> rfl
        rotate_left
        · simp only [Act.put, List.setIfInBounds_toArray, List.set_cons_zero, List.set_cons_succ, i64_w, i32_w]
          rfl
        refine take_ (i := 5) (N := some 19) (v := ?_) (a' := ?_) #[true, true, true, true, true, true, false, true, false] rfl rfl (take_ofW HT_.out HW_.out (by kernel_rfl)) (fun _ _ _ h => h) ?hy12 hHeld ?heq12 ?hrest12
        case hy12 => (refine yieldsIf_load_mid ?_ 52 (.tmp 18) ?_ gb 0 ?_ (nums .u8 (bytesL a1)) _ ?_ Try.underlying52 ?_ ?_; rfl; rfl; rfl; exact (fun w_ h_ => h_); rfl; exact key_size (bytesL a1) HNB.out)
        case heq12 =>
          simp only [Act.put, List.setIfInBounds_toArray, List.set_cons_zero, List.set_cons_succ, i64_w, i32_w]
          rfl
        refine one_ (i := 6) (N := some 20) #[true, true, true, true, true, true, true, true, false] rfl rfl (one_of HT_.out (by kernel_rfl)) (by decide) (fun K hK => ?_)
        refine goes_ Try.func50 (by kernel_rfl) rfl #[.pointer (some ⟨g, 0, none⟩), arr8 (bytesL a1)] (by rfl) rfl rfl (by (try simp only [List.map_toArray, List.map_cons, List.map_nil]); first | done | rfl) ?_
        with_reducible refine (impl_encrypt_in keys _ g (bytesL a1) _ HC.out HKN.out HL1.out HOK.out).mono ?_
        rintro e v13 ⟨rfl, hst⟩
        refine ⟨_, rfl, ?_⟩
        have HC := Aside0.mk (cipherAt_below HC.out HKN.out.1 hst)
        have G7 := Aside0.mk ((hst.block g7 (blk_lt G7.out)).trans G7.out)
        have HR : v13.rangeAt gb 0 (nums .u8 (bytesL a1)) := range_below hHeld hst
        clear hHeld
        have HB := Aside0.mk (HB.out.trans (hst.mono HB.out.size))
        clear hst
        refine hK.out _ _ HR (fun hHeld => ?_)
        clear hK K HR
        refine norm_ (a' := ?_) ?_ ?_
        rotate_left
        · show Act.put _ (some 20) _ = _
          simp only [Act.put, List.setIfInBounds_toArray, List.set_cons_zero, List.set_cons_succ, i64_w, i32_w]
          rfl
        refine last_ (i := 8) (N := none) #[true, true, true, true, true, true, true, true, true] rfl rfl (one_of HT_.out (by kernel_rfl)) (by decide) (fun K hK => ?_)
        refine wp_store_row 52 (.tmp 7) (.tmp 20) (by rfl) g7 (nums .u8 (Aes.encL keys (bytesL a1))).toArray (by rfl) (by rfl) 52 _ G7.out (by rw [HSX.out]; kernel_rfl) (by rw [HSX.out]; rfl) (nums_one _ _) ?_
        simp only [Act.put]
        refine hK.out _ _ ?_
        clear hK K
        refine done_ (done_of HT_.out (by kernel_rfl)) ?_
        have G7 := Aside0.mk (setRow_heap v13 g7 _ (nums .u8 (Aes.encL keys (bytesL a1))).toArray _ _ G7.out)
        have HB := Aside0.mk (below_row HB.out HG7.out (nums .u8 (Aes.encL keys (bytesL a1))).toArray)
        generalize v13.setRow g7 (nums .u8 (Aes.encL keys (bytesL a1))).toArray = wF at G7 HB ⊢
        clear hHeld HC
        have ks := Kd.C_string (P := Try.prog) (dst := 9) (src := 28) (c := 16) Try.underlying28 Try.underlying5 Try.underlying9 (C_row_int (l := Aes.encL keys (bytesL a1)) G7.out (by rw [HFL.out]; decide))
        rw [HFL.out] at ks
        go_wp2
        go_ret2
        exact ⟨rfl, HB.out⟩
    · skip
      refine value_ (by rfl) rfl (run_conv_op _ _ _ _ _ rfl rfl Try.underlying9 Try.underlying28 Try.underlying5) ?_
      obtain ⟨gb, hgb⟩ : ∃ g, g = wD.heap.size := ⟨_, rfl⟩
      have HR : (Lib.bytesWorld wD 5 a1).rangeAt gb 0 (nums .u8 (bytesL a1)) := by rw [hgb]; exact bytes_range wD 5 a1
      have hst : Below wD.heap.size wD (Lib.bytesWorld wD 5 a1) := bytes_below (Below.refl _ _) (Nat.le_refl _) _ _
      rw [← hgb, hs1]
      generalize grownCap wD 16 0 5 = cb
      generalize Lib.bytesWorld wD 5 a1 = v15 at HR hst ⊢
      clear hgb
      have HB := Aside0.mk (HB.out.trans (hst.mono HB.out.size))
      clear hst
      refine hK.out _ _ trivial (fun _ => ?_)
      clear hK K
      refine norm_ (a' := ?_) ?_ ?_
      rotate_left
      · show Act.put _ (some 17) _ = _
        simp only [Act.put, List.setIfInBounds_toArray, List.set_cons_zero, List.set_cons_succ, i64_w, i32_w]
        rfl
      have hHeld := HR
      clear HR
      refine swap_ (S := fun w' => w'.rangeAt gb 0 (nums .u8 (bytesL a1))) (ds := [8]) _ _ _ _ ?_
      refine pure_ (i := 4) (N := some 18) (v := ?_) (a' := ?_) #[true, false, true, true, true, false, false, false, false] rfl rfl (any_of HT_.out (by kernel_rfl)) (fun _ _ _ h => h) (Or.inl ⟨by rfl, ?_⟩) ?_ ?_
      rotate_left
      · intro w'
        refine arr_at_wp 52 (.tmp 17) (some ⟨gb, 0, none⟩) 16 cb 16 ?_ ?_ Try.underlying52 (Nat.le_refl 16) <;> rfl
      rotate_left
      · simp only [Act.put, List.setIfInBounds_toArray, List.set_cons_zero, List.set_cons_succ, i64_w, i32_w]
        rfl
      refine take_ (i := 5) (N := some 19) (v := ?_) (a' := ?_) #[true, false, true, true, true, true, false, false, false] rfl rfl (take_ofW HT_.out HW_.out (by kernel_rfl)) (fun _ _ _ h => h) ?hy16 hHeld ?heq16 ?hrest16
      case hy16 => (refine yieldsIf_load_mid ?_ 52 (.tmp 18) ?_ gb 0 ?_ (nums .u8 (bytesL a1)) _ ?_ Try.underlying52 ?_ ?_; rfl; rfl; rfl; exact (fun w_ h_ => h_); rfl; exact key_size (bytesL a1) HNB.out)
      case heq16 =>
        simp only [Act.put, List.setIfInBounds_toArray, List.set_cons_zero, List.set_cons_succ, i64_w, i32_w]
        rfl
      refine two_ (i := 1) (j := 7) (Ni := some 15) (Nj := some 7) #[true, true, true, true, true, true, false, false, false] #[true, false, true, true, true, true, false, true, false] rfl rfl rfl rfl (two_of HT_.out (by kernel_rfl)) (by decide) (by decide) (fun K hK => ?_) (fun K hK => ?_)
      · skip
        refine goes_ Try.func44 (by kernel_rfl) rfl #[.string a0] (by rfl) rfl rfl (by (try simp only [List.map_toArray, List.map_cons, List.map_nil]); first | done | rfl) ?_
        with_reducible refine (impl_cipherOf_in a0 n _ HN.out HSN.out).mono ?_
        rintro e v17 ⟨g, rfl, hC, hst⟩
        rw [← HKE.out] at hC
        refine ⟨_, rfl, ?_⟩
        have HC := Aside0.mk hC
        clear hC
        have HR : v17.rangeAt gb 0 (nums .u8 (bytesL a1)) := range_below hHeld hst
        clear hHeld
        have HB := Aside0.mk (HB.out.trans (hst.mono HB.out.size))
        clear hst
        refine hK.out _ _ HR (fun hHeld => ?_)
        clear hK K HR
        refine norm_ (a' := ?_) ?_ ?_
        rotate_left
        · show Act.put _ (some 15) _ = _
          simp only [Act.put, List.setIfInBounds_toArray, List.set_cons_zero, List.set_cons_succ, i64_w, i32_w]
          rfl
        refine two_ (i := 6) (j := 7) (Ni := some 20) (Nj := some 7) #[true, true, true, true, true, true, true, false, false] #[true, true, true, true, true, true, false, true, false] rfl rfl rfl rfl (two_of HT_.out (by kernel_rfl)) (by decide) (by decide) (fun K hK => ?_) (fun K hK => ?_)
        · skip
          refine goes_ Try.func50 (by kernel_rfl) rfl #[.pointer (some ⟨g, 0, none⟩), arr8 (bytesL a1)] (by rfl) rfl rfl (by (try simp only [List.map_toArray, List.map_cons, List.map_nil]); first | done | rfl) ?_
          with_reducible refine (impl_encrypt_in keys _ g (bytesL a1) _ HC.out HKN.out HL1.out HOK.out).mono ?_
          rintro e v18 ⟨rfl, hst⟩
          refine ⟨_, rfl, ?_⟩
          have HC := Aside0.mk (cipherAt_below HC.out HKN.out.1 hst)
          have HR : v18.rangeAt gb 0 (nums .u8 (bytesL a1)) := range_below hHeld hst
          clear hHeld
          have HB := Aside0.mk (HB.out.trans (hst.mono HB.out.size))
          clear hst
          refine hK.out _ _ HR (fun hHeld => ?_)
          clear hK K HR
          refine norm_ (a' := ?_) ?_ ?_
          rotate_left
          · show Act.put _ (some 20) _ = _
            simp only [Act.put, List.setIfInBounds_toArray, List.set_cons_zero, List.set_cons_succ, i64_w, i32_w]
            rfl
          refine one_ (i := 7) (N := some 7) #[true, true, true, true, true, true, true, true, false] rfl rfl (one_of HT_.out (by kernel_rfl)) (by decide) (fun K hK => ?_)
          go_simp
          show K _ (v18.alloc (.cells (nums .u8 (List.replicate 16 0)).toArray 52))
          obtain ⟨g7, hg7⟩ : ∃ g, g = v18.heap.size := ⟨_, rfl⟩
          have HG7 : Aside0 (w0.heap.size ≤ g7) := ⟨by rw [hg7]; exact HB.out.size⟩
          have G7 : Aside0 ((v18.alloc (.cells (nums .u8 (List.replicate 16 0)).toArray 52)).heap[g7]? = some (.cells (nums .u8 (List.replicate 16 0)).toArray 52 (0, 0))) := ⟨by rw [hg7]; exact blk_new v18 _⟩
          have hst : Below v18.heap.size v18 (v18.alloc (.cells (nums .u8 (List.replicate 16 0)).toArray 52)) := below_alloc (Below.refl _ _) _
          rw [← hg7]
          generalize v18.alloc (.cells (nums .u8 (List.replicate 16 0)).toArray 52) = v19 at G7 hst ⊢
          clear hg7
          have HC := Aside0.mk (cipherAt_below HC.out HKN.out.1 hst)
          have HR : v19.rangeAt gb 0 (nums .u8 (bytesL a1)) := range_below hHeld hst
          clear hHeld
          have HB := Aside0.mk (HB.out.trans (hst.mono HB.out.size))
          clear hst
          refine hK.out _ _ HR (fun hHeld => ?_)
          clear hK K HR
          refine last_ (i := 8) (N := none) #[true, true, true, true, true, true, true, true, true] rfl rfl (one_of HT_.out (by kernel_rfl)) (by decide) (fun K hK => ?_)
          refine wp_store_row 52 (.tmp 7) (.tmp 20) (by rfl) g7 (nums .u8 (Aes.encL keys (bytesL a1))).toArray (by rfl) (by rfl) 52 _ G7.out (by rw [HSX.out]; kernel_rfl) (by rw [HSX.out]; rfl) (nums_one _ _) ?_
          simp only [Act.put]
          refine hK.out _ _ ?_
          clear hK K
          refine done_ (done_of HT_.out (by kernel_rfl)) ?_
          have G7 := Aside0.mk (setRow_heap v19 g7 _ (nums .u8 (Aes.encL keys (bytesL a1))).toArray _ _ G7.out)
          have HB := Aside0.mk (below_row HB.out HG7.out (nums .u8 (Aes.encL keys (bytesL a1))).toArray)
          generalize v19.setRow g7 (nums .u8 (Aes.encL keys (bytesL a1))).toArray = wF at G7 HB ⊢
          clear hHeld HC
          have ks := Kd.C_string (P := Try.prog) (dst := 9) (src := 28) (c := 16) Try.underlying28 Try.underlying5 Try.underlying9 (C_row_int (l := Aes.encL keys (bytesL a1)) G7.out (by rw [HFL.out]; decide))
          rw [HFL.out] at ks
          go_wp2
          go_ret2
          exact ⟨rfl, HB.out⟩
        · skip
          go_simp
          show K _ (v17.alloc (.cells (nums .u8 (List.replicate 16 0)).toArray 52))
          obtain ⟨g7, hg7⟩ : ∃ g, g = v17.heap.size := ⟨_, rfl⟩
          have HG7 : Aside0 (w0.heap.size ≤ g7) := ⟨by rw [hg7]; exact HB.out.size⟩
          have G7 : Aside0 ((v17.alloc (.cells (nums .u8 (List.replicate 16 0)).toArray 52)).heap[g7]? = some (.cells (nums .u8 (List.replicate 16 0)).toArray 52 (0, 0))) := ⟨by rw [hg7]; exact blk_new v17 _⟩
          have hst : Below v17.heap.size v17 (v17.alloc (.cells (nums .u8 (List.replicate 16 0)).toArray 52)) := below_alloc (Below.refl _ _) _
          rw [← hg7]
          generalize v17.alloc (.cells (nums .u8 (List.replicate 16 0)).toArray 52) = v21 at G7 hst ⊢
          clear hg7
          have HC := Aside0.mk (cipherAt_below HC.out HKN.out.1 hst)
          have HR : v21.rangeAt gb 0 (nums .u8 (bytesL a1)) := range_below hHeld hst
          clear hHeld
          have HB := Aside0.mk (HB.out.trans (hst.mono HB.out.size))
          clear hst
          refine hK.out _ _ HR (fun hHeld => ?_)
          clear hK K HR
          refine one_ (i := 6) (N := some 20) #[true, true, true, true, true, true, true, true, false] rfl rfl (one_of HT_.out (by kernel_rfl)) (by decide) (fun K hK => ?_)
          refine goes_ Try.func50 (by kernel_rfl) rfl #[.pointer (some ⟨g, 0, none⟩), arr8 (bytesL a1)] (by rfl) rfl rfl (by (try simp only [List.map_toArray, List.map_cons, List.map_nil]); first | done | rfl) ?_
          with_reducible refine (impl_encrypt_in keys _ g (bytesL a1) _ HC.out HKN.out HL1.out HOK.out).mono ?_
          rintro e v22 ⟨rfl, hst⟩
          refine ⟨_, rfl, ?_⟩
          have HC := Aside0.mk (cipherAt_below HC.out HKN.out.1 hst)
          have G7 := Aside0.mk ((hst.block g7 (blk_lt G7.out)).trans G7.out)
          have HR : v22.rangeAt gb 0 (nums .u8 (bytesL a1)) := range_below hHeld hst
          clear hHeld
          have HB := Aside0.mk (HB.out.trans (hst.mono HB.out.size))
          clear hst
          refine hK.out _ _ HR (fun hHeld => ?_)
          clear hK K HR
          refine norm_ (a' := ?_) ?_ ?_
          rotate_left
          · show Act.put _ (some 20) _ = _
            simp only [Act.put, List.setIfInBounds_toArray, List.set_cons_zero, List.set_cons_succ, i64_w, i32_w]
            rfl
          refine last_ (i := 8) (N := none) #[true, true, true, true, true, true, true, true, true] rfl rfl (one_of HT_.out (by kernel_rfl)) (by decide) (fun K hK => ?_)
          refine wp_store_row 52 (.tmp 7) (.tmp 20) (by rfl) g7 (nums .u8 (Aes.encL keys (bytesL a1))).toArray (by rfl) (by rfl) 52 _ G7.out (by rw [HSX.out]; kernel_rfl) (by rw [HSX.out]; rfl) (nums_one _ _) ?_
          simp only [Act.put]
          refine hK.out _ _ ?_
          clear hK K
          refine done_ (done_of HT_.out (by kernel_rfl)) ?_
          have G7 := Aside0.mk (setRow_heap v22 g7 _ (nums .u8 (Aes.encL keys (bytesL a1))).toArray _ _ G7.out)
          have HB := Aside0.mk (below_row HB.out HG7.out (nums .u8 (Aes.encL keys (bytesL a1))).toArray)
          generalize v22.setRow g7 (nums .u8 (Aes.encL keys (bytesL a1))).toArray = wF at G7 HB ⊢
          clear hHeld HC
          have ks := Kd.C_string (P := Try.prog) (dst := 9) (src := 28) (c := 16) Try.underlying28 Try.underlying5 Try.underlying9 (C_row_int (l := Aes.encL keys (bytesL a1)) G7.out (by rw [HFL.out]; decide))
          rw [HFL.out] at ks
          go_wp2
          go_ret2
          exact ⟨rfl, HB.out⟩
      · skip
        go_simp
        show K _ (v15.alloc (.cells (nums .u8 (List.replicate 16 0)).toArray 52))
        obtain ⟨g7, hg7⟩ : ∃ g, g = v15.heap.size := ⟨_, rfl⟩
        have HG7 : Aside0 (w0.heap.size ≤ g7) := ⟨by rw [hg7]; exact HB.out.size⟩
        have G7 : Aside0 ((v15.alloc (.cells (nums .u8 (List.replicate 16 0)).toArray 52)).heap[g7]? = some (.cells (nums .u8 (List.replicate 16 0)).toArray 52 (0, 0))) := ⟨by rw [hg7]; exact blk_new v15 _⟩
        have hst : Below v15.heap.size v15 (v15.alloc (.cells (nums .u8 (List.replicate 16 0)).toArray 52)) := below_alloc (Below.refl _ _) _
        rw [← hg7]
        generalize v15.alloc (.cells (nums .u8 (List.replicate 16 0)).toArray 52) = v24 at G7 hst ⊢
        clear hg7
        have HR : v24.rangeAt gb 0 (nums .u8 (bytesL a1)) := range_below hHeld hst
        clear hHeld
        have HB := Aside0.mk (HB.out.trans (hst.mono HB.out.size))
        clear hst
        refine hK.out _ _ HR (fun hHeld => ?_)
        clear hK K HR
        refine one_ (i := 1) (N := some 15) #[true, true, true, true, true, true, false, true, false] rfl rfl (one_of HT_.out (by kernel_rfl)) (by decide) (fun K hK => ?_)
        refine goes_ Try.func44 (by kernel_rfl) rfl #[.string a0] (by rfl) rfl rfl (by (try simp only [List.map_toArray, List.map_cons, List.map_nil]); first | done | rfl) ?_
        with_reducible refine (impl_cipherOf_in a0 n _ HN.out HSN.out).mono ?_
        rintro e v25 ⟨g, rfl, hC, hst⟩
        rw [← HKE.out] at hC
        refine ⟨_, rfl, ?_⟩
        have HC := Aside0.mk hC
        clear hC
        have G7 := Aside0.mk ((hst.block g7 (blk_lt G7.out)).trans G7.out)
        have HR : v25.rangeAt gb 0 (nums .u8 (bytesL a1)) := range_below hHeld hst
        clear hHeld
        have HB := Aside0.mk (HB.out.trans (hst.mono HB.out.size))
        clear hst
        refine hK.out _ _ HR (fun hHeld => ?_)
        clear hK K HR
        refine norm_ (a' := ?_) ?_ ?_
        rotate_left
        · show Act.put _ (some 15) _ = _
          simp only [Act.put, List.setIfInBounds_toArray, List.set_cons_zero, List.set_cons_succ, i64_w, i32_w]
          rfl
        refine one_ (i := 6) (N := some 20) #[true, true, true, true, true, true, true, true, false] rfl rfl (one_of HT_.out (by kernel_rfl)) (by decide) (fun K hK => ?_)
        refine goes_ Try.func50 (by kernel_rfl) rfl #[.pointer (some ⟨g, 0, none⟩), arr8 (bytesL a1)] (by rfl) rfl rfl (by (try simp only [List.map_toArray, List.map_cons, List.map_nil]); first | done | rfl) ?_
        with_reducible refine (impl_encrypt_in keys _ g (bytesL a1) _ HC.out HKN.out HL1.out HOK.out).mono ?_
        rintro e v26 ⟨rfl, hst⟩
        refine ⟨_, rfl, ?_⟩
        have HC := Aside0.mk (cipherAt_below HC.out HKN.out.1 hst)
        have G7 := Aside0.mk ((hst.block g7 (blk_lt G7.out)).trans G7.out)
        have HR : v26.rangeAt gb 0 (nums .u8 (bytesL a1)) := range_below hHeld hst
        clear hHeld
        have HB := Aside0.mk (HB.out.trans (hst.mono HB.out.size))
        clear hst
        refine hK.out _ _ HR (fun hHeld => ?_)
        clear hK K HR
        refine norm_ (a' := ?_) ?_ ?_
        rotate_left
        · show Act.put _ (some 20) _ = _
          simp only [Act.put, List.setIfInBounds_toArray, List.set_cons_zero, List.set_cons_succ, i64_w, i32_w]
          rfl
        refine last_ (i := 8) (N := none) #[true, true, true, true, true, true, true, true, true] rfl rfl (one_of HT_.out (by kernel_rfl)) (by decide) (fun K hK => ?_)
        refine wp_store_row 52 (.tmp 7) (.tmp 20) (by rfl) g7 (nums .u8 (Aes.encL keys (bytesL a1))).toArray (by rfl) (by rfl) 52 _ G7.out (by rw [HSX.out]; kernel_rfl) (by rw [HSX.out]; rfl) (nums_one _ _) ?_
        simp only [Act.put]
        refine hK.out _ _ ?_
        clear hK K
        refine done_ (done_of HT_.out (by kernel_rfl)) ?_
        have G7 := Aside0.mk (setRow_heap v26 g7 _ (nums .u8 (Aes.encL keys (bytesL a1))).toArray _ _ G7.out)
        have HB := Aside0.mk (below_row HB.out HG7.out (nums .u8 (Aes.encL keys (bytesL a1))).toArray)
        generalize v26.setRow g7 (nums .u8 (Aes.encL keys (bytesL a1))).toArray = wF at G7 HB ⊢
        clear hHeld HC
        have ks := Kd.C_string (P := Try.prog) (dst := 9) (src := 28) (c := 16) Try.underlying28 Try.underlying5 Try.underlying9 (C_row_int (l := Aes.encL keys (bytesL a1)) G7.out (by rw [HFL.out]; decide))
        rw [HFL.out] at ks
        go_wp2
        go_ret2
        exact ⟨rfl, HB.out⟩
    · skip
      go_simp
      show K _ (wD.alloc (.cells (nums .u8 (List.replicate 16 0)).toArray 52))
      obtain ⟨g7, hg7⟩ : ∃ g, g = wD.heap.size := ⟨_, rfl⟩
      have HG7 : Aside0 (w0.heap.size ≤ g7) := ⟨by rw [hg7]; exact HB.out.size⟩
      have G7 : Aside0 ((wD.alloc (.cells (nums .u8 (List.replicate 16 0)).toArray 52)).heap[g7]? = some (.cells (nums .u8 (List.replicate 16 0)).toArray 52 (0, 0))) := ⟨by rw [hg7]; exact blk_new wD _⟩
      have hst : Below wD.heap.size wD (wD.alloc (.cells (nums .u8 (List.replicate 16 0)).toArray 52)) := below_alloc (Below.refl _ _) _
      rw [← hg7]
      generalize wD.alloc (.cells (nums .u8 (List.replicate 16 0)).toArray 52) = v28 at G7 hst ⊢
      clear hg7
      have HB := Aside0.mk (HB.out.trans (hst.mono HB.out.size))
      clear hst
      refine hK.out _ _ trivial (fun _ => ?_)
      clear hK K
      refine two_ (i := 1) (j := 3) (Ni := some 15) (Nj := some 17) #[true, true, true, false, false, false, false, true, false] #[true, false, true, true, false, false, false, true, false] rfl rfl rfl rfl (two_of HT_.out (by kernel_rfl)) (by decide) (by decide) (fun K hK => ?_) (fun K hK => ?_)
      · skip
        refine goes_ Try.func44 (by kernel_rfl) rfl #[.string a0] (by rfl) rfl rfl (by (try simp only [List.map_toArray, List.map_cons, List.map_nil]); first | done | rfl) ?_
        with_reducible refine (impl_cipherOf_in a0 n _ HN.out HSN.out).mono ?_
        rintro e v29 ⟨g, rfl, hC, hst⟩
        rw [← HKE.out] at hC
        refine ⟨_, rfl, ?_⟩
        have HC := Aside0.mk hC
        clear hC
        have G7 := Aside0.mk ((hst.block g7 (blk_lt G7.out)).trans G7.out)
        have HB := Aside0.mk (HB.out.trans (hst.mono HB.out.size))
        clear hst
        refine hK.out _ _ trivial (fun _ => ?_)
        clear hK K
        refine norm_ (a' := ?_) ?_ ?_
        rotate_left
        · show Act.put _ (some 15) _ = _
          simp only [Act.put, List.setIfInBounds_toArray, List.set_cons_zero, List.set_cons_succ, i64_w, i32_w]
          rfl
        refine one_ (i := 3) (N := some 17) #[true, true, true, true, false, false, false, true, false] rfl rfl (one_of HT_.out (by kernel_rfl)) (by decide) (fun K hK => ?_)
        refine value_ (by rfl) rfl (run_conv_op _ _ _ _ _ rfl rfl Try.underlying9 Try.underlying28 Try.underlying5) ?_
        obtain ⟨gb, hgb⟩ : ∃ g, g = v29.heap.size := ⟨_, rfl⟩
        have HR : (Lib.bytesWorld v29 5 a1).rangeAt gb 0 (nums .u8 (bytesL a1)) := by rw [hgb]; exact bytes_range v29 5 a1
        have hst : Below v29.heap.size v29 (Lib.bytesWorld v29 5 a1) := bytes_below (Below.refl _ _) (Nat.le_refl _) _ _
        rw [← hgb, hs1]
        generalize grownCap v29 16 0 5 = cb
        generalize Lib.bytesWorld v29 5 a1 = v30 at HR hst ⊢
        clear hgb
        have HC := Aside0.mk (cipherAt_below HC.out HKN.out.1 hst)
        have G7 := Aside0.mk ((hst.block g7 (blk_lt G7.out)).trans G7.out)
        have HB := Aside0.mk (HB.out.trans (hst.mono HB.out.size))
        clear hst
        refine hK.out _ _ trivial (fun _ => ?_)
        clear hK K
        refine norm_ (a' := ?_) ?_ ?_
        rotate_left
        · show Act.put _ (some 17) _ = _
          simp only [Act.put, List.setIfInBounds_toArray, List.set_cons_zero, List.set_cons_succ, i64_w, i32_w]
          rfl
        have hHeld := HR
        clear HR
        refine swap_ (S := fun w' => w'.rangeAt gb 0 (nums .u8 (bytesL a1))) (ds := [8]) _ _ _ _ ?_
        refine pure_ (i := 4) (N := some 18) (v := ?_) (a' := ?_) #[true, true, true, true, true, false, false, true, false] rfl rfl (any_of HT_.out (by kernel_rfl)) (fun _ _ _ h => h) (Or.inl ⟨by rfl, ?_⟩) ?_ ?_
        rotate_left
        · intro w'
          refine arr_at_wp 52 (.tmp 17) (some ⟨gb, 0, none⟩) 16 cb 16 ?_ ?_ Try.underlying52 (Nat.le_refl 16) <;> rfl
        rotate_left
        · simp only [Act.put, List.setIfInBounds_toArray, List.set_cons_zero, List.set_cons_succ, i64_w, i32_w]
          rfl
        refine take_ (i := 5) (N := some 19) (v := ?_) (a' := ?_) #[true, true, true, true, true, true, false, true, false] rfl rfl (take_ofW HT_.out HW_.out (by kernel_rfl)) (fun _ _ _ h => h) ?hy31 hHeld ?heq31 ?hrest31
        case hy31 => (refine yieldsIf_load_mid ?_ 52 (.tmp 18) ?_ gb 0 ?_ (nums .u8 (bytesL a1)) _ ?_ Try.underlying52 ?_ ?_; rfl; rfl; rfl; exact (fun w_ h_ => h_); rfl; exact key_size (bytesL a1) HNB.out)
        case heq31 =>
          simp only [Act.put, List.setIfInBounds_toArray, List.set_cons_zero, List.set_cons_succ, i64_w, i32_w]
          rfl
        refine one_ (i := 6) (N := some 20) #[true, true, true, true, true, true, true, true, false] rfl rfl (one_of HT_.out (by kernel_rfl)) (by decide) (fun K hK => ?_)
        refine goes_ Try.func50 (by kernel_rfl) rfl #[.pointer (some ⟨g, 0, none⟩), arr8 (bytesL a1)] (by rfl) rfl rfl (by (try simp only [List.map_toArray, List.map_cons, List.map_nil]); first | done | rfl) ?_
        with_reducible refine (impl_encrypt_in keys _ g (bytesL a1) _ HC.out HKN.out HL1.out HOK.out).mono ?_
        rintro e v32 ⟨rfl, hst⟩
        refine ⟨_, rfl, ?_⟩
        have HC := Aside0.mk (cipherAt_below HC.out HKN.out.1 hst)
        have G7 := Aside0.mk ((hst.block g7 (blk_lt G7.out)).trans G7.out)
        have HR : v32.rangeAt gb 0 (nums .u8 (bytesL a1)) := range_below hHeld hst
        clear hHeld
        have HB := Aside0.mk (HB.out.trans (hst.mono HB.out.size))
        clear hst
        refine hK.out _ _ HR (fun hHeld => ?_)
        clear hK K HR
        refine norm_ (a' := ?_) ?_ ?_
        rotate_left
        · show Act.put _ (some 20) _ = _
          simp only [Act.put, List.setIfInBounds_toArray, List.set_cons_zero, List.set_cons_succ, i64_w, i32_w]
          rfl
        refine last_ (i := 8) (N := none) #[true, true, true, true, true, true, true, true, true] rfl rfl (one_of HT_.out (by kernel_rfl)) (by decide) (fun K hK => ?_)
        refine wp_store_row 52 (.tmp 7) (.tmp 20) (by rfl) g7 (nums .u8 (Aes.encL keys (bytesL a1))).toArray (by rfl) (by rfl) 52 _ G7.out (by rw [HSX.out]; kernel_rfl) (by rw [HSX.out]; rfl) (nums_one _ _) ?_
        simp only [Act.put]
        refine hK.out _ _ ?_
        clear hK K
        refine done_ (done_of HT_.out (by kernel_rfl)) ?_
        have G7 := Aside0.mk (setRow_heap v32 g7 _ (nums .u8 (Aes.encL keys (bytesL a1))).toArray _ _ G7.out)
        have HB := Aside0.mk (below_row HB.out HG7.out (nums .u8 (Aes.encL keys (bytesL a1))).toArray)
        generalize v32.setRow g7 (nums .u8 (Aes.encL keys (bytesL a1))).toArray = wF at G7 HB ⊢
        clear hHeld HC
        have ks := Kd.C_string (P := Try.prog) (dst := 9) (src := 28) (c := 16) Try.underlying28 Try.underlying5 Try.underlying9 (C_row_int (l := Aes.encL keys (bytesL a1)) G7.out (by rw [HFL.out]; decide))
        rw [HFL.out] at ks
        go_wp2
        go_ret2
        exact ⟨rfl, HB.out⟩
      · skip
        refine value_ (by rfl) rfl (run_conv_op _ _ _ _ _ rfl rfl Try.underlying9 Try.underlying28 Try.underlying5) ?_
        obtain ⟨gb, hgb⟩ : ∃ g, g = v28.heap.size := ⟨_, rfl⟩
        have HR : (Lib.bytesWorld v28 5 a1).rangeAt gb 0 (nums .u8 (bytesL a1)) := by rw [hgb]; exact bytes_range v28 5 a1
        have hst : Below v28.heap.size v28 (Lib.bytesWorld v28 5 a1) := bytes_below (Below.refl _ _) (Nat.le_refl _) _ _
        rw [← hgb, hs1]
        generalize grownCap v28 16 0 5 = cb
        generalize Lib.bytesWorld v28 5 a1 = v34 at HR hst ⊢
        clear hgb
        have G7 := Aside0.mk ((hst.block g7 (blk_lt G7.out)).trans G7.out)
        have HB := Aside0.mk (HB.out.trans (hst.mono HB.out.size))
        clear hst
        refine hK.out _ _ trivial (fun _ => ?_)
        clear hK K
        refine norm_ (a' := ?_) ?_ ?_
        rotate_left
        · show Act.put _ (some 17) _ = _
          simp only [Act.put, List.setIfInBounds_toArray, List.set_cons_zero, List.set_cons_succ, i64_w, i32_w]
          rfl
        have hHeld := HR
        clear HR
        refine swap_ (S := fun w' => w'.rangeAt gb 0 (nums .u8 (bytesL a1))) (ds := [8]) _ _ _ _ ?_
        refine pure_ (i := 4) (N := some 18) (v := ?_) (a' := ?_) #[true, false, true, true, true, false, false, true, false] rfl rfl (any_of HT_.out (by kernel_rfl)) (fun _ _ _ h => h) (Or.inl ⟨by rfl, ?_⟩) ?_ ?_
        rotate_left
        · intro w'
          refine arr_at_wp 52 (.tmp 17) (some ⟨gb, 0, none⟩) 16 cb 16 ?_ ?_ Try.underlying52 (Nat.le_refl 16) <;> rfl
        rotate_left
        · simp only [Act.put, List.setIfInBounds_toArray, List.set_cons_zero, List.set_cons_succ, i64_w, i32_w]
          rfl
        refine take_ (i := 5) (N := some 19) (v := ?_) (a' := ?_) #[true, false, true, true, true, true, false, true, false] rfl rfl (take_ofW HT_.out HW_.out (by kernel_rfl)) (fun _ _ _ h => h) ?hy35 hHeld ?heq35 ?hrest35
        case hy35 => (refine yieldsIf_load_mid ?_ 52 (.tmp 18) ?_ gb 0 ?_ (nums .u8 (bytesL a1)) _ ?_ Try.underlying52 ?_ ?_; rfl; rfl; rfl; exact (fun w_ h_ => h_); rfl; exact key_size (bytesL a1) HNB.out)
        case heq35 =>
          simp only [Act.put, List.setIfInBounds_toArray, List.set_cons_zero, List.set_cons_succ, i64_w, i32_w]
          rfl
        refine one_ (i := 1) (N := some 15) #[true, true, true, true, true, true, false, true, false] rfl rfl (one_of HT_.out (by kernel_rfl)) (by decide) (fun K hK => ?_)
        refine goes_ Try.func44 (by kernel_rfl) rfl #[.string a0] (by rfl) rfl rfl (by (try simp only [List.map_toArray, List.map_cons, List.map_nil]); first | done | rfl) ?_
        with_reducible refine (impl_cipherOf_in a0 n _ HN.out HSN.out).mono ?_
        rintro e v36 ⟨g, rfl, hC, hst⟩
        rw [← HKE.out] at hC
        refine ⟨_, rfl, ?_⟩
        have HC := Aside0.mk hC
        clear hC
        have G7 := Aside0.mk ((hst.block g7 (blk_lt G7.out)).trans G7.out)
        have HR : v36.rangeAt gb 0 (nums .u8 (bytesL a1)) := range_below hHeld hst
        clear hHeld
        have HB := Aside0.mk (HB.out.trans (hst.mono HB.out.size))
        clear hst
        refine hK.out _ _ HR (fun hHeld => ?_)
        clear hK K HR
        refine norm_ (a' := ?_) ?_ ?_
        rotate_left
        · show Act.put _ (some 15) _ = _
          simp only [Act.put, List.setIfInBounds_toArray, List.set_cons_zero, List.set_cons_succ, i64_w, i32_w]
          rfl
        refine one_ (i := 6) (N := some 20) #[true, true, true, true, true, true, true, true, false] rfl rfl (one_of HT_.out (by kernel_rfl)) (by decide) (fun K hK => ?_)
        refine goes_ Try.func50 (by kernel_rfl) rfl #[.pointer (some ⟨g, 0, none⟩), arr8 (bytesL a1)] (by rfl) rfl rfl (by (try simp only [List.map_toArray, List.map_cons, List.map_nil]); first | done | rfl) ?_
        with_reducible refine (impl_encrypt_in keys _ g (bytesL a1) _ HC.out HKN.out HL1.out HOK.out).mono ?_
        rintro e v37 ⟨rfl, hst⟩
        refine ⟨_, rfl, ?_⟩
        have HC := Aside0.mk (cipherAt_below HC.out HKN.out.1 hst)
        have G7 := Aside0.mk ((hst.block g7 (blk_lt G7.out)).trans G7.out)
        have HR : v37.rangeAt gb 0 (nums .u8 (bytesL a1)) := range_below hHeld hst
        clear hHeld
        have HB := Aside0.mk (HB.out.trans (hst.mono HB.out.size))
        clear hst
        refine hK.out _ _ HR (fun hHeld => ?_)
        clear hK K HR
        refine norm_ (a' := ?_) ?_ ?_
        rotate_left
        · show Act.put _ (some 20) _ = _
          simp only [Act.put, List.setIfInBounds_toArray, List.set_cons_zero, List.set_cons_succ, i64_w, i32_w]
          rfl
        refine last_ (i := 8) (N := none) #[true, true, true, true, true, true, true, true, true] rfl rfl (one_of HT_.out (by kernel_rfl)) (by decide) (fun K hK => ?_)
        refine wp_store_row 52 (.tmp 7) (.tmp 20) (by rfl) g7 (nums .u8 (Aes.encL keys (bytesL a1))).toArray (by rfl) (by rfl) 52 _ G7.out (by rw [HSX.out]; kernel_rfl) (by rw [HSX.out]; rfl) (nums_one _ _) ?_
        simp only [Act.put]
        refine hK.out _ _ ?_
        clear hK K
        refine done_ (done_of HT_.out (by kernel_rfl)) ?_
        have G7 := Aside0.mk (setRow_heap v37 g7 _ (nums .u8 (Aes.encL keys (bytesL a1))).toArray _ _ G7.out)
        have HB := Aside0.mk (below_row HB.out HG7.out (nums .u8 (Aes.encL keys (bytesL a1))).toArray)
        generalize v37.setRow g7 (nums .u8 (Aes.encL keys (bytesL a1))).toArray = wF at G7 HB ⊢
        clear hHeld HC
        have ks := Kd.C_string (P := Try.prog) (dst := 9) (src := 28) (c := 16) Try.underlying28 Try.underlying5 Try.underlying9 (C_row_int (l := Aes.encL keys (bytesL a1)) G7.out (by rw [HFL.out]; decide))
        rw [HFL.out] at ks
        go_wp2
        go_ret2
        exact ⟨rfl, HB.out⟩
  · have hr : some ((⟨#[]⟩ : ByteArray), blockCodeOf a0 a1) = some (r1, r2) := by
      rw [← h]; unfold blockCodeOf
      by_cases h1 : 65536 < a0.size ∨ 65536 < a1.size
      · rw [if_pos h1, if_pos h1]
      · rw [if_neg h1, if_neg h1]
        rw [if_neg (fun x => hg ⟨h1, x⟩), if_neg (fun x => hg ⟨h1, x⟩)]
    obtain ⟨rfl, rfl⟩ : (⟨#[]⟩ : ByteArray) = r1 ∧ blockCodeOf a0 a1 = r2 := by simpa using hr
    have hn : (blockCodeOf a0 a1 != 0) = true := by
      rw [bne_iff_ne]; unfold blockCodeOf
      by_cases h1 : 65536 < a0.size ∨ 65536 < a1.size
      · rw [if_pos h1]; decide
      · rw [if_neg h1, if_neg (fun x => hg ⟨h1, x⟩)]; decide
    clear h hg hr
    generalize blockCodeOf a0 a1 = bc at hn HF ⊢
    go_enter Try.func23, Try.ntmps23
    go_wp2_with fail
    refine (impl_blockCode.calls a0 a1 _ _ HF.out).mono ?_
    rintro e W1 ⟨rfl, hb1⟩
    have HB := Aside0.mk hb1
    clear hb1
    go_wp2
    go_ret2
    exact ⟨rfl, HB.out⟩
end Go.Proofs.Ytfbggdlidelliaa.P

/- Laid by a program of this session: of Pt13 what this law uses. -/
import Derived.Test.YtlfpogbonmddmaaZFsM11
namespace Go.Proofs.Ytlfpogbonmddmaa.P
open Go.RowKit Go.Proofs.YtlfpogbonmddmaaW.PrintWords Go.Proofs.YtlfpogbonmddmaaW.PrintLast Go.Proofs.YtlfpogbonmddmaaW.PrintMore
attribute [local go_sem] min2_int min_two
set_option linter.unusedVariables false
set_option linter.unusedSimpArgs false
def bytes_Clone.f (l0 : List Int) : Option (List Int) := if l0.length < 140737488355328 then some l0 else none
set_option maxHeartbeats 4000000 in
set_option maxRecDepth 100000 in
theorem bytes_Clone.calls (A0 : Option Addr) (c0 : Nat) (l0 : List Int) (r : List Int) (w : World) (hr0 : Kd.C (Kd.int .u8) w A0 l0.length l0) (hc0 : l0.length ≤ c0) (h : bytes_Clone.f l0 = some r) :
   Calls Try.prog 100 #[.slice A0 l0.length c0] w fun e w' => ∃ v0_ : Value, e = .returned (v0_) ∧ Kd.R (Kd.int .u8) 5 w' w.heap.size (fun _ => True) v0_ r ∧ Below w.heap.size w w' := by
 have HR0 := Aside0.mk hr0
 have HC0 := Aside0.mk hc0
 have HB := Aside0.mk (Below.refl w.heap.size w)
 unfold bytes_Clone.f at h
 by_cases c2 : l0.length < 140737488355328
 · rw [if_pos c2] at h
   injection h with h
   subst h
   have LMc2 := Aside0.mk c2
   clear c2
   have q22 : ∀ (w : World) (a : Option Addr) (n c n' c' : Nat), (binOp .eql 22 (.slice a n c) (.slice none n' c')).run Try.prog w = .ok (.bool a.isNone) w := fun w a n c n' c' => Lib.run_eql_slice_nil w _ _ a n c n' c' Try.underlying22
   cases A0 with
   | none =>
     have h0 : l0 = [] := by
       rcases Nat.eq_zero_or_pos l0.length with e | e
       · exact List.eq_nil_of_length_eq_zero e
       · obtain ⟨ad, e1, _⟩ := hr0.2.2 e
         cases e1
     subst h0
     clear hr0 hc0
     go_enter Try.func100, Try.ntmps100
     go_wp2
     go_ret
     exact ⟨_, rfl, Kd.R_nil _ _ _ _ _, HB.out⟩
   | some ad =>
     clear hr0 hc0
     obtain ⟨y101, hy101⟩ : ∃ y_ : List Int, y_ = (([] : List Int)) := ⟨_, rfl⟩
     have Ny101 := Aside0.mk hy101
     obtain ⟨y104, hy104⟩ : ∃ y_ : List Int, y_ = (y101 ++ l0) := ⟨_, rfl⟩
     have Ny104 := Aside0.mk hy104
     clear hy101 hy104
     go_enter Try.func100, Try.ntmps100
     go_wp2_with (first | ((with_reducible refine gate_dst (N := 5) rfl ?_); refine Kd.R_lit (Kd.int .u8) _ 5 ?hg (N := 5) ?hd (xs := ([] : List Int)) (inner := []) (ok := fun _ => True) (okp := fun _ => True) ?hr ?hp (fun _ hk => hk) trivial (Below.refl _ _) (Nat.le_refl _) (by simp) ?_; (case hd => rfl); (case hg => rfl); (case hr => first | (go_simp; done) | (go_simp; rfl)); (case hp => exact (Reps.none _ _)); intro v102 w3 ho4 hb hg_ hnew_; clear hg_ hnew_; (first | rw [← Ny101.out] at ho4 | (simp only [Int.reduceToNat] at ho4; rw [← Ny101.out] at ho4)); have n0_ := Aside0.mk (Kd.R_lower ho4 (below_size HB.out)); have n1_ := Aside0.mk (below_step HB.out hb); clear HB; have HO103 := n0_; have HB := n1_; clear n0_ n1_; clear hb ho4) | ((with_reducible refine gate_builtin (b := .append) (xs := #[.tmp 5, .tmp 6]) rfl ?_); at_builtin; refine Kd.R_append_rows (Kd.int .u8) (w0 := w) w.heap.size rfl (.tmp 5) (.tmp 6) 22 5 (.int .u8 0) 1 rfl Try.underlying22 info5 rfl (by decide) (by omega) v102 y101 l0 _ _ _ (fun _ => True) (fun _ => False) rfl rfl ?aO ?aR (fun _ _ h => h) (fun _ h => h.elim) ?aF ?aB ?aS ?aL ?_; (case aR => exact (Kd.C_below HR0.out HB.out)); (case aB => exact HB.out); (case aF => exact (fun _ _ => trivial)); (case aO => exact HO103.out); (case aS => exact (below_size HB.out)); (case aL => have := LMc2.out; have e := Ny101.out; subst e; simp; omega); intro v105 w5 ho hb hg hat; rw [← Ny104.out] at ho; have n0_ := Aside0.mk (hb); have n1_ := Aside0.mk (ho); clear HB; clear HO103; have HB := n0_; have HO106 := n1_; clear n0_ n1_; clear ho hb hg hat))
     go_ret
     have e1 := Ny104.out
     have e2 := Ny101.out
     subst e2
     simp only [List.nil_append] at e1
     subst e1
     exact ⟨_, rfl, HO106.out, HB.out⟩
 · rw [if_neg c2] at h
   exact absurd h (by simp)
def xorL (a b : List Int) : List Int := List.zipWith (fun x y => Go.bits .xor .u8 x y) a b
def xorTo (a b : List Int) (k : Nat) : List Int := (xorL a b).take k ++ a.drop k
theorem impl_xor_info : (Try.prog.info? 110).map (·.size) = some 16 := by kernel_rfl
theorem xorL_length (a b : List Int) (h : a.length = b.length) : (xorL a b).length = a.length := by simp [xorL, h]
theorem xorTo_zero (a b : List Int) : xorTo a b 0 = a := by simp [xorTo]
theorem xorTo_length (a b : List Int) (h : a.length = b.length) (k : Nat) (hk : k ≤ a.length) : (xorTo a b k).length = a.length := by
 simp [xorTo, xorL_length a b h]; omega
theorem xorTo_at (a b : List Int) (h : a.length = b.length) (k : Nat) (hk : k < a.length) (hx : k < (xorTo a b k).length) : (xorTo a b k)[k] = a[k] := by
 have hl := xorL_length a b h
 simp only [xorTo]
 rw [List.getElem_append_right (by simp; omega)]
 simp [hl, Nat.min_eq_left (Nat.le_of_lt hk)]
theorem xorTo_set (a b : List Int) (h : a.length = b.length) (k : Nat) (hk : k < a.length) : (xorTo a b k).set k (Go.bits .xor .u8 a[k] (b[k]'(by omega))) = xorTo a b (k + 1) := by
 have hl := xorL_length a b h
 apply List.ext_getElem
 · simp [xorTo, hl]; omega
 · intro j h1 h2
   simp only [xorTo]
   rcases Nat.lt_trichotomy j k with e | e | e
   · rw [List.getElem_set_ne (by omega), List.getElem_append_left (by simp [hl]; omega), List.getElem_append_left (by simp [hl]; omega)]
     simp
   · subst e
     rw [List.getElem_set_self, List.getElem_append_left (by simp [hl]; omega)]
     simp [xorL]
   · rw [List.getElem_set_ne (by omega), List.getElem_append_right (by simp; omega), List.getElem_append_right (by simp; omega)]
     simp only [List.getElem_drop]
     congr 1
     simp [hl]; omega
theorem xorTo_end (a b : List Int) (h : a.length = b.length) : xorTo a b a.length = xorL a b := by
 simp [xorTo, List.take_of_length_le, xorL_length a b h]
set_option maxHeartbeats 1000000 in
theorem impl_xor.calls (a b : List Int) (w : World) (ha : a.length = 16) (hb : b.length = 16) :
   Calls Try.prog 117 #[arr8 a, arr8 b] w fun e w' => e = .returned (arr8 (xorL a b)) ∧ Below w.heap.size w w' := by
 have hab : a.length = b.length := by omega
 have HA := Aside0.mk ha
 have HBl := Aside0.mk hb
 have HAB := Aside0.mk hab
 clear ha hb hab
 unfold arr8
 go_enter Try.func117, Try.ntmps117
 go_wp2
 go_loopw [6] (fun i wr => ∃ k : Nat, k ≤ 16 ∧ i = .int .i64 k ∧ Aside0 (wr.heap[w.heap.size]? = some (.cells (nums .u8 (xorTo a b k)).toArray 110 (0, 0))) ∧ Aside0 (wr.heap[w.heap.size + 1]? = some (.cells (nums .u8 b).toArray 110 (0, 0)))
     ∧ Aside0 (wr.heap[w.heap.size + 1 + 1]? = some (.cells (nums .u8 (List.replicate 16 0)).toArray 110 (0, 0))) ∧ Aside0 (Below w.heap.size w wr)) (fun i _ => 16 - (intOf i).toNat)
 case atStart => exact ⟨0, by omega, rfl, ⟨by rw [xorTo_zero]; exact blk_alloc (blk_alloc (blk_new w _) _) _⟩, ⟨blk_alloc (blk_new2 w _ _) _⟩, ⟨blk_new3 w _ _ _⟩, ⟨below_alloc (below_alloc (below_alloc (Below.refl w.heap.size w) _) _) _⟩⟩
 case round =>
   obtain ⟨k, hk, rfl, G1, G2, G3, HB⟩ := hrel
   by_cases hlt : k < 16
   · have hx : k < (xorTo a b k).length := by rw [xorTo_length a b HAB.out k (by have := HA.out; omega)]; have := HA.out; omega
     have hka : k < a.length := by have := HA.out; omega
     have hkb : k < b.length := by have := HBl.out; omega
     have cA : wr.cell? ⟨w.heap.size, k, none⟩ = some (.int .u8 a[k]) := by
       rw [blk_cell G1.out k, nums_at hx, xorTo_at a b HAB.out k hka]
     have zA := blk_frozen G1.out k
     have cB : wr.cell? ⟨w.heap.size + 1, k, none⟩ = some (.int .u8 b[k]) := by rw [blk_cell G2.out k, nums_at hkb]
     have i0 : (0 : Int) ≤ (k : Int) := Int.natCast_nonneg k
     have i1 : (k : Int) < 16 := by omega
     have hd : decide ((k : Int) < 16) = true := decide_eq_true i1
     go_wp2
     go_region
     all_goals go_wp2
     go_roundw
     case rel =>
       refine ⟨k + 1, by omega, by go_num, ⟨?_⟩, ⟨blk_far (blk_drew G2.out) (by simp <;> omega) _⟩, ⟨blk_far (blk_drew G3.out) (by simp <;> omega) _⟩, ⟨below_set (below_drew1 HB.out) (Nat.le_refl _)⟩⟩
       rw [← xorTo_set a b HAB.out k hka, ← nums_set]
       exact blk_set (blk_drew G1.out) k _
     case measure => simp [intOf]; omega
   · have e16 : xorTo a b k = xorL a b := by
       obtain rfl : k = 16 := by omega
       rw [← HA.out]; exact xorTo_end a b HAB.out
     rw [e16] at G1
     clear e16
     have hl16 : (nums IntKind.u8 (xorL a b)).toArray.size = 16 := by have := HA.out; simp [nums, xorL_length a b HAB.out]; omega
     have HL := Aside0.mk hl16
     clear hl16
     have hd : decide ((k : Int) < 16) = false := decide_eq_false (by omega)
     have GR := Aside0.mk (setRow_heap wr (w.heap.size + 1 + 1) _ (nums IntKind.u8 (xorL a b)).toArray _ _ G3.out)
     go_wp2_with (first
       | (refine wpList_load_row (by rfl) 110 (.tmp 2) (by rfl) _ (by rfl) 110 _ (0, 0) _ G1.out Try.underlying110 rfl (by rw [HL.out]; exact impl_xor_info) ?_)
       | (refine wpList_store_row (by rfl) 110 (.tmp 4) (.tmp 18) (by rfl) (w.heap.size + 1 + 1) _ (by rfl) (by rfl) 110 _ G3.out (by rw [HL.out]; exact impl_xor_info) (by rw [HL.out]; rfl) (nums_one _ _) ?_))
     refine bodyPost_ret (v := arr8 (xorL a b)) ?_ rfl ?_
     · exact results_cell_row (fn := Try.f117) (p := 4) (ty := 110) Try.results117 _ _ _ 110 _ (0, 0) _ (by rfl) GR.out Try.underlying110 rfl (by rw [HL.out]; exact impl_xor_info)
     · exact ⟨rfl, below_row HB.out (by omega) _⟩
theorem xorL_S (a b : List Int) (ha : a.length = 16) (hb : b.length = 16) : xorL a b = Aes.xorS a b := by
 refine Aes.st_is _ _ (by rw [xorL_length a b (by omega), ha]) fun j hj => ?_
 simp only [xorL, List.getD_eq_getElem?_getD, List.getElem?_zipWith]
 rw [List.getElem?_eq_getElem (by omega), List.getElem?_eq_getElem (by omega)]
 rfl
theorem bytes_range (W : World) (e : TypeId) (s : ByteArray) : (Lib.bytesWorld W e s).rangeAt W.heap.size 0 (nums .u8 (bytesL s)) := fun j v hv => by
 rw [Nat.zero_add]
 have hl : (nums IntKind.u8 (bytesL s)).length = s.size := by simp [nums, bytesL_length]
 have hj : j < s.size := by rw [← hl]; exact (List.getElem?_eq_some_iff.1 hv).1
 rw [Lib.bytesWorld_cell W e s j hj]
 rw [← hv]
 have h' : j < s.data.toList.length := by rw [data_length]; exact hj
 simp [nums, bytesL, List.getD_eq_getElem?_getD, List.getElem?_eq_getElem h']
theorem opWp_copy_row {P : Program} {W : World} {o : Oper} {ac : Act} {K : Act → World → Prop} {Q : Exit → Act → World → Prop} (s x : Operand) (dT sT elem : TypeId) (ho : o.op = .call { callee := .builtin .copy, args := #[s, x], argTypes := #[dT, sT] })
   (g off dLen dCap : Nat) (a : Addr) (sLen sCap : Nat) (cur : Array Value) (t : TypeId) (cs : List Value) (hs : ac.eval s = .slice (some ⟨g, off, none⟩) dLen dCap) (hx : ac.eval x = .slice (some a) sLen sCap)
   (hu : P.underlying dT = some (.slice elem)) (hsz : (P.info? elem).map (·.size) = some 1) (hg : W.heap[g]? = some (.cells cur t (0, 0))) (hn : cs.length = Nat.min sLen dLen)
   (hsrc : ∀ j v, cs[j]? = some v → W.cell? (a.add j) = some v) (hfit : off + cs.length ≤ cur.size) (h1 : ∀ v ∈ cs, v.oneCell' = true)
   (h : K (ac.put o.dst (goInt cs.length)) (W.setRow g (cur.toList.take off ++ cs ++ cur.toList.drop (off + cs.length)).toArray)) : o.wp P ac W K Q := by
 have hr := run_copy_row (P := P) W dT sT o.type elem g off dLen dCap a sLen sCap cur t cs hu hsz hg hn hsrc hfit h1
 unfold Oper.wp execOp
 simp only [ho, resolve, invoke, builtin, Sem.run_bind, Sem.run_pure, Result.andThen_ok, List.map_toArray, List.map_cons, List.map_nil, hs, hx, hr]
 exact h
theorem take_part (R X : List Int) (p : Nat) (hR : p + 4 ≤ R.length) (hX : X.length = 4) (h : ∀ j, j < 4 → R.getD (p + j) 0 = X.getD j 0) : R.take (p + 4) = R.take p ++ X := by
 rw [List.take_add]
 congr 1
 apply List.ext_getElem
 · simp; omega
 · intro j h1 h2
   have hj : j < 4 := by omega
   have := h j hj
   rw [List.getD_eq_getElem?_getD, List.getElem?_eq_getElem (by omega), List.getD_eq_getElem?_getD, List.getElem?_eq_getElem h2] at this
   simp only [Option.getD_some] at this
   rw [List.getElem_take, List.getElem_drop]
   exact this
theorem row_part (R X b : List Int) (p : Nat) (hR : R.length = 16) (hb : b.length = 16) (hX : X.length = 4) (hp : p + 4 ≤ 16) (h : ∀ j, j < 4 → R.getD (p + j) 0 = X.getD j 0) :
   ((nums IntKind.u8 (R.take p ++ b.drop p)).toArray.toList.take p ++ nums .u8 X ++ (nums .u8 (R.take p ++ b.drop p)).toArray.toList.drop (p + (nums IntKind.u8 X).length)).toArray = (nums .u8 (R.take (p + 4) ++ b.drop (p + 4))).toArray := by
 have hl : (R.take p).length = p := by rw [List.length_take, hR]; omega
 have e1 : (R.take p ++ b.drop p).take p = R.take p := by rw [List.take_append_of_le_length (by omega), List.take_of_length_le (by omega)]
 have e2 : (R.take p ++ b.drop p).drop (p + 4) = b.drop (p + 4) := by
   rw [List.drop_append, hl, List.drop_eq_nil_of_le (by omega), List.nil_append, List.drop_drop]
   congr 1; omega
 have hn : (nums IntKind.u8 X).length = 4 := by simp [nums, hX]
 rw [hn, take_part R X p (by omega) hX h]
 congr 1
 simp only [nums]
 rw [← List.map_take, ← List.map_drop, e1, e2, List.map_append, List.map_append]
theorem arr4_at (a : Addr) (c : Nat) (W : World) : (Instr.arrayAt 128 (.slice (some a) 4 c)).run Try.prog W = .ok (.pointer (some a)) W := by
 simp [Instr.arrayAt, run_underlying Try.underlying128]
theorem nums_oneC {k : IntKind} {l : List Int} {u : Value} (h : u ∈ nums k l) : u.oneCell' = true := by
 obtain ⟨x, _, rfl⟩ := List.mem_map.1 h
 rfl
def clm_T5 : Bool × List (List Nat × List Nat) := (true, [([], []), ([0], [0]), ([], []), ([1, 2], [1, 2])])
def clm_B5 : List Nat := [0, 1, 0, 7]
theorem clm_tab5 : rtab .any (opsOf Try.f118 5) = clm_T5 := by kernel_rfl
theorem clm_bits5 : waitsOk clm_T5.2 clm_B5 = true := by kernel_rfl
def impl_doubled.f (a0 : Int) : Option (Int) := some (Go.bits .xor .u8 ((a0 * 2) % 256) (((a0 / 128) * 27) % 256))
set_option maxHeartbeats 8000000 in
set_option maxRecDepth 100000 in
theorem impl_doubled.calls (a0 : Int) (r : Int) (w : World) (h : impl_doubled.f a0 = some r) :
   Calls Try.prog 123 #[.int .u8 a0] w fun e w' => e = .returned (.int .u8 r) ∧ Drawn0 w w' := by
 have H : (some (Go.bits .xor .u8 ((a0 * 2) % 256) (((a0 / 128) * 27) % 256))) = some r := h
 clear h
 obtain rfl := Option.some.inj H
 go_enter Try.func123, Try.ntmps123
 go_wp2
 go_ret
 exact ⟨by first | rfl | (simp; done) | (simp [*]; done), by repeat (first | exact Drawn0.refl _ | apply Drawn0.step)⟩
theorem dbl_xt : ∀ x : Nat, x < 256 → impl_doubled.f (x : Int) = some ((Gf.xt x : Nat) : Int) := by decide +kernel
def fmix_T6 : Bool × List (List Nat × List Nat) := (true, [([], []), ([], []), ([1], [1]), ([2], [2]), ([], []), ([3, 4], [3, 4]), ([], []), ([6], [6]), ([7], [7]), ([], []), ([9], [9]), ([10], [10]), ([11], [11]), ([12], [12]), ([8, 13], [8, 13]), ([14], [14]), ([5, 15], [5, 15]), ([0, 0, 1, 2, 3, 4, 5, 6, 7, 8, 9, 10, 11, 12, 13, 14, 15, 16], [0]), ([17, 16, 15, 0, 1, 2, 3, 4, 5, 6, 7, 8, 9, 10, 11, 12, 13, 14, 15, 16], [16, 17])])
def fmix_B6 : List Nat := [0, 0, 2, 6, 0, 30, 0, 64, 192, 0, 512, 1536, 3584, 7680, 16320, 32704, 65534, 131071, 262143]
theorem fmix_tab6 : rtab .any (opsOf Try.f119 6) = fmix_T6 := by kernel_rfl
theorem fmix_bits6 : waitsOk fmix_T6.2 fmix_B6 = true := by kernel_rfl
set_option maxHeartbeats 8000000 in
set_option maxRecDepth 100000 in
theorem impl_fastMix.calls (c : List Int) (w : World) (hc : c.length = 4) (oc : Aes.ok c) :
   Calls Try.prog 119 #[arr8 c] w fun e w' => e = .returned (arr8 (fastL c)) ∧ Below w.heap.size w w' := by
 have HC := Aside0.mk hc
 have OC := Aside0.mk oc
 obtain ⟨F, hF⟩ : ∃ F, F = fastL c := ⟨_, rfl⟩
 have HFL : Aside0 (F.length = 4) := ⟨by rw [hF, fastL_length]⟩
 obtain ⟨A, hA⟩ : ∃ A, A = Go.bits .xor .u8 (Go.bits .xor .u8 (Go.bits .xor .u8 (c.getD 0 0) (c.getD 1 0)) (c.getD 2 0)) (c.getD 3 0) := ⟨_, rfl⟩
 have HFA : Aside0 (∀ i, i < 4 → F.getD i 0 = Go.bits .xor .u8 (Go.bits .xor .u8 (c.getD i 0) A) ((Gf.xt (Aes.xr (c.getD i 0) (c.getD ((i + 1) % 4) 0)).toNat : Nat) : Int)) := ⟨fun i hi => by rw [hF, hA]; exact fastL_at c i hi⟩
 have HAE := Aside0.mk hA
 rw [← hF]
 clear hc oc hF hA
 unfold arr8
 go_enter Try.func119, Try.ntmps119
 go_upto_region 1 with (fail)
 obtain ⟨g0, hg0⟩ : ∃ g, g = w.heap.size := ⟨_, rfl⟩
 have HG := Aside0.mk hg0
 show Code.wp _ _ _ _ ((w.alloc (.cells (nums .u8 c).toArray 128)).alloc (.cells (nums .u8 (List.replicate 4 0)).toArray 128))
 have G0 : Aside0 (((w.alloc (.cells (nums .u8 c).toArray 128)).alloc (.cells (nums .u8 (List.replicate 4 0)).toArray 128)).heap[g0]? = some (.cells (nums .u8 c).toArray 128 (0, 0))) := ⟨by rw [hg0]; exact blk_alloc (blk_new w _) _⟩
 have G1 : Aside0 (((w.alloc (.cells (nums .u8 c).toArray 128)).alloc (.cells (nums .u8 (List.replicate 4 0)).toArray 128)).heap[g0 + 1]? = some (.cells (nums .u8 (List.replicate 4 0)).toArray 128 (0, 0))) := ⟨by rw [hg0]; exact blk_new2 w _ _⟩
 have HB : Aside0 (Below w.heap.size w ((w.alloc (.cells (nums .u8 c).toArray 128)).alloc (.cells (nums .u8 (List.replicate 4 0)).toArray 128))) := ⟨below_alloc (below_alloc (Below.refl _ _) _) _⟩
 have HS : Aside0 (((w.alloc (.cells (nums .u8 c).toArray 128)).alloc (.cells (nums .u8 (List.replicate 4 0)).toArray 128)).heap.size = g0 + 2) := ⟨by rw [hg0]; simp⟩
 rw [← hg0]
 generalize (w.alloc (.cells (nums .u8 c).toArray 128)).alloc (.cells (nums .u8 (List.replicate 4 0)).toArray 128) = W1 at G0 G1 HB HS ⊢
 clear hg0
 have CC : ∀ (W : World), W.heap[g0]? = some (.cells (nums .u8 c).toArray 128 (0, 0)) → ∀ q, q < 4 → W.cell? ⟨g0, q, none⟩ = some (.int .u8 (c.getD q 0)) := fun W h q hq => by
   rw [blk_cell h q]
   exact nums_at? _ _ _ _ (by rw [List.getD_eq_getElem?_getD, List.getElem?_eq_getElem (by rw [HC.out]; exact hq)]; rfl)
 have c0 := CC W1 G0.out 0 (by decide)
 have c1 := CC W1 G0.out 1 (by decide)
 have c2 := CC W1 G0.out 2 (by decide)
 have c3 := CC W1 G0.out 3 (by decide)
 have HCC := Aside0.mk CC
 clear CC
 obtain ⟨x0, hx0⟩ : ∃ x, x = c.getD 0 0 := ⟨_, rfl⟩
 obtain ⟨x1, hx1⟩ : ∃ x, x = c.getD 1 0 := ⟨_, rfl⟩
 obtain ⟨x2, hx2⟩ : ∃ x, x = c.getD 2 0 := ⟨_, rfl⟩
 obtain ⟨x3, hx3⟩ : ∃ x, x = c.getD 3 0 := ⟨_, rfl⟩
 rw [← hx0] at c0
 rw [← hx1] at c1
 rw [← hx2] at c2
 rw [← hx3] at c3
 have HA2 : Aside0 (Go.bits .xor .u8 (Go.bits .xor .u8 (Go.bits .xor .u8 x0 x1) x2) x3 = A) := ⟨by rw [HAE.out, hx0, hx1, hx2, hx3]⟩
 clear hx0 hx1 hx2 hx3
 go_upto_region 3 with (fail)
 rw [HA2.out]
 show Code.wp _ _ _ _ (W1.alloc (.cells (nums .u8 (List.replicate 4 0)).toArray 128))
 obtain ⟨g2, hg2⟩ : ∃ g, g = W1.heap.size := ⟨_, rfl⟩
 have HG2 : Aside0 (g2 = g0 + 2) := ⟨by rw [hg2, HS.out]⟩
 have H0 : Aside0 ((W1.alloc (.cells (nums .u8 (List.replicate 4 0)).toArray 128)).heap[g0]? = some (.cells (nums .u8 c).toArray 128 (0, 0))) := ⟨blk_alloc G0.out _⟩
 have H1 : Aside0 ((W1.alloc (.cells (nums .u8 (List.replicate 4 0)).toArray 128)).heap[g0 + 1]? = some (.cells (nums .u8 (List.replicate 4 0)).toArray 128 (0, 0))) := ⟨blk_alloc G1.out _⟩
 have H2 : Aside0 ((W1.alloc (.cells (nums .u8 (List.replicate 4 0)).toArray 128)).heap[g2]? = some (.cells (nums .u8 (F.take 0 ++ (List.replicate 4 (0 : Int)).drop 0)).toArray 128 (0, 0))) := ⟨by rw [hg2]; exact blk_new W1 _⟩
 have HB2 : Aside0 (Below w.heap.size w (W1.alloc (.cells (nums .u8 (List.replicate 4 0)).toArray 128))) := ⟨below_alloc HB.out _⟩
 rw [← hg2]
 generalize W1.alloc (.cells (nums .u8 (List.replicate 4 0)).toArray 128) = W2 at H0 H1 H2 HB2 ⊢
 clear hg2 c0 c1 c2 c3 G0 G1 HB HS
 go_wp2_with fail
 go_loopw [17] (fun v wr => ∃ q : Nat, q ≤ 4 ∧ v = .int .i64 (q : Int) ∧ Aside0 (wr.heap[g0]? = some (.cells (nums .u8 c).toArray 128 (0, 0))) ∧ Aside0 (wr.heap[g0 + 1]? = some (.cells (nums .u8 (List.replicate 4 0)).toArray 128 (0, 0))) ∧ Aside0 (wr.heap[g2]? = some (.cells (nums .u8 (F.take q ++ (List.replicate 4 (0 : Int)).drop q)).toArray 128 (0, 0))) ∧ Aside0 (Below w.heap.size w wr)) (fun v _ => 4 - (intOf v).toNat)
 case atStart => exact ⟨0, by omega, rfl, H0, H1, H2, HB2⟩
 case round =>
   clear H0 H1 H2 HB2
   obtain ⟨q, hq, rfl, H0, H1, H2, HB⟩ := hrel
   by_cases hlt : q < 4
   · have hd : decide (q < 4) = true := decide_eq_true hlt
     have hd2 : decide ((q : Int) < 4) = true := decide_eq_true (by omega)
     obtain ⟨r, hr⟩ : ∃ r, r = (q + 1) % 4 := ⟨_, rfl⟩
     obtain ⟨q1n, hq1⟩ : ∃ q1, q1 = q + 1 := ⟨_, rfl⟩
     have e1w : IntKind.i64.wrap ((q : Int) + 1) = (q1n : Int) := by rw [IntKind.wrap_i64]; omega
     have e2w : Int.tmod (q1n : Int) 4 = (r : Int) := by rw [Int.tmod_eq_emod_of_nonneg (by omega)]; omega
     obtain ⟨x, hx⟩ : ∃ x, x = c.getD q 0 := ⟨_, rfl⟩
     obtain ⟨y, hy⟩ : ∃ y, y = c.getD r 0 := ⟨_, rfl⟩
     have cX : wr.cell? ⟨g0, q, none⟩ = some (.int .u8 x) := by rw [hx]; exact HCC.out wr H0.out q hlt
     have cY : wr.cell? ⟨g0, r, none⟩ = some (.int .u8 y) := by rw [hy]; exact HCC.out wr H0.out r (by omega)
     have cZ : wr.cell? ⟨g2, q, none⟩ = some (.int .u8 0) := by
       rw [blk_cell H2.out q]
       exact nums_at? _ _ _ _ (by rw [td_at F _ (by rw [HFL.out]; rfl) q (by rw [HFL.out]; exact hlt)]; rw [zeros_getD])
     have zZ := blk_frozen H2.out q
     have TS := Aside0.mk (td_set F (List.replicate 4 (0 : Int)) (by rw [HFL.out]; rfl) q (by rw [HFL.out]; exact hlt))
     have bx : Aes.by_ x := by rw [hx]; exact Aes.at_by OC.out _
     have by2 : Aes.by_ y := by rw [hy]; exact Aes.at_by OC.out _
     obtain ⟨z, hz⟩ : ∃ z, z = ((Gf.xt (Aes.xr x y).toNat : Nat) : Int) := ⟨_, rfl⟩
     have kd : impl_doubled.f (Go.bits .xor .u8 x y) = some z := by
       obtain ⟨m, hm, e⟩ := Aes.by_nat (Aes.xr_by bx by2)
       show impl_doubled.f (Aes.xr x y) = some z
       rw [hz, e, dbl_xt m hm, Int.toNat_natCast]
     have HKD := Aside0.mk kd
     have HFV : Aside0 (F.getD q 0 = Go.bits .xor .u8 (Go.bits .xor .u8 x A) z) := ⟨by rw [HFA.out q hlt, hz, hx, hy, hr]⟩
     have HLT := Aside0.mk hlt
     have q0 : (0 : Int) ≤ (q : Int) := by omega
     have q1 : (q : Int) < 4 := by omega
     have q2 : q < 4 := hlt
     have r0 : (0 : Int) ≤ (r : Int) := by omega
     have r1 : (r : Int) < 4 := by omega
     have r2 : r < 4 := by omega
     clear hr hx hy hz kd bx by2 hlt hq hq1
     go_wp2
     have cZd := Aside0.mk (show wr.drew.cell? ⟨g2, q, none⟩ = some (.int .u8 0) from cZ)
     have zZd := Aside0.mk (show wr.drew.frozen? ⟨g2, q, none⟩ = false from zZ)
     have D0 := Aside0.mk (blk_drew H0.out)
     have D1 := Aside0.mk (blk_drew H1.out)
     have D2 := Aside0.mk (blk_drew H2.out)
     have DB := Aside0.mk (below_drew1 HB.out)
     clear H0 H1 H2 HB
     refine start_ (n := 19) (S := fun w' => w'.cell? ⟨g0, q, none⟩ = some (.int .u8 x) ∧ w'.cell? ⟨g0, r, none⟩ = some (.int .u8 y)) (ds := [18]) #[false, false, false, false, false, false, false, false, false, false, false, false, false, false, false, false, false, false, false] (by kernel_rfl) rfl rfl ⟨(show wr.drew.cell? ⟨g0, q, none⟩ = some (.int .u8 x) from cX), (show wr.drew.cell? ⟨g0, r, none⟩ = some (.int .u8 y) from cY)⟩ (fun hHeld => ?_)
     refine with_tabW fmix_tab6 fmix_bits6 (fun HT_ HW_ => ?_)
     generalize wr.drew = wD at hHeld cZd zZd D0 D1 D2 DB ⊢
     refine pure_ (i := 0) (N := some 20) (v := ?_) (a' := ?_) #[true, false, false, false, false, false, false, false, false, false, false, false, false, false, false, false, false, false, false] rfl rfl (any_of HT_.out (by kernel_rfl)) (fun _ _ _ h => h) (Or.inl ⟨by rfl, ?_⟩) ?_ ?_
     rotate_left
     · intro w'
       go_simp
       with_reducible rfl
     rotate_left
     · simp only [Act.put, sA_, s0_, s1_, i64_w, i32_w]
       rfl
     refine pure_ (i := 1) (N := some 21) (v := ?_) (a' := ?_) #[true, true, false, false, false, false, false, false, false, false, false, false, false, false, false, false, false, false, false] rfl rfl (any_of HT_.out (by kernel_rfl)) (fun _ _ _ h => h) (Or.inl ⟨by rfl, ?_⟩) ?_ ?_
     rotate_left
     · intro w'
       go_simp
       with_reducible rfl
     rotate_left
     · simp only [Act.put, sA_, s0_, s1_, i64_w, i32_w]
       rfl
     refine pure_ (i := 2) (N := some 22) (v := ?_) (a' := ?_) #[true, true, true, false, false, false, false, false, false, false, false, false, false, false, false, false, false, false, false] rfl rfl (any_of HT_.out (by kernel_rfl)) (fun _ _ _ h => h) (Or.inl ⟨by rfl, ?_⟩) ?_ ?_
     rotate_left
     · intro w'
       go_simp
       with_reducible rfl
     rotate_left
     · simp only [Act.put, sA_, s0_, s1_, i64_w, i32_w]
       rfl
     refine pure_ (i := 4) (N := some 24) (v := ?_) (a' := ?_) #[true, true, true, false, true, false, false, false, false, false, false, false, false, false, false, false, false, false, false] rfl rfl (any_of HT_.out (by kernel_rfl)) (fun _ _ _ h => h) (Or.inl ⟨by rfl, ?_⟩) ?_ ?_
     rotate_left
     · intro w'
       go_simp
       with_reducible rfl
     rotate_left
     · simp only [Act.put, sA_, s0_, s1_, i64_w, i32_w]
       rfl
     refine pure_ (i := 6) (N := some 26) (v := ?_) (a' := ?_) #[true, true, true, false, true, false, true, false, false, false, false, false, false, false, false, false, false, false, false] rfl rfl (any_of HT_.out (by kernel_rfl)) (fun _ _ _ h => h) (Or.inl ⟨by rfl, ?_⟩) ?_ ?_
     rotate_left
     · intro w'
       go_simp
       with_reducible rfl
     rotate_left
     · simp only [Act.put, sA_, s0_, s1_, i64_w, i32_w]
       rfl
     refine pure_ (i := 7) (N := some 27) (v := ?_) (a' := ?_) #[true, true, true, false, true, false, true, true, false, false, false, false, false, false, false, false, false, false, false] rfl rfl (any_of HT_.out (by kernel_rfl)) (fun _ _ _ h => h) (Or.inl ⟨by rfl, ?_⟩) ?_ ?_
     rotate_left
     · intro w'
       go_simp
       with_reducible rfl
     rotate_left
     · simp only [Act.put, sA_, s0_, s1_, i64_w, i32_w]
       rfl
     refine pure_ (i := 9) (N := some 29) (v := ?_) (a' := ?_) #[true, true, true, false, true, false, true, true, false, true, false, false, false, false, false, false, false, false, false] rfl rfl (any_of HT_.out (by kernel_rfl)) (fun _ _ _ h => h) (Or.inl ⟨by rfl, ?_⟩) ?_ ?_
     rotate_left
     · intro w'
       go_simp
       with_reducible rfl
     rotate_left
     · simp only [Act.put, sA_, s0_, s1_, i64_w, i32_w]
       rfl
     refine pure_ (i := 10) (N := some 30) (v := ?_) (a' := ?_) #[true, true, true, false, true, false, true, true, false, true, true, false, false, false, false, false, false, false, false] rfl rfl (any_of HT_.out (by kernel_rfl)) (fun _ _ _ h => h) (Or.inl ⟨by rfl, ?_⟩) ?_ ?_
     rotate_left
     · intro w'
       go_simp
       with_reducible rfl
     rotate_left
     · simp only [Act.put, sA_, s0_, s1_, i64_w, i32_w]
       rfl
     refine pure_ (i := 11) (N := some 31) (v := ?_) (a' := ?_) #[true, true, true, false, true, false, true, true, false, true, true, true, false, false, false, false, false, false, false] rfl rfl (any_of HT_.out (by kernel_rfl)) (fun _ _ _ h => h) (Or.inl ⟨by rfl, ?_⟩) ?_ ?_
     rotate_left
     · intro w'
       go_simp
       with_reducible rfl
     rotate_left
     · simp only [Act.put, sA_, s0_, s1_, i64_w, i32_w]
       rfl
     refine pure_ (i := 12) (N := some 32) (v := ?_) (a' := ?_) #[true, true, true, false, true, false, true, true, false, true, true, true, true, false, false, false, false, false, false] rfl rfl (any_of HT_.out (by kernel_rfl)) (fun _ _ _ h => h) (Or.inl ⟨by rfl, ?_⟩) ?_ ?_
     rotate_left
     · intro w'
       go_simp
       with_reducible rfl
     rotate_left
     · simp only [Act.put, sA_, s0_, s1_, i64_w, i32_w]
       rfl
     refine take_ (i := 3) (N := some 23) (v := ?_) (a' := ?_) #[true, true, true, true, true, false, true, true, false, true, true, true, true, false, false, false, false, false, false] rfl rfl (take_ofW HT_.out HW_.out (by kernel_rfl)) (fun _ _ _ h => h) (Or.inl ⟨by rfl, ?_⟩) hHeld ?_ ?_
     rotate_left
     · rintro w' ⟨s0, s1⟩
       go_simp
       with_reducible rfl
     rotate_left
     · simp only [Act.put, sA_, s0_, s1_, i64_w, i32_w]
       rfl
     refine pure_ (i := 5) (N := some 25) (v := ?_) (a' := ?_) #[true, true, true, true, true, true, true, true, false, true, true, true, true, false, false, false, false, false, false] rfl rfl (any_of HT_.out (by kernel_rfl)) (fun _ _ _ h => h) (Or.inl ⟨by rfl, ?_⟩) ?_ ?_
     rotate_left
     · intro w'
       go_simp
       with_reducible rfl
     rotate_left
     · simp only [Act.put, sA_, s0_, s1_, i64_w, i32_w]
       rfl
     refine take_ (i := 8) (N := some 28) (v := ?_) (a' := ?_) #[true, true, true, true, true, true, true, true, true, true, true, true, true, false, false, false, false, false, false] rfl rfl (take_ofW HT_.out HW_.out (by kernel_rfl)) (fun _ _ _ h => h) (Or.inl ⟨by rfl, ?_⟩) hHeld ?_ ?_
     rotate_left
     · rintro w' ⟨s0, s1⟩
       go_simp
       with_reducible rfl
     rotate_left
     · simp only [Act.put, sA_, s0_, s1_, i64_w, i32_w]
       rfl
     refine take_ (i := 13) (N := some 33) (v := ?_) (a' := ?_) #[true, true, true, true, true, true, true, true, true, true, true, true, true, true, false, false, false, false, false] rfl rfl (take_ofW HT_.out HW_.out (by kernel_rfl)) (fun _ _ _ h => h) (Or.inl ⟨by rfl, ?_⟩) hHeld ?_ ?_
     rotate_left
     · rintro w' ⟨s0, s1⟩
       go_simp
       with_reducible rfl
     rotate_left
     · simp only [Act.put, sA_, s0_, s1_, i64_w, i32_w]
       rfl
     refine pure_ (i := 14) (N := some 34) (v := ?_) (a' := ?_) #[true, true, true, true, true, true, true, true, true, true, true, true, true, true, true, false, false, false, false] rfl rfl (any_of HT_.out (by kernel_rfl)) (fun _ _ _ h => h) (Or.inl ⟨by rfl, ?_⟩) ?_ ?_
     rotate_left
     · intro w'
       go_simp
       with_reducible rfl
     rotate_left
     · simp only [Act.put, sA_, s0_, s1_, i64_w, i32_w]
       rfl
     refine one_ (i := 15) (N := some 35) #[true, true, true, true, true, true, true, true, true, true, true, true, true, true, true, true, false, false, false] rfl rfl (one_of HT_.out (by kernel_rfl)) (by decide) (fun K hK => ?_)
     refine goes_ Try.func123 (by kernel_rfl) rfl #[.int .u8 (Go.bits .xor .u8 x y)] (by rfl) rfl rfl (by (try simp only [List.map_toArray, List.map_cons, List.map_nil]); first | done | rfl) ?_
     with_reducible refine (impl_doubled.calls _ _ _ HKD.out).mono ?_
     rintro e w' ⟨rfl, ⟨⟨nd, rfl⟩⟩⟩
     refine ⟨_, rfl, ?_⟩
     refine hK.out _ _ hHeld (fun hHeld => ?_)
     clear hK K
     refine norm_ (a' := ?_) ?_ ?_
     rotate_left
     · show Act.put _ (some 35) _ = _
       simp only [Act.put, sA_, s0_, s1_, i64_w, i32_w]
       rfl
     refine pure_ (i := 16) (N := some 36) (v := ?_) (a' := ?_) #[true, true, true, true, true, true, true, true, true, true, true, true, true, true, true, true, true, false, false] rfl rfl (any_of HT_.out (by kernel_rfl)) (fun _ _ _ h => h) (Or.inl ⟨by rfl, ?_⟩) ?_ ?_
     rotate_left
     · intro w'
       go_simp
       with_reducible rfl
     rotate_left
     · simp only [Act.put, sA_, s0_, s1_, i64_w, i32_w]
       rfl
     refine pure_ (i := 17) (N := some 37) (v := ?_) (a' := ?_) #[true, true, true, true, true, true, true, true, true, true, true, true, true, true, true, true, true, true, false] rfl rfl (any_of HT_.out (by kernel_rfl)) (fun _ _ _ h => h) (Or.inl ⟨by rfl, ?_⟩) ?_ ?_
     rotate_left
     · intro w'
       go_simp
       with_reducible rfl
     rotate_left
     · simp only [Act.put, sA_, s0_, s1_, i64_w, i32_w]
       rfl
     refine last_ (i := 18) (N := none) #[true, true, true, true, true, true, true, true, true, true, true, true, true, true, true, true, true, true, true] rfl rfl (one_of HT_.out (by kernel_rfl)) (by decide) (fun K hK => ?_)
     have cS := cZd.out
     have zS := zZd.out
     go_simp
     refine hK.out _ _ ?_
     clear hK K
     refine done_ (done_of HT_.out (by kernel_rfl)) ?_
     clear cX cY cZ zZ hHeld e1w e2w q0 q1 q2 r0 r1 r2 cS zS
     go_wp2
     have hw : wrap64 ((q : Int) + 1) = ((q + 1 : Nat) : Int) := by have := HLT.out; unfold wrap64; omega
     rw [hw]
     clear hw
     go_roundw
     case rel =>
       have h02 : g0 ≠ g2 := by have := HG2.out; omega
       have h12 : g0 + 1 ≠ g2 := by have := HG2.out; omega
       refine ⟨q + 1, HLT.out, rfl, ⟨blk_far (blk_drewN D0.out nd) h02 _⟩, ⟨blk_far (blk_drewN D1.out nd) h12 _⟩, ⟨?_⟩, ⟨below_set (pw_below_drewN DB.out nd) (by have := HG.out; have := HG2.out; omega)⟩⟩
       rw [← TS.out, HFV.out, ← nums_set]
       exact blk_set (blk_drewN D2.out nd) q _
     case measure => simp [intOf]; have := HLT.out; omega
   · have hd : decide (q < 4) = false := decide_eq_false hlt
     have hd2 : decide ((q : Int) < 4) = false := decide_eq_false (by omega)
     have e4 : F.take q ++ (List.replicate 4 (0 : Int)).drop q = F := by
       rw [List.take_of_length_le (by rw [HFL.out]; omega), List.drop_eq_nil_of_le (by simp; omega), List.append_nil]
     rw [e4] at H2
     have HL : Aside0 ((nums IntKind.u8 F).toArray.size = 4) := ⟨by simp [nums, HFL.out]⟩
     clear e4 hq hlt
     have GR := Aside0.mk (setRow_heap wr (g0 + 1) _ (nums IntKind.u8 F).toArray _ _ H1.out)
     go_wp2_with (first
       | (refine wpList_load_row (by rfl) 128 (.tmp 4) (by rfl) _ (by rfl) 128 _ (0, 0) _ H2.out Try.underlying128 rfl (by rw [HL.out]; kernel_rfl) ?_)
       | (refine wpList_store_row (by rfl) 128 (.tmp 2) (.tmp 39) (by rfl) (g0 + 1) _ (by rfl) (by rfl) 128 _ H1.out (by rw [HL.out]; kernel_rfl) (by rw [HL.out]; rfl) (nums_one _ _) ?_))
     refine bodyPost_ret (v := arr8 F) ?_ rfl ?_
     · exact results_cell_row (fn := Try.f119) (p := 2) (ty := 128) Try.results119 _ _ _ 128 _ (0, 0) _ (by rfl) GR.out Try.underlying128 rfl (by rw [HL.out]; kernel_rfl)
     · exact ⟨rfl, below_row HB.out (by have := HG.out; omega) _⟩
end Go.Proofs.Ytlfpogbonmddmaa.P

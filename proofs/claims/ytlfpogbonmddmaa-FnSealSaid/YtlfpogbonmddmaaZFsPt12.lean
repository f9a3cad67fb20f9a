/- Laid by a program of this session: of Pt12 what this law uses. -/
import Derived.Test.YtlfpogbonmddmaaZFsM11
import Derived.Test.YtlfpogbonmddmaaZFsM21
namespace Go.Proofs.Ytlfpogbonmddmaa.P
open Go.RowKit Go.Proofs.YtlfpogbonmddmaaW.PrintWords Go.Proofs.YtlfpogbonmddmaaW.PrintLast Go.Proofs.YtlfpogbonmddmaaW.PrintMore
attribute [local go_sem] min2_int min_two
set_option linter.unusedVariables false
set_option linter.unusedSimpArgs false
def zeroC : List Value := List.replicate 512 (.int .u8 0) ++ [.slice none 0 0]
theorem cipher_zero : Try.zeroCells125 = zeroC.toArray := by kernel_rfl
theorem sub_aes : ∀ a : Nat, a < 256 → impl_substitute.f 20 (a : Int) = some ((Aes.sub a : Nat) : Int) := by decide +kernel
def tabsTo (a : Nat) (ks : Value) (cs : Array Value) : Prop :=
 cs.size = 513 ∧ (∀ i, i < 256 → cs[i]? = some (.int .u8 (if i < a then ((Aes.sub i : Nat) : Int) else 0))) ∧ (∀ y, y < 256 → cs[256 + y]? = some (.int .u8 (if Aes.unsub y < a then ((Aes.unsub y : Nat) : Int) else 0))) ∧ cs[512]? = some ks
theorem rep_at (n i : Nat) (z v : Value) (h : i < n) : (List.replicate n z ++ [v]).toArray[i]? = some z := by
 simp [List.getElem?_append, h]
theorem rep_last (n : Nat) (z v : Value) : (List.replicate n z ++ [v]).toArray[n]? = some v := by
 simp [List.getElem?_append]
theorem rep_size (n : Nat) (z v : Value) : (List.replicate n z ++ [v]).toArray.size = n + 1 := by simp
theorem tabs_zero : tabsTo 0 (.slice none 0 0) zeroC.toArray := by
 refine ⟨rep_size 512 _ _, fun i hi => ?_, fun y hy => ?_, rep_last 512 _ _⟩
 · rw [if_neg (by omega)]
   exact rep_at 512 i _ _ (by omega)
 · rw [if_neg (by omega)]
   exact rep_at 512 _ _ _ (by omega)
theorem tabs_step {a : Nat} {ks : Value} {cs : Array Value} (h : tabsTo a ks cs) (ha : a < 256) : tabsTo (a + 1) ks ((cs.setIfInBounds a (.int .u8 ((Aes.sub a : Nat) : Int))).setIfInBounds (256 + Aes.sub a) (.int .u8 (a : Int))) := by
 obtain ⟨h0, h1, h2, h3⟩ := h
 have hs := Aes.sub_lt a ha
 refine ⟨by simp [h0], fun i hi => ?_, fun y hy => ?_, ?_⟩
 · rw [Array.getElem?_setIfInBounds_ne (by omega)]
   by_cases e : a = i
   · subst e
     rw [Array.getElem?_setIfInBounds_self_of_lt (by omega), if_pos (by omega)]
   · rw [Array.getElem?_setIfInBounds_ne e, h1 i hi]
     by_cases e2 : i < a
     · rw [if_pos e2, if_pos (by omega)]
     · rw [if_neg e2, if_neg (by omega)]
 · by_cases e : Aes.sub a = y
   · subst e
     rw [Array.getElem?_setIfInBounds_self_of_lt (by simp; omega), Aes.unsub_sub a ha, if_pos (by omega)]
   · rw [Array.getElem?_setIfInBounds_ne (by omega), Array.getElem?_setIfInBounds_ne (by omega), h2 y hy]
     have hne : Aes.unsub y ≠ a := fun h => e (by rw [← h]; exact Aes.sub_unsub y hy)
     by_cases e2 : Aes.unsub y < a
     · rw [if_pos e2, if_pos (by omega)]
     · rw [if_neg e2, if_neg (by omega)]
 · rw [Array.getElem?_setIfInBounds_ne (by omega), Array.getElem?_setIfInBounds_ne (by omega), h3]
def wsAt (K : List Int) (n i : Nat) : List (List Int) × Nat := if i ≤ n then ((List.range i).map (Aes.word0 K), 1) else Aes.kw K n (i - n)
theorem wsAt_kw (K : List Int) (n j : Nat) : wsAt K n (n + j) = Aes.kw K n j := by
 unfold wsAt
 cases j with
 | zero => rw [if_pos (by omega)]; rfl
 | succ j => rw [if_neg (by omega), show n + (j + 1) - n = j + 1 from by omega]
theorem wsAt_len (K : List Int) (n i : Nat) : (wsAt K n i).1.length = i := by
 unfold wsAt
 split
 · simp
 · rw [Aes.kw_length]; omega
theorem wsAt_ok {K : List Int} (h : Aes.ok K) (n i : Nat) : ∀ w ∈ (wsAt K n i).1, Aes.wordOk w := by
 unfold wsAt
 split
 · intro w hw
   obtain ⟨q, _, rfl⟩ := List.mem_map.1 hw
   exact Aes.word0_ok h q
 · exact Aes.kw_ok h n _
theorem wsAt_p (K : List Int) (n i : Nat) : (wsAt K n i).2 < 256 := by
 unfold wsAt
 split
 · show (1 : Nat) < 256; decide
 · exact Aes.kw_p K n _
theorem wsAt_first (K : List Int) (n i : Nat) (h : i < n) : wsAt K n (i + 1) = ((wsAt K n i).1 ++ [Aes.word0 K i], 1) ∧ (wsAt K n i).2 = 1 := by
 unfold wsAt
 rw [if_pos (by omega), if_pos (by omega)]
 exact ⟨by rw [List.range_succ, List.map_append]; rfl, rfl⟩
def wordsIn (ws : List (List Int)) (lim : Nat) (cs : Array Value) : Prop :=
 cs.size = 4 * lim ∧ ∀ q, q < ws.length → ∀ k, k < 4 → cs[q * 4 + k]? = some (.int .u8 ((ws.getD q []).getD k 0))
def partIn (ws : List (List Int)) (lim : Nat) (X : List Int) (k : Nat) (cs : Array Value) : Prop :=
 wordsIn ws lim cs ∧ ∀ j, j < k → cs[ws.length * 4 + j]? = some (.int .u8 (X.getD j 0))
theorem part_step {ws : List (List Int)} {lim : Nat} {X : List Int} {k : Nat} {cs : Array Value} (h : partIn ws lim X k cs) (hk : k < 4) (hw : ws.length < lim) : partIn ws lim X (k + 1) (cs.setIfInBounds (ws.length * 4 + k) (.int .u8 (X.getD k 0))) := by
 obtain ⟨⟨h0, h1⟩, h2⟩ := h
 refine ⟨⟨by simp [h0], fun q hq j hj => ?_⟩, fun j hj => ?_⟩
 · rw [Array.getElem?_setIfInBounds_ne (by omega)]; exact h1 q hq j hj
 · by_cases e : k = j
   · subst e
     rw [Array.getElem?_setIfInBounds_self_of_lt (by omega)]
   · rw [Array.getElem?_setIfInBounds_ne (by omega)]; exact h2 j (by omega)
theorem part_all {ws : List (List Int)} {lim : Nat} {X : List Int} {cs : Array Value} (h : partIn ws lim X 4 cs) : wordsIn (ws ++ [X]) lim cs := by
 obtain ⟨⟨h0, h1⟩, h2⟩ := h
 refine ⟨h0, fun q hq j hj => ?_⟩
 by_cases e : q < ws.length
 · have e2 : (ws ++ [X]).getD q [] = ws.getD q [] := by rw [List.getD_eq_getElem?_getD, List.getElem?_append_left e, List.getD_eq_getElem?_getD]
   rw [h1 q e j hj, e2]
 · obtain rfl : q = ws.length := by simp at hq; omega
   rw [h2 j hj]
   simp [List.getD_eq_getElem?_getD]
theorem words_none (lim : Nat) : wordsIn [] lim (nums .u8 (List.replicate (4 * lim) 0)).toArray := ⟨by simp [nums], fun q hq => absurd hq (by simp)⟩
theorem copy_str4 {P : Program} (w : World) (dT sT ty elem : TypeId) (b o dCap : Nat) (t : ByteArray)
   (hu : P.underlying dT = some (.slice elem)) (hs : (P.info? elem).map (·.size) = some 1) (hle : 4 ≤ t.size)
   (hc : ∀ j, j < 4 → (w.cell? ⟨b, o + j, none⟩).isSome = true) (hf : ∀ j, j < 4 → w.frozen? ⟨b, o + j, none⟩ = false) :
   (Builtin.copy_ #[dT, sT] ty #[.slice (some ⟨b, o, none⟩) 4 dCap, .string t]).run P w = .ok (goInt 4) (w.setCells b o ((t.data.toList.take 4).map fun x => Value.int .u8 (x.toNat : Int))) := by
 have hmin : Nat.min t.size 4 = 4 := Nat.min_eq_right hle
 have hz : ∀ w, (Go.sizeOf elem).run P w = .ok 1 w := fun w => by
   cases hq : P.info? elem with
   | none => simp [hq] at hs
   | some i =>
     have : i.size = 1 := by simpa [hq] using hs
     simp [sizeOf, typeInfo, hq, this]
 have hl : ((t.data.toList.take 4).map fun x => Value.int .u8 (x.toNat : Int)).length = 4 := by
   have : t.data.toList.length = t.size := by simp
   rw [List.length_map, List.length_take, this]; omega
 have hst := run_storeCells_cells (P := P) b o ((t.data.toList.take 4).map fun x => Value.int .u8 (x.toNat : Int)) 0 w (by rw [hl]; simpa using hc) (by rw [hl]; simpa using hf) (by
   intro v hv
   obtain ⟨x, _, rfl⟩ := List.mem_map.1 hv
   rfl)
 simp [Builtin.copy_, run_underlying hu, Builtin.lenOf, Builtin.firstCells, hz, hmin]
 rw [← List.map_take, hst]
 rfl
theorem words_made44 : madeCells (Value.agg #[.int .u8 0, .int .u8 0, .int .u8 0, .int .u8 0]).cells (44 * 4) = (nums .u8 (List.replicate (4 * 44) 0)).toArray := by kernel_rfl
theorem words_made60 : madeCells (Value.agg #[.int .u8 0, .int .u8 0, .int .u8 0, .int .u8 0]).cells (60 * 4) = (nums .u8 (List.replicate (4 * 60) 0)).toArray := by kernel_rfl
theorem words_info : (Try.prog.info? 128).map (fun i => (i.zero, i.size, i.bytes)) = some (some (.agg #[.int .u8 0, .int .u8 0, .int .u8 0, .int .u8 0]), 4, 4) := by kernel_rfl
theorem make_words (V : World) (m : Nat) (hm : m = 44 ∨ m = 60) : (Instr.makeSlice 127 (.int .i64 (m : Int)) (.int .i64 (m : Int))).run Try.prog V = .ok (.slice (some ⟨V.heap.size, 0, none⟩) m m) (V.alloc (.cells (nums .u8 (List.replicate (4 * m) 0)).toArray 128)) := by
 obtain ⟨i, hi, h3⟩ := Option.map_eq_some_iff.1 words_info
 simp only [Prod.mk.injEq] at h3
 have hr := run_make (P := Try.prog) V 127 128 i _ Try.underlying127 hi h3.1 .i64 .i64 (m : Int) (m : Int) (by omega) (Int.le_refl _) (by rw [h3.2.2]; omega) (by omega)
 simp only [Int.toNat_natCast] at hr
 rw [hr, h3.2.1]
 rcases hm with rfl | rfl
 · rw [words_made44]
 · rw [words_made60]
theorem opWp_copy_str4 {P : Program} {W : World} {o : Oper} {ac : Act} {K : Act → World → Prop} {Q : Exit → Act → World → Prop} (s x : Operand) (dT sT elem : TypeId) (ho : o.op = .call { callee := .builtin .copy, args := #[s, x], argTypes := #[dT, sT] })
   (b off dCap : Nat) (t : ByteArray) (hs : ac.eval s = .slice (some ⟨b, off, none⟩) 4 dCap) (hx : ac.eval x = .string t) (hu : P.underlying dT = some (.slice elem)) (hsz : (P.info? elem).map (·.size) = some 1) (hle : 4 ≤ t.size)
   (hc : ∀ j, j < 4 → (W.cell? ⟨b, off + j, none⟩).isSome = true) (hf : ∀ j, j < 4 → W.frozen? ⟨b, off + j, none⟩ = false)
   (h : K (ac.put o.dst (goInt 4)) (W.setCells b off ((t.data.toList.take 4).map fun x => Value.int .u8 (x.toNat : Int)))) : o.wp P ac W K Q := by
 have hr := copy_str4 (P := P) W dT sT o.type elem b off dCap t hu hsz hle hc hf
 unfold Oper.wp execOp
 simp only [ho, resolve, invoke, builtin, Sem.run_bind, Sem.run_pure, Result.andThen_ok, List.map_toArray, List.map_cons, List.map_nil, hs, hx, hr]
 exact h
theorem take4_word (s : ByteArray) (i : Nat) (h : 4 * i + 4 ≤ s.size) : ((s.extract (4 * i) s.size).data.toList.take 4).map (fun x => Value.int .u8 (x.toNat : Int)) = nums .u8 (Aes.word0 (bytesL s) i) := by
 have e0 : (s.extract (4 * i) s.size) = strOfNums ((bytesL s).drop (4 * i)) := by
   conv => lhs; rw [← str_bytesL s]
   rw [str_extract2, str_bytesL, List.take_of_length_le (by rw [bytesL_length]; exact Nat.le_refl _)]
 have e1 : (s.extract (4 * i) s.size).data.toList.take 4 = (((bytesL s).take (4 * i + 4)).drop (4 * i)).map fun x => UInt8.ofNat x.toNat := by
   rw [e0]
   simp [strOfNums, List.map_drop, List.map_take, List.take_drop]
 rw [e1, word0_is _ _ (by rw [bytesL_length]; exact h)]
 simp only [nums, List.map_map]
 refine List.map_congr_left fun x hx => ?_
 have hb := (Aes.word0_ok (u8ok_bytesL s) i).2 x hx
 simp only [Function.comp_apply, UInt8.toNat_ofNat']
 congr 1
 have := hb.1; have := hb.2
 omega
theorem part_zero {ws : List (List Int)} {lim : Nat} {X : List Int} {cs : Array Value} (h : wordsIn ws lim cs) : partIn ws lim X 0 cs := ⟨h, fun j hj => absurd hj (by omega)⟩
theorem part_word {ws : List (List Int)} {lim : Nat} {X : List Int} {cs : Array Value} (h : wordsIn ws lim cs) (hw : ws.length < lim) : wordsIn (ws ++ [X]) lim ((((cs.setIfInBounds (ws.length * 4 + 0) (.int .u8 (X.getD 0 0))).setIfInBounds (ws.length * 4 + 1) (.int .u8 (X.getD 1 0))).setIfInBounds (ws.length * 4 + 2) (.int .u8 (X.getD 2 0))).setIfInBounds (ws.length * 4 + 3) (.int .u8 (X.getD 3 0))) :=
 part_all (part_step (part_step (part_step (part_step (part_zero h) (by decide) hw) (by decide) hw) (by decide) hw) (by decide) hw)
theorem blk_set4 {w : World} {g : Nat} {t : TypeId} {cs : Array Value} (h : w.heap[g]? = some (.cells cs t (0, 0))) (o : Nat) (a b c d : Value) : (w.setCells g o [a, b, c, d]).heap[g]? = some (.cells ((((cs.setIfInBounds (o + 0) a).setIfInBounds (o + 1) b).setIfInBounds (o + 2) c).setIfInBounds (o + 3) d) t (0, 0)) := by
 show ((((w.setCell ⟨g, o, none⟩ a).setCell ⟨g, o + 1, none⟩ b).setCell ⟨g, o + 1 + 1, none⟩ c).setCell ⟨g, o + 1 + 1 + 1, none⟩ d).heap[g]? = _
 exact blk_set (blk_set (blk_set (blk_set h o a) (o + 1) b) (o + 1 + 1) c) (o + 1 + 1 + 1) d
theorem blk_far4 {w : World} {g g2 : Nat} {ob : Obj} (h : w.heap[g2]? = some ob) (hne : g2 ≠ g) (o : Nat) (vs : List Value) : (w.setCells g o vs).heap[g2]? = some ob := by
 rw [setCells_other vs o w g g2 hne, h]
theorem size_setCells (g : Nat) : ∀ (vs : List Value) (o : Nat) (w : World), (w.setCells g o vs).heap.size = w.heap.size
 | [], _, _ => rfl
 | v :: vs, o, w => by
   show ((w.setCell ⟨g, o, none⟩ v).setCells g (o + 1) vs).heap.size = _
   rw [size_setCells g vs (o + 1) _]
   simp
theorem times2 : ∀ p : Nat, p < 256 → impl_times.f 10 (p : Int) 2 = some ((Gf.xt p : Nat) : Int) := by decide +kernel
theorem own_belowW {W W' : World} {B : Nat} {e : TypeId} {size n : Nat} {v : Value} {xs : List Value} (h : W.ownsRow B e size v n xs) (hb : Below W.heap.size W W') : W'.ownsRow B e size v n xs := by
 obtain ⟨hl, h | ⟨g, cap, cur, e1, e2, hh, r⟩⟩ := h
 · exact ⟨hl, .inl h⟩
 · have hlt : g < W.heap.size := (Array.getElem?_eq_some_iff.1 hh).1
   exact ⟨hl, .inr ⟨g, cap, cur, e1, e2, (hb.block g hlt).trans hh, r⟩⟩
theorem own_drewW {W : World} {B : Nat} {e : TypeId} {size n : Nat} {v : Value} {xs : List Value} (h : W.ownsRow B e size v n xs) : W.drew.ownsRow B e size v n xs := h
def flatKeys (WS : List (List Int)) (k : Nat) : List Int := ((List.range k).map (Aes.fourOf WS)).flatten
theorem flatKeys_succ (WS : List (List Int)) (k : Nat) : flatKeys WS (k + 1) = flatKeys WS k ++ Aes.fourOf WS k := by simp [flatKeys, List.range_succ]
theorem cat4_at (A B C D : List Int) (ha : A.length = 4) (hb : B.length = 4) (hc : C.length = 4) (q : Nat) : (A ++ B ++ C ++ D).getD q 0 = if q < 4 then A.getD q 0 else if q < 8 then B.getD (q - 4) 0 else if q < 12 then C.getD (q - 8) 0 else D.getD (q - 12) 0 := by
 simp only [List.getD_eq_getElem?_getD]
 by_cases c1 : q < 4
 · rw [if_pos c1, List.getElem?_append_left (by simp; omega), List.getElem?_append_left (by simp; omega), List.getElem?_append_left (by omega)]
 · rw [if_neg c1]
   by_cases c2 : q < 8
   · rw [if_pos c2, List.getElem?_append_left (by simp; omega), List.getElem?_append_left (by simp; omega), List.getElem?_append_right (by omega), ha]
   · rw [if_neg c2]
     by_cases c3 : q < 12
     · rw [if_pos c3, List.getElem?_append_left (by simp; omega), List.getElem?_append_right (by simp; omega), List.length_append, ha, hb]
     · rw [if_neg c3, List.getElem?_append_right (by simp; omega), List.length_append, List.length_append, ha, hb, hc]
theorem fourOf_at {WS : List (List Int)} (h : ∀ w ∈ WS, Aes.wordOk w) (k q : Nat) (hk : 4 * k + 3 < WS.length) (hq : q < 16) : (Aes.fourOf WS k).getD q 0 = (WS.getD (4 * k + q / 4) []).getD (q % 4) 0 := by
 have h0 := (Aes.getD_word h (4 * k) (by omega)).1
 have h1 := (Aes.getD_word h (4 * k + 1) (by omega)).1
 have h2 := (Aes.getD_word h (4 * k + 2) (by omega)).1
 unfold Aes.fourOf
 rw [cat4_at _ _ _ _ h0 h1 h2]
 by_cases c1 : q < 4
 · rw [if_pos c1, show 4 * k + q / 4 = 4 * k from by omega, show q % 4 = q from by omega]
 · rw [if_neg c1]
   by_cases c2 : q < 8
   · rw [if_pos c2, show 4 * k + q / 4 = 4 * k + 1 from by omega, show q % 4 = q - 4 from by omega]
   · rw [if_neg c2]
     by_cases c3 : q < 12
     · rw [if_pos c3, show 4 * k + q / 4 = 4 * k + 2 from by omega, show q % 4 = q - 8 from by omega]
     · rw [if_neg c3, show 4 * k + q / 4 = 4 * k + 3 from by omega, show q % 4 = q - 12 from by omega]
theorem tabs_ks {a : Nat} {ks ks' : Value} {cs : Array Value} (h : tabsTo a ks cs) : tabsTo a ks' (cs.setIfInBounds 512 ks') := by
 obtain ⟨h0, h1, h2, h3⟩ := h
 refine ⟨by simp [h0], fun i hi => ?_, fun y hy => ?_, ?_⟩
 · rw [Array.getElem?_setIfInBounds_ne (by omega)]; exact h1 i hi
 · rw [Array.getElem?_setIfInBounds_ne (by omega)]; exact h2 y hy
 · rw [Array.getElem?_setIfInBounds_self_of_lt (by omega)]
theorem range_alloc_keep {W : World} {b o : Nat} {cs : List Value} (h : W.rangeAt b o cs) (ob : Obj) : (W.alloc ob).rangeAt b o cs := fun j v hv => cell_alloc_keep (h j v hv) ob
def keyZero : Value := .agg (nums .u8 (List.replicate 16 0)).toArray
theorem key_info : (Try.prog.info? 110).map (fun i => (i.zero, i.size, i.bytes)) = some (some keyZero, 16, 16) := by kernel_rfl
theorem nums_oneCell {k : IntKind} {l : List Int} {u : Value} (h : u ∈ nums k l) : u.oneCell' = true := by
 obtain ⟨x, _, rfl⟩ := List.mem_map.1 h
 rfl
theorem key_size (F : List Int) (h : (nums IntKind.u8 F).length = 16) : (Try.prog.info? 110).map (·.size) = some (nums IntKind.u8 F).length := by
 rw [h]; kernel_rfl
theorem key_fill16 (f0 f1 f2 f3 f4 f5 f6 f7 f8 f9 f10 f11 f12 f13 f14 f15 : Int) : Instr.fill (fun i => some (i * 16, 16)) ((Array.range (1 * 16)).map (keyZero.cells[· % keyZero.cells.size]!)) [(0, Value.agg (nums .u8 [f0, f1, f2, f3, f4, f5, f6, f7, f8, f9, f10, f11, f12, f13, f14, f15]).toArray)] = some (nums .u8 [f0, f1, f2, f3, f4, f5, f6, f7, f8, f9, f10, f11, f12, f13, f14, f15]).toArray := by kernel_rfl
theorem key_fill (F : List Int) (h : F.length = 16) : Instr.fill (fun i => some (i * 16, 16)) ((Array.range (1 * 16)).map (keyZero.cells[· % keyZero.cells.size]!)) [(0, Value.agg (nums .u8 F).toArray)] = some (nums .u8 F).toArray := by
 match F, h with
 | [f0, f1, f2, f3, f4, f5, f6, f7, f8, f9, f10, f11, f12, f13, f14, f15], _ => exact key_fill16 f0 f1 f2 f3 f4 f5 f6 f7 f8 f9 f10 f11 f12 f13 f14 f15
theorem opWp_build_key {W : World} {o : Oper} {a : Act} {K : Act → World → Prop} {Q : Exit → Act → World → Prop} (x : Operand) (ho : o.op = .buildSlice 123 1 #[(0, x)]) (F : List Int) (hF : F.length = 16) (hx : a.eval x = .agg (nums .u8 F).toArray)
   (h : K (a.put o.dst (.slice (some ⟨W.heap.size, 0, none⟩) 1 1)) (W.alloc (.cells (nums .u8 F).toArray 110))) : o.wp Try.prog a W K Q := by
 obtain ⟨ie, hie, h3⟩ := Option.map_eq_some_iff.1 key_info
 simp only [Prod.mk.injEq] at h3
 refine wp_buildSlice 123 110 1 #[(0, x)] ho (nums .u8 F).toArray ie keyZero Try.underlying123 hie h3.1 (by rw [h3.2.1]; decide) (by rw [h3.2.1]; decide) ?_ h
 rw [h3.2.1]
 simp only [List.map_toArray, List.map_cons, List.map_nil, hx]
 exact key_fill F hF
theorem own_form {W : World} {B : Nat} {e : TypeId} {size n : Nat} {v : Value} {xs : List Value} (h : W.ownsRow B e size v n xs) (hn : 0 < n) : ∃ g cap, v = .slice (some ⟨g, 0, none⟩) n cap := by
 obtain ⟨_, ⟨_, h0⟩ | ⟨g, cap, _, hv, _⟩⟩ := h
 · omega
 · exact ⟨g, cap, hv⟩
def cipherAt (W : World) (B g : Nat) (keys : List (List Int)) : Prop :=
 ∃ cs gk ck, B ≤ g ∧ B ≤ gk ∧ keys.length ≤ ck ∧ W.heap[g]? = some (.cells cs 125 (0, 0)) ∧ tabsTo 256 (.slice (some ⟨gk, 0, none⟩) keys.length ck) cs ∧ Aes.keysOk keys ∧ ∀ i, i < keys.length → W.rangeAt gk (i * 16) (nums .u8 (keys.getD i []))
theorem cipherAt_below {W W' : World} {B g : Nat} {keys : List (List Int)} (h : cipherAt W B g keys) (h0 : 0 < keys.length) (hb : Below W.heap.size W W') : cipherAt W' B g keys := by
 obtain ⟨cs, gk, ck, h1, h2, h3, h4, h5, h6, h7⟩ := h
 have hlt : g < W.heap.size := (Array.getElem?_eq_some_iff.1 h4).1
 refine ⟨cs, gk, ck, h1, h2, h3, (hb.block g hlt).trans h4, h5, h6, fun i hi j v hv => ?_⟩
 have hc := h7 i hi j v hv
 have hlk : (⟨gk, i * 16 + j, none⟩ : Addr).block < W.heap.size := cell_lt (by rw [hc]; rfl)
 exact (hb.cell hlk).trans hc
theorem flatten16_at {L : List (List Int)} (h : ∀ w ∈ L, w.length = 16) : ∀ (i j : Nat), i < L.length → j < 16 → L.flatten[i * 16 + j]? = some ((L.getD i []).getD j 0) := by
 induction L with
 | nil => intro i j hi; exact absurd hi (by simp)
 | cons A L ih =>
   intro i j hi hj
   have hA : A.length = 16 := h A (List.mem_cons_self ..)
   rw [List.flatten_cons]
   cases i with
   | zero =>
     rw [List.getElem?_append_left (by omega), Nat.zero_mul, Nat.zero_add]
     simp [List.getD_eq_getElem?_getD, List.getElem?_eq_getElem (show j < A.length by omega)]
   | succ i =>
     rw [List.getElem?_append_right (by omega), hA, show (i + 1) * 16 + j - 16 = i * 16 + j from by omega, ih (fun w hw => h w (List.mem_cons_of_mem _ hw)) i j (by simpa using hi) hj]
     rfl
theorem cipherAt_of {W : World} {B g : Nat} {vk : Value} {cs : Array Value} {WS : List (List Int)} {k : Nat} (h1 : tabsTo 256 vk cs) (h2 : W.heap[g]? = some (.cells cs 125 (0, 0))) (h3 : W.ownsRow B 110 16 vk k (nums .u8 (flatKeys WS k))) (hB : g ≤ B) (hok : ∀ q, q < k → (Aes.fourOf WS q).length = 16 ∧ Aes.ok (Aes.fourOf WS q)) (hk : 0 < k) : cipherAt W g g ((List.range k).map (Aes.fourOf WS)) := by
 obtain ⟨hl, ⟨_, h0⟩ | ⟨gk, cap, cur, rfl, hgb, hh, hcap, _, hsz, htk⟩⟩ := h3
 · omega
 have hlen : ((List.range k).map (Aes.fourOf WS)).length = k := by simp
 have h16 : ∀ w ∈ (List.range k).map (Aes.fourOf WS), w.length = 16 := fun w hw => by
   obtain ⟨q, hq, rfl⟩ := List.mem_map.1 hw
   exact (hok q (List.mem_range.1 hq)).1
 refine ⟨cs, gk, cap, Nat.le_refl _, Nat.le_trans hB hgb, by rw [hlen]; exact hcap, h2, by rw [hlen]; exact h1, fun w hw => ?_, fun i hi j v hv => ?_⟩
 · obtain ⟨q, hq, rfl⟩ := List.mem_map.1 hw
   exact hok q (List.mem_range.1 hq)
 · obtain ⟨hj, rfl⟩ := nums_getD _ j v hv
   have hj16 : j < 16 := by
     have := h16 _ (List.getElem_mem hi)
     rw [List.getD_eq_getElem?_getD, List.getElem?_eq_getElem hi] at hj
     simp only [Option.getD_some] at hj
     omega
   rw [hlen] at hi
   rw [blk_cell hh]
   have h5 := flatten16_at h16 i j (by rw [hlen]; exact hi) hj16
   have h6 : (cur.toList.take (k * 16))[i * 16 + j]? = (nums .u8 (flatKeys WS k))[i * 16 + j]? := by rw [htk]
   rw [List.getElem?_take_of_lt (by omega)] at h6
   rw [← Array.getElem?_toList, h6]
   simp only [nums, List.getElem?_map]
   unfold flatKeys
   rw [h5]
   rfl
def cof_T15 : Bool × List (List Nat × List Nat) := (true, [([], []), ([], []), ([0, 1], [0, 1]), ([2], [2]), ([], []), ([], []), ([5], [5]), ([4, 6], [4, 6]), ([3, 7], [3, 7])])
def cof_B15 : List Nat := [0, 0, 3, 7, 0, 0, 32, 112, 255]
theorem cof_tab15 : rtab .any (opsOf Try.f99 15) = cof_T15 := by kernel_rfl
theorem cof_bits15 : waitsOk cof_T15.2 cof_B15 = true := by kernel_rfl
def cof_T18 : Bool × List (List Nat × List Nat) := (true, [([], []), ([], []), ([1], [1]), ([0], [0]), ([3], [3]), ([4, 2], [2, 4]), ([5], [5]), ([], []), ([6, 7], [6, 7]), ([], []), ([], []), ([10], [10]), ([9], [9]), ([12], [12]), ([13, 11], [11, 13]), ([14], [14]), ([], []), ([], []), ([17], [17]), ([16], [16]), ([19], [19]), ([20, 18], [18, 20]), ([21], [21]), ([], []), ([], []), ([24], [24]), ([23], [23]), ([26], [26]), ([27, 25], [25, 27]), ([28], [28]), ([8, 15, 22, 29], [8, 15, 22, 29]), ([30, 0, 1, 2, 3, 4, 5, 6, 7, 8, 9, 10, 11, 12, 13, 14, 15, 16, 17, 18, 19, 20, 21, 22, 23, 24, 25, 26, 27, 28, 29, 30], [30])])
def cof_B18 : List Nat := [0, 0, 2, 1, 9, 31, 63, 0, 255, 0, 0, 1024, 512, 4608, 15872, 32256, 0, 0, 131072, 65536, 589824, 2031616, 4128768, 0, 0, 16777216, 8388608, 75497472, 260046848, 528482304, 1073741823, 2147483647]
theorem cof_tab18 : rtab .any (opsOf Try.f99 18) = cof_T18 := by kernel_rfl
theorem cof_bits18 : waitsOk cof_T18.2 cof_B18 = true := by kernel_rfl
def cof_T21 : Bool × List (List Nat × List Nat) := (true, [([], []), ([], []), ([1], [1]), ([0], [0]), ([3], [3]), ([4, 2], [2, 4]), ([5], [5]), ([], []), ([], []), ([8], [8]), ([7], [7]), ([10], [10]), ([11, 9], [9, 11]), ([12], [12]), ([], []), ([], []), ([15], [15]), ([14], [14]), ([17], [17]), ([18, 16], [16, 18]), ([19], [19]), ([], []), ([], []), ([22], [22]), ([21], [21]), ([24], [24]), ([25, 23], [23, 25]), ([26], [26]), ([6, 13, 20, 27], [6, 13, 20, 27]), ([28, 0, 1, 2, 3, 4, 5, 6, 7, 8, 9, 10, 11, 12, 13, 14, 15, 16, 17, 18, 19, 20, 21, 22, 23, 24, 25, 26, 27, 28], [28])])
def cof_B21 : List Nat := [0, 0, 2, 1, 9, 31, 63, 0, 0, 256, 128, 1152, 3968, 8064, 0, 0, 32768, 16384, 147456, 507904, 1032192, 0, 0, 4194304, 2097152, 18874368, 65011712, 132120576, 268435455, 536870911]
theorem cof_tab21 : rtab .any (opsOf Try.f99 21) = cof_T21 := by kernel_rfl
theorem cof_bits21 : waitsOk cof_T21.2 cof_B21 = true := by kernel_rfl
def cof_T37 : Bool × List (List Nat × List Nat) := (true, [([], []), ([], []), ([1], [1]), ([2], [2]), ([3], [3]), ([], []), ([5], [5]), ([4, 6], [4, 6]), ([0, 0, 1, 2, 3, 4, 5, 6, 7], [0]), ([8, 0, 1, 2, 3, 4, 5, 6, 7], [8]), ([9, 7, 7, 0, 1, 2, 3, 4, 5, 6, 7], [7, 9])])
def cof_B37 : List Nat := [0, 0, 2, 6, 14, 0, 32, 126, 255, 511, 1023]
theorem cof_tab37 : rtab .any (opsOf Try.f99 37) = cof_T37 := by kernel_rfl
theorem cof_bits37 : waitsOk cof_T37.2 cof_B37 = true := by kernel_rfl
set_option maxHeartbeats 8000000 in
set_option maxRecDepth 100000 in
theorem impl_cipherOf_in (s0 : ByteArray) (n : Nat) (w0 : World) (hn : n = 4 ∨ n = 8) (hs : s0.size = 4 * n) :
   Calls Try.prog 99 #[.string s0] w0 fun e w' => ∃ g, e = .returned (.pointer (some ⟨g, 0, none⟩)) ∧ cipherAt w' w0.heap.size g (Aes.keysL (bytesL s0)) ∧ Below w0.heap.size w0 w' := by
 obtain ⟨K, hK⟩ : ∃ K, K = bytesL s0 := ⟨_, rfl⟩
 have HS := Aside0.mk hs
 have HN := Aside0.mk hn
 have HKE := Aside0.mk hK
 have HKO : Aside0 (Aes.ok K) := ⟨by rw [hK]; exact u8ok_bytesL s0⟩
 have HN48 : Aside0 (4 ≤ n ∧ n ≤ 8) := ⟨by omega, by omega⟩
 have kmk : ∀ (V : World) (m : Nat), m = 44 ∨ m = 60 → (Instr.makeSlice 127 (.int .i64 (m : Int)) (.int .i64 (m : Int))).run Try.prog V = .ok (.slice (some ⟨V.heap.size, 0, none⟩) m m) (V.alloc (.cells (nums .u8 (List.replicate (4 * m) 0)).toArray 128)) := fun V m hm => make_words V m hm
 rw [← hK]
 clear hs hn hK
 have HT0 : Aside0 (tabsTo 0 (.slice none 0 0) Try.zeroCells125) := ⟨by rw [cipher_zero]; exact tabs_zero⟩
 go_enter Try.func99, Try.ntmps99
 go_wp2_with fail
 go_loopw [17] (fun v wr => ∃ (a : Nat) (cs : Array Value), v = .int .i64 (a : Int) ∧ a ≤ 256 ∧ Aside0 (tabsTo a (.slice none 0 0) cs) ∧ Aside0 (wr.heap[w0.heap.size]? = some (.cells cs 125 (0, 0))) ∧ Aside0 (Below w0.heap.size w0 wr) ∧ Aside0 (w0.heap.size < wr.heap.size)) (fun v _ => 256 - (intOf v).toNat)
 case atStart => exact ⟨0, _, rfl, by omega, HT0, ⟨blk_new w0 _⟩, ⟨below_alloc (Below.refl _ _) _⟩, ⟨by simp⟩⟩
 case round =>
   clear HT0
   obtain ⟨a, cs, rfl, ha, HT, G0, HB, HSZ⟩ := hrel
   by_cases hlt : a < 256
   · have hd : decide (a < 256) = true := decide_eq_true hlt
     have hd2 : decide ((a : Int) < 256) = true := decide_eq_true (by omega)
     have hsub := Aes.sub_lt a hlt
     have ka : impl_substitute.f 20 (a : Int) = some ((Aes.sub a : Nat) : Int) := sub_aes a hlt
     obtain ⟨b, hb⟩ : ∃ b, b = Aes.sub a := ⟨_, rfl⟩
     rw [← hb] at ka hsub
     have HKA := Aside0.mk ka
     have m1 : (a : Int) % 256 = (a : Int) := by omega
     have HBE := Aside0.mk hb
     have HSUB := Aside0.mk hsub
     have HLT := Aside0.mk hlt
     clear ka hb
     go_wp2_with (go_at_call 115; refine (impl_substitute.calls 20 (a : Int) (b : Int) _ HKA.out).mono ?_; rintro e w' ⟨rfl, ⟨nd, rfl⟩⟩)
     have cX : wr.cell? ⟨w0.heap.size, a, none⟩ = some (.int .u8 (if a < a then ((Aes.sub a : Nat) : Int) else 0)) := by rw [blk_cell G0.out a]; exact HT.out.2.1 a HLT.out
     have cY : wr.cell? ⟨w0.heap.size, 256 + b, none⟩ = some (.int .u8 (if Aes.unsub b < a then ((Aes.unsub b : Nat) : Int) else 0)) := by rw [blk_cell G0.out _]; exact HT.out.2.2.1 b HSUB.out
     have zX := blk_frozen G0.out a
     have zY := blk_frozen G0.out (256 + b)
     generalize (if a < a then ((Aes.sub a : Nat) : Int) else 0) = vX at cX
     generalize (if Aes.unsub b < a then ((Aes.unsub b : Nat) : Int) else 0) = vY at cY
     have hne : a ≠ 256 + b := by omega
     have hne2 : 256 + b ≠ a := by omega
     have i0 : (0 : Int) ≤ (a : Int) := by omega
     have j0 : (0 : Int) ≤ (b : Int) := by omega
     have i1 : (a : Int) < 256 := by omega
     have j1 : (b : Int) < 256 := by omega
     go_region
     clear cX cY zX zY hne hne2 i0 j0 i1 j1
     go_wp2
     go_roundw
     case rel =>
       refine ⟨a + 1, _, by go_num, HLT.out, ⟨by have := tabs_step HT.out HLT.out; rw [← HBE.out] at this; exact this⟩, ⟨blk_set (blk_set (blk_drewN G0.out _) _ _) _ _⟩, ⟨below_set (below_set (pw_below_drewN HB.out _) (Nat.le_refl _)) (Nat.le_refl _)⟩, ⟨by have := HSZ.out; simpa using this⟩⟩
     case measure => simp [intOf]; have := HLT.out; omega
   · have hd : decide (a < 256) = false := decide_eq_false hlt
     have hd2 : decide ((a : Int) < 256) = false := decide_eq_false (by omega)
     obtain ⟨m7, hm7⟩ : ∃ m, m = n + 7 := ⟨_, rfl⟩
     obtain ⟨lim, hlim⟩ : ∃ m, m = 4 * m7 := ⟨_, rfl⟩
     have e7 : wrap64 ((n : Int) + 7) = (m7 : Int) := by have := HN48.out; unfold wrap64; omega
     have e8 : wrap64 (4 * (m7 : Int)) = (lim : Int) := by have := HN48.out; unfold wrap64; omega
     have hq : ((s0.size : Int)) / 4 = (n : Int) := by have := HS.out; omega
     have hwn : wrap64 (n : Int) = (n : Int) := by have := HN48.out; unfold wrap64; omega
     have HLIM : Aside0 (lim = 4 * (n + 7)) := ⟨by omega⟩
     have km := kmk wr lim (by have := HN.out; omega)
     have ea : a = 256 := by omega
     rw [ea] at HT
     have HKM := Aside0.mk (words_none lim)
     clear hm7 hlim kmk ha hlt ea
     go_wp2_with fail
     rw [hwn]
     clear hwn e7 e8 hq km hd hd2
     obtain ⟨g1, hg1⟩ : ∃ g, g = wr.heap.size := ⟨_, rfl⟩
     have HG1 : Aside0 (w0.heap.size < g1) := ⟨by rw [hg1]; exact HSZ.out⟩
     have HC1 : Aside0 ((wr.alloc (.cells (nums .u8 (List.replicate (4 * lim) 0)).toArray 128)).heap[g1]? = some (.cells (nums .u8 (List.replicate (4 * lim) 0)).toArray 128 (0, 0))) := ⟨by rw [hg1]; exact blk_new wr _⟩
     have HC0 : Aside0 ((wr.alloc (.cells (nums .u8 (List.replicate (4 * lim) 0)).toArray 128)).heap[w0.heap.size]? = some (.cells cs 125 (0, 0))) := ⟨blk_alloc G0.out _⟩
     have HBB : Aside0 (Below w0.heap.size w0 (wr.alloc (.cells (nums .u8 (List.replicate (4 * lim) 0)).toArray 128))) := ⟨below_alloc HB.out _⟩
     have HSS : Aside0 (g1 < (wr.alloc (.cells (nums .u8 (List.replicate (4 * lim) 0)).toArray 128)).heap.size) := ⟨by rw [hg1]; simp⟩
     generalize wr.alloc (.cells (nums .u8 (List.replicate (4 * lim) 0)).toArray 128) = wA at HC1 HC0 HBB HSS ⊢
     rw [← hg1]
     clear hg1 G0 HB HSZ
     go_loopw [8, 46] (fun vf vi wr => ∃ (i f : Nat) (cw : Array Value), vi = .int .i64 (i : Int) ∧ vf = .int .u8 (f : Int) ∧ i ≤ lim ∧ f = (wsAt K n i).2 ∧ Aside0 (wordsIn (wsAt K n i).1 lim cw) ∧ Aside0 (wr.heap[g1]? = some (.cells cw 128 (0, 0))) ∧ Aside0 (wr.heap[w0.heap.size]? = some (.cells cs 125 (0, 0))) ∧ Aside0 (Below w0.heap.size w0 wr) ∧ Aside0 (g1 < wr.heap.size)) (fun _ v _ => lim - (intOf v).toNat)
     case atStart => exact ⟨0, 1, _, rfl, rfl, Nat.zero_le _, rfl, HKM, HC1, HC0, HBB, HSS⟩
     case round =>
       clear HC1 HC0 HBB HSS HKM
       obtain ⟨i, f, cw, rfl, rfl, hil, hf, HW, G1, G0, HB, HSZ⟩ := hrel
       obtain ⟨wB, rfl⟩ : ∃ W, W = wr := ⟨_, rfl⟩
       by_cases hlt : i < lim
       · have hd : decide (i < lim) = true := decide_eq_true hlt
         have hl60 : lim ≤ 60 := by have := HLIM.out; have := HN48.out; omega
         have HLT := Aside0.mk hlt
         have HL60 := Aside0.mk hl60
         have HF := Aside0.mk hf
         by_cases hin : i < n
         · have hdn : decide (i < n) = true := decide_eq_true hin
           obtain ⟨p4, hp4⟩ : ∃ p, p = 4 * i := ⟨_, rfl⟩
           have e4 : wrap64 ((i : Int) * 4) = (p4 : Int) := by unfold wrap64; omega
           have i0 : (0 : Int) ≤ (i : Int) := by omega
           have i1 : (i : Int) < (lim : Int) := by omega
           have q0 : (0 : Int) ≤ (p4 : Int) := by omega
           have q1 : (p4 : Int) ≤ (s0.size : Int) := by have := HS.out; omega
           clear hf hl60 hil
           have hz4 : 4 ≤ (s0.extract p4 s0.size).size := by rw [ByteArray.size_extract]; have := HS.out; omega
           have HP4 : Aside0 (p4 = 4 * i) := ⟨hp4⟩
           have HTK : Aside0 (((s0.extract p4 s0.size).data.toList.take 4).map (fun x => Value.int .u8 (x.toNat : Int)) = [.int .u8 ((Aes.word0 K i).getD 0 0), .int .u8 ((Aes.word0 K i).getD 1 0), .int .u8 ((Aes.word0 K i).getD 2 0), .int .u8 ((Aes.word0 K i).getD 3 0)]) := ⟨by
             rw [hp4, take4_word s0 i (by have := HS.out; omega), ← HKE.out]; rfl⟩
           have HZ4 := Aside0.mk hz4
           have HCC : Aside0 (∀ j, j < 4 → (wB.cell? ⟨g1, i * 4 + j, none⟩).isSome = true) := ⟨fun j hj => by
             rw [blk_cell G1.out, Array.getElem?_eq_getElem (by rw [HW.out.1]; omega)]; rfl⟩
           have HIN := Aside0.mk hin
           clear hp4 hz4
           go_wp2_with fail
           refine start_ (n := 9) (S := fun w' => True) (ds := [8]) #[false, false, false, false, false, false, false, false, false] (by kernel_rfl) rfl rfl trivial (fun hHeld => ?_)
           refine with_tabW cof_tab15 cof_bits15 (fun HT_ HW_ => ?_)
           refine pure_ (i := 0) (N := some 52) (v := ?_) (a' := ?_) #[true, false, false, false, false, false, false, false, false] rfl rfl (any_of HT_.out (by kernel_rfl)) (fun _ _ _ h => h) (Or.inl ⟨by rfl, ?_⟩) ?_ ?_
           rotate_left
           · intro w'
             go_simp
             with_reducible rfl
           rotate_left
           · simp only [Act.put, sA_, s0_, s1_, i64_w, i32_w]
             rfl
           refine pure_ (i := 1) (N := some 53) (v := ?_) (a' := ?_) #[true, true, false, false, false, false, false, false, false] rfl rfl (any_of HT_.out (by kernel_rfl)) (fun _ _ _ h => h) (Or.inl ⟨by rfl, ?_⟩) ?_ ?_
           rotate_left
           · intro w'
             go_simp
             with_reducible rfl
           rotate_left
           · simp only [Act.put, sA_, s0_, s1_, i64_w, i32_w]
             rfl
           refine pure_ (i := 2) (N := some 54) (v := ?_) (a' := ?_) #[true, true, true, false, false, false, false, false, false] rfl rfl (any_of HT_.out (by kernel_rfl)) (fun _ _ _ h => h) (Or.inl ⟨by rfl, ?_⟩) ?_ ?_
           rotate_left
           · intro w'
             go_simp
             with_reducible rfl
           rotate_left
           · simp only [Act.put, sA_, s0_, s1_, i64_w, i32_w]
             rfl
           refine pure_ (i := 3) (N := some 55) (v := ?_) (a' := ?_) #[true, true, true, true, false, false, false, false, false] rfl rfl (any_of HT_.out (by kernel_rfl)) (fun _ _ _ h => h) (Or.inl ⟨by rfl, ?_⟩) ?_ ?_
           rotate_left
           · intro w'
             go_simp
             with_reducible rfl
           rotate_left
           · simp only [Act.put, sA_, s0_, s1_, i64_w, i32_w]
             rfl
           refine pure_ (i := 4) (N := some 56) (v := ?_) (a' := ?_) #[true, true, true, true, true, false, false, false, false] rfl rfl (any_of HT_.out (by kernel_rfl)) (fun _ _ _ h => h) (Or.inl ⟨by rfl, ?_⟩) ?_ ?_
           rotate_left
           · intro w'
             go_simp
             with_reducible rfl
           rotate_left
           · simp only [Act.put, sA_, s0_, s1_, i64_w, i32_w]
             rfl
           refine pure_ (i := 5) (N := some 57) (v := ?_) (a' := ?_) #[true, true, true, true, true, true, false, false, false] rfl rfl (any_of HT_.out (by kernel_rfl)) (fun _ _ _ h => h) (Or.inl ⟨by rfl, ?_⟩) ?_ ?_
           rotate_left
           · intro w'
             go_simp
             with_reducible rfl
           rotate_left
           · simp only [Act.put, sA_, s0_, s1_, i64_w, i32_w]
             rfl
           refine pure_ (i := 6) (N := some 58) (v := ?_) (a' := ?_) #[true, true, true, true, true, true, true, false, false] rfl rfl (any_of HT_.out (by kernel_rfl)) (fun _ _ _ h => h) (Or.inl ⟨by rfl, ?_⟩) ?_ ?_
           rotate_left
           · intro w'
             go_simp
             with_reducible rfl
           rotate_left
           · simp only [Act.put, sA_, s0_, s1_, i64_w, i32_w]
             rfl
           refine pure_ (i := 7) (N := some 59) (v := ?_) (a' := ?_) #[true, true, true, true, true, true, true, true, false] rfl rfl (any_of HT_.out (by kernel_rfl)) (fun _ _ _ h => h) (Or.inl ⟨by rfl, ?_⟩) ?_ ?_
           rotate_left
           · intro w'
             go_simp
             with_reducible rfl
           rotate_left
           · simp only [Act.put, sA_, s0_, s1_, i64_w, i32_w]
             rfl
           refine last_ (i := 8) (N := some 60) #[true, true, true, true, true, true, true, true, true] rfl rfl (one_of HT_.out (by kernel_rfl)) (by decide) (fun K hK => ?_)
           refine opWp_copy_str4 (.tmp 55) (.tmp 59) 22 9 5 (by rfl) g1 (i * 4) 4 (s0.extract p4 s0.size) (by rfl) (by rfl) Try.underlying22 (by kernel_rfl) HZ4.out (fun j hj => HCC.out j hj) (fun j hj => blk_frozen (blk_drew G1.out) _) ?_
           refine hK.out _ _ ?_
           clear hK K
           refine norm_ (a' := ?_) ?_ ?_
           rotate_left
           · show Act.put _ (some 60) _ = _
             simp only [Act.put, sA_, s0_, s1_, i64_w, i32_w]
             rfl
           refine done_ (done_of HT_.out (by kernel_rfl)) ?_
           rw [HTK.out]
           have GN := Aside0.mk (blk_set4 (blk_drew G1.out) (i * 4) (.int .u8 ((Aes.word0 K i).getD 0 0)) (.int .u8 ((Aes.word0 K i).getD 1 0)) (.int .u8 ((Aes.word0 K i).getD 2 0)) (.int .u8 ((Aes.word0 K i).getD 3 0)))
           have GC := Aside0.mk (blk_far4 (blk_drew G0.out) (g := g1) (by have := HG1.out; omega) (i * 4) [.int .u8 ((Aes.word0 K i).getD 0 0), .int .u8 ((Aes.word0 K i).getD 1 0), .int .u8 ((Aes.word0 K i).getD 2 0), .int .u8 ((Aes.word0 K i).getD 3 0)])
           have HBN : Aside0 (Below w0.heap.size w0 (wB.drew.setCells g1 (i * 4) [.int .u8 ((Aes.word0 K i).getD 0 0), .int .u8 ((Aes.word0 K i).getD 1 0), .int .u8 ((Aes.word0 K i).getD 2 0), .int .u8 ((Aes.word0 K i).getD 3 0)])) := ⟨below_setCells (below_drew1 HB.out) g1 (by have := HG1.out; omega) _ _⟩
           have HSN : Aside0 (g1 < (wB.drew.setCells g1 (i * 4) [.int .u8 ((Aes.word0 K i).getD 0 0), .int .u8 ((Aes.word0 K i).getD 1 0), .int .u8 ((Aes.word0 K i).getD 2 0), .int .u8 ((Aes.word0 K i).getD 3 0)]).heap.size) := ⟨by rw [size_setCells]; exact HSZ.out⟩
           generalize wB.drew.setCells g1 (i * 4) [.int .u8 ((Aes.word0 K i).getD 0 0), .int .u8 ((Aes.word0 K i).getD 1 0), .int .u8 ((Aes.word0 K i).getD 2 0), .int .u8 ((Aes.word0 K i).getD 3 0)] = wN at GN GC HBN HSN ⊢
           clear i0 i1 q0 q1 e4 hd hdn hin hHeld
           go_wp2
           have hw : wrap64 ((i : Int) + 1) = ((i + 1 : Nat) : Int) := by have := HLT.out; have := HL60.out; unfold wrap64; omega
           rw [hw]
           clear hw
           go_roundw
           case rel =>
             have hlen := wsAt_len K n i
             have hf1 := wsAt_first K n i HIN.out
             refine ⟨i + 1, f, _, rfl, rfl, HLT.out, ?_, ⟨?_⟩, GN, GC, HBN, HSN⟩
             · rw [hf1.1, HF.out, hf1.2]
             · rw [hf1.1]
               have := part_word (X := Aes.word0 K i) HW.out (by rw [hlen]; exact HLT.out)
               rw [hlen] at this
               exact this
           case measure => simp [intOf]; have := HLT.out; omega
         · have hdn : decide (i < n) = false := decide_eq_false hin
           obtain ⟨j, hj⟩ : ∃ j, i = n + j := ⟨i - n, by omega⟩
           obtain ⟨i1, hi1⟩ : ∃ q, q + 1 = i := ⟨i - 1, by have := HN48.out; omega⟩
           have e1 : wrap64 ((i : Int) - 1) = (i1 : Int) := by unfold wrap64; omega
           obtain ⟨WS, hWS⟩ : ∃ W, W = (wsAt K n i).1 := ⟨_, rfl⟩
           have hwl : WS.length = i := by rw [hWS]; exact wsAt_len K n i
           have hwok : ∀ w ∈ WS, Aes.wordOk w := by rw [hWS]; exact wsAt_ok HKO.out n i
           have hkw : Aes.kw K n j = (WS, f) := by rw [hWS, hf, hj, wsAt_kw]
           rw [← hWS] at HW
           obtain ⟨Wd, hWd⟩ : ∃ W, W = WS.getD i1 [] := ⟨_, rfl⟩
           have hdok : Aes.wordOk Wd := by rw [hWd]; exact Aes.getD_word hwok i1 (by omega)
           have hrange : wB.rangeAt g1 (i1 * 4) (nums .u8 Wd) := fun q v hv => by
             obtain ⟨hq, rfl⟩ := nums_getD Wd q v hv
             rw [blk_cell G1.out, HW.out.2 i1 (by omega) q (by rw [hdok.1] at hq; exact hq), hWd]
           have HWL := Aside0.mk hwl
           have HWK := Aside0.mk hwok
           have HKW := Aside0.mk hkw
           have HWD := Aside0.mk hWd
           have HDK := Aside0.mk hdok
           have HJ := Aside0.mk hj
           have HI1 := Aside0.mk hi1
           have HRG := Aside0.mk hrange
           have hnl : (nums IntKind.u8 Wd).length = 4 := by simp [nums, hdok.1]
           have HNL := Aside0.mk hnl
           have hnl' := hnl
           have b0 : (0 : Int) ≤ (i1 : Int) := by omega
           have b1 : (i1 : Int) < (lim : Int) := by omega
           have b2 : i1 < lim := by omega
           clear hf hl60 hil hj hi1 hWS hwl hwok hkw hWd hdok hrange hnl hin hlt
           have HSD : Aside0 ((nums IntKind.u8 Wd).toArray.size = 4) := ⟨by simpa using hnl'⟩
           go_upto_block 4 with (first
             | ((with_reducible refine gate_dst (N := 65) rfl ?_); refine wpList_load_mid (by rfl) 128 (.tmp 64) (by rfl) g1 (i1 * 4) (by rfl) (nums .u8 Wd) _ HRG.out Try.underlying128 rfl (by rw [HNL.out]; kernel_rfl) ?_)
             | ((with_reducible refine gate_store (t := 128) (p := 10) (v := .tmp 65) rfl ?_); refine wpList_store_row (by rfl) 128 (.tmp 10) (.tmp 65) (by rfl) wB.heap.size (nums .u8 Wd).toArray (by rfl) (by rfl) 128 _ (blk_new wB _) (by rw [HSD.out]; kernel_rfl) (by rw [HSD.out]; rfl) (nums_one _ _) ?_))
           obtain ⟨gw, hgw⟩ : ∃ g, g = wB.heap.size := ⟨_, rfl⟩
           obtain ⟨wC, hwC⟩ : ∃ W, W = (wB.alloc (Obj.cells #[Value.int IntKind.u8 0, Value.int IntKind.u8 0, Value.int IntKind.u8 0, Value.int IntKind.u8 0] 128)).setRow wB.heap.size (nums .u8 Wd).toArray := ⟨_, rfl⟩
           have GW : Aside0 (wC.heap[gw]? = some (.cells (nums .u8 Wd).toArray 128 (0, 0))) := ⟨by rw [hwC, hgw]; exact setRow_heap _ _ _ _ _ _ (blk_new wB _)⟩
           have hoth : ∀ k, k < wB.heap.size → wC.heap[k]? = wB.heap[k]? := fun k hk => by
             rw [hwC, setRow_other _ _ _ _ (by omega)]
             show (wB.heap.push _)[k]? = _
             rw [Array.getElem?_push_lt hk, Array.getElem?_eq_getElem hk]
           have G1C : Aside0 (wC.heap[g1]? = some (.cells cw 128 (0, 0))) := ⟨(hoth _ HSZ.out).trans G1.out⟩
           have G0C : Aside0 (wC.heap[w0.heap.size]? = some (.cells cs 125 (0, 0))) := ⟨(hoth _ (by have := HG1.out; have := HSZ.out; omega)).trans G0.out⟩
           have HBC : Aside0 (Below w0.heap.size w0 wC) := ⟨by rw [hwC]; exact below_row (below_alloc HB.out _) (by have := HG1.out; have := HSZ.out; omega) _⟩
           have HSC : Aside0 (gw < wC.heap.size) := ⟨by rw [hwC, hgw, setRow_size]; simp⟩
           have HGW : Aside0 (g1 < gw) := ⟨by rw [hgw]; exact HSZ.out⟩
           rw [← hwC, ← hgw]
           simp only [Act.put]
           clear hoth hwC hgw G1 G0 HB HSZ HRG HNL HSD hnl'
           obtain ⟨P, hP⟩ : ∃ P, P = WS.getD j [] := ⟨_, rfl⟩
           have HPE := Aside0.mk hP
           have HNX3 : Aside0 (Aes.kw K n (j + 1) = if i % n = 0 then (WS ++ [Aes.xor4 (Aes.turned Wd (f : Int)) P], Gf.xt f) else if n = 8 ∧ i % n = 4 then (WS ++ [Aes.xor4 (Aes.swapped Wd) P], f) else (WS ++ [Aes.xor4 Wd P], f)) := ⟨by
             have e : n + j - 1 = i1 := by have := HJ.out; have := HI1.out; omega
             simp only [Aes.kw, HKW.out]
             rw [e, ← HJ.out, ← HWD.out, ← hP]⟩
           have hf8 : f < 256 := by rw [HF.out]; exact wsAt_p K n i
           have HF8 := Aside0.mk hf8
           have hnz : ((n : Int) = 0) = False := eq_false (by have := HN48.out; omega)
           have hnz1 : (n = 0) = False := eq_false (by have := HN48.out; omega)
           have hm18 : HW = HW := rfl
           clear hm18 hP hf8 e1 b0 b1 b2 hd hdn
           go_cut [8] from 47 to 163 (fun vf wc => ∃ (f1 : Nat) (L1 : List Int), vf = .int .u8 (f1 : Int) ∧ Aside0 (Aes.wordOk L1) ∧ Aside0 (Aes.kw K n (j + 1) = (WS ++ [Aes.xor4 L1 P], f1)) ∧ Aside0 (wc.heap[gw]? = some (.cells (nums .u8 L1).toArray 128 (0, 0))) ∧ Aside0 (wc.heap[g1]? = some (.cells cw 128 (0, 0))) ∧ Aside0 (wc.heap[w0.heap.size]? = some (.cells cs 125 (0, 0))) ∧ Aside0 (Below w0.heap.size w0 wc) ∧ Aside0 (gw < wc.heap.size))
           case first =>
             obtain ⟨x0, hx0⟩ : ∃ x, x = Wd.getD 0 0 := ⟨_, rfl⟩
             obtain ⟨x1, hx1⟩ : ∃ x, x = Wd.getD 1 0 := ⟨_, rfl⟩
             obtain ⟨x2, hx2⟩ : ∃ x, x = Wd.getD 2 0 := ⟨_, rfl⟩
             obtain ⟨x3, hx3⟩ : ∃ x, x = Wd.getD 3 0 := ⟨_, rfl⟩
             have b0 : Aes.by_ x0 := by rw [hx0]; exact Aes.at_by HDK.out.2 _
             have b1 : Aes.by_ x1 := by rw [hx1]; exact Aes.at_by HDK.out.2 _
             have b2 : Aes.by_ x2 := by rw [hx2]; exact Aes.at_by HDK.out.2 _
             have b3 : Aes.by_ x3 := by rw [hx3]; exact Aes.at_by HDK.out.2 _
             have CW : ∀ q, q < 4 → wC.cell? ⟨gw, q, none⟩ = some (.int .u8 (Wd.getD q 0)) := fun q hq => by
               rw [blk_cell GW.out q]
               exact nums_at? _ _ _ _ (by rw [List.getD_eq_getElem?_getD, List.getElem?_eq_getElem (by rw [HDK.out.1]; exact hq)]; rfl)
             have c0 := CW 0 (by decide)
             have c1 := CW 1 (by decide)
             have c2 := CW 2 (by decide)
             have c3 := CW 3 (by decide)
             rw [← hx0] at c0
             rw [← hx1] at c1
             rw [← hx2] at c2
             rw [← hx3] at c3
             have CT : ∀ x : Int, Aes.by_ x → wC.cell? ⟨w0.heap.size, x.toNat, none⟩ = some (.int .u8 (Aes.sb x)) := fun x hx => by
               obtain ⟨m, hm, rfl⟩ := Aes.by_nat hx
               rw [Int.toNat_natCast, blk_cell G0C.out m, HT.out.2.1 m hm, if_pos hm]; rfl
             have t0 := CT x0 b0
             have t1 := CT x1 b1
             have t2 := CT x2 b2
             have t3 := CT x3 b3
             obtain ⟨y0, hy0⟩ : ∃ y, y = Aes.sb x0 := ⟨_, rfl⟩
             obtain ⟨y1, hy1⟩ : ∃ y, y = Aes.sb x1 := ⟨_, rfl⟩
             obtain ⟨y2, hy2⟩ : ∃ y, y = Aes.sb x2 := ⟨_, rfl⟩
             obtain ⟨y3, hy3⟩ : ∃ y, y = Aes.sb x3 := ⟨_, rfl⟩
             rw [← hy0] at t0
             rw [← hy1] at t1
             rw [← hy2] at t2
             rw [← hy3] at t3
             have p0 : 0 ≤ x0 := b0.1
             have p1 : 0 ≤ x1 := b1.1
             have p2 : 0 ≤ x2 := b2.1
             have p3 : 0 ≤ x3 := b3.1
             have r0 : x0 < 256 := by have := b0.2; omega
             have r1 : x1 < 256 := by have := b1.2; omega
             have r2 : x2 < 256 := by have := b2.2; omega
             have r3 : x3 < 256 := by have := b3.2; omega
             have HSWP : Aside0 ([y0, y1, y2, y3] = Aes.swapped Wd) := ⟨by rw [hy0, hy1, hy2, hy3, hx0, hx1, hx2, hx3]; rfl⟩
             have HTRN : Aside0 ([Go.bits .xor .u8 y1 (f : Int), y2, y3, y0] = Aes.turned Wd (f : Int)) := ⟨by rw [hy0, hy1, hy2, hy3, hx0, hx1, hx2, hx3]; rfl⟩
             clear hx0 hx1 hx2 hx3 hy0 hy1 hy2 hy3 b0 b1 b2 b3 CW CT
             have GWd : Aside0 (wC.drew.heap[gw]? = some (.cells (nums .u8 Wd).toArray 128 (0, 0))) := ⟨GW.out⟩
             have G1D : Aside0 (wC.drew.heap[g1]? = some (.cells cw 128 (0, 0))) := ⟨G1C.out⟩
             have G0D : Aside0 (wC.drew.heap[w0.heap.size]? = some (.cells cs 125 (0, 0))) := ⟨G0C.out⟩
             have HBD : Aside0 (Below w0.heap.size w0 wC.drew) := ⟨below_drew1 HBC.out⟩
             have HSD : Aside0 (gw < wC.drew.heap.size) := ⟨HSC.out⟩
             have HWS : Aside0 ((nums IntKind.u8 Wd).toArray.size = 4) := ⟨by simp [nums, HDK.out.1]⟩
             by_cases hm : i % n = 0
             · have hmb : ((i : Int) % (n : Int) == 0) = true := by rw [beq_iff_eq]; omega
               have HM := Aside0.mk hm
               clear hm
               go_wp2
               clear hmb hnz hnz1
               refine start_ (n := 32) (S := fun w' => w'.cell? ⟨gw, 0, none⟩ = some (.int .u8 x0) ∧ w'.cell? ⟨gw, 1, none⟩ = some (.int .u8 x1) ∧ w'.cell? ⟨gw, 2, none⟩ = some (.int .u8 x2) ∧ w'.cell? ⟨gw, 3, none⟩ = some (.int .u8 x3) ∧ w'.cell? ⟨w0.heap.size, x0.toNat, none⟩ = some (.int .u8 y0) ∧ w'.cell? ⟨w0.heap.size, x1.toNat, none⟩ = some (.int .u8 y1) ∧ w'.cell? ⟨w0.heap.size, x2.toNat, none⟩ = some (.int .u8 y2) ∧ w'.cell? ⟨w0.heap.size, x3.toNat, none⟩ = some (.int .u8 y3)) (ds := [31]) #[false, false, false, false, false, false, false, false, false, false, false, false, false, false, false, false, false, false, false, false, false, false, false, false, false, false, false, false, false, false, false, false] (by kernel_rfl) rfl rfl ⟨(show wC.drew.cell? ⟨gw, 0, none⟩ = some (.int .u8 x0) from c0), (show wC.drew.cell? ⟨gw, 1, none⟩ = some (.int .u8 x1) from c1), (show wC.drew.cell? ⟨gw, 2, none⟩ = some (.int .u8 x2) from c2), (show wC.drew.cell? ⟨gw, 3, none⟩ = some (.int .u8 x3) from c3), (show wC.drew.cell? ⟨w0.heap.size, x0.toNat, none⟩ = some (.int .u8 y0) from t0), (show wC.drew.cell? ⟨w0.heap.size, x1.toNat, none⟩ = some (.int .u8 y1) from t1), (show wC.drew.cell? ⟨w0.heap.size, x2.toNat, none⟩ = some (.int .u8 y2) from t2), (show wC.drew.cell? ⟨w0.heap.size, x3.toNat, none⟩ = some (.int .u8 y3) from t3)⟩ (fun hHeld => ?_)
               refine with_tabW cof_tab18 cof_bits18 (fun HT_ HW_ => ?_)
               generalize wC.drew = wD at hHeld GWd G1D G0D HBD HSD ⊢
               refine pure_ (i := 0) (N := some 71) (v := ?_) (a' := ?_) #[true, false, false, false, false, false, false, false, false, false, false, false, false, false, false, false, false, false, false, false, false, false, false, false, false, false, false, false, false, false, false, false] rfl rfl (any_of HT_.out (by kernel_rfl)) (fun _ _ _ h => h) (Or.inl ⟨by rfl, ?_⟩) ?_ ?_
               rotate_left
               · intro w'
                 go_simp
                 with_reducible rfl
               rotate_left
               · simp only [Act.put, sA_, s0_, s1_, i64_w, i32_w]
                 rfl
               refine pure_ (i := 1) (N := some 72) (v := ?_) (a' := ?_) #[true, true, false, false, false, false, false, false, false, false, false, false, false, false, false, false, false, false, false, false, false, false, false, false, false, false, false, false, false, false, false, false] rfl rfl (any_of HT_.out (by kernel_rfl)) (fun _ _ _ h => h) (Or.inl ⟨by rfl, ?_⟩) ?_ ?_
               rotate_left
               · intro w'
                 go_simp
                 with_reducible rfl
               rotate_left
               · simp only [Act.put, sA_, s0_, s1_, i64_w, i32_w]
                 rfl
               refine pure_ (i := 3) (N := some 74) (v := ?_) (a' := ?_) #[true, true, false, true, false, false, false, false, false, false, false, false, false, false, false, false, false, false, false, false, false, false, false, false, false, false, false, false, false, false, false, false] rfl rfl (any_of HT_.out (by kernel_rfl)) (fun _ _ _ h => h) (Or.inl ⟨by rfl, ?_⟩) ?_ ?_
               rotate_left
               · intro w'
                 go_simp
                 with_reducible rfl
               rotate_left
               · simp only [Act.put, sA_, s0_, s1_, i64_w, i32_w]
                 rfl
               refine pure_ (i := 4) (N := some 75) (v := ?_) (a' := ?_) #[true, true, false, true, true, false, false, false, false, false, false, false, false, false, false, false, false, false, false, false, false, false, false, false, false, false, false, false, false, false, false, false] rfl rfl (any_of HT_.out (by kernel_rfl)) (fun _ _ _ h => h) (Or.inl ⟨by rfl, ?_⟩) ?_ ?_
               rotate_left
               · intro w'
                 go_simp
                 with_reducible rfl
               rotate_left
               · simp only [Act.put, sA_, s0_, s1_, i64_w, i32_w]
                 rfl
               refine pure_ (i := 7) (N := some 78) (v := ?_) (a' := ?_) #[true, true, false, true, true, false, false, true, false, false, false, false, false, false, false, false, false, false, false, false, false, false, false, false, false, false, false, false, false, false, false, false] rfl rfl (any_of HT_.out (by kernel_rfl)) (fun _ _ _ h => h) (Or.inl ⟨by rfl, ?_⟩) ?_ ?_
               rotate_left
               · intro w'
                 go_simp
                 with_reducible rfl
               rotate_left
               · simp only [Act.put, sA_, s0_, s1_, i64_w, i32_w]
                 rfl
               refine pure_ (i := 9) (N := some 80) (v := ?_) (a' := ?_) #[true, true, false, true, true, false, false, true, false, true, false, false, false, false, false, false, false, false, false, false, false, false, false, false, false, false, false, false, false, false, false, false] rfl rfl (any_of HT_.out (by kernel_rfl)) (fun _ _ _ h => h) (Or.inl ⟨by rfl, ?_⟩) ?_ ?_
               rotate_left
               · intro w'
                 go_simp
                 with_reducible rfl
               rotate_left
               · simp only [Act.put, sA_, s0_, s1_, i64_w, i32_w]
                 rfl
               refine pure_ (i := 10) (N := some 81) (v := ?_) (a' := ?_) #[true, true, false, true, true, false, false, true, false, true, true, false, false, false, false, false, false, false, false, false, false, false, false, false, false, false, false, false, false, false, false, false] rfl rfl (any_of HT_.out (by kernel_rfl)) (fun _ _ _ h => h) (Or.inl ⟨by rfl, ?_⟩) ?_ ?_
               rotate_left
               · intro w'
                 go_simp
                 with_reducible rfl
               rotate_left
               · simp only [Act.put, sA_, s0_, s1_, i64_w, i32_w]
                 rfl
               refine pure_ (i := 12) (N := some 83) (v := ?_) (a' := ?_) #[true, true, false, true, true, false, false, true, false, true, true, false, true, false, false, false, false, false, false, false, false, false, false, false, false, false, false, false, false, false, false, false] rfl rfl (any_of HT_.out (by kernel_rfl)) (fun _ _ _ h => h) (Or.inl ⟨by rfl, ?_⟩) ?_ ?_
               rotate_left
               · intro w'
                 go_simp
                 with_reducible rfl
               rotate_left
               · simp only [Act.put, sA_, s0_, s1_, i64_w, i32_w]
                 rfl
               refine pure_ (i := 13) (N := some 84) (v := ?_) (a' := ?_) #[true, true, false, true, true, false, false, true, false, true, true, false, true, true, false, false, false, false, false, false, false, false, false, false, false, false, false, false, false, false, false, false] rfl rfl (any_of HT_.out (by kernel_rfl)) (fun _ _ _ h => h) (Or.inl ⟨by rfl, ?_⟩) ?_ ?_
               rotate_left
               · intro w'
                 go_simp
                 with_reducible rfl
               rotate_left
               · simp only [Act.put, sA_, s0_, s1_, i64_w, i32_w]
                 rfl
               refine pure_ (i := 16) (N := some 87) (v := ?_) (a' := ?_) #[true, true, false, true, true, false, false, true, false, true, true, false, true, true, false, false, true, false, false, false, false, false, false, false, false, false, false, false, false, false, false, false] rfl rfl (any_of HT_.out (by kernel_rfl)) (fun _ _ _ h => h) (Or.inl ⟨by rfl, ?_⟩) ?_ ?_
               rotate_left
               · intro w'
                 go_simp
                 with_reducible rfl
               rotate_left
               · simp only [Act.put, sA_, s0_, s1_, i64_w, i32_w]
                 rfl
               refine pure_ (i := 17) (N := some 88) (v := ?_) (a' := ?_) #[true, true, false, true, true, false, false, true, false, true, true, false, true, true, false, false, true, true, false, false, false, false, false, false, false, false, false, false, false, false, false, false] rfl rfl (any_of HT_.out (by kernel_rfl)) (fun _ _ _ h => h) (Or.inl ⟨by rfl, ?_⟩) ?_ ?_
               rotate_left
               · intro w'
                 go_simp
                 with_reducible rfl
               rotate_left
               · simp only [Act.put, sA_, s0_, s1_, i64_w, i32_w]
                 rfl
               refine pure_ (i := 19) (N := some 90) (v := ?_) (a' := ?_) #[true, true, false, true, true, false, false, true, false, true, true, false, true, true, false, false, true, true, false, true, false, false, false, false, false, false, false, false, false, false, false, false] rfl rfl (any_of HT_.out (by kernel_rfl)) (fun _ _ _ h => h) (Or.inl ⟨by rfl, ?_⟩) ?_ ?_
               rotate_left
               · intro w'
                 go_simp
                 with_reducible rfl
               rotate_left
               · simp only [Act.put, sA_, s0_, s1_, i64_w, i32_w]
                 rfl
               refine pure_ (i := 20) (N := some 91) (v := ?_) (a' := ?_) #[true, true, false, true, true, false, false, true, false, true, true, false, true, true, false, false, true, true, false, true, true, false, false, false, false, false, false, false, false, false, false, false] rfl rfl (any_of HT_.out (by kernel_rfl)) (fun _ _ _ h => h) (Or.inl ⟨by rfl, ?_⟩) ?_ ?_
               rotate_left
               · intro w'
                 go_simp
                 with_reducible rfl
               rotate_left
               · simp only [Act.put, sA_, s0_, s1_, i64_w, i32_w]
                 rfl
               refine pure_ (i := 23) (N := some 94) (v := ?_) (a' := ?_) #[true, true, false, true, true, false, false, true, false, true, true, false, true, true, false, false, true, true, false, true, true, false, false, true, false, false, false, false, false, false, false, false] rfl rfl (any_of HT_.out (by kernel_rfl)) (fun _ _ _ h => h) (Or.inl ⟨by rfl, ?_⟩) ?_ ?_
               rotate_left
               · intro w'
                 go_simp
                 with_reducible rfl
               rotate_left
               · simp only [Act.put, sA_, s0_, s1_, i64_w, i32_w]
                 rfl
               refine pure_ (i := 24) (N := some 95) (v := ?_) (a' := ?_) #[true, true, false, true, true, false, false, true, false, true, true, false, true, true, false, false, true, true, false, true, true, false, false, true, true, false, false, false, false, false, false, false] rfl rfl (any_of HT_.out (by kernel_rfl)) (fun _ _ _ h => h) (Or.inl ⟨by rfl, ?_⟩) ?_ ?_
               rotate_left
               · intro w'
                 go_simp
                 with_reducible rfl
               rotate_left
               · simp only [Act.put, sA_, s0_, s1_, i64_w, i32_w]
                 rfl
               refine pure_ (i := 26) (N := some 97) (v := ?_) (a' := ?_) #[true, true, false, true, true, false, false, true, false, true, true, false, true, true, false, false, true, true, false, true, true, false, false, true, true, false, true, false, false, false, false, false] rfl rfl (any_of HT_.out (by kernel_rfl)) (fun _ _ _ h => h) (Or.inl ⟨by rfl, ?_⟩) ?_ ?_
               rotate_left
               · intro w'
                 go_simp
                 with_reducible rfl
               rotate_left
               · simp only [Act.put, sA_, s0_, s1_, i64_w, i32_w]
                 rfl
               refine pure_ (i := 27) (N := some 98) (v := ?_) (a' := ?_) #[true, true, false, true, true, false, false, true, false, true, true, false, true, true, false, false, true, true, false, true, true, false, false, true, true, false, true, true, false, false, false, false] rfl rfl (any_of HT_.out (by kernel_rfl)) (fun _ _ _ h => h) (Or.inl ⟨by rfl, ?_⟩) ?_ ?_
               rotate_left
               · intro w'
                 go_simp
                 with_reducible rfl
               rotate_left
               · simp only [Act.put, sA_, s0_, s1_, i64_w, i32_w]
                 rfl
               refine take_ (i := 2) (N := some 73) (v := ?_) (a' := ?_) #[true, true, true, true, true, false, false, true, false, true, true, false, true, true, false, false, true, true, false, true, true, false, false, true, true, false, true, true, false, false, false, false] rfl rfl (take_ofW HT_.out HW_.out (by kernel_rfl)) (fun _ _ _ h => h) (Or.inl ⟨by rfl, ?_⟩) hHeld ?_ ?_
               rotate_left
               · rintro w' ⟨s0, s1, s2, s3, s4, s5, s6, s7⟩
                 go_simp
                 with_reducible rfl
               rotate_left
               · simp only [Act.put, sA_, s0_, s1_, i64_w, i32_w]
                 rfl
               refine pure_ (i := 5) (N := some 76) (v := ?_) (a' := ?_) #[true, true, true, true, true, true, false, true, false, true, true, false, true, true, false, false, true, true, false, true, true, false, false, true, true, false, true, true, false, false, false, false] rfl rfl (any_of HT_.out (by kernel_rfl)) (fun _ _ _ h => h) (Or.inl ⟨by rfl, ?_⟩) ?_ ?_
               rotate_left
               · intro w'
                 go_simp
                 with_reducible rfl
               rotate_left
               · simp only [Act.put, sA_, s0_, s1_, i64_w, i32_w]
                 rfl
               refine take_ (i := 6) (N := some 77) (v := ?_) (a' := ?_) #[true, true, true, true, true, true, true, true, false, true, true, false, true, true, false, false, true, true, false, true, true, false, false, true, true, false, true, true, false, false, false, false] rfl rfl (take_ofW HT_.out HW_.out (by kernel_rfl)) (fun _ _ _ h => h) (Or.inl ⟨by rfl, ?_⟩) hHeld ?_ ?_
               rotate_left
               · rintro w' ⟨s0, s1, s2, s3, s4, s5, s6, s7⟩
                 go_simp
                 with_reducible rfl
               rotate_left
               · simp only [Act.put, sA_, s0_, s1_, i64_w, i32_w]
                 rfl
               refine pure_ (i := 8) (N := some 79) (v := ?_) (a' := ?_) #[true, true, true, true, true, true, true, true, true, true, true, false, true, true, false, false, true, true, false, true, true, false, false, true, true, false, true, true, false, false, false, false] rfl rfl (any_of HT_.out (by kernel_rfl)) (fun _ _ _ h => h) (Or.inl ⟨by rfl, ?_⟩) ?_ ?_
               rotate_left
               · intro w'
                 go_simp
                 with_reducible rfl
               rotate_left
               · simp only [Act.put, sA_, s0_, s1_, i64_w, i32_w]
                 rfl
               refine take_ (i := 11) (N := some 82) (v := ?_) (a' := ?_) #[true, true, true, true, true, true, true, true, true, true, true, true, true, true, false, false, true, true, false, true, true, false, false, true, true, false, true, true, false, false, false, false] rfl rfl (take_ofW HT_.out HW_.out (by kernel_rfl)) (fun _ _ _ h => h) (Or.inl ⟨by rfl, ?_⟩) hHeld ?_ ?_
               rotate_left
               · rintro w' ⟨s0, s1, s2, s3, s4, s5, s6, s7⟩
                 go_simp
                 with_reducible rfl
               rotate_left
               · simp only [Act.put, sA_, s0_, s1_, i64_w, i32_w]
                 rfl
               refine pure_ (i := 14) (N := some 85) (v := ?_) (a' := ?_) #[true, true, true, true, true, true, true, true, true, true, true, true, true, true, true, false, true, true, false, true, true, false, false, true, true, false, true, true, false, false, false, false] rfl rfl (any_of HT_.out (by kernel_rfl)) (fun _ _ _ h => h) (Or.inl ⟨by rfl, ?_⟩) ?_ ?_
               rotate_left
               · intro w'
                 go_simp
                 with_reducible rfl
               rotate_left
               · simp only [Act.put, sA_, s0_, s1_, i64_w, i32_w]
                 rfl
               refine take_ (i := 15) (N := some 86) (v := ?_) (a' := ?_) #[true, true, true, true, true, true, true, true, true, true, true, true, true, true, true, true, true, true, false, true, true, false, false, true, true, false, true, true, false, false, false, false] rfl rfl (take_ofW HT_.out HW_.out (by kernel_rfl)) (fun _ _ _ h => h) (Or.inl ⟨by rfl, ?_⟩) hHeld ?_ ?_
               rotate_left
               · rintro w' ⟨s0, s1, s2, s3, s4, s5, s6, s7⟩
                 go_simp
                 with_reducible rfl
               rotate_left
               · simp only [Act.put, sA_, s0_, s1_, i64_w, i32_w]
                 rfl
               refine take_ (i := 18) (N := some 89) (v := ?_) (a' := ?_) #[true, true, true, true, true, true, true, true, true, true, true, true, true, true, true, true, true, true, true, true, true, false, false, true, true, false, true, true, false, false, false, false] rfl rfl (take_ofW HT_.out HW_.out (by kernel_rfl)) (fun _ _ _ h => h) (Or.inl ⟨by rfl, ?_⟩) hHeld ?_ ?_
               rotate_left
               · rintro w' ⟨s0, s1, s2, s3, s4, s5, s6, s7⟩
                 go_simp
                 with_reducible rfl
               rotate_left
               · simp only [Act.put, sA_, s0_, s1_, i64_w, i32_w]
                 rfl
               refine pure_ (i := 21) (N := some 92) (v := ?_) (a' := ?_) #[true, true, true, true, true, true, true, true, true, true, true, true, true, true, true, true, true, true, true, true, true, true, false, true, true, false, true, true, false, false, false, false] rfl rfl (any_of HT_.out (by kernel_rfl)) (fun _ _ _ h => h) (Or.inl ⟨by rfl, ?_⟩) ?_ ?_
               rotate_left
               · intro w'
                 go_simp
                 with_reducible rfl
               rotate_left
               · simp only [Act.put, sA_, s0_, s1_, i64_w, i32_w]
                 rfl
               refine take_ (i := 22) (N := some 93) (v := ?_) (a' := ?_) #[true, true, true, true, true, true, true, true, true, true, true, true, true, true, true, true, true, true, true, true, true, true, true, true, true, false, true, true, false, false, false, false] rfl rfl (take_ofW HT_.out HW_.out (by kernel_rfl)) (fun _ _ _ h => h) (Or.inl ⟨by rfl, ?_⟩) hHeld ?_ ?_
               rotate_left
               · rintro w' ⟨s0, s1, s2, s3, s4, s5, s6, s7⟩
                 go_simp
                 with_reducible rfl
               rotate_left
               · simp only [Act.put, sA_, s0_, s1_, i64_w, i32_w]
                 rfl
               refine take_ (i := 25) (N := some 96) (v := ?_) (a' := ?_) #[true, true, true, true, true, true, true, true, true, true, true, true, true, true, true, true, true, true, true, true, true, true, true, true, true, true, true, true, false, false, false, false] rfl rfl (take_ofW HT_.out HW_.out (by kernel_rfl)) (fun _ _ _ h => h) (Or.inl ⟨by rfl, ?_⟩) hHeld ?_ ?_
               rotate_left
               · rintro w' ⟨s0, s1, s2, s3, s4, s5, s6, s7⟩
                 go_simp
                 with_reducible rfl
               rotate_left
               · simp only [Act.put, sA_, s0_, s1_, i64_w, i32_w]
                 rfl
               refine pure_ (i := 28) (N := some 99) (v := ?_) (a' := ?_) #[true, true, true, true, true, true, true, true, true, true, true, true, true, true, true, true, true, true, true, true, true, true, true, true, true, true, true, true, true, false, false, false] rfl rfl (any_of HT_.out (by kernel_rfl)) (fun _ _ _ h => h) (Or.inl ⟨by rfl, ?_⟩) ?_ ?_
               rotate_left
               · intro w'
                 go_simp
                 with_reducible rfl
               rotate_left
               · simp only [Act.put, sA_, s0_, s1_, i64_w, i32_w]
                 rfl
               refine take_ (i := 29) (N := some 100) (v := ?_) (a' := ?_) #[true, true, true, true, true, true, true, true, true, true, true, true, true, true, true, true, true, true, true, true, true, true, true, true, true, true, true, true, true, true, false, false] rfl rfl (take_ofW HT_.out HW_.out (by kernel_rfl)) (fun _ _ _ h => h) (Or.inl ⟨by rfl, ?_⟩) hHeld ?_ ?_
               rotate_left
               · rintro w' ⟨s0, s1, s2, s3, s4, s5, s6, s7⟩
                 go_simp
                 with_reducible rfl
               rotate_left
               · simp only [Act.put, sA_, s0_, s1_, i64_w, i32_w]
                 rfl
               refine pure_ (i := 30) (N := some 101) (v := ?_) (a' := ?_) #[true, true, true, true, true, true, true, true, true, true, true, true, true, true, true, true, true, true, true, true, true, true, true, true, true, true, true, true, true, true, true, false] rfl rfl (any_of HT_.out (by kernel_rfl)) (fun _ _ _ h => h) (Or.inl ⟨by rfl, ?_⟩) ?_ ?_
               rotate_left
               · intro w'
                 go_simp
                 with_reducible rfl
               rotate_left
               · simp only [Act.put, sA_, s0_, s1_, i64_w, i32_w]
                 rfl
               refine last_ (i := 31) (N := none) #[true, true, true, true, true, true, true, true, true, true, true, true, true, true, true, true, true, true, true, true, true, true, true, true, true, true, true, true, true, true, true, true] rfl rfl (one_of HT_.out (by kernel_rfl)) (by decide) (fun K hK => ?_)
               refine wp_store_row 128 (.tmp 10) (.tmp 101) (by rfl) gw (nums .u8 [Go.bits .xor .u8 y1 (f : Int), y2, y3, y0]).toArray (by rfl) (by rfl) 128 _ GWd.out (by kernel_rfl) (by rw [HWS.out]; rfl) (nums_one _ _) ?_
               refine hK.out _ _ ?_
               clear hK K
               refine done_ (done_of HT_.out (by kernel_rfl)) ?_
               rw [HTRN.out]
               simp only [Act.put]
               clear p0 p1 p2 p3 r0 r1 r2 r3 c0 c1 c2 c3 t0 t1 t2 t3 hHeld
               have hTK := Aes.turned_ok HDK.out.2 HF8.out
               obtain ⟨L1, hL1⟩ : ∃ L, L = Aes.turned Wd (f : Int) := ⟨_, rfl⟩
               rw [← hL1] at hTK ⊢
               have HLE := Aside0.mk hL1
               have HTK := Aside0.mk hTK
               have GN := Aside0.mk (setRow_heap wD gw _ (nums .u8 L1).toArray _ _ GWd.out)
               have GN1 : Aside0 ((wD.setRow gw (nums .u8 L1).toArray).heap[g1]? = some (.cells cw 128 (0, 0))) := ⟨(setRow_other _ _ _ _ (by have := HGW.out; omega)).trans G1D.out⟩
               have GN0 : Aside0 ((wD.setRow gw (nums .u8 L1).toArray).heap[w0.heap.size]? = some (.cells cs 125 (0, 0))) := ⟨(setRow_other _ _ _ _ (by have := HGW.out; have := HG1.out; omega)).trans G0D.out⟩
               have HBN : Aside0 (Below w0.heap.size w0 (wD.setRow gw (nums .u8 L1).toArray)) := ⟨below_row HBD.out (by have := HGW.out; have := HG1.out; omega) _⟩
               have HSN : Aside0 (gw < (wD.setRow gw (nums .u8 L1).toArray).heap.size) := ⟨by rw [setRow_size]; exact HSD.out⟩
               generalize wD.setRow gw (nums .u8 L1).toArray = wN at GN GN1 GN0 HBN HSN ⊢
               clear hL1 hTK
               have kf := times2 f HF8.out
               have HKF := Aside0.mk kf
               clear kf
               go_wp2_with (go_at_call 116; refine (impl_times.calls 10 (f : Int) 2 _ _ HKF.out).mono ?_; rintro e w' ⟨rfl, ⟨nd, rfl⟩⟩)
               go_meet
               case rel => exact ⟨Gf.xt f, L1, rfl, HTK, ⟨by rw [HNX3.out, if_pos HM.out, HLE.out]⟩, GN, GN1, GN0, ⟨pw_below_drewN HBN.out _⟩, HSN⟩
             · have hmb : ((i : Int) % (n : Int) == 0) = false := by rw [beq_eq_false_iff_ne]; omega
               have HM := Aside0.mk hm
               by_cases h84 : n = 8 ∧ i % n = 4
               · have H84 := Aside0.mk h84
                 have hb8 : ((n : Int) == 8) = true := by rw [beq_iff_eq]; omega
                 have hb4 : ((i : Int) % (n : Int) == 4) = true := by rw [beq_iff_eq]; omega
                 clear hm h84
                 go_wp2_with fail
                 clear hmb hnz hnz1 hb8 hb4
                 refine start_ (n := 30) (S := fun w' => w'.cell? ⟨gw, 0, none⟩ = some (.int .u8 x0) ∧ w'.cell? ⟨gw, 1, none⟩ = some (.int .u8 x1) ∧ w'.cell? ⟨gw, 2, none⟩ = some (.int .u8 x2) ∧ w'.cell? ⟨gw, 3, none⟩ = some (.int .u8 x3) ∧ w'.cell? ⟨w0.heap.size, x0.toNat, none⟩ = some (.int .u8 y0) ∧ w'.cell? ⟨w0.heap.size, x1.toNat, none⟩ = some (.int .u8 y1) ∧ w'.cell? ⟨w0.heap.size, x2.toNat, none⟩ = some (.int .u8 y2) ∧ w'.cell? ⟨w0.heap.size, x3.toNat, none⟩ = some (.int .u8 y3)) (ds := [29]) #[false, false, false, false, false, false, false, false, false, false, false, false, false, false, false, false, false, false, false, false, false, false, false, false, false, false, false, false, false, false] (by kernel_rfl) rfl rfl ⟨(show wC.drew.cell? ⟨gw, 0, none⟩ = some (.int .u8 x0) from c0), (show wC.drew.cell? ⟨gw, 1, none⟩ = some (.int .u8 x1) from c1), (show wC.drew.cell? ⟨gw, 2, none⟩ = some (.int .u8 x2) from c2), (show wC.drew.cell? ⟨gw, 3, none⟩ = some (.int .u8 x3) from c3), (show wC.drew.cell? ⟨w0.heap.size, x0.toNat, none⟩ = some (.int .u8 y0) from t0), (show wC.drew.cell? ⟨w0.heap.size, x1.toNat, none⟩ = some (.int .u8 y1) from t1), (show wC.drew.cell? ⟨w0.heap.size, x2.toNat, none⟩ = some (.int .u8 y2) from t2), (show wC.drew.cell? ⟨w0.heap.size, x3.toNat, none⟩ = some (.int .u8 y3) from t3)⟩ (fun hHeld => ?_)
                 refine with_tabW cof_tab21 cof_bits21 (fun HT_ HW_ => ?_)
                 generalize wC.drew = wD at hHeld GWd G1D G0D HBD HSD ⊢
                 refine pure_ (i := 0) (N := some 113) (v := ?_) (a' := ?_) #[true, false, false, false, false, false, false, false, false, false, false, false, false, false, false, false, false, false, false, false, false, false, false, false, false, false, false, false, false, false] rfl rfl (any_of HT_.out (by kernel_rfl)) (fun _ _ _ h => h) (Or.inl ⟨by rfl, ?_⟩) ?_ ?_
                 rotate_left
                 · intro w'
                   go_simp
                   with_reducible rfl
                 rotate_left
                 · simp only [Act.put, sA_, s0_, s1_, i64_w, i32_w]
                   rfl
                 refine pure_ (i := 1) (N := some 114) (v := ?_) (a' := ?_) #[true, true, false, false, false, false, false, false, false, false, false, false, false, false, false, false, false, false, false, false, false, false, false, false, false, false, false, false, false, false] rfl rfl (any_of HT_.out (by kernel_rfl)) (fun _ _ _ h => h) (Or.inl ⟨by rfl, ?_⟩) ?_ ?_
                 rotate_left
                 · intro w'
                   go_simp
                   with_reducible rfl
                 rotate_left
                 · simp only [Act.put, sA_, s0_, s1_, i64_w, i32_w]
                   rfl
                 refine pure_ (i := 3) (N := some 116) (v := ?_) (a' := ?_) #[true, true, false, true, false, false, false, false, false, false, false, false, false, false, false, false, false, false, false, false, false, false, false, false, false, false, false, false, false, false] rfl rfl (any_of HT_.out (by kernel_rfl)) (fun _ _ _ h => h) (Or.inl ⟨by rfl, ?_⟩) ?_ ?_
                 rotate_left
                 · intro w'
                   go_simp
                   with_reducible rfl
                 rotate_left
                 · simp only [Act.put, sA_, s0_, s1_, i64_w, i32_w]
                   rfl
                 refine pure_ (i := 4) (N := some 117) (v := ?_) (a' := ?_) #[true, true, false, true, true, false, false, false, false, false, false, false, false, false, false, false, false, false, false, false, false, false, false, false, false, false, false, false, false, false] rfl rfl (any_of HT_.out (by kernel_rfl)) (fun _ _ _ h => h) (Or.inl ⟨by rfl, ?_⟩) ?_ ?_
                 rotate_left
                 · intro w'
                   go_simp
                   with_reducible rfl
                 rotate_left
                 · simp only [Act.put, sA_, s0_, s1_, i64_w, i32_w]
                   rfl
                 refine pure_ (i := 7) (N := some 120) (v := ?_) (a' := ?_) #[true, true, false, true, true, false, false, true, false, false, false, false, false, false, false, false, false, false, false, false, false, false, false, false, false, false, false, false, false, false] rfl rfl (any_of HT_.out (by kernel_rfl)) (fun _ _ _ h => h) (Or.inl ⟨by rfl, ?_⟩) ?_ ?_
                 rotate_left
                 · intro w'
                   go_simp
                   with_reducible rfl
                 rotate_left
                 · simp only [Act.put, sA_, s0_, s1_, i64_w, i32_w]
                   rfl
                 refine pure_ (i := 8) (N := some 121) (v := ?_) (a' := ?_) #[true, true, false, true, true, false, false, true, true, false, false, false, false, false, false, false, false, false, false, false, false, false, false, false, false, false, false, false, false, false] rfl rfl (any_of HT_.out (by kernel_rfl)) (fun _ _ _ h => h) (Or.inl ⟨by rfl, ?_⟩) ?_ ?_
                 rotate_left
                 · intro w'
                   go_simp
                   with_reducible rfl
                 rotate_left
                 · simp only [Act.put, sA_, s0_, s1_, i64_w, i32_w]
                   rfl
                 refine pure_ (i := 10) (N := some 123) (v := ?_) (a' := ?_) #[true, true, false, true, true, false, false, true, true, false, true, false, false, false, false, false, false, false, false, false, false, false, false, false, false, false, false, false, false, false] rfl rfl (any_of HT_.out (by kernel_rfl)) (fun _ _ _ h => h) (Or.inl ⟨by rfl, ?_⟩) ?_ ?_
                 rotate_left
                 · intro w'
                   go_simp
                   with_reducible rfl
                 rotate_left
                 · simp only [Act.put, sA_, s0_, s1_, i64_w, i32_w]
                   rfl
                 refine pure_ (i := 11) (N := some 124) (v := ?_) (a' := ?_) #[true, true, false, true, true, false, false, true, true, false, true, true, false, false, false, false, false, false, false, false, false, false, false, false, false, false, false, false, false, false] rfl rfl (any_of HT_.out (by kernel_rfl)) (fun _ _ _ h => h) (Or.inl ⟨by rfl, ?_⟩) ?_ ?_
                 rotate_left
                 · intro w'
                   go_simp
                   with_reducible rfl
                 rotate_left
                 · simp only [Act.put, sA_, s0_, s1_, i64_w, i32_w]
                   rfl
                 refine pure_ (i := 14) (N := some 127) (v := ?_) (a' := ?_) #[true, true, false, true, true, false, false, true, true, false, true, true, false, false, true, false, false, false, false, false, false, false, false, false, false, false, false, false, false, false] rfl rfl (any_of HT_.out (by kernel_rfl)) (fun _ _ _ h => h) (Or.inl ⟨by rfl, ?_⟩) ?_ ?_
                 rotate_left
                 · intro w'
                   go_simp
                   with_reducible rfl
                 rotate_left
                 · simp only [Act.put, sA_, s0_, s1_, i64_w, i32_w]
                   rfl
                 refine pure_ (i := 15) (N := some 128) (v := ?_) (a' := ?_) #[true, true, false, true, true, false, false, true, true, false, true, true, false, false, true, true, false, false, false, false, false, false, false, false, false, false, false, false, false, false] rfl rfl (any_of HT_.out (by kernel_rfl)) (fun _ _ _ h => h) (Or.inl ⟨by rfl, ?_⟩) ?_ ?_
                 rotate_left
                 · intro w'
                   go_simp
                   with_reducible rfl
                 rotate_left
                 · simp only [Act.put, sA_, s0_, s1_, i64_w, i32_w]
                   rfl
                 refine pure_ (i := 17) (N := some 130) (v := ?_) (a' := ?_) #[true, true, false, true, true, false, false, true, true, false, true, true, false, false, true, true, false, true, false, false, false, false, false, false, false, false, false, false, false, false] rfl rfl (any_of HT_.out (by kernel_rfl)) (fun _ _ _ h => h) (Or.inl ⟨by rfl, ?_⟩) ?_ ?_
                 rotate_left
                 · intro w'
                   go_simp
                   with_reducible rfl
                 rotate_left
                 · simp only [Act.put, sA_, s0_, s1_, i64_w, i32_w]
                   rfl
                 refine pure_ (i := 18) (N := some 131) (v := ?_) (a' := ?_) #[true, true, false, true, true, false, false, true, true, false, true, true, false, false, true, true, false, true, true, false, false, false, false, false, false, false, false, false, false, false] rfl rfl (any_of HT_.out (by kernel_rfl)) (fun _ _ _ h => h) (Or.inl ⟨by rfl, ?_⟩) ?_ ?_
                 rotate_left
                 · intro w'
                   go_simp
                   with_reducible rfl
                 rotate_left
                 · simp only [Act.put, sA_, s0_, s1_, i64_w, i32_w]
                   rfl
                 refine pure_ (i := 21) (N := some 134) (v := ?_) (a' := ?_) #[true, true, false, true, true, false, false, true, true, false, true, true, false, false, true, true, false, true, true, false, false, true, false, false, false, false, false, false, false, false] rfl rfl (any_of HT_.out (by kernel_rfl)) (fun _ _ _ h => h) (Or.inl ⟨by rfl, ?_⟩) ?_ ?_
                 rotate_left
                 · intro w'
                   go_simp
                   with_reducible rfl
                 rotate_left
                 · simp only [Act.put, sA_, s0_, s1_, i64_w, i32_w]
                   rfl
                 refine pure_ (i := 22) (N := some 135) (v := ?_) (a' := ?_) #[true, true, false, true, true, false, false, true, true, false, true, true, false, false, true, true, false, true, true, false, false, true, true, false, false, false, false, false, false, false] rfl rfl (any_of HT_.out (by kernel_rfl)) (fun _ _ _ h => h) (Or.inl ⟨by rfl, ?_⟩) ?_ ?_
                 rotate_left
                 · intro w'
                   go_simp
                   with_reducible rfl
                 rotate_left
                 · simp only [Act.put, sA_, s0_, s1_, i64_w, i32_w]
                   rfl
                 refine pure_ (i := 24) (N := some 137) (v := ?_) (a' := ?_) #[true, true, false, true, true, false, false, true, true, false, true, true, false, false, true, true, false, true, true, false, false, true, true, false, true, false, false, false, false, false] rfl rfl (any_of HT_.out (by kernel_rfl)) (fun _ _ _ h => h) (Or.inl ⟨by rfl, ?_⟩) ?_ ?_
                 rotate_left
                 · intro w'
                   go_simp
                   with_reducible rfl
                 rotate_left
                 · simp only [Act.put, sA_, s0_, s1_, i64_w, i32_w]
                   rfl
                 refine pure_ (i := 25) (N := some 138) (v := ?_) (a' := ?_) #[true, true, false, true, true, false, false, true, true, false, true, true, false, false, true, true, false, true, true, false, false, true, true, false, true, true, false, false, false, false] rfl rfl (any_of HT_.out (by kernel_rfl)) (fun _ _ _ h => h) (Or.inl ⟨by rfl, ?_⟩) ?_ ?_
                 rotate_left
                 · intro w'
                   go_simp
                   with_reducible rfl
                 rotate_left
                 · simp only [Act.put, sA_, s0_, s1_, i64_w, i32_w]
                   rfl
                 refine take_ (i := 2) (N := some 115) (v := ?_) (a' := ?_) #[true, true, true, true, true, false, false, true, true, false, true, true, false, false, true, true, false, true, true, false, false, true, true, false, true, true, false, false, false, false] rfl rfl (take_ofW HT_.out HW_.out (by kernel_rfl)) (fun _ _ _ h => h) (Or.inl ⟨by rfl, ?_⟩) hHeld ?_ ?_
                 rotate_left
                 · rintro w' ⟨s0, s1, s2, s3, s4, s5, s6, s7⟩
                   go_simp
                   with_reducible rfl
                 rotate_left
                 · simp only [Act.put, sA_, s0_, s1_, i64_w, i32_w]
                   rfl
                 refine pure_ (i := 5) (N := some 118) (v := ?_) (a' := ?_) #[true, true, true, true, true, true, false, true, true, false, true, true, false, false, true, true, false, true, true, false, false, true, true, false, true, true, false, false, false, false] rfl rfl (any_of HT_.out (by kernel_rfl)) (fun _ _ _ h => h) (Or.inl ⟨by rfl, ?_⟩) ?_ ?_
                 rotate_left
                 · intro w'
                   go_simp
                   with_reducible rfl
                 rotate_left
                 · simp only [Act.put, sA_, s0_, s1_, i64_w, i32_w]
                   rfl
                 refine take_ (i := 6) (N := some 119) (v := ?_) (a' := ?_) #[true, true, true, true, true, true, true, true, true, false, true, true, false, false, true, true, false, true, true, false, false, true, true, false, true, true, false, false, false, false] rfl rfl (take_ofW HT_.out HW_.out (by kernel_rfl)) (fun _ _ _ h => h) (Or.inl ⟨by rfl, ?_⟩) hHeld ?_ ?_
                 rotate_left
                 · rintro w' ⟨s0, s1, s2, s3, s4, s5, s6, s7⟩
                   go_simp
                   with_reducible rfl
                 rotate_left
                 · simp only [Act.put, sA_, s0_, s1_, i64_w, i32_w]
                   rfl
                 refine take_ (i := 9) (N := some 122) (v := ?_) (a' := ?_) #[true, true, true, true, true, true, true, true, true, true, true, true, false, false, true, true, false, true, true, false, false, true, true, false, true, true, false, false, false, false] rfl rfl (take_ofW HT_.out HW_.out (by kernel_rfl)) (fun _ _ _ h => h) (Or.inl ⟨by rfl, ?_⟩) hHeld ?_ ?_
                 rotate_left
                 · rintro w' ⟨s0, s1, s2, s3, s4, s5, s6, s7⟩
                   go_simp
                   with_reducible rfl
                 rotate_left
                 · simp only [Act.put, sA_, s0_, s1_, i64_w, i32_w]
                   rfl
                 refine pure_ (i := 12) (N := some 125) (v := ?_) (a' := ?_) #[true, true, true, true, true, true, true, true, true, true, true, true, true, false, true, true, false, true, true, false, false, true, true, false, true, true, false, false, false, false] rfl rfl (any_of HT_.out (by kernel_rfl)) (fun _ _ _ h => h) (Or.inl ⟨by rfl, ?_⟩) ?_ ?_
                 rotate_left
                 · intro w'
                   go_simp
                   with_reducible rfl
                 rotate_left
                 · simp only [Act.put, sA_, s0_, s1_, i64_w, i32_w]
                   rfl
                 refine take_ (i := 13) (N := some 126) (v := ?_) (a' := ?_) #[true, true, true, true, true, true, true, true, true, true, true, true, true, true, true, true, false, true, true, false, false, true, true, false, true, true, false, false, false, false] rfl rfl (take_ofW HT_.out HW_.out (by kernel_rfl)) (fun _ _ _ h => h) (Or.inl ⟨by rfl, ?_⟩) hHeld ?_ ?_
                 rotate_left
                 · rintro w' ⟨s0, s1, s2, s3, s4, s5, s6, s7⟩
                   go_simp
                   with_reducible rfl
                 rotate_left
                 · simp only [Act.put, sA_, s0_, s1_, i64_w, i32_w]
                   rfl
                 refine take_ (i := 16) (N := some 129) (v := ?_) (a' := ?_) #[true, true, true, true, true, true, true, true, true, true, true, true, true, true, true, true, true, true, true, false, false, true, true, false, true, true, false, false, false, false] rfl rfl (take_ofW HT_.out HW_.out (by kernel_rfl)) (fun _ _ _ h => h) (Or.inl ⟨by rfl, ?_⟩) hHeld ?_ ?_
                 rotate_left
                 · rintro w' ⟨s0, s1, s2, s3, s4, s5, s6, s7⟩
                   go_simp
                   with_reducible rfl
                 rotate_left
                 · simp only [Act.put, sA_, s0_, s1_, i64_w, i32_w]
                   rfl
                 refine pure_ (i := 19) (N := some 132) (v := ?_) (a' := ?_) #[true, true, true, true, true, true, true, true, true, true, true, true, true, true, true, true, true, true, true, true, false, true, true, false, true, true, false, false, false, false] rfl rfl (any_of HT_.out (by kernel_rfl)) (fun _ _ _ h => h) (Or.inl ⟨by rfl, ?_⟩) ?_ ?_
                 rotate_left
                 · intro w'
                   go_simp
                   with_reducible rfl
                 rotate_left
                 · simp only [Act.put, sA_, s0_, s1_, i64_w, i32_w]
                   rfl
                 refine take_ (i := 20) (N := some 133) (v := ?_) (a' := ?_) #[true, true, true, true, true, true, true, true, true, true, true, true, true, true, true, true, true, true, true, true, true, true, true, false, true, true, false, false, false, false] rfl rfl (take_ofW HT_.out HW_.out (by kernel_rfl)) (fun _ _ _ h => h) (Or.inl ⟨by rfl, ?_⟩) hHeld ?_ ?_
                 rotate_left
                 · rintro w' ⟨s0, s1, s2, s3, s4, s5, s6, s7⟩
                   go_simp
                   with_reducible rfl
                 rotate_left
                 · simp only [Act.put, sA_, s0_, s1_, i64_w, i32_w]
                   rfl
                 refine take_ (i := 23) (N := some 136) (v := ?_) (a' := ?_) #[true, true, true, true, true, true, true, true, true, true, true, true, true, true, true, true, true, true, true, true, true, true, true, true, true, true, false, false, false, false] rfl rfl (take_ofW HT_.out HW_.out (by kernel_rfl)) (fun _ _ _ h => h) (Or.inl ⟨by rfl, ?_⟩) hHeld ?_ ?_
                 rotate_left
                 · rintro w' ⟨s0, s1, s2, s3, s4, s5, s6, s7⟩
                   go_simp
                   with_reducible rfl
                 rotate_left
                 · simp only [Act.put, sA_, s0_, s1_, i64_w, i32_w]
                   rfl
                 refine pure_ (i := 26) (N := some 139) (v := ?_) (a' := ?_) #[true, true, true, true, true, true, true, true, true, true, true, true, true, true, true, true, true, true, true, true, true, true, true, true, true, true, true, false, false, false] rfl rfl (any_of HT_.out (by kernel_rfl)) (fun _ _ _ h => h) (Or.inl ⟨by rfl, ?_⟩) ?_ ?_
                 rotate_left
                 · intro w'
                   go_simp
                   with_reducible rfl
                 rotate_left
                 · simp only [Act.put, sA_, s0_, s1_, i64_w, i32_w]
                   rfl
                 refine take_ (i := 27) (N := some 140) (v := ?_) (a' := ?_) #[true, true, true, true, true, true, true, true, true, true, true, true, true, true, true, true, true, true, true, true, true, true, true, true, true, true, true, true, false, false] rfl rfl (take_ofW HT_.out HW_.out (by kernel_rfl)) (fun _ _ _ h => h) (Or.inl ⟨by rfl, ?_⟩) hHeld ?_ ?_
                 rotate_left
                 · rintro w' ⟨s0, s1, s2, s3, s4, s5, s6, s7⟩
                   go_simp
                   with_reducible rfl
                 rotate_left
                 · simp only [Act.put, sA_, s0_, s1_, i64_w, i32_w]
                   rfl
                 refine pure_ (i := 28) (N := some 141) (v := ?_) (a' := ?_) #[true, true, true, true, true, true, true, true, true, true, true, true, true, true, true, true, true, true, true, true, true, true, true, true, true, true, true, true, true, false] rfl rfl (any_of HT_.out (by kernel_rfl)) (fun _ _ _ h => h) (Or.inl ⟨by rfl, ?_⟩) ?_ ?_
                 rotate_left
                 · intro w'
                   go_simp
                   with_reducible rfl
                 rotate_left
                 · simp only [Act.put, sA_, s0_, s1_, i64_w, i32_w]
                   rfl
                 refine last_ (i := 29) (N := none) #[true, true, true, true, true, true, true, true, true, true, true, true, true, true, true, true, true, true, true, true, true, true, true, true, true, true, true, true, true, true] rfl rfl (one_of HT_.out (by kernel_rfl)) (by decide) (fun K hK => ?_)
                 refine wp_store_row 128 (.tmp 10) (.tmp 141) (by rfl) gw (nums .u8 [y0, y1, y2, y3]).toArray (by rfl) (by rfl) 128 _ GWd.out (by kernel_rfl) (by rw [HWS.out]; rfl) (nums_one _ _) ?_
                 refine hK.out _ _ ?_
                 clear hK K
                 refine done_ (done_of HT_.out (by kernel_rfl)) ?_
                 rw [HSWP.out]
                 simp only [Act.put]
                 clear p0 p1 p2 p3 r0 r1 r2 r3 c0 c1 c2 c3 t0 t1 t2 t3 hHeld
                 have hTK := Aes.swapped_ok HDK.out.2
                 obtain ⟨L1, hL1⟩ : ∃ L, L = Aes.swapped Wd := ⟨_, rfl⟩
                 rw [← hL1] at hTK ⊢
                 have HLE := Aside0.mk hL1
                 have HTK := Aside0.mk hTK
                 have GN := Aside0.mk (setRow_heap wD gw _ (nums .u8 L1).toArray _ _ GWd.out)
                 have GN1 : Aside0 ((wD.setRow gw (nums .u8 L1).toArray).heap[g1]? = some (.cells cw 128 (0, 0))) := ⟨(setRow_other _ _ _ _ (by have := HGW.out; omega)).trans G1D.out⟩
                 have GN0 : Aside0 ((wD.setRow gw (nums .u8 L1).toArray).heap[w0.heap.size]? = some (.cells cs 125 (0, 0))) := ⟨(setRow_other _ _ _ _ (by have := HGW.out; have := HG1.out; omega)).trans G0D.out⟩
                 have HBN : Aside0 (Below w0.heap.size w0 (wD.setRow gw (nums .u8 L1).toArray)) := ⟨below_row HBD.out (by have := HGW.out; have := HG1.out; omega) _⟩
                 have HSN : Aside0 (gw < (wD.setRow gw (nums .u8 L1).toArray).heap.size) := ⟨by rw [setRow_size]; exact HSD.out⟩
                 generalize wD.setRow gw (nums .u8 L1).toArray = wN at GN GN1 GN0 HBN HSN ⊢
                 clear hL1 hTK
                 go_wp2
                 go_meet
                 case rel => exact ⟨f, L1, rfl, HTK, ⟨by rw [HNX3.out, if_neg HM.out, if_pos H84.out, HLE.out]⟩, GN, GN1, GN0, HBN, HSN⟩
               · have HNN : Aside0 (Aes.kw K n (j + 1) = (WS ++ [Aes.xor4 Wd P], f)) := ⟨by rw [HNX3.out, if_neg hm, if_neg h84]⟩
                 clear p0 p1 p2 p3 r0 r1 r2 r3 c0 c1 c2 c3 t0 t1 t2 t3
                 by_cases h8 : n = 8
                 · have h4 : ¬ i % n = 4 := fun h => h84 ⟨h8, h⟩
                   have hb8 : ((n : Int) == 8) = true := by rw [beq_iff_eq]; omega
                   have hb4 : ((i : Int) % (n : Int) == 4) = false := by rw [beq_eq_false_iff_ne]; omega
                   clear h8 h4 hm h84
                   go_wp2
                   go_meet
                   case rel => exact ⟨f, Wd, rfl, HDK, HNN, GW, G1C, G0C, HBC, HSC⟩
                 · have hb8 : ((n : Int) == 8) = false := by rw [beq_eq_false_iff_ne]; omega
                   clear h8 hm h84
                   go_wp2
                   go_meet
                   case rel => exact ⟨f, Wd, rfl, HDK, HNN, GW, G1C, G0C, HBC, HSC⟩
           case rest =>
             obtain ⟨f1, L1, rfl, HLK, HNX, GL, GQ, GC, HBR, HSR⟩ := hcut
             have hpok : Aes.wordOk P := by rw [HPE.out]; exact Aes.getD_word HWK.out j (by have := HWL.out; have := HJ.out; have := HN48.out; omega)
             have HPK := Aside0.mk hpok
             obtain ⟨X4, hX4⟩ : ∃ X, X = Aes.xor4 L1 P := ⟨_, rfl⟩
             have HXA : Aside0 (∀ q, q < 4 → X4.getD q 0 = Go.bits .xor .u8 (P.getD q 0) (L1.getD q 0)) := ⟨fun q hq => by
               have e : X4.getD q 0 = Aes.xr (L1.getD q 0) (P.getD q 0) := by
                 rw [hX4]
                 match q, hq with
                 | 0, _ => rfl
                 | 1, _ => rfl
                 | 2, _ => rfl
                 | 3, _ => rfl
               rw [e, Aes.xr_comm (Aes.at_by HLK.out.2 q) (Aes.at_by hpok.2 q)]; rfl⟩
             rw [← hX4] at HNX
             have hwj : wrap64 ((i : Int) - (n : Int)) = (j : Int) := by unfold wrap64; have := HJ.out; have := HLT.out; have := HL60.out; have := HN48.out; omega
             have HWJ := Aside0.mk hwj
             have HP0 : Aside0 (partIn WS lim X4 0 cw) := ⟨part_zero HW.out⟩
             clear hpok hX4 hwj hnz hnz1 GW G1C G0C HBC HSC HNX3
             go_wp2_with fail
             go_loopw [142] (fun v wr => ∃ (q : Nat) (cq : Array Value), q ≤ 4 ∧ v = .int .i64 (q : Int) ∧ Aside0 (partIn WS lim X4 q cq) ∧ Aside0 (wr.heap[g1]? = some (.cells cq 128 (0, 0))) ∧ Aside0 (wr.heap[gw]? = some (.cells (nums .u8 L1).toArray 128 (0, 0))) ∧ Aside0 (wr.heap[w0.heap.size]? = some (.cells cs 125 (0, 0))) ∧ Aside0 (Below w0.heap.size w0 wr) ∧ Aside0 (gw < wr.heap.size)) (fun v _ => 4 - (intOf v).toNat)
             case atStart => exact ⟨0, cw, by omega, rfl, HP0, GQ, GL, GC, HBR, HSR⟩
             case round =>
               clear HP0 GQ GL GC HBR HSR
               obtain ⟨q, cq, hq4, rfl, HPI, G1, GL, G0, HB, HSZ⟩ := hrel
               by_cases hlt4 : q < 4
               · have hdq : decide (q < 4) = true := decide_eq_true hlt4
                 have hdq2 : decide ((q : Int) < 4) = true := decide_eq_true (by omega)
                 obtain ⟨x, hx⟩ : ∃ x, x = L1.getD q 0 := ⟨_, rfl⟩
                 obtain ⟨y, hy⟩ : ∃ y, y = P.getD q 0 := ⟨_, rfl⟩
                 have cX : wr.cell? ⟨gw, q, none⟩ = some (.int .u8 x) := by
                   rw [blk_cell GL.out q, hx]
                   exact nums_at? _ _ _ _ (by rw [List.getD_eq_getElem?_getD, List.getElem?_eq_getElem (by rw [HLK.out.1]; exact hlt4)]; rfl)
                 have cY : wr.cell? ⟨g1, j * 4 + q, none⟩ = some (.int .u8 y) := by
                   rw [blk_cell G1.out, HPI.out.1.2 j (by have := HWL.out; have := HJ.out; have := HN48.out; omega) q hlt4, hy, HPE.out]
                 obtain ⟨v0, hv0⟩ : ∃ v, cq[i * 4 + q]? = some v := ⟨_, Array.getElem?_eq_getElem (by rw [HPI.out.1.1]; have := HLT.out; omega)⟩
                 have cZ : wr.cell? ⟨g1, i * 4 + q, none⟩ = some v0 := by rw [blk_cell G1.out]; exact hv0
                 have zZ := blk_frozen G1.out (i * 4 + q)
                 have HPS := Aside0.mk (part_step HPI.out hlt4 (by have := HWL.out; have := HLT.out; omega))
                 have HXV : Aside0 (X4.getD q 0 = Go.bits .xor .u8 y x) := ⟨by rw [HXA.out q hlt4, hx, hy]⟩
                 have hwj := HWJ.out
                 have q0 : (0 : Int) ≤ (q : Int) := by omega
                 have q1 : (q : Int) < 4 := by omega
                 have j0 : (0 : Int) ≤ (j : Int) := by omega
                 have j1 : (j : Int) < (lim : Int) := by have := HJ.out; have := HLT.out; omega
                 have j2 : j < lim := by have := HJ.out; have := HLT.out; omega
                 have i0 : (0 : Int) ≤ (i : Int) := by omega
                 have i1' : (i : Int) < (lim : Int) := by have := HLT.out; omega
                 have i2 : i < lim := HLT.out
                 have HLT4 := Aside0.mk hlt4
                 clear hx hy hv0 hlt4 hq4
                 go_wp2
                 go_region
                 have hgn : g1 ≠ gw := by have := HGW.out; omega
                 have hgn0 : w0.heap.size ≠ g1 := by have := HG1.out; omega
                 clear hwj q0 q1 j0 j1 j2 i0 i1' i2
                 go_wp2
                 have hw : wrap64 ((q : Int) + 1) = ((q + 1 : Nat) : Int) := by have := HLT4.out; unfold wrap64; omega
                 rw [hw]
                 clear hw
                 go_roundw
                 case rel =>
                   refine ⟨q + 1, _, HLT4.out, rfl, ⟨by have := HPS.out; rw [HWL.out, HXV.out] at this; exact this⟩, ⟨blk_drew (blk_set G1.out _ _)⟩, ⟨blk_drew (blk_far GL.out (Ne.symm hgn) _)⟩, ⟨blk_drew (blk_far G0.out hgn0 _)⟩, ⟨below_drew1 (below_set HB.out (by have := HG1.out; omega))⟩, ⟨by have := HSZ.out; simpa using this⟩⟩
                 case measure => simp [intOf]; have := HLT4.out; omega
               · have hdq : decide (q < 4) = false := decide_eq_false hlt4
                 have hdq2 : decide ((q : Int) < 4) = false := decide_eq_false (by omega)
                 have HWN : Aside0 (wordsIn (WS ++ [X4]) lim cq) := ⟨by
                   have e : q = 4 := by omega
                   have := HPI.out
                   rw [e] at this
                   exact part_all this⟩
                 have HNW : Aside0 (wsAt K n (i + 1) = (WS ++ [X4], f1)) := ⟨by rw [show i + 1 = n + (j + 1) from by have := HJ.out; omega, wsAt_kw, HNX.out]⟩
                 clear hlt4 hq4
                 go_wp2
                 have hw : wrap64 ((i : Int) + 1) = ((i + 1 : Nat) : Int) := by have := HLT.out; have := HL60.out; unfold wrap64; omega
                 rw [hw]
                 clear hw
                 go_roundw
                 case rel => exact ⟨i + 1, f1, cq, rfl, rfl, HLT.out, by rw [HNW.out], ⟨by rw [HNW.out]; exact HWN.out⟩, G1, G0, HB, ⟨by have := HSZ.out; have := HGW.out; omega⟩⟩
                 case measure => simp [intOf]; have := HLT.out; omega
       · have hd : decide (i < lim) = false := decide_eq_false hlt
         have hnn : K.length / 4 = n := by rw [HKE.out, bytesL_length, HS.out]; omega
         obtain ⟨WS, hWS⟩ : ∃ W, W = Aes.allWords K := ⟨_, rfl⟩
         have hkw : (wsAt K n i).1 = WS := by
           rw [hWS, Aes.allWords, hnn, show i = n + (3 * n + 28) from by have := HLIM.out; omega, wsAt_kw]
         have HWSL : Aside0 (WS.length = lim) := ⟨by rw [hWS, Aes.allWords_length, hnn]; have := HLIM.out; omega⟩
         have HWSK : Aside0 (∀ w ∈ WS, Aes.wordOk w) := ⟨by rw [hWS, Aes.allWords]; exact Aes.kw_ok HKO.out _ _⟩
         have HKEYS : Aside0 (Aes.keysL K = (List.range (n + 7)).map (Aes.fourOf WS)) := ⟨by rw [Aes.keysL, hnn, hWS]⟩
         rw [hkw] at HW
         clear hf hil hlt hnn hWS hkw
         obtain ⟨B, hB⟩ : ∃ B, B = wB.heap.size := ⟨_, rfl⟩
         have HG1B : Aside0 (g1 < B) := ⟨by rw [hB]; exact HSZ.out⟩
         have HBS : Aside0 (B ≤ wB.heap.size) := ⟨by omega⟩
         clear hB HSZ
         go_wp2_with fail
         go_loopw [12] (fun vi wr => ∃ (k p : Nat) (vk : Value) (cc : Array Value), vi = .int .i64 (p : Int) ∧ p = 4 * k ∧ k ≤ n + 7 ∧ Aside0 (tabsTo 256 vk cc) ∧ Aside0 (wr.heap[w0.heap.size]? = some (.cells cc 125 (0, 0))) ∧ Aside0 (wr.ownsRow B 110 16 vk k (nums .u8 (flatKeys WS k))) ∧ Aside0 (wr.heap[g1]? = some (.cells cw 128 (0, 0))) ∧ Aside0 (Below w0.heap.size w0 wr) ∧ Aside0 (B ≤ wr.heap.size)) (fun v _ => lim - (intOf v).toNat)
         case atStart => exact ⟨0, 0, _, cs, rfl, rfl, Nat.zero_le _, HT, G0, ⟨rfl, .inl ⟨rfl, rfl⟩⟩, G1, HB, HBS⟩
         case round =>
           clear G0 G1 HB HBS
           obtain ⟨k, p, vk, cc, rfl, hp, hk, HTC, G0, HOW, G1, HB, HBS⟩ := hrel
           obtain ⟨wR, rfl⟩ : ∃ W, W = wr := ⟨_, rfl⟩
           by_cases hlt : p < lim
           · have hd : decide (p < lim) = true := decide_eq_true hlt
             have HP : Aside0 (p = 4 * k) := ⟨hp⟩
             have HKN : Aside0 (k < n + 7) := ⟨by have := HLIM.out; omega⟩
             have HLT := Aside0.mk hlt
             have HL60 : Aside0 (lim ≤ 60) := ⟨by have := HLIM.out; have := HN48.out; omega⟩
             obtain ⟨F, hF⟩ : ∃ F, F = Aes.fourOf WS k := ⟨_, rfl⟩
             have HFK : Aside0 (F.length = 16 ∧ Aes.ok F) := ⟨by rw [hF]; exact Aes.fourOf_ok HWSK.out k (by rw [HWSL.out]; have := HLIM.out; omega)⟩
             have HFA : Aside0 (∀ q, q < 16 → F.getD q 0 = (WS.getD (4 * k + q / 4) []).getD (q % 4) 0) := ⟨fun q hq => by rw [hF]; exact fourOf_at HWSK.out k q (by rw [HWSL.out]; have := HLIM.out; omega) hq⟩
             have HFE := Aside0.mk hF
             clear hp hk hlt hF
             go_wp2_with fail
             obtain ⟨gn, hgn⟩ : ∃ g, g = wR.heap.size := ⟨_, rfl⟩
             have GN0 : Aside0 ((wR.alloc (.cells (nums .u8 (List.replicate 16 0)).toArray 110)).heap[gn]? = some (.cells (nums .u8 (F.take 0 ++ (List.replicate 16 (0 : Int)).drop 0)).toArray 110 (0, 0))) := ⟨by rw [hgn]; exact blk_new wR _⟩
             have HBG : Aside0 (Below wR.heap.size wR (wR.alloc (.cells (nums .u8 (List.replicate 16 0)).toArray 110))) := ⟨below_alloc (Below.refl _ _) _⟩
             have HGN : Aside0 (gn = wR.heap.size) := ⟨hgn⟩
             have HSG : Aside0 (gn < (wR.alloc (.cells (nums .u8 (List.replicate 16 0)).toArray 110)).heap.size) := ⟨by rw [hgn]; simp⟩
             have hg1n : g1 < gn := by rw [hgn]; have := HG1B.out; have := HBS.out; omega
             have HG1N := Aside0.mk hg1n
             show Code.wp _ _ _ _ (wR.alloc (.cells (nums .u8 (List.replicate 16 0)).toArray 110))
             rw [← hgn]
             generalize wR.alloc (.cells (nums .u8 (List.replicate 16 0)).toArray 110) = wQ at GN0 HBG HSG ⊢
             clear hgn hg1n
             go_loopw [170] (fun v wr => ∃ q : Nat, q ≤ 16 ∧ v = .int .i64 (q : Int) ∧ Aside0 (wr.heap[gn]? = some (.cells (nums .u8 (F.take q ++ (List.replicate 16 (0 : Int)).drop q)).toArray 110 (0, 0))) ∧ Aside0 (Below wR.heap.size wR wr) ∧ Aside0 (gn < wr.heap.size)) (fun v _ => 16 - (intOf v).toNat)
             case atStart => exact ⟨0, by omega, rfl, GN0, HBG, HSG⟩
             case round =>
               clear GN0 HBG HSG
               obtain ⟨q, hq, rfl, GN, HBG, HSG⟩ := hrel
               by_cases hlt4 : q < 16
               · have hdq : decide (q < 16) = true := decide_eq_true hlt4
                 have hdq2 : decide ((q : Int) < 16) = true := decide_eq_true (by omega)
                 obtain ⟨u, hu⟩ : ∃ u, u = p + q / 4 := ⟨_, rfl⟩
                 obtain ⟨r, hr⟩ : ∃ r, r = q % 4 := ⟨_, rfl⟩
                 have e4 : wrap64 ((q : Int) / 4) = ((q / 4 : Nat) : Int) := by unfold wrap64; omega
                 have e5 : wrap64 ((p : Int) + (q : Int) / 4) = (u : Int) := by have := HLT.out; have := HL60.out; unfold wrap64; omega
                 have e6 : (q : Int) % 4 = (r : Int) := by omega
                 obtain ⟨x, hx⟩ : ∃ x, x = F.getD q 0 := ⟨_, rfl⟩
                 have hul : u < lim := by have := HP.out; have := HKN.out; have := HLIM.out; omega
                 have G1R : wr.heap[g1]? = some (.cells cw 128 (0, 0)) := (HBG.out.block g1 (by have := HG1N.out; have := HGN.out; omega)).trans G1.out
                 have cY : wr.cell? ⟨g1, u * 4 + r, none⟩ = some (.int .u8 x) := by
                   rw [blk_cell G1R, HW.out.2 u (by rw [HWSL.out]; exact hul) r (by omega), hx, HFA.out q hlt4, hu, HP.out, hr]
                 have cZ : wr.cell? ⟨gn, q, none⟩ = some (.int .u8 0) := by
                   rw [blk_cell GN.out q]
                   exact nums_at? _ _ _ _ (by rw [td_at F _ (by rw [HFK.out.1]; rfl) q (by rw [HFK.out.1]; exact hlt4)]; rw [zeros_getD])
                 have zZ := blk_frozen GN.out q
                 have TS := Aside0.mk (td_set F (List.replicate 16 (0 : Int)) (by rw [HFK.out.1]; rfl) q (by rw [HFK.out.1]; exact hlt4))
                 have HXE := Aside0.mk hx
                 have HLT4 := Aside0.mk hlt4
                 have q0 : (0 : Int) ≤ (q : Int) := by omega
                 have q1 : (q : Int) < 16 := by omega
                 have u0 : (0 : Int) ≤ (u : Int) := by omega
                 have u1 : (u : Int) < (lim : Int) := by omega
                 have u2 : u < lim := hul
                 have r0 : (0 : Int) ≤ (r : Int) := by omega
                 have r1 : (r : Int) < 4 := by omega
                 have r2 : r < 4 := by omega
                 clear hu hr hx hul G1R hlt4 hq e4
                 go_wp2
                 go_roundw
                 case rel =>
                   refine ⟨q + 1, HLT4.out, by go_num, ⟨?_⟩, ⟨below_set HBG.out (by have := HGN.out; omega)⟩, ⟨by have := HSG.out; simpa using this⟩⟩
                   rw [← TS.out, ← HXE.out, ← nums_set]
                   exact blk_set GN.out q _
                 case measure => simp [intOf]; have := HLT4.out; omega
               · have hdq : decide (q < 16) = false := decide_eq_false hlt4
                 have hdq2 : decide ((q : Int) < 16) = false := decide_eq_false (by omega)
                 have GF : Aside0 (wr.heap[gn]? = some (.cells (nums .u8 F).toArray 110 (0, 0))) := ⟨by
                   have e : q = 16 := by omega
                   have := GN.out
                   rw [e, List.take_of_length_le (by rw [HFK.out.1]; exact Nat.le_refl _), List.drop_eq_nil_of_le (by simp), List.append_nil] at this
                   exact this⟩
                 have hw0B : w0.heap.size < B := by have := HG1.out; have := HG1B.out; omega
                 have G0r : Aside0 (wr.heap[w0.heap.size]? = some (.cells cc 125 (0, 0))) := ⟨(HBG.out.block _ (by have := HBS.out; omega)).trans G0.out⟩
                 have HOr := Aside0.mk (own_drewW (own_belowW HOW.out HBG.out))
                 have cK : wr.cell? ⟨w0.heap.size, 512, none⟩ = some vk := by rw [blk_cell G0r.out]; exact HTC.out.2.2.2
                 have hrg : wr.rangeAt gn 0 (nums .u8 F) := fun u v hv => by
                   rw [Nat.zero_add, blk_cell GF.out]; simpa using hv
                 have HNF : Aside0 ((nums IntKind.u8 F).length = 16) := ⟨by simp [nums, HFK.out.1]⟩
                 have HBr : Aside0 (Below B wR wr.drew) := ⟨below_drew1 (HBG.out.mono HBS.out)⟩
                 have HSr : Aside0 (B ≤ wr.drew.heap.size) := ⟨by have := HBS.out; have := HBG.out.size; show B ≤ wr.heap.size; omega⟩
                 have HW0B := Aside0.mk hw0B
                 clear hlt4 hq hw0B
                 go_wp2
                 refine start_ (n := 11) (S := fun w' => w'.cell? ⟨w0.heap.size, 512, none⟩ = some vk ∧ w'.rangeAt gn 0 (nums .u8 F)) (ds := [7, 10]) #[false, false, false, false, false, false, false, false, false, false, false] (by kernel_rfl) rfl rfl ⟨(show wr.drew.cell? ⟨w0.heap.size, 512, none⟩ = some vk from cK), (show wr.drew.rangeAt gn 0 (nums .u8 F) from hrg)⟩ (fun hHeld => ?_)
                 refine with_tabW cof_tab37 cof_bits37 (fun HT_ HW_ => ?_)
                 generalize wr.drew = wD at hHeld HOr HBr HSr ⊢
                 refine pure_ (i := 0) (N := some 186) (v := ?_) (a' := ?_) #[true, false, false, false, false, false, false, false, false, false, false] rfl rfl (any_of HT_.out (by kernel_rfl)) (fun _ _ _ h => h) (Or.inl ⟨by rfl, ?_⟩) ?_ ?_
                 rotate_left
                 · intro w'
                   go_simp
                   with_reducible rfl
                 rotate_left
                 · simp only [Act.put, sA_, s0_, s1_, i64_w, i32_w]
                   rfl
                 refine pure_ (i := 1) (N := some 187) (v := ?_) (a' := ?_) #[true, true, false, false, false, false, false, false, false, false, false] rfl rfl (any_of HT_.out (by kernel_rfl)) (fun _ _ _ h => h) (Or.inl ⟨by rfl, ?_⟩) ?_ ?_
                 rotate_left
                 · intro w'
                   go_simp
                   with_reducible rfl
                 rotate_left
                 · simp only [Act.put, sA_, s0_, s1_, i64_w, i32_w]
                   rfl
                 refine pure_ (i := 2) (N := some 188) (v := ?_) (a' := ?_) #[true, true, true, false, false, false, false, false, false, false, false] rfl rfl (any_of HT_.out (by kernel_rfl)) (fun _ _ _ h => h) (Or.inl ⟨by rfl, ?_⟩) ?_ ?_
                 rotate_left
                 · intro w'
                   go_simp
                   with_reducible rfl
                 rotate_left
                 · simp only [Act.put, sA_, s0_, s1_, i64_w, i32_w]
                   rfl
                 refine pure_ (i := 3) (N := some 189) (v := ?_) (a' := ?_) #[true, true, true, true, false, false, false, false, false, false, false] rfl rfl (any_of HT_.out (by kernel_rfl)) (fun _ _ _ h => h) (Or.inl ⟨by rfl, ?_⟩) ?_ ?_
                 rotate_left
                 · intro w'
                   go_simp
                   with_reducible rfl
                 rotate_left
                 · simp only [Act.put, sA_, s0_, s1_, i64_w, i32_w]
                   rfl
                 refine take_ (i := 4) (N := some 190) (v := ?_) (a' := ?_) #[true, true, true, true, true, false, false, false, false, false, false] rfl rfl (take_ofW HT_.out HW_.out (by kernel_rfl)) (fun _ _ _ h => h) (Or.inl ⟨by rfl, ?_⟩) hHeld ?_ ?_
                 rotate_left
                 · rintro w' ⟨s0, s1⟩
                   go_simp
                   with_reducible rfl
                 rotate_left
                 · simp only [Act.put, sA_, s0_, s1_, i64_w, i32_w]
                   rfl
                 refine take_ (i := 5) (N := some 191) (v := ?_) (a' := ?_) #[true, true, true, true, true, true, false, false, false, false, false] rfl rfl (take_ofW HT_.out HW_.out (by kernel_rfl)) (fun _ _ _ h => h) ?hy hHeld ?heq ?hrest
                 case hy => (refine yieldsIf_load_mid ?_ 110 (.tmp 13) ?_ gn 0 ?_ (nums .u8 F) _ ?_ Try.underlying110 ?_ ?_; rfl; rfl; rfl; exact (fun w_ h_ => h_.2); rfl; exact key_size F HNF.out)
                 case heq =>
                   simp only [Act.put, sA_, s0_, s1_, i64_w, i32_w]
                   rfl
                 refine one_ (i := 6) (N := some 192) #[true, true, true, true, true, true, true, false, false, false, false] rfl rfl (one_of HT_.out (by kernel_rfl)) (by decide) (fun K hK => ?_)
                 refine opWp_build_key (.tmp 191) (by rfl) F HFK.out.1 (by rfl) ?_
                 refine hK.out _ _ ⟨cell_alloc_keep hHeld.1 _, range_alloc_keep hHeld.2 _⟩ (fun hHeld => ?_)
                 clear hK K
                 refine norm_ (a' := ?_) ?_ ?_
                 rotate_left
                 · show Act.put _ (some 192) _ = _
                   simp only [Act.put, sA_, s0_, s1_, i64_w, i32_w]
                   rfl
                 refine last_ (i := 7) (N := some 193) #[true, true, true, true, true, true, true, true, false, false, false] rfl rfl (one_of HT_.out (by kernel_rfl)) (by decide) (fun K hK => ?_)
                 refine step_append_cells (w0 := wR) B (by rfl) (.tmp 190) (.tmp 192) 123 110 keyZero 16 16 (by rfl) Try.underlying123 key_info (by rfl) (by decide) (by decide) vk k (nums .u8 (flatKeys WS k)) (nums .u8 F) (by rfl) (by rfl) HNF.out (fun u hu => nums_oneCell hu) HOr.out HBr.out HSr.out (by have := HKN.out; have := HN48.out; omega) ?_
                 intro v2 w2 hown2 hb2 _ _
                 obtain ⟨gk, ck, rfl⟩ := own_form hown2 (Nat.succ_pos k)
                 refine hK.out _ _ ?_
                 clear hK K
                 refine norm_ (a' := ?_) ?_ ?_
                 rotate_left
                 · show Act.put _ (some 193) _ = _
                   simp only [Act.put, sA_, s0_, s1_, i64_w, i32_w]
                   rfl
                 refine pure_ (i := 8) (N := some 194) (v := ?_) (a' := ?_) #[true, true, true, true, true, true, true, true, true, false, false] rfl rfl (any_of HT_.out (by kernel_rfl)) (fun _ _ _ h => h) (Or.inl ⟨by rfl, ?_⟩) ?_ ?_
                 rotate_left
                 · intro w'
                   go_simp
                   with_reducible rfl
                 rotate_left
                 · simp only [Act.put, sA_, s0_, s1_, i64_w, i32_w]
                   rfl
                 refine pure_ (i := 9) (N := some 195) (v := ?_) (a' := ?_) #[true, true, true, true, true, true, true, true, true, true, false] rfl rfl (any_of HT_.out (by kernel_rfl)) (fun _ _ _ h => h) (Or.inl ⟨by rfl, ?_⟩) ?_ ?_
                 rotate_left
                 · intro w'
                   go_simp
                   with_reducible rfl
                 rotate_left
                 · simp only [Act.put, sA_, s0_, s1_, i64_w, i32_w]
                   rfl
                 refine last_ (i := 10) (N := none) #[true, true, true, true, true, true, true, true, true, true, true] rfl rfl (one_of HT_.out (by kernel_rfl)) (by decide) (fun K hK => ?_)
                 have G0w : w2.heap[w0.heap.size]? = some (.cells cc 125 (0, 0)) := (hb2.block _ HW0B.out).trans G0.out
                 have cS : w2.cell? ⟨w0.heap.size, 512, none⟩ = some vk := by rw [blk_cell G0w]; exact HTC.out.2.2.2
                 have zS := blk_frozen G0w 512
                 go_simp
                 refine hK.out _ _ ?_
                 clear hK K
                 refine done_ (done_of HT_.out (by kernel_rfl)) ?_
                 clear cS zS cK hrg hHeld
                 go_wp2
                 have hw : wrap64 ((p : Int) + 4) = ((p + 4 : Nat) : Int) := by have := HLT.out; have := HL60.out; unfold wrap64; omega
                 rw [hw]
                 clear hw
                 go_roundw
                 case rel =>
                   refine ⟨k + 1, p + 4, _, _, rfl, by have := HP.out; omega, HKN.out, ⟨tabs_ks HTC.out⟩, ⟨blk_set G0w 512 _⟩, ⟨?_⟩, ⟨blk_far ((hb2.block g1 HG1B.out).trans G1.out) (by have := HG1.out; show g1 ≠ w0.heap.size; omega) _⟩, ⟨below_set (HB.out.trans (hb2.mono (by have := HW0B.out; omega))) (Nat.le_refl _)⟩, ⟨by have := hb2.size; have := HBS.out; simp; omega⟩⟩
                   have := ownsRow_setCell_below hown2 (a := ⟨w0.heap.size, 512, none⟩) HW0B.out (.slice (some ⟨gk, 0, none⟩) (k + 1) ck)
                   rw [flatKeys_succ, ← HFE.out]
                   have e : nums IntKind.u8 (flatKeys WS k ++ F) = nums .u8 (flatKeys WS k) ++ nums .u8 F := by simp [nums]
                   rw [e]
                   exact this
                 case measure => simp [intOf]; have := HLT.out; omega
           · have hd : decide (p < lim) = false := decide_eq_false hlt
             have hkk : k = n + 7 := by have := HLIM.out; omega
             have HFIN : Aside0 (cipherAt wR w0.heap.size w0.heap.size (Aes.keysL K)) := ⟨by
               rw [HKEYS.out, ← hkk]
               exact cipherAt_of HTC.out G0.out HOW.out (by have := HG1.out; have := HG1B.out; omega) (fun q hq => (Aes.fourOf_ok HWSK.out q (by rw [HWSL.out]; have := HLIM.out; omega))) (by omega)⟩
             clear hp hk hlt hkk
             go_wp2
             go_ret
             exact ⟨_, rfl, HFIN.out, HB.out⟩
end Go.Proofs.Ytlfpogbonmddmaa.P

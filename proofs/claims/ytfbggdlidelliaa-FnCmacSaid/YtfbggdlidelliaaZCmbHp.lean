/- Helper words of this session over rows and arrays in memory (over the kit's words). -/
import Derived.Test.YtfbggdlidelliaaZCmbSha
import Derived.Test.YtfbggdlidelliaaZCmbWWords
import Derived.Test.YtfbggdlidelliaaZCmbWLast
import Derived.Test.YtfbggdlidelliaaZCmbWMore
import Derived.Laws.Tables
import Derived.Laws.Rows
import Derived.KernelRfl
import Derived.ArgAppend
import Derived.Lib.AppendStr
import Derived.Lib.ConvBytes
import Derived.Lib.BufferWrite
import Derived.Lib.SlBuf
namespace Go.Proofs.Ytfbggdlidelliaa.P
open Go.RowKit Go.Proofs.YtfbggdlidelliaaW.PrintWords Go.Proofs.YtfbggdlidelliaaW.PrintLast Go.Proofs.YtfbggdlidelliaaW.PrintMore
set_option linter.unusedVariables false
set_option linter.unusedSimpArgs false
theorem nums_at? (k : IntKind) (xs : List Int) (j : Nat) (x : Int) (h : xs[j]? = some x) : (nums k xs).toArray[j]? = some (.int k x) := by simp [nums, h]
theorem upd_set (l : List Int) (x y : Int) (r : List Int) (i : Nat) (h : l.length = i) : (l ++ x :: r).set i y = l ++ y :: r := by
  subst h; simp
theorem upd_at (l : List Int) (x : Int) (r : List Int) (i : Nat) (h : l.length = i) : (l ++ x :: r)[i]? = some x := by
  subst h; simp
theorem C_u8_cell {w : World} {ad : Addr} {n : Nat} {l : List Int} (h : Kd.C (Kd.int .u8) w (some ad) n l) (hn : n = l.length) (j : Nat) (hj : j < l.length) : w.cell? (ad.add j) = some (.int .u8 (l.getD j 0)) := by
  subst hn
  obtain ⟨a2, c, e, hs, hk, hcell⟩ := Kd.C_get h 0 (j : Int) (by omega) (by omega)
  obtain rfl : ad = a2 := by injection e
  rw [Int.toNat_natCast] at hk hcell
  have hc : c = [Value.int .u8 (l.getD j 0)] := hk
  rw [hc] at hcell
  have h1 := hcell 0 _ rfl
  have h2 : j * (Kd.int IntKind.u8).sz + 0 = j := by show j * 1 + 0 = _; omega
  rw [h2] at h1
  exact h1
theorem wpList_build_is {P : Program} {ops : Array Oper} {rest : List Oper} {o : Oper} {a : Act} {w : World} {Q : Exit → Act → World → Prop} (hg : o.guard = none) (t : TypeId) (parts : Array (Nat × Operand)) (ho : o.op = .build t parts) (cs : Array Value)
    (hb : P.built t (parts.map fun (i, x) => (i, a.eval x)).toList = some cs)
    (h : wpList P ops Q rest (a.put o.dst (.agg cs)) w) : wpList P ops Q (o :: rest) a w :=
  wpList_build hg t parts ho (by rw [hb]; rfl) (by rw [hb]; exact h)
theorem strOfNums_append (a b : List Int) : strOfNums a ++ strOfNums b = strOfNums (a ++ b) := by
  have h : ∀ x y : ByteArray, x.data = y.data → x = y := fun x y e => by cases x; cases y; cases e; rfl
  apply h
  simp [strOfNums]
def bytesL (s : ByteArray) : List Int := s.data.toList.map fun b => (b.toNat : Int)
theorem str_bytesL (s : ByteArray) : strOfNums (bytesL s) = s := by
  have h : ∀ x y : ByteArray, x.data = y.data → x = y := fun x y e => by cases x; cases y; cases e; rfl
  apply h
  apply Array.toList_inj.1
  simp [strOfNums, bytesL, List.map_map, Function.comp_def]
theorem bytesL_str (l : List Int) (h : ∀ x ∈ l, 0 ≤ x ∧ x ≤ 255) : bytesL (strOfNums l) = l := by
  unfold bytesL strOfNums
  simp only [List.map_map]
  conv => rhs; rw [← List.map_id l]
  refine List.map_congr_left fun x hx => ?_
  obtain ⟨h0, h1⟩ := h x hx
  simp only [Function.comp_apply, id_eq, UInt8.toNat_ofNat']
  omega
theorem td_at (A B : List Int) (h : A.length = B.length) (j : Nat) (hj : j < A.length) : (A.take j ++ B.drop j)[j]? = some (B.getD j 0) := by
  rw [List.getElem?_append_right (by simp; omega), List.length_take, Nat.min_eq_left (Nat.le_of_lt hj), Nat.sub_self, List.getElem?_drop, List.getD_eq_getElem?_getD, List.getElem?_eq_getElem (show j + 0 < B.length by omega)]
  simp [List.getElem?_eq_getElem (show j < B.length by omega)]
theorem td_set (A B : List Int) (h : A.length = B.length) (j : Nat) (hj : j < A.length) : (A.take j ++ B.drop j).set j (A.getD j 0) = A.take (j + 1) ++ B.drop (j + 1) := by
  apply List.ext_getElem
  · simp; omega
  · intro i h1 h2
    have hi : i < A.length := by simp at h2; omega
    rcases Nat.lt_trichotomy i j with e | e | e
    · rw [List.getElem_set_ne (by omega), List.getElem_append_left (by simp; omega), List.getElem_append_left (by simp; omega)]
      simp
    · subst e
      rw [List.getElem_set_self, List.getElem_append_left (by simp; omega)]
      simp [List.getD_eq_getElem?_getD, hi]
    · rw [List.getElem_set_ne (by omega), List.getElem_append_right (by simp; omega), List.getElem_append_right (by simp; omega)]
      simp only [List.getElem_drop]
      congr 1
      simp; omega
theorem run_make_nums {P : Program} {k : IntKind} {t e : TypeId} {m : Nat} (ht : P.underlying t = some (.slice e)) (he : (P.info? e).map (fun i => (i.zero, i.size, i.bytes)) = some (some (.int k 0), 1, 1) ∨ (P.info? e).map (fun i => (i.zero, i.size, i.bytes)) = some (some (.int k 0), 1, 4) ∨ (P.info? e).map (fun i => (i.zero, i.size, i.bytes)) = some (some (.int k 0), 1, 8)) (hm : m ≤ 4096) (W : World) :
    (Instr.makeSlice t (.int .i64 (m : Int)) (.int .i64 (m : Int))).run P W = .ok (.slice (some ⟨W.heap.size, 0, none⟩) m m) (W.alloc (.cells (nums k (List.replicate m 0)).toArray e)) := by
  have key : ∀ by_ : Nat, by_ ≤ 8 → (P.info? e).map (fun i => (i.zero, i.size, i.bytes)) = some (some (.int k 0), 1, by_) → (Instr.makeSlice t (.int .i64 (m : Int)) (.int .i64 (m : Int))).run P W = .ok (.slice (some ⟨W.heap.size, 0, none⟩) m m) (W.alloc (.cells (nums k (List.replicate m 0)).toArray e)) := fun by_ hby h => by
    obtain ⟨i, hi, h3⟩ := Option.map_eq_some_iff.1 h
    simp only [Prod.mk.injEq] at h3
    have hb' : (i.bytes : Int) * (m : Int) ≤ 281474976710656 := by
      have : i.bytes * m ≤ 8 * 4096 := Nat.mul_le_mul (by omega) hm
      have h4 : ((i.bytes * m : Nat) : Int) ≤ 281474976710656 := by omega
      rwa [Int.natCast_mul] at h4
    have hr := run_make (P := P) W t e i (.int k 0) ht hi h3.1 .i64 .i64 (m : Int) (m : Int) (by omega) (Int.le_refl _) hb' (by omega)
    simp only [Int.toNat_natCast] at hr
    rw [hr]
    congr 4
    apply Array.ext'
    rw [h3.2.1, Nat.mul_one]
    show (madeCells #[Value.int k 0] m).toList = _
    rw [toList_madeCells_one]
    simp [nums]
  rcases he with h | h | h
  · exact key 1 (by decide) h
  · exact key 4 (by decide) h
  · exact key 8 (by decide) h
def rowB (W : World) (B : Nat) (v : Value) (l : List Int) : Prop :=
  ∃ g cap, v = .slice (some ⟨g, 0, none⟩) l.length cap ∧ B ≤ g ∧ l.length ≤ cap ∧ (∀ j, j < cap → (W.cell? ⟨g, j, none⟩).isSome = true ∧ W.frozen? ⟨g, j, none⟩ = false) ∧ ∀ j, j < l.length → W.cell? ⟨g, j, none⟩ = some (.int .u8 (l.getD j 0))
theorem cell_lt {W : World} {a : Addr} (h : (W.cell? a).isSome = true) : a.block < W.heap.size := by
  rcases Nat.lt_or_ge a.block W.heap.size with h1 | h1
  · exact h1
  · simp [World.cell?, Array.getElem?_eq_none h1] at h
theorem rowB_below {W W' : World} {B : Nat} {v : Value} {l : List Int} (h : rowB W B v l) (hb : Below W.heap.size W W') : rowB W' B v l := by
  obtain ⟨g, cap, e, hg, hl, hc, hv⟩ := h
  refine ⟨g, cap, e, hg, hl, fun j hj => ?_, fun j hj => ?_⟩
  · have hlt := cell_lt (hc j hj).1
    exact ⟨by rw [hb.cell (p := ⟨g, j, none⟩) hlt]; exact (hc j hj).1, by rw [hb.frozen (p := ⟨g, j, none⟩) hlt]; exact (hc j hj).2⟩
  · have hlt : (⟨g, j, none⟩ : Addr).block < W.heap.size := cell_lt (hc j (by omega)).1
    exact (hb.cell hlt).trans (hv j hj)
theorem rowB_C {W : World} {B g cap : Nat} {l : List Int} (h : rowB W B (.slice (some ⟨g, 0, none⟩) l.length cap) l) (hm : l.length ≤ 140737488355328) : Kd.C (Kd.int .u8) W (some ⟨g, 0, none⟩) l.length l := by
  obtain ⟨g2, cap2, e, hg, hl, hc, hv⟩ := h
  injection e with e1 e2 e3
  injection e1 with e1
  injection e1 with e1
  subst e1
  refine ⟨rfl, by show l.length ≤ 9223372036854775807; omega, fun _ => ⟨⟨g, 0, none⟩, rfl, fun j p hj => ?_⟩⟩
  obtain ⟨hj2, e4⟩ := List.getElem?_eq_some_iff.1 hj
  have hd : l.getD j 0 = p := by rw [List.getD_eq_getElem?_getD, hj]; rfl
  refine ⟨[.int .u8 p], rfl, rfl, fun i u hu => ?_⟩
  match i, hu with
  | 0, hu =>
    obtain rfl : Value.int .u8 p = u := by simpa using hu
    rw [add_plain]
    have := hv j hj2
    rw [hd] at this
    show W.cell? ⟨g, j * 1 + 0, none⟩ = _
    simpa using this
theorem rowB_form {W : World} {B : Nat} {v : Value} {l : List Int} (h : rowB W B v l) : ∃ g cap, v = .slice (some ⟨g, 0, none⟩) l.length cap ∧ l.length ≤ cap := by
  obtain ⟨g, cap, e, _, hl, _⟩ := h
  exact ⟨g, cap, e, hl⟩
theorem own_mono {W : World} {B B' : Nat} {e : TypeId} {size n : Nat} {v : Value} {xs : List Value} (h : W.ownsRow B' e size v n xs) (hB : B ≤ B') : W.ownsRow B e size v n xs := by
  obtain ⟨hl, h | ⟨g, cap, cur, e1, e2, rest⟩⟩ := h
  · exact ⟨hl, .inl h⟩
  · exact ⟨hl, .inr ⟨g, cap, cur, e1, Nat.le_trans hB e2, rest⟩⟩
theorem own_rowB {W : World} {B : Nat} {v : Value} {l : List Int} {e : TypeId} (h : W.ownsRow B e 1 v l.length (nums .u8 l)) (hne : v ≠ .slice none 0 0) : rowB W B v l := by
  obtain ⟨hl, ⟨e1, _⟩ | ⟨g, cap, cur, rfl, hB, hh, hc, hm, hs, ht⟩⟩ := h
  · exact absurd e1 hne
  · refine ⟨g, cap, rfl, hB, hc, fun j hj => ⟨?_, blk_frozen hh j⟩, fun j hj => ?_⟩
    · rw [blk_cell hh j, Array.getElem?_eq_getElem (by omega)]; rfl
    · rw [blk_cell hh j]
      have h1 : (cur.toList.take (l.length * 1))[j]? = (nums .u8 l)[j]? := by rw [ht]
      rw [List.getElem?_take_of_lt (by omega)] at h1
      rw [← Array.getElem?_toList, h1]
      simp [nums, hj]
theorem bytesL_length (s : ByteArray) : (bytesL s).length = s.size := by simp [bytesL]
theorem conv_rowB (W : World) (B : Nat) (e : TypeId) (s : ByteArray) (hB : B ≤ W.heap.size) : rowB (Lib.bytesWorld W e s) B (.slice (some ⟨W.heap.size, 0, none⟩) s.size (grownCap W s.size 0 e)) (bytesL s) := by
  have hsz : (Lib.bytesCells W e s).size = grownCap W s.size 0 e := by
    have := grownCap_ge W s.size 0 e
    simp [Lib.bytesCells]; omega
  refine ⟨W.heap.size, grownCap W s.size 0 e, by rw [bytesL_length], hB, by rw [bytesL_length]; exact grownCap_ge W s.size 0 e, fun j hj => ?_, fun j hj => ?_⟩
  · have h1 := Lib.bytesWorld_at_new W e s
    refine ⟨?_, ?_⟩
    · simp [World.cell?, h1]; omega
    · simp [World.frozen?, h1]; omega
  · rw [bytesL_length] at hj
    rw [Lib.bytesWorld_cell W e s j hj]
    simp [bytesL, hj]
theorem nums_getD {k : IntKind} (l : List Int) (j : Nat) (u : Value) (h : (nums k l)[j]? = some u) : j < l.length ∧ u = .int k (l.getD j 0) := by
  simp only [nums, List.getElem?_map, Option.map_eq_some_iff] at h
  obtain ⟨x, hx, rfl⟩ := h
  obtain ⟨hj, rfl⟩ := List.getElem?_eq_some_iff.1 hx
  exact ⟨hj, by rw [List.getD_eq_getElem?_getD, hx]; rfl⟩
theorem rowB_wrote {W : World} {B g cap : Nat} {l r : List Int} (h : rowB W B (.slice (some ⟨g, 0, none⟩) l.length cap) l) (hroom : l.length + r.length ≤ cap) :
    rowB (W.setCells g l.length (nums .u8 r)) B (.slice (some ⟨g, 0, none⟩) (l ++ r).length cap) (l ++ r) := by
  obtain ⟨g2, cap2, e, hg, hl, hc, hv⟩ := h
  injection e with e1 e2 e3
  injection e1 with e1
  injection e1 with e1
  subst e1 e3
  have hin := World.cell?_setCells_in g (nums .u8 r) l.length W (fun j hj => (hc _ (by simp [nums] at hj; omega)).1)
  have hlen : (nums IntKind.u8 r).length = r.length := by simp [nums]
  have key : ∀ j, j < l.length → (W.setCells g l.length (nums .u8 r)).cell? ⟨g, j, none⟩ = W.cell? ⟨g, j, none⟩ := fun j hj => World.cell?_setCells_out g _ _ W _ (fun _ _ => .inl hj)
  have key2 : ∀ j, l.length ≤ j → j < l.length + r.length → (W.setCells g l.length (nums .u8 r)).cell? ⟨g, j, none⟩ = some (.int .u8 (r.getD (j - l.length) 0)) := fun j h1 h2 => by
    have h3 := hin (j - l.length) (by omega)
    rw [show l.length + (j - l.length) = j from by omega] at h3
    rw [h3]
    simp [nums, List.getD_eq_getElem?_getD, List.getElem?_eq_getElem (show j - l.length < r.length from by omega)]
  refine ⟨g, cap, rfl, hg, by rw [List.length_append]; exact hroom, fun j hj => ⟨?_, ?_⟩, fun j hj => ?_⟩
  · rcases Nat.lt_or_ge j l.length with h1 | h1
    · rw [key j h1]; exact (hc j hj).1
    · rcases Nat.lt_or_ge j (l.length + r.length) with h2 | h2
      · rw [key2 j h1 h2]; rfl
      · rw [World.cell?_setCells_out g _ _ W _ (fun _ _ => .inr (by rw [hlen]; exact h2))]; exact (hc j hj).1
  · rw [World.frozen?_setCells]; exact (hc j hj).2
  · rw [List.length_append] at hj
    rcases Nat.lt_or_ge j l.length with h1 | h1
    · rw [key j h1, hv j h1]; simp [List.getD_eq_getElem?_getD, List.getElem?_append_left h1]
    · rw [key2 j h1 hj]; simp [List.getD_eq_getElem?_getD, List.getElem?_append_right h1]
theorem below_setCells {B : Nat} {w W : World} (h : Below B w W) (g : Nat) (hg : B ≤ g) : ∀ (vs : List Value) (o : Nat), Below B w (W.setCells g o vs)
  | [], _ => h
  | v :: r, o => below_setCells (h.setCell (p := ⟨g, o, none⟩) hg v) g hg r (o + 1)
theorem run_append_rowB {P : Program} {W : World} {B : Nat} {w0 : World} (t ty e : TypeId) (i : TypeInfo) (h1 : P.underlying t = some (.slice e)) (h2 : P.info? e = some i) (h3 : i.zero = some (.int .u8 0)) (h4 : i.size = 1) (h5 : i.bytes = 1)
    {v : Value} {l r : List Int} (hv : rowB W B v l) (hb : Below B w0 W) (hB : B ≤ W.heap.size) (a : Addr) (m c : Nat) (hm : m = r.length) (hc : ∀ j, j < r.length → W.cell? (a.add j) = some (.int .u8 (r.getD j 0))) (hfit : l.length + r.length ≤ 140737488355328) :
    ∃ v' w', (Builtin.append_ #[t, t] ty #[v, .slice (some a) m c]).run P W = .ok v' w' ∧ rowB w' B v' (l ++ r) ∧ Below B w0 w' ∧ B ≤ w'.heap.size := by
  subst hm
  have hn : ∀ j u, (nums IntKind.u8 r)[j]? = some u → W.cell? (a.add j) = some u := fun j u hj => by
    obtain ⟨hj2, rfl⟩ := nums_getD r j u hj
    exact hc j hj2
  have hnl : (nums IntKind.u8 r).length = r.length * 1 := by simp [nums]
  have hone : ∀ u ∈ nums IntKind.u8 r, u.oneCell' = true := fun u hu => by
    obtain ⟨x, _, rfl⟩ := List.mem_map.1 hu
    rfl
  have hv2 := hv
  obtain ⟨g, cap, rfl, hg, hl, hcs, hvs⟩ := hv2
  by_cases hr : l.length + r.length ≤ cap
  · refine ⟨_, _, run_append_room_cells W t ty e i h1 h2 g 0 l.length cap a r.length c (nums .u8 r) (by rw [hnl, h4]) hn hone hr ?_ ?_, ?_, ?_, ?_⟩
    · intro j hj
      simp only [h4, Nat.zero_add, Nat.mul_one]
      exact (hcs _ (by omega)).1
    · intro j hj
      simp only [h4, Nat.zero_add, Nat.mul_one]
      exact (hcs _ (by omega)).2
    · have := rowB_wrote hv hr
      simpa [h4] using this
    · simpa [h4] using below_setCells hb g hg (nums .u8 r) _
    · have := (below_setCells (Below.refl B W) g hg (nums .u8 r) (0 + l.length * i.size)).size
      omega
  · obtain ⟨v', w', hrun, r1, r2⟩ := run_append_arg_grows (P := P) W t ty e i (.int .u8 0) 1 1 h1 h2 h3 h4 h5 rfl (by decide) ⟨g, 0, none⟩ l.length cap (nums .u8 l) (by simp [nums]) (fun j u hj => by
        obtain ⟨hj2, rfl⟩ := nums_getD l j u hj
        rw [add_plain]
        simpa using hvs j hj2) a r.length c (nums .u8 r) hnl hn (by omega) (by unfold maxLen; omega) (by omega)
    have e1 : nums IntKind.u8 l ++ nums IntKind.u8 r = nums .u8 (l ++ r) := by simp [nums]
    rw [e1, ← List.length_append] at r1
    refine ⟨v', w', hrun, own_rowB (own_mono r1 hB) ?_, hb.grown r2 hB (fun k hk => by cases hk), Nat.le_trans hB r2.size⟩
    rintro rfl
    obtain ⟨hx, ⟨_, h0⟩ | ⟨g3, cap3, cur3, e3, _⟩⟩ := r1
    · rw [List.length_append] at h0; omega
    · cases e3
theorem wpList_append_rowB {P : Program} {W : World} {B : Nat} {w0 : World} {ops : Array Oper} {rest : List Oper} {o : Oper} {ac : Act} {Q : Exit → Act → World → Prop} (hgd : o.guard = none) (s x : Operand) (t e : TypeId) (ho : o.op = .call { callee := .builtin .append, args := #[s, x], argTypes := #[t, t] })
    (h1 : P.underlying t = some (.slice e)) (hi : (P.info? e).map (fun i => (i.zero, i.size, i.bytes)) = some (some (.int .u8 0), 1, 1))
    {v : Value} {l : List Int} (r : List Int) (hs : ac.eval s = v) (hv : rowB W B v l) (hb : Below B w0 W) (hB : B ≤ W.heap.size) (ad : Addr) (m c : Nat) (hx : ac.eval x = .slice (some ad) m c) (hm : m = r.length) (hc : ∀ j, j < r.length → W.cell? (ad.add j) = some (.int .u8 (r.getD j 0))) (hfit : l.length + r.length ≤ 140737488355328) (lr : List Int) (hlr : lr = l ++ r)
    (h : ∀ v' w', Aside0 (rowB w' B v' lr) → Aside0 (Below B w0 w') → Aside0 (B ≤ w'.heap.size) → wpList P ops Q rest (ac.put o.dst v') w') : wpList P ops Q (o :: rest) ac W := by
  subst hlr
  obtain ⟨i, h2, h3⟩ := Option.map_eq_some_iff.1 hi
  simp only [Prod.mk.injEq] at h3
  refine wpList_plain hgd fun K hK => ?_
  obtain ⟨v', w', hr, q1, q2, q3⟩ := run_append_rowB (P := P) t o.type e i h1 h2 h3.1 h3.2.1 h3.2.2 hv hb hB ad m c hm hc hfit
  unfold Oper.wp execOp
  simp only [ho, resolve, invoke, builtin, Sem.run_bind, Sem.run_pure, Result.andThen_ok, List.map_toArray, List.map_cons, List.map_nil, hs, hx, hr]
  exact hK _ _ (h v' w' ⟨q1⟩ ⟨q2⟩ ⟨q3⟩)
theorem C_cells {W : World} {ad : Addr} {b : List Int} (hm : b.length ≤ 140737488355328) (h : ∀ j, j < b.length → W.cell? (ad.add j) = some (.int .u8 (b.getD j 0))) : Kd.C (Kd.int .u8) W (some ad) b.length b := by
  refine ⟨rfl, by show b.length ≤ 9223372036854775807; omega, fun _ => ⟨ad, rfl, fun j p hj => ?_⟩⟩
  obtain ⟨hj2, e4⟩ := List.getElem?_eq_some_iff.1 hj
  have hd : b.getD j 0 = p := by rw [List.getD_eq_getElem?_getD, hj]; rfl
  refine ⟨[.int .u8 p], rfl, rfl, fun i u hu => ?_⟩
  match i, hu with
  | 0, hu =>
    obtain rfl : Value.int .u8 p = u := by simpa using hu
    have h1 := h j hj2
    rw [hd] at h1
    have h2 : j * (Kd.int IntKind.u8).sz + 0 = j := by show j * 1 + 0 = _; omega
    rw [h2]
    exact h1
theorem C_cut {W : World} {ad : Addr} {n : Nat} {l b : List Int} (h : Kd.C (Kd.int .u8) W (some ad) n l) (hn : n = l.length) (hm : b.length ≤ 140737488355328) (o : Nat) (hb : o + b.length ≤ l.length) (he : ∀ j, j < b.length → b.getD j 0 = l.getD (o + j) 0) : Kd.C (Kd.int .u8) W (some (ad.add o)) b.length b :=
  C_cells hm fun j hj => by
    rw [add_add, he j hj]
    exact C_u8_cell h hn (o + j) (by omega)
theorem blk_newB (w : World) (o1 o2 : Obj) : ((w.alloc o1).alloc o2).heap[w.heap.size + 1]? = some o2 := by simpa using blk_new (w.alloc o1) o2
theorem box_one (V : World) (v : Value) (T : TypeId) (o : Obj) (n : Nat) (hn : n = V.heap.size) : ((V.alloc (.cells #[v] T)).alloc o).cell? ⟨n, 0, none⟩ = some v := by
  subst hn
  exact (blk_cell (cs := #[v]) (t := T) (blk_alloc (blk_new V (.cells #[v] T)) o) 0)
theorem box_two (V : World) (v : Value) (T : TypeId) (o : Obj) (n : Nat) (hn : n = V.heap.size + 1) : ((V.alloc o).alloc (.cells #[v] T)).cell? ⟨n, 0, none⟩ = some v := by
  subst hn
  exact (blk_cell (cs := #[v]) (t := T) (blk_newB V o (.cells #[v] T)) 0)
theorem cell_alloc_keep {W : World} {a : Addr} {v : Value} (h : W.cell? a = some v) (o : Obj) : (W.alloc o).cell? a = some v := by
  rw [World.cell?_of_block (Below.heap_alloc W o a.block (cell_lt (by rw [h]; rfl)))]; exact h
theorem cell_lit1 (w : World) (v : Int) (T : TypeId) (k : IntKind) : ∀ j, j < [v].length → (w.alloc (.cells #[.int k v] T)).cell? ((⟨w.heap.size, 0, none⟩ : Addr).add j) = some (.int k ([v].getD j 0)) := fun j hj => by
  obtain rfl : j = 0 := by simpa using hj
  rw [add_plain]
  exact blk_cell (blk_new w (.cells #[.int k v] T)) 0
def u8ok (l : List Int) : Prop := ∀ x ∈ l, 0 ≤ x ∧ x ≤ 255
def u8b (l : List Int) : Bool := l.all fun x => decide (0 ≤ x ∧ x ≤ 255)
theorem u8b_ok {l : List Int} (h : u8b l = true) : u8ok l := fun x hx => of_decide_eq_true (List.all_eq_true.1 h x hx)
theorem u8b_of {l : List Int} (h : u8ok l) : u8b l = true := List.all_eq_true.2 fun x hx => decide_eq_true (h x hx)
theorem u8ok_bytesL (s : ByteArray) : u8ok (bytesL s) := fun x hx => by
  obtain ⟨b, _, rfl⟩ := List.mem_map.1 hx
  have := b.toNat_lt
  omega
theorem rowB_empty (W : World) (B g c : Nat) (hB : B ≤ g) (hc : c = 0) : rowB W B (.slice (some ⟨g, 0, none⟩) 0 c) [] := by
  subst hc
  exact ⟨g, 0, rfl, hB, Nat.le_refl _, fun j hj => absurd hj (by omega), fun j hj => absurd hj (by simp)⟩
theorem run_append_rowB_none {P : Program} {W : World} {B : Nat} (t ty e : TypeId) (i : TypeInfo) (h1 : P.underlying t = some (.slice e)) (h2 : P.info? e = some i) {v : Value} {l : List Int} (hv : rowB W B v l) (c : Nat) :
    (Builtin.append_ #[t, t] ty #[v, .slice none 0 c]).run P W = .ok v W := by
  obtain ⟨g, cap, rfl, hg, hl, _⟩ := hv
  simp [Builtin.append_, run_underlying h1, sizeOf, typeInfo, h2, Builtin.lenOf, hl, Builtin.firstCells, storeCells]
theorem wpList_append_rowB_C {P : Program} {W : World} {B : Nat} {w0 : World} {ops : Array Oper} {rest : List Oper} {o : Oper} {ac : Act} {Q : Exit → Act → World → Prop} (hgd : o.guard = none) (s x : Operand) (t e : TypeId) (ho : o.op = .call { callee := .builtin .append, args := #[s, x], argTypes := #[t, t] })
    (h1 : P.underlying t = some (.slice e)) (hi : (P.info? e).map (fun i => (i.zero, i.size, i.bytes)) = some (some (.int .u8 0), 1, 1))
    {v : Value} {l : List Int} (r : List Int) (hs : ac.eval s = v) (hv : rowB W B v l) (hb : Below B w0 W) (hB : B ≤ W.heap.size) (A : Option Addr) (m c : Nat) (hx : ac.eval x = .slice A m c) (hC : Kd.C (Kd.int .u8) W A m r) (hfit : l.length + r.length ≤ 140737488355328) (lr : List Int) (hlr : lr = l ++ r)
    (h : ∀ v' w', Aside0 (rowB w' B v' lr) → Aside0 (Below B w0 w') → Aside0 (B ≤ w'.heap.size) → wpList P ops Q rest (ac.put o.dst v') w') : wpList P ops Q (o :: rest) ac W := by
  have hm : m = r.length := hC.1.symm
  cases A with
  | some ad => exact wpList_append_rowB hgd s x t e ho h1 hi r hs hv hb hB ad m c hx hm (fun j hj => C_u8_cell hC hm j hj) hfit lr hlr h
  | none =>
    have h0 : r = [] := by
      rcases Nat.eq_zero_or_pos m with h | h
      · exact List.eq_nil_of_length_eq_zero (by omega)
      · obtain ⟨ad, e, _⟩ := hC.2.2 h
        cases e
    subst h0
    obtain rfl : m = 0 := by simpa using hm
    subst hlr
    obtain ⟨i, h2, h3⟩ := Option.map_eq_some_iff.1 hi
    refine wpList_plain hgd fun K hK => ?_
    have hr := run_append_rowB_none (P := P) t o.type e i h1 h2 hv c
    unfold Oper.wp execOp
    simp only [ho, resolve, invoke, builtin, Sem.run_bind, Sem.run_pure, Result.andThen_ok, List.map_toArray, List.map_cons, List.map_nil, hs, hx, hr]
    exact hK _ _ (h v W ⟨by rw [List.append_nil]; exact hv⟩ ⟨hb⟩ ⟨hB⟩)
end Go.Proofs.Ytfbggdlidelliaa.P

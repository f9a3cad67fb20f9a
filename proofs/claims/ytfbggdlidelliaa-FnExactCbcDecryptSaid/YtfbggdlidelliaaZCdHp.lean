/- Helper words of this session over rows and arrays in memory (over the kit's words). -/
import Derived.Test.YtfbggdlidelliaaZCdSha
import Derived.Test.YtfbggdlidelliaaZCdWWords
import Derived.Test.YtfbggdlidelliaaZCdWLast
import Derived.Test.YtfbggdlidelliaaZCdWMore
import Derived.Laws.Tables
import Derived.Laws.Rows
import Derived.KernelRfl
import Derived.ArgAppend
import Derived.Lib.AppendStr
import Derived.Lib.ConvBytes
import Derived.Lib.BufferWrite
import Derived.Lib.SlBuf
namespace Go.Proofs.Ytfbggdlidelliaa.P
open Go.RowKit Go.Proofs.YtfbggdlidelliaaW.PrintWords Go.Proofs.YtfbggdlidelliaaW.PrintLast Go.Proofs.YtfbggdlidelliaaW.PrintMore
set_option linter.unusedVariables false
set_option linter.unusedSimpArgs false
theorem nums_at? (k : IntKind) (xs : List Int) (j : Nat) (x : Int) (h : xs[j]? = some x) : (nums k xs).toArray[j]? = some (.int k x) := by simp [nums, h]
theorem C_u8_cell {w : World} {ad : Addr} {n : Nat} {l : List Int} (h : Kd.C (Kd.int .u8) w (some ad) n l) (hn : n = l.length) (j : Nat) (hj : j < l.length) : w.cell? (ad.add j) = some (.int .u8 (l.getD j 0)) := by
  subst hn
  obtain ⟨a2, c, e, hs, hk, hcell⟩ := Kd.C_get h 0 (j : Int) (by omega) (by omega)
  obtain rfl : ad = a2 := by injection e
  rw [Int.toNat_natCast] at hk hcell
  have hc : c = [Value.int .u8 (l.getD j 0)] := hk
  rw [hc] at hcell
  have h1 := hcell 0 _ rfl
  have h2 : j * (Kd.int IntKind.u8).sz + 0 = j := by show j * 1 + 0 = _; omega
  rw [h2] at h1
  exact h1
theorem strOfNums_append (a b : List Int) : strOfNums a ++ strOfNums b = strOfNums (a ++ b) := by
  have h : ∀ x y : ByteArray, x.data = y.data → x = y := fun x y e => by cases x; cases y; cases e; rfl
  apply h
  simp [strOfNums]
def bytesL (s : ByteArray) : List Int := s.data.toList.map fun b => (b.toNat : Int)
theorem str_bytesL (s : ByteArray) : strOfNums (bytesL s) = s := by
  have h : ∀ x y : ByteArray, x.data = y.data → x = y := fun x y e => by cases x; cases y; cases e; rfl
  apply h
  apply Array.toList_inj.1
  simp [strOfNums, bytesL, List.map_map, Function.comp_def]
theorem bytesL_str (l : List Int) (h : ∀ x ∈ l, 0 ≤ x ∧ x ≤ 255) : bytesL (strOfNums l) = l := by
  unfold bytesL strOfNums
  simp only [List.map_map]
  conv => rhs; rw [← List.map_id l]
  refine List.map_congr_left fun x hx => ?_
  obtain ⟨h0, h1⟩ := h x hx
  simp only [Function.comp_apply, id_eq, UInt8.toNat_ofNat']
  omega
theorem td_at (A B : List Int) (h : A.length = B.length) (j : Nat) (hj : j < A.length) : (A.take j ++ B.drop j)[j]? = some (B.getD j 0) := by
  rw [List.getElem?_append_right (by simp; omega), List.length_take, Nat.min_eq_left (Nat.le_of_lt hj), Nat.sub_self, List.getElem?_drop, List.getD_eq_getElem?_getD, List.getElem?_eq_getElem (show j + 0 < B.length by omega)]
  simp [List.getElem?_eq_getElem (show j < B.length by omega)]
theorem td_set (A B : List Int) (h : A.length = B.length) (j : Nat) (hj : j < A.length) : (A.take j ++ B.drop j).set j (A.getD j 0) = A.take (j + 1) ++ B.drop (j + 1) := by
  apply List.ext_getElem
  · simp; omega
  · intro i h1 h2
    have hi : i < A.length := by simp at h2; omega
    rcases Nat.lt_trichotomy i j with e | e | e
    · rw [List.getElem_set_ne (by omega), List.getElem_append_left (by simp; omega), List.getElem_append_left (by simp; omega)]
      simp
    · subst e
      rw [List.getElem_set_self, List.getElem_append_left (by simp; omega)]
      simp [List.getD_eq_getElem?_getD, hi]
    · rw [List.getElem_set_ne (by omega), List.getElem_append_right (by simp; omega), List.getElem_append_right (by simp; omega)]
      simp only [List.getElem_drop]
      congr 1
      simp; omega
def rowB (W : World) (B : Nat) (v : Value) (l : List Int) : Prop :=
  ∃ g cap, v = .slice (some ⟨g, 0, none⟩) l.length cap ∧ B ≤ g ∧ l.length ≤ cap ∧ (∀ j, j < cap → (W.cell? ⟨g, j, none⟩).isSome = true ∧ W.frozen? ⟨g, j, none⟩ = false) ∧ ∀ j, j < l.length → W.cell? ⟨g, j, none⟩ = some (.int .u8 (l.getD j 0))
theorem cell_lt {W : World} {a : Addr} (h : (W.cell? a).isSome = true) : a.block < W.heap.size := by
  rcases Nat.lt_or_ge a.block W.heap.size with h1 | h1
  · exact h1
  · simp [World.cell?, Array.getElem?_eq_none h1] at h
theorem rowB_below {W W' : World} {B : Nat} {v : Value} {l : List Int} (h : rowB W B v l) (hb : Below W.heap.size W W') : rowB W' B v l := by
  obtain ⟨g, cap, e, hg, hl, hc, hv⟩ := h
  refine ⟨g, cap, e, hg, hl, fun j hj => ?_, fun j hj => ?_⟩
  · have hlt := cell_lt (hc j hj).1
    exact ⟨by rw [hb.cell (p := ⟨g, j, none⟩) hlt]; exact (hc j hj).1, by rw [hb.frozen (p := ⟨g, j, none⟩) hlt]; exact (hc j hj).2⟩
  · have hlt : (⟨g, j, none⟩ : Addr).block < W.heap.size := cell_lt (hc j (by omega)).1
    exact (hb.cell hlt).trans (hv j hj)
theorem rowB_C {W : World} {B g cap : Nat} {l : List Int} (h : rowB W B (.slice (some ⟨g, 0, none⟩) l.length cap) l) (hm : l.length ≤ 140737488355328) : Kd.C (Kd.int .u8) W (some ⟨g, 0, none⟩) l.length l := by
  obtain ⟨g2, cap2, e, hg, hl, hc, hv⟩ := h
  injection e with e1 e2 e3
  injection e1 with e1
  injection e1 with e1
  subst e1
  refine ⟨rfl, by show l.length ≤ 9223372036854775807; omega, fun _ => ⟨⟨g, 0, none⟩, rfl, fun j p hj => ?_⟩⟩
  obtain ⟨hj2, e4⟩ := List.getElem?_eq_some_iff.1 hj
  have hd : l.getD j 0 = p := by rw [List.getD_eq_getElem?_getD, hj]; rfl
  refine ⟨[.int .u8 p], rfl, rfl, fun i u hu => ?_⟩
  match i, hu with
  | 0, hu =>
    obtain rfl : Value.int .u8 p = u := by simpa using hu
    rw [add_plain]
    have := hv j hj2
    rw [hd] at this
    show W.cell? ⟨g, j * 1 + 0, none⟩ = _
    simpa using this
theorem bytesL_length (s : ByteArray) : (bytesL s).length = s.size := by simp [bytesL]
theorem strCells_nums (s : ByteArray) : Lib.strCells s = nums .u8 (bytesL s) := by simp [Lib.strCells, nums, bytesL]
theorem conv_rowB (W : World) (B : Nat) (e : TypeId) (s : ByteArray) (hB : B ≤ W.heap.size) : rowB (Lib.bytesWorld W e s) B (.slice (some ⟨W.heap.size, 0, none⟩) s.size (grownCap W s.size 0 e)) (bytesL s) := by
  have hsz : (Lib.bytesCells W e s).size = grownCap W s.size 0 e := by
    have := grownCap_ge W s.size 0 e
    simp [Lib.bytesCells]; omega
  refine ⟨W.heap.size, grownCap W s.size 0 e, by rw [bytesL_length], hB, by rw [bytesL_length]; exact grownCap_ge W s.size 0 e, fun j hj => ?_, fun j hj => ?_⟩
  · have h1 := Lib.bytesWorld_at_new W e s
    refine ⟨?_, ?_⟩
    · simp [World.cell?, h1]; omega
    · simp [World.frozen?, h1]; omega
  · rw [bytesL_length] at hj
    rw [Lib.bytesWorld_cell W e s j hj]
    simp [bytesL, hj]
theorem nums_getD {k : IntKind} (l : List Int) (j : Nat) (u : Value) (h : (nums k l)[j]? = some u) : j < l.length ∧ u = .int k (l.getD j 0) := by
  simp only [nums, List.getElem?_map, Option.map_eq_some_iff] at h
  obtain ⟨x, hx, rfl⟩ := h
  obtain ⟨hj, rfl⟩ := List.getElem?_eq_some_iff.1 hx
  exact ⟨hj, by rw [List.getD_eq_getElem?_getD, hx]; rfl⟩
theorem below_setCells {B : Nat} {w W : World} (h : Below B w W) (g : Nat) (hg : B ≤ g) : ∀ (vs : List Value) (o : Nat), Below B w (W.setCells g o vs)
  | [], _ => h
  | v :: r, o => below_setCells (h.setCell (p := ⟨g, o, none⟩) hg v) g hg r (o + 1)
theorem C_cells {W : World} {ad : Addr} {b : List Int} (hm : b.length ≤ 140737488355328) (h : ∀ j, j < b.length → W.cell? (ad.add j) = some (.int .u8 (b.getD j 0))) : Kd.C (Kd.int .u8) W (some ad) b.length b := by
  refine ⟨rfl, by show b.length ≤ 9223372036854775807; omega, fun _ => ⟨ad, rfl, fun j p hj => ?_⟩⟩
  obtain ⟨hj2, e4⟩ := List.getElem?_eq_some_iff.1 hj
  have hd : b.getD j 0 = p := by rw [List.getD_eq_getElem?_getD, hj]; rfl
  refine ⟨[.int .u8 p], rfl, rfl, fun i u hu => ?_⟩
  match i, hu with
  | 0, hu =>
    obtain rfl : Value.int .u8 p = u := by simpa using hu
    have h1 := h j hj2
    rw [hd] at h1
    have h2 : j * (Kd.int IntKind.u8).sz + 0 = j := by show j * 1 + 0 = _; omega
    rw [h2]
    exact h1
theorem C_cut {W : World} {ad : Addr} {n : Nat} {l b : List Int} (h : Kd.C (Kd.int .u8) W (some ad) n l) (hn : n = l.length) (hm : b.length ≤ 140737488355328) (o : Nat) (hb : o + b.length ≤ l.length) (he : ∀ j, j < b.length → b.getD j 0 = l.getD (o + j) 0) : Kd.C (Kd.int .u8) W (some (ad.add o)) b.length b :=
  C_cells hm fun j hj => by
    rw [add_add, he j hj]
    exact C_u8_cell h hn (o + j) (by omega)
theorem blk_newB (w : World) (o1 o2 : Obj) : ((w.alloc o1).alloc o2).heap[w.heap.size + 1]? = some o2 := by simpa using blk_new (w.alloc o1) o2
theorem box_one (V : World) (v : Value) (T : TypeId) (o : Obj) (n : Nat) (hn : n = V.heap.size) : ((V.alloc (.cells #[v] T)).alloc o).cell? ⟨n, 0, none⟩ = some v := by
  subst hn
  exact (blk_cell (cs := #[v]) (t := T) (blk_alloc (blk_new V (.cells #[v] T)) o) 0)
theorem box_two (V : World) (v : Value) (T : TypeId) (o : Obj) (n : Nat) (hn : n = V.heap.size + 1) : ((V.alloc o).alloc (.cells #[v] T)).cell? ⟨n, 0, none⟩ = some v := by
  subst hn
  exact (blk_cell (cs := #[v]) (t := T) (blk_newB V o (.cells #[v] T)) 0)
theorem cell_alloc_keep {W : World} {a : Addr} {v : Value} (h : W.cell? a = some v) (o : Obj) : (W.alloc o).cell? a = some v := by
  rw [World.cell?_of_block (Below.heap_alloc W o a.block (cell_lt (by rw [h]; rfl)))]; exact h
def u8ok (l : List Int) : Prop := ∀ x ∈ l, 0 ≤ x ∧ x ≤ 255
def u8b (l : List Int) : Bool := l.all fun x => decide (0 ≤ x ∧ x ≤ 255)
theorem u8b_ok {l : List Int} (h : u8b l = true) : u8ok l := fun x hx => of_decide_eq_true (List.all_eq_true.1 h x hx)
theorem u8b_of {l : List Int} (h : u8ok l) : u8b l = true := List.all_eq_true.2 fun x hx => decide_eq_true (h x hx)
theorem u8ok_bytesL (s : ByteArray) : u8ok (bytesL s) := fun x hx => by
  obtain ⟨b, _, rfl⟩ := List.mem_map.1 hx
  have := b.toNat_lt
  omega
end Go.Proofs.Ytfbggdlidelliaa.P

/- More helper words of this session: strings of bytes cut, cells of rows, rows of bytes written. -/
import Derived.Test.YtfbggdlidelliaaZCdHp
import Derived.Test.YtfbggdlidelliaaZCdAes
namespace Go.Proofs.Ytfbggdlidelliaa.P
open Go.RowKit Go.Proofs.YtfbggdlidelliaaW.PrintWords Go.Proofs.YtfbggdlidelliaaW.PrintLast Go.Proofs.YtfbggdlidelliaaW.PrintMore
set_option linter.unusedVariables false
set_option linter.unusedSimpArgs false
theorem rowB_form' {W : World} {B g n c : Nat} {l : List Int} (h : rowB W B (.slice (some ⟨g, 0, none⟩) n c) l) : n ≤ c := by
  obtain ⟨g, cap, e, _, hl, _⟩ := h
  injection e with e1 e2 e3
  omega
theorem rowB_blk {W : World} {B g : Nat} {l : List Int} {T : TypeId} (h : W.heap[g]? = some (.cells (nums .u8 l).toArray T (0, 0))) (hB : B ≤ g) : rowB W B (.slice (some ⟨g, 0, none⟩) l.length l.length) l := by
  refine ⟨g, l.length, rfl, hB, Nat.le_refl _, fun j hj => ⟨?_, blk_frozen h j⟩, fun j hj => ?_⟩
  · rw [blk_cell h j, Array.getElem?_eq_getElem (by simp [nums]; omega)]; rfl
  · rw [blk_cell h j]
    exact nums_at? _ _ _ _ (by rw [List.getD_eq_getElem?_getD, List.getElem?_eq_getElem hj]; rfl)
theorem setCells_other : ∀ (vs : List Value) (o : Nat) (w : World) (g i : Nat), i ≠ g → (w.setCells g o vs).heap[i]? = w.heap[i]?
  | [], _, _, _, _, _ => rfl
  | v :: vs, o, w, g, i, h => by
    show ((w.setCell ⟨g, o, none⟩ v).setCells g (o + 1) vs).heap[i]? = _
    rw [setCells_other vs (o + 1) _ g i h]
    exact Below.heap_setCell w ⟨g, o, none⟩ v i h
theorem rowB_cell {W : World} {B g n c : Nat} {l : List Int} (h : rowB W B (.slice (some ⟨g, 0, none⟩) n c) l) (j : Nat) (hj : j < l.length) : W.cell? ⟨g, j, none⟩ = some (.int .u8 (l.getD j 0)) := by
  obtain ⟨g2, cap2, e, hg, hl, hc, hv⟩ := h
  injection e with e1 e2 e3
  injection e1 with e1
  injection e1 with e1
  subst e1
  exact hv j hj
theorem bytes_below {w W : World} {B : Nat} (h : Below B w W) (hB : B ≤ W.heap.size) (e : TypeId) (s : ByteArray) : Below B w (Lib.bytesWorld W e s) :=
  ⟨h.os, h.tape, h.output, Nat.le_trans h.size (by rw [Lib.bytesWorld_size]; omega), fun i hi => (Lib.bytesWorld_at_old W e s i (by omega)).trans (h.block i hi)⟩
theorem zeros_getD (n j : Nat) : (List.replicate n (0 : Int)).getD j 0 = 0 := by
  rw [List.getD_eq_getElem?_getD, List.getElem?_replicate]
  split <;> rfl
theorem str_size (l : List Int) : (strOfNums l).size = l.length := by simp [strOfNums, ByteArray.size]
theorem str_extract2 (l : List Int) (n m : Nat) : (strOfNums l).extract n m = strOfNums ((l.take m).drop n) := by
  have h : ∀ x y : ByteArray, x.data = y.data → x = y := fun x y e => by cases x; cases y; cases e; rfl
  apply h
  simp [strOfNums, ByteArray.extract, ByteArray.copySlice, List.map_take, List.map_drop, List.drop_take]
theorem C_row_int {k : IntKind} {W : World} {g : Nat} {l : List Int} {T : TypeId} {fr : Nat × Nat} (h : W.heap[g]? = some (.cells (nums k l).toArray T fr)) (hm : l.length ≤ 140737488355328) : Kd.C (Kd.int k) W (some ⟨g, 0, none⟩) l.length l := by
  refine ⟨rfl, by show l.length ≤ 9223372036854775807; omega, fun _ => ⟨⟨g, 0, none⟩, rfl, fun j p hj => ?_⟩⟩
  refine ⟨[.int k p], rfl, rfl, fun i u hu => ?_⟩
  match i, hu with
  | 0, hu =>
    obtain rfl : Value.int k p = u := by simpa using hu
    rw [add_plain]
    show W.cell? ⟨g, j * 1 + 0, none⟩ = _
    rw [show j * 1 + 0 = j from by omega]
    rw [show W.cell? ⟨g, j, none⟩ = (nums k l).toArray[j]? from by simp [World.cell?, h]]
    exact nums_at? k l j p hj
theorem word0_is (l : List Int) (i : Nat) (h : 4 * i + 4 ≤ l.length) : (l.take (4 * i + 4)).drop (4 * i) = Aes.word0 l i := by
  apply List.ext_getElem
  · simp [Aes.word0]; omega
  · intro j h1 h2
    have hj : j < 4 := by simpa [Aes.word0] using h2
    have e2 : (Aes.word0 l i).getD j 0 = l.getD (4 * i + j) 0 := by
      match j, hj with
      | 0, _ => rfl
      | 1, _ => rfl
      | 2, _ => rfl
      | 3, _ => rfl
    rw [List.getD_eq_getElem?_getD, List.getElem?_eq_getElem h2, List.getD_eq_getElem?_getD, List.getElem?_eq_getElem (by omega)] at e2
    simp only [Option.getD_some] at e2
    rw [e2]
    simp
theorem ext4 (s : ByteArray) (i : Nat) (h : 4 * i + 4 ≤ s.size) : s.extract (4 * i) (4 * i + 4) = strOfNums (Aes.word0 (bytesL s) i) := by
  conv => lhs; rw [← str_bytesL s]
  rw [str_extract2, word0_is _ _ (by rw [bytesL_length]; exact h)]
theorem C_str_cell {w : World} {A : Option Addr} {n : Nat} {l : List ByteArray} (h : Kd.C Kd.string w A n l) (j : Nat) (hj : j < l.length) : ∃ ad, A = some ad ∧ w.cell? (ad.add j) = some (.string (l.getD j ⟨#[]⟩)) := by
  obtain ⟨a2, c, e, hs, hk, hcell⟩ := Kd.C_get h ⟨#[]⟩ (j : Int) (by omega) (by have := h.1; omega)
  rw [Int.toNat_natCast] at hk hcell
  have hc : c = [Value.string (l.getD j ⟨#[]⟩)] := hk
  rw [hc] at hcell
  have h1 := hcell 0 _ rfl
  have h2 : j * (Kd.string).sz + 0 = j := by show j * 1 + 0 = _; omega
  rw [h2] at h1
  exact ⟨a2, e, h1⟩
theorem C_int_cell {k : IntKind} {w : World} {A : Option Addr} {n : Nat} {l : List Int} (h : Kd.C (Kd.int k) w A n l) (j : Nat) (hj : j < l.length) : ∃ ad, A = some ad ∧ w.cell? (ad.add j) = some (.int k (l.getD j 0)) := by
  obtain ⟨a2, c, e, hs, hk, hcell⟩ := Kd.C_get h 0 (j : Int) (by omega) (by have := h.1; omega)
  rw [Int.toNat_natCast] at hk hcell
  have hc : c = [Value.int k (l.getD j 0)] := hk
  rw [hc] at hcell
  have h1 := hcell 0 _ rfl
  have h2 : j * (Kd.int k).sz + 0 = j := by show j * 1 + 0 = _; omega
  rw [h2] at h1
  exact ⟨a2, e, h1⟩
theorem rowB_set {W : World} {B g n c : Nat} {l : List Int} (h : rowB W B (.slice (some ⟨g, 0, none⟩) n c) l) (j : Nat) (hj : j < l.length) (x : Int) : rowB (W.setCell ⟨g, j, none⟩ (.int .u8 x)) B (.slice (some ⟨g, 0, none⟩) n c) (l.set j x) := by
  obtain ⟨g2, cap, e, hg, hl, hc, hv⟩ := h
  injection e with e1 e2 e3
  injection e1 with e1
  injection e1 with e1
  subst e1 e2 e3
  have hs : W.setCell ⟨g, j, none⟩ (.int .u8 x) = W.setCells g j [.int .u8 x] := rfl
  have hin := World.cell?_setCells_in g [Value.int .u8 x] j W (fun i hi => by
    have hi0 : i = 0 := by simpa using hi
    subst hi0
    exact (hc _ (by omega)).1) 0 (by simp)
  have hout : ∀ i, i ≠ j → (W.setCells g j [.int .u8 x]).cell? ⟨g, i, none⟩ = W.cell? ⟨g, i, none⟩ := fun i hi => World.cell?_setCells_out g [Value.int .u8 x] j W ⟨g, i, none⟩ (fun _ _ => by show i < j ∨ j + 1 ≤ i; omega)
  rw [hs]
  refine ⟨g, c, by rw [List.length_set], hg, by rw [List.length_set]; exact hl, fun i hi => ⟨?_, ?_⟩, fun i hi => ?_⟩
  · by_cases h : i = j
    · subst h
      rw [show (⟨g, i, none⟩ : Addr) = ⟨g, i + 0, none⟩ from rfl, hin]; rfl
    · rw [hout i h]; exact (hc i hi).1
  · rw [World.frozen?_setCells]; exact (hc i hi).2
  · rw [List.length_set] at hi
    by_cases h : i = j
    · subst h
      rw [show (⟨g, i, none⟩ : Addr) = ⟨g, i + 0, none⟩ from rfl, hin]
      simp [List.getD_eq_getElem?_getD, hi]
    · rw [hout i h, hv i hi]
      simp [List.getD_eq_getElem?_getD, List.getElem?_set, Ne.symm h]
theorem rowB_free {W : World} {B g n c : Nat} {l : List Int} (h : rowB W B (.slice (some ⟨g, 0, none⟩) n c) l) (j : Nat) (hj : j < l.length) : W.frozen? ⟨g, j, none⟩ = false := by
  obtain ⟨g2, cap2, e, hg, hl, hc, hv⟩ := h
  injection e with e1 e2 e3
  injection e1 with e1
  injection e1 with e1
  subst e1
  exact (hc j (by omega)).2
end Go.Proofs.Ytfbggdlidelliaa.P

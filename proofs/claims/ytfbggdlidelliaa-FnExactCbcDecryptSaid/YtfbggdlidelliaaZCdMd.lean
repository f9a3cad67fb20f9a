/- The modes over lists of bytes (no program in sight): a stream by counters, chained blocks, codes; the stream is its own inverse, chained blocks are undone. -/
import Derived.Test.YtfbggdlidelliaaZCdAes
import Derived.Test.YtfbggdlidelliaaZCdSha
namespace Go.Proofs.Ytfbggdlidelliaa.Md
open Go Go.Proofs.Ytfbggdlidelliaa.Aes
set_option linter.unusedVariables false
set_option linter.unusedSimpArgs false
def blk (l : List Int) (i : Nat) : List Int := (l.drop (16 * i)).take 16
theorem blk_length (l : List Int) (i : Nat) (h : 16 * i + 16 ≤ l.length) : (blk l i).length = 16 := by simp [blk]; omega
theorem blk_ok {l : List Int} (h : ok l) (i : Nat) : ok (blk l i) := fun x hx => h x (List.mem_of_mem_drop (List.mem_of_mem_take hx))
theorem blk_at (l : List Int) (i j : Nat) (hj : j < 16) : (blk l i).getD j 0 = l.getD (16 * i + j) 0 := by
  simp only [blk, List.getD_eq_getElem?_getD]
  rw [List.getElem?_take_of_lt hj, List.getElem?_drop]
def cbcTo (keys : List (List Int)) (first p : List Int) : Nat → List Int × List Int
  | 0 => ([], first)
  | i + 1 => ((cbcTo keys first p i).1 ++ encL keys (xorS (cbcTo keys first p i).2 (blk p i)), encL keys (xorS (cbcTo keys first p i).2 (blk p i)))
def cbcL (keys : List (List Int)) (first p : List Int) : List Int := (cbcTo keys first p (p.length / 16)).1
def uncTo (keys : List (List Int)) (first b : List Int) : Nat → List Int × List Int
  | 0 => ([], first)
  | i + 1 => ((uncTo keys first b i).1 ++ xorS (uncTo keys first b i).2 (decL keys (blk b i)), blk b i)
def uncL (keys : List (List Int)) (first b : List Int) : List Int := (uncTo keys first b (b.length / 16)).1
theorem cbcTo_length (keys : List (List Int)) (first p : List Int) (i : Nat) : (cbcTo keys first p i).1.length = 16 * i := by
  induction i with
  | zero => rfl
  | succ i ih => simp only [cbcTo]; rw [List.length_append, ih, encL_length]; omega
theorem uncTo_length (keys : List (List Int)) (first p : List Int) (i : Nat) : (uncTo keys first p i).1.length = 16 * i := by
  induction i with
  | zero => rfl
  | succ i ih => simp only [uncTo]; rw [List.length_append, ih, xorS_length]; omega
theorem uncTo_ok {keys : List (List Int)} (hk : keysOk keys) {first b : List Int} (hf : ok first) (hb : ok b) (i : Nat) : ok (uncTo keys first b i).1 ∧ ok (uncTo keys first b i).2 := by
  induction i with
  | zero => exact ⟨fun x hx => (by cases hx), hf⟩
  | succ i ih => exact ⟨ok_append ih.1 (xorS_ok ih.2 (decL_ok hk (blk_ok hb i))), blk_ok hb i⟩
theorem uncTo_last (keys : List (List Int)) {first b : List Int} (hf : first.length = 16) (i : Nat) (h : 16 * i ≤ b.length) : (uncTo keys first b i).2.length = 16 := by
  cases i with
  | zero => exact hf
  | succ i => exact blk_length b i (by omega)
end Go.Proofs.Ytfbggdlidelliaa.Md

/- The modes over lists of bytes (no program in sight): a stream by counters, chained blocks, codes; the stream is its own inverse, chained blocks are undone. -/
import Derived.Test.YtfbggdlidelliaaZCmbAes
import Derived.Test.YtfbggdlidelliaaZCmbSha
namespace Go.Proofs.Ytfbggdlidelliaa.Md
open Go Go.Proofs.Ytfbggdlidelliaa.Aes
set_option linter.unusedVariables false
set_option linter.unusedSimpArgs false
def blk (l : List Int) (i : Nat) : List Int := (l.drop (16 * i)).take 16
theorem blk_length (l : List Int) (i : Nat) (h : 16 * i + 16 ≤ l.length) : (blk l i).length = 16 := by simp [blk]; omega
theorem blk_ok {l : List Int} (h : ok l) (i : Nat) : ok (blk l i) := fun x hx => h x (List.mem_of_mem_drop (List.mem_of_mem_take hx))
theorem blk_at (l : List Int) (i j : Nat) (hj : j < 16) : (blk l i).getD j 0 = l.getD (16 * i + j) 0 := by
  simp only [blk, List.getD_eq_getElem?_getD]
  rw [List.getElem?_take_of_lt hj, List.getElem?_drop]
def cbcTo (keys : List (List Int)) (first p : List Int) : Nat → List Int × List Int
  | 0 => ([], first)
  | i + 1 => ((cbcTo keys first p i).1 ++ encL keys (xorS (cbcTo keys first p i).2 (blk p i)), encL keys (xorS (cbcTo keys first p i).2 (blk p i)))
def dblAt (b : List Int) (i : Nat) : Int := if i < 15 then Go.bits .or .u8 (b.getD i 0 * 2 % 256) (b.getD (i + 1) 0 / 128) else xr (b.getD i 0 * 2 % 256) (b.getD 0 0 / 128 * 135)
def dbl (b : List Int) : List Int := st (dblAt b)
def zero16 : List Int := List.replicate 16 0
def macTo (keys : List (List Int)) (b : List Int) : Nat → List Int
  | 0 => zero16
  | i + 1 => encL keys (xorS (macTo keys b i) (blk b i))
def fillB (r : List Int) : List Int := (r ++ 128 :: List.replicate 15 0).take 16
def macK (keys : List (List Int)) (r : List Int) : List Int := if r.length < 16 then dbl (dbl (encL keys zero16)) else dbl (encL keys zero16)
def cmacL (keys : List (List Int)) (b : List Int) : List Int :=
  encL keys (xorS (macTo keys b ((b.length - 1) / 16)) (xorS (fillB (b.drop (16 * ((b.length - 1) / 16)))) (macK keys (b.drop (16 * ((b.length - 1) / 16))))))
theorem zero16_ok : ok zero16 := fun x hx => by
  obtain ⟨_, rfl⟩ := List.mem_replicate.1 hx
  exact ⟨by decide, by decide⟩
theorem or_by {a b : Int} (ha : by_ a) (hb : by_ b) : by_ (Go.bits .or .u8 a b) := by
  obtain ⟨x, hx, rfl⟩ := by_nat ha
  obtain ⟨y, hy, rfl⟩ := by_nat hb
  have e := Gf.or_u8 x y hx hy
  rw [e]
  exact nat_by (Nat.or_lt_two_pow (n := 8) hx hy)
theorem dblAt_by {b : List Int} (h : ok b) (i : Nat) : by_ (dblAt b i) := by
  have h1 := at_by h i
  have h2 := at_by h (i + 1)
  have h3 := at_by h 0
  unfold dblAt
  unfold by_ at h1 h2 h3
  split
  · exact or_by ⟨by omega, by omega⟩ ⟨by omega, by omega⟩
  · exact xr_by ⟨by omega, by omega⟩ ⟨by omega, by omega⟩
theorem dbl_ok {b : List Int} (h : ok b) : ok (dbl b) := st_ok _ fun j _ => dblAt_by h j
theorem dbl_length (b : List Int) : (dbl b).length = 16 := st_length _
theorem macTo_ok {keys : List (List Int)} (hk : keysOk keys) {b : List Int} (hb : ok b) (i : Nat) : ok (macTo keys b i) := by
  induction i with
  | zero => exact zero16_ok
  | succ i ih => exact encL_ok hk (xorS_ok ih (blk_ok hb i))
theorem macTo_length (keys : List (List Int)) (b : List Int) (i : Nat) : (macTo keys b i).length = 16 := by
  cases i with
  | zero => rfl
  | succ i => exact encL_length _ _
theorem fillB_length (r : List Int) : (fillB r).length = 16 := by simp [fillB]
theorem fillB_ok {r : List Int} (h : ok r) : ok (fillB r) := fun x hx => by
  rcases List.mem_append.1 (List.mem_of_mem_take hx) with h1 | h1
  · exact h x h1
  · rcases List.mem_cons.1 h1 with rfl | h2
    · exact ⟨by decide, by decide⟩
    · obtain ⟨_, rfl⟩ := List.mem_replicate.1 h2
      exact ⟨by decide, by decide⟩
theorem macK_ok {keys : List (List Int)} (hk : keysOk keys) (r : List Int) : ok (macK keys r) := by
  have h := dbl_ok (encL_ok hk zero16_ok)
  unfold macK
  split
  · exact dbl_ok h
  · exact h
theorem macK_length (keys : List (List Int)) (r : List Int) : (macK keys r).length = 16 := by
  unfold macK
  split <;> exact dbl_length _
theorem cmacL_length (keys : List (List Int)) (b : List Int) : (cmacL keys b).length = 16 := encL_length _ _
theorem xorS_assoc {a b c : List Int} (ha : ok a) (hb : ok b) (hc : ok c) : xorS (xorS a b) c = xorS a (xorS b c) :=
  st_same _ _ fun j hj => by
    rw [xorS, st_at _ j hj, xorS, st_at _ j hj, xr_assoc (at_by ha j) (at_by hb j) (at_by hc j)]
end Go.Proofs.Ytfbggdlidelliaa.Md

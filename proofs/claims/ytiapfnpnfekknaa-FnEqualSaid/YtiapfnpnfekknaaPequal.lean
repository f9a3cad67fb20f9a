/- Comparing bytes: what the program's EqualBytes and the reference's come to (no program in sight). -/
import Derived.Test.YtiapfnpnfekknaaPx6
import Derived.Test.YtiapfnpnfekknaaPstr
import Derived.Test.YtiapfnpnfekknaaPg
import Derived.Test.YtiapfnpnfekknaaPeq
namespace Go.Proofs.Ytiapfnpnfekknaa.Pg
open Go.RowKit Go.Proofs.Ytiapfnpnfekknaa.P Go.Proofs.Ytiapfnpnfekknaa.Gf Go.Proofs.YtiapfnpnfekknaaW.PrintWords Go.Proofs.YtiapfnpnfekknaaW.PrintLast Go.Proofs.YtiapfnpnfekknaaW.PrintMore
def allEq (a b : List Int) : Nat → Nat → Bool
  | 0, _ => true
  | n + 1, i => (rd a (i : Int) == rd b (i : Int)) && allEq a b n (i + 1)
theorem rd_u8' {l : List Int} (w : isU8 l) (i : Int) : 0 ≤ rd l i ∧ rd l i ≤ 255 := by
  unfold rd
  rcases Nat.lt_or_ge i.toNat l.length with h | h
  · rw [List.getD_eq_getElem?_getD, List.getElem?_eq_getElem h]
    exact w _ (List.getElem_mem h)
  · rw [List.getD_eq_getElem?_getD, List.getElem?_eq_none h]
    exact ⟨by decide, by decide⟩
theorem xor_zero (x y : Nat) : x ^^^ y = 0 ↔ x = y :=
  ⟨fun h => by have h2 := congrArg (· ^^^ y) h; simpa [Nat.xor_assoc] using h2, fun h => by rw [h, Nat.xor_self]⟩
theorem or_lt {a b : Nat} (ha : a < 256) (hb : b < 256) : a ||| b < 256 := Nat.or_lt_two_pow (n := 8) ha hb
theorem step_or (d x y : Nat) (hd : d < 256) (hx : x < 256) (hy : y < 256) : Go.bits .or .i64 (d : Int) (wrap64 (Go.bits .xor .u8 (x : Int) (y : Int))) = ((d ||| (x ^^^ y) : Nat) : Int) := by
  have hl := xor_lt hx hy
  have e1 := xor_u8 x y hx hy
  rw [e1, wrap64_nat _ (Nat.lt_trans hl (by decide))]
  exact or_i64 _ _ (Nat.lt_trans hd (by decide)) (Nat.lt_trans hl (by decide))
theorem spec_eq_run (a b : List Int) (ha : isU8 a) (hb : isU8 b) (la : a.length ≤ 70000) (n : Nat) : ∀ (k i d : Nat), i + n = min a.length b.length → d < 256 → n < k →
    spec_EqualBytes.l0 k a b (d : Int) (i : Int) = some (decide (d = 0) && allEq a b n i, 0) := by
  induction n with
  | zero =>
    intro k i d hi hd hk
    obtain ⟨k, rfl⟩ : ∃ m, k = m + 1 := ⟨k - 1, by omega⟩
    simp only [spec_EqualBytes.l0]
    have : ((d : Int) == 0) = decide (d = 0) := by
      rw [Bool.eq_iff_iff]; simp
    rw [this]
    by_cases h1 : (i : Int) < (a.length : Int)
    · rw [if_pos h1, if_neg (by omega)]; simp [allEq]
    · rw [if_neg h1]; simp [allEq]
  | succ n ih =>
    intro k i d hi hd hk
    obtain ⟨k, rfl⟩ : ∃ m, k = m + 1 := ⟨k - 1, by omega⟩
    simp only [spec_EqualBytes.l0]
    obtain ⟨x0, x1⟩ := rd_u8' ha (i : Int)
    obtain ⟨y0, y1⟩ := rd_u8' hb (i : Int)
    obtain ⟨x, hx⟩ := Int.eq_ofNat_of_zero_le x0
    obtain ⟨y, hy⟩ := Int.eq_ofNat_of_zero_le y0
    have hx2 : x < 256 := by omega
    have hy2 : y < 256 := by omega
    rw [if_pos (by omega), if_pos (by omega), if_pos (by omega), suc_int i (by omega), hx, hy]
    have hk2 : n < k := by omega
    have hi2 : i + 1 + n = min a.length b.length := by omega
    rw [step_or d x y hd hx2 hy2, ih k (i + 1) _ hi2 (or_lt hd (xor_lt hx2 hy2)) hk2]
    congr 2
    rw [Bool.eq_iff_iff]
    simp only [allEq, hx, hy, Bool.and_eq_true, decide_eq_true_eq, beq_iff_eq, Nat.or_eq_zero_iff, xor_zero]
    constructor
    · rintro ⟨⟨h1, h2⟩, h3⟩; exact ⟨h1, by rw [h2], h3⟩
    · rintro ⟨h1, h2, h3⟩; exact ⟨⟨h1, by omega⟩, h3⟩
theorem allEq_iff (a b : List Int) (n : Nat) : ∀ i, i + n = a.length → a.length = b.length → (∀ j, j < i → a[j]? = b[j]?) → (allEq a b n i = true ↔ a = b) := by
  induction n with
  | zero =>
    intro i hi hl hj
    refine ⟨fun _ => ?_, fun _ => rfl⟩
    apply List.ext_getElem?
    intro j
    rcases Nat.lt_or_ge j i with h | h
    · exact hj j h
    · rw [List.getElem?_eq_none (by omega), List.getElem?_eq_none (by omega)]
  | succ n ih =>
    intro i hi hl hj
    simp only [allEq, Bool.and_eq_true, beq_iff_eq]
    rw [rd_nat a i (by omega), rd_nat b i (by omega)]
    constructor
    · rintro ⟨h1, h2⟩
      refine (ih (i + 1) (by omega) hl (fun j hj2 => ?_)).1 h2
      rcases Nat.lt_or_ge j i with h | h
      · exact hj j h
      · obtain rfl : j = i := by omega
        rw [List.getElem?_eq_getElem (by omega), List.getElem?_eq_getElem (by omega), h1]
    · rintro rfl
      exact ⟨rfl, (ih (i + 1) (by omega) rfl (fun _ _ => rfl)).2 rfl⟩
/-- what both answer -/
def eqAns (a b : List Int) : Bool × Int := if 65536 < a.length ∨ 65536 < b.length then (false, 2) else (a == b, 0)
theorem spec_equal (k : Nat) (a b : List Int) (ha : isU8 a) (hb : isU8 b) (hk : 70000 < k) : spec_EqualBytes.f k a b = some (eqAns a b) := by
  obtain ⟨k, rfl⟩ : ∃ m, k = m + 1 := ⟨k - 1, by omega⟩
  unfold spec_EqualBytes.f eqAns
  by_cases h1 : 65536 < a.length
  · rw [if_pos (by omega), if_pos (.inl h1)]
    simp [spec_EqualBytes.j0]
  by_cases h2 : 65536 < b.length
  · rw [if_neg (by omega), if_pos (.inr h2), decide_eq_true (by omega)]
    simp [spec_EqualBytes.j0]
  rw [if_neg (by omega), if_neg (by omega), decide_eq_false (by omega)]
  simp only [spec_EqualBytes.j0, Bool.false_eq_true, if_false, spec_l01Bit.f]
  by_cases hl : a.length = b.length
  · have e : (((a.length : Int)) != ((b.length : Int))) = false := by simp [hl]
    rw [e]
    simp only [Bool.false_eq_true, if_false, Option.bind_some]
    have := spec_eq_run a b ha hb (by omega) a.length k 0 0 (by omega) (by decide) (by omega)
    simp only [Int.natCast_zero] at this
    rw [this]
    congr 2
    rw [Bool.eq_iff_iff]
    simp only [decide_true, Bool.true_and, beq_iff_eq]
    exact allEq_iff a b a.length 0 (by omega) hl (fun j h => absurd h (by omega))
  · have e : (((a.length : Int)) != ((b.length : Int))) = true := by simp; omega
    rw [e]
    simp only [if_true, Option.bind_some]
    have := spec_eq_run a b ha hb (by omega) (min a.length b.length) k 0 1 (by omega) (by decide) (by omega)
    rw [show ((0 : Nat) : Int) = 0 from rfl, show ((1 : Nat) : Int) = 1 from rfl] at this
    rw [this]
    have hne : (a == b) = false := by
      rw [beq_eq_false_iff_ne]; rintro rfl; exact hl rfl
    simp [hne]
theorem impl_equal (a b : List Int) (ha : isU8 a) (hb : isU8 b) : impl_EqualBytes.f a b = some (eqAns a b) := by
  unfold impl_EqualBytes.f impl_isLong_byte.f bytes_Equal.f eqAns
  simp only [Option.bind_some, List.any_cons, List.any_nil, Bool.or_false, Bool.or_eq_true, decide_eq_true_eq, strEq a b ha hb]
  by_cases h1 : 65536 < a.length
  · rw [if_pos (.inl (by omega)), if_pos (.inl h1)]
  by_cases h2 : 65536 < b.length
  · rw [if_pos (.inr (by omega)), if_pos (.inr h2)]
  · rw [if_neg (by omega), if_neg (by omega)]
end Go.Proofs.Ytiapfnpnfekknaa.Pg

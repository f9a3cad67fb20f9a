/- The reference's columns, mixed: they are V4.mx (no program in sight). -/
import Derived.Test.YtfbggdlidelliaaZCdPm14
import Derived.Test.YtfbggdlidelliaaZCdVec
import Derived.Test.YtfbggdlidelliaaZCdPg
namespace Go.Proofs.Ytfbggdlidelliaa.Pg
open Go.RowKit Go.Proofs.Ytfbggdlidelliaa.P Go.Proofs.Ytfbggdlidelliaa.Gf Go.Proofs.YtfbggdlidelliaaW.PrintWords Go.Proofs.YtfbggdlidelliaaW.PrintLast Go.Proofs.YtfbggdlidelliaaW.PrintMore
set_option linter.unusedVariables false
def at4 (u : V4) (i : Nat) : Nat := match i with | 0 => u.a | 1 => u.b | 2 => u.c | _ => u.d
def col (u : V4) : List Int := [(u.a : Int), (u.b : Int), (u.c : Int), (u.d : Int)]
theorem at4_lt (u : V4) (hu : u.ok) (i : Nat) : at4 u i < 256 := by
  unfold at4; split
  · exact hu.1
  · exact hu.2.1
  · exact hu.2.2.1
  · exact hu.2.2.2
theorem rd_col (u : V4) (i : Nat) (hi : i < 4) : rd (col u) (i : Int) = (at4 u i : Nat) := by
  match i, hi with
  | 0, _ => rfl
  | 1, _ => rfl
  | 2, _ => rfl
  | 3, _ => rfl
theorem getD_col (u : V4) (i : Nat) (hi : i < 4) : (col u).getD i 0 = (at4 u i : Nat) := by
  match i, hi with
  | 0, _ => rfl
  | 1, _ => rfl
  | 2, _ => rfl
  | 3, _ => rfl
theorem col_len (u : V4) : (col u).length = 4 := rfl
theorem turn_back (i j : Nat) (hi : i < 4) (hj : j < 4) : Int.tmod (wrap64 ((wrap64 ((j : Int) - (i : Int))) + 4)) 4 = (((j + 4 - i) % 4 : Nat) : Int) := by
  have e1 : wrap64 ((j : Int) - (i : Int)) = (j : Int) - i := by unfold wrap64; omega
  have e2 : wrap64 ((j : Int) - (i : Int) + 4) = ((j + 4 - i : Nat) : Int) := by unfold wrap64; omega
  rw [e1, e2, Int.tmod_eq_emod_of_nonneg (Int.natCast_nonneg _)]
  rfl
theorem suc4 (i : Nat) (hi : i < 4) : wrap64 ((i : Int) + 1) = ((i + 1 : Nat) : Int) := by unfold wrap64; omega
theorem mix_round (k i j s : Nat) (u f : V4) (hu : u.ok) (hf : f.ok) (hi : i < 4) (hj : j < 4) (hs : s < 256) (hk : 8 < k) (acc : List Int) :
    spec_l01Mix.l1 (k + 1) (col u) (col f) acc (i : Int) (s : Int) (j : Int) = spec_l01Mix.l1 k (col u) (col f) acc (i : Int) ((s ^^^ gm (at4 u j) (at4 f ((j + 4 - i) % 4)) : Nat) : Int) ((j + 1 : Nat) : Int) := by
  have hm : (j + 4 - i) % 4 < 4 := Nat.mod_lt _ (by decide)
  simp only [spec_l01Mix.l1]
  rw [turn_back i j hi hj, col_len, col_len, if_pos (by omega), if_pos (by omega), if_pos (by omega), if_pos (by omega), if_pos (by omega), rd_col u j hj, rd_col f _ hm,
    mul_eq k _ _ (at4_lt u hu _) (at4_lt f hf _) hk, Option.bind_some, xor_b _ _ hs (gm_lt (at4_lt u hu _)), suc4 j hj]
theorem mix_last (k i s : Nat) (u f : V4) (hi : i < 4) (acc : List Int) (ha : acc.length < 100) :
    spec_l01Mix.l1 (k + 1) (col u) (col f) acc (i : Int) (s : Int) ((4 : Nat) : Int) = spec_l01Mix.l0 k (col u) (col f) (acc ++ [(s : Int)]) ((i + 1 : Nat) : Int) := by
  simp only [spec_l01Mix.l1]
  rw [if_neg (by omega), if_pos (by omega), suc4 i hi]
theorem mix_row (k i : Nat) (u f : V4) (hu : u.ok) (hf : f.ok) (hi : i < 4) (hk : 14 < k) (acc : List Int) (ha : acc.length < 100) :
    spec_l01Mix.l0 (k + 6) (col u) (col f) acc (i : Int) = spec_l01Mix.l0 k (col u) (col f)
      (acc ++ [(((((0 ^^^ gm (at4 u 0) (at4 f ((0 + 4 - i) % 4))) ^^^ gm (at4 u 1) (at4 f ((1 + 4 - i) % 4))) ^^^ gm (at4 u 2) (at4 f ((2 + 4 - i) % 4))) ^^^ gm (at4 u 3) (at4 f ((3 + 4 - i) % 4)) : Nat) : Int)]) ((i + 1 : Nat) : Int) := by
  have g : ∀ a b, gm (at4 u a) b < 256 := fun a b => gm_lt (at4_lt u hu a)
  have e : spec_l01Mix.l0 (k + 6) (col u) (col f) acc (i : Int) = spec_l01Mix.l1 (k + 5) (col u) (col f) acc (i : Int) ((0 : Nat) : Int) ((0 : Nat) : Int) := by
    show spec_l01Mix.l0 (k + 5 + 1) _ _ _ _ = _
    simp only [spec_l01Mix.l0]
    rw [if_pos (by omega)]
    rfl
  rw [e, mix_round (k + 4) i 0 0 u f hu hf hi (by decide) (by decide) (by omega), mix_round (k + 3) i (0 + 1) _ u f hu hf hi (by decide) (xor_lt (by decide) (g _ _)) (by omega),
    mix_round (k + 2) i (0 + 1 + 1) _ u f hu hf hi (by decide) (xor_lt (xor_lt (by decide) (g _ _)) (g _ _)) (by omega),
    mix_round (k + 1) i (0 + 1 + 1 + 1) _ u f hu hf hi (by decide) (xor_lt (xor_lt (xor_lt (by decide) (g _ _)) (g _ _)) (g _ _)) (by omega)]
  exact mix_last k i _ u f hi acc ha
theorem x_b (a b c d : Nat) : ((a ^^^ b) ^^^ c) ^^^ d = ((b ^^^ c) ^^^ d) ^^^ a := by
  rw [Nat.xor_assoc a b c, Nat.xor_assoc a (b ^^^ c) d, Nat.xor_comm a]
theorem mix_eq (k : Nat) (u f : V4) (hu : u.ok) (hf : f.ok) (hk : 60 < k) : spec_l01Mix.f k (col u) (col f) = some (col (V4.mx f u)) := by
  obtain ⟨k, rfl⟩ : ∃ m, k = m + 25 := ⟨k - 25, by omega⟩
  have h0 := mix_row (k + 1 + 6 + 6 + 6) 0 u f hu hf (by decide) (by omega) [] (by simp)
  have h1 := mix_row (k + 1 + 6 + 6) 1 u f hu hf (by decide) (by omega)
  have h2 := mix_row (k + 1 + 6) 2 u f hu hf (by decide) (by omega)
  have h3 := mix_row (k + 1) 3 u f hu hf (by decide) (by omega)
  unfold spec_l01Mix.f
  have e : spec_l01Mix.l0 (k + 25) (col u) (col f) [] 0 = spec_l01Mix.l0 (k + 1 + 6 + 6 + 6 + 6) (col u) (col f) [] ((0 : Nat) : Int) := rfl
  rw [e, h0, h1 _ (by simp), h2 _ (by simp), h3 _ (by simp)]
  simp only [spec_l01Mix.l0]
  rw [if_neg (by omega)]
  simp only [Nat.zero_xor, List.nil_append, List.cons_append]
  unfold col V4.mx
  congr 1
  simp only [List.cons.injEq, and_true]
  refine ⟨?_, ?_, ?_, ?_⟩
  · congr 1
  · congr 1
    exact x_b _ _ _ _
  · congr 1
    exact (x_b _ _ _ _).trans (x_b _ _ _ _)
  · congr 1
    exact ((x_b _ _ _ _).trans (x_b _ _ _ _)).trans (x_b _ _ _ _)
theorem unmixF_ok : unmixF.ok := by unfold unmixF V4.ok; decide
end Go.Proofs.Ytfbggdlidelliaa.Pg

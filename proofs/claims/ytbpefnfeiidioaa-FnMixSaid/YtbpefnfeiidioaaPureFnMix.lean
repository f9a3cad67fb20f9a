/- For all inputs: mixing a column is additive, is the reference's, and four times over it is nothing. No condition. -/
import Derived.Test.YtbpefnfeiidioaaPx5
import Derived.Test.YtbpefnfeiidioaaPx4
import Derived.Test.YtbpefnfeiidioaaPmix
import Derived.Test.YtbpefnfeiidioaaPat
namespace Go.Proofs.Ytbpefnfeiidioaa.Pure
open Go.RowKit Go.Proofs.Ytbpefnfeiidioaa.P Go.Proofs.Ytbpefnfeiidioaa.Gf Go.Proofs.Ytbpefnfeiidioaa.Pg Go.Proofs.YtbpefnfeiidioaaW.PrintWords Go.Proofs.YtbpefnfeiidioaaW.PrintLast Go.Proofs.YtbpefnfeiidioaaW.PrintMore
theorem sameInts_run (l : List Int) (hl : l.length < 1000) (d : Nat) : ∀ (k i : Nat), i + d = l.length → d < k → laws_sameInts.l0 k l l (i : Int) = some true := by
  induction d with
  | zero =>
    intro k i hi hk
    obtain ⟨k, rfl⟩ : ∃ m, k = m + 1 := ⟨k - 1, by omega⟩
    simp only [laws_sameInts.l0]
    rw [if_neg (by omega)]
  | succ d ih =>
    intro k i hi hk
    obtain ⟨k, rfl⟩ : ∃ m, k = m + 1 := ⟨k - 1, by omega⟩
    have e : wrap64 ((i : Int) + 1) = ((i + 1 : Nat) : Int) := by unfold wrap64; omega
    simp only [laws_sameInts.l0]
    rw [if_pos (by omega), if_pos (by omega), if_pos (by omega), if_pos trivial, e]
    exact ih k (i + 1) (by omega) (by omega)
theorem sameInts_col (k : Nat) (u : V4) (hk : 10 < k) : laws_sameInts.f k (col u) (col u) = some true := by
  unfold laws_sameInts.f
  rw [if_pos rfl]
  exact sameInts_run (col u) (by rw [col_len]; decide) 4 k 0 rfl (by omega)
theorem rd_end (x : List Int) (a : Int) (i : Nat) (h : x.length = i) : rd (x ++ [a]) (i : Int) = a := by
  subst h; simp [rd]
theorem draw_one (k i a b : Nat) (l0 l1 x5 x6 x7 : List Int) (ea : laws_at.f l0 (i : Int) 256 = some (a : Int)) (eb : laws_at.f l1 (i : Int) 256 = some (b : Int)) (ha : a < 256) (hb : b < 256) (hi : i < 4)
    (h5 : x5.length = i) (h6 : x6.length = i) (h7 : x7.length = i) :
    laws_FnMix.l0 (k + 1) l0 l1 x5 x6 x7 (i : Int) = laws_FnMix.l0 k l0 l1 (x5 ++ [(a : Int)]) (x6 ++ [(b : Int)]) (x7 ++ [((a ^^^ b : Nat) : Int)]) ((i + 1 : Nat) : Int) := by
  have l5 : (x5 ++ [(a : Int)]).length = i + 1 := by rw [List.length_append, h5]; rfl
  have l6 : (x6 ++ [(b : Int)]).length = i + 1 := by rw [List.length_append, h6]; rfl
  simp only [laws_FnMix.l0]
  rw [if_pos (by omega), ea, Option.bind_some, if_pos (by omega), Option.bind_some, eb, Option.bind_some, if_pos (by omega), Option.bind_some, if_pos (by omega), l5, l6, if_pos (by omega), if_pos (by omega), if_pos (by omega),
    rd_end x5 _ i h5, rd_end x6 _ i h6, xor_b a b ha hb, suc4 i hi]
theorem draw_all (l0 l1 : List Int) (hl0 : l0.length ≤ 1048576) (hl1 : l1.length ≤ 1048576) (w0 : ∀ x ∈ l0, (Lit.int .u8 x).wf = true) (w1 : ∀ x ∈ l1, (Lit.int .u8 x).wf = true) :
    ∃ A B : V4, A.ok ∧ B.ok ∧ ∀ k, laws_FnMix.l0 (k + 4) l0 l1 [] [] [] 0 = laws_FnMix.l0 k l0 l1 (col A) (col B) (col (A.x B)) ((4 : Nat) : Int) := by
  obtain ⟨a0, ha0, ea0⟩ := at_some l0 hl0 w0 0 256 (by decide) (by decide)
  obtain ⟨a1, ha1, ea1⟩ := at_some l0 hl0 w0 1 256 (by decide) (by decide)
  obtain ⟨a2, ha2, ea2⟩ := at_some l0 hl0 w0 2 256 (by decide) (by decide)
  obtain ⟨a3, ha3, ea3⟩ := at_some l0 hl0 w0 3 256 (by decide) (by decide)
  obtain ⟨b0, hb0, eb0⟩ := at_some l1 hl1 w1 0 256 (by decide) (by decide)
  obtain ⟨b1, hb1, eb1⟩ := at_some l1 hl1 w1 1 256 (by decide) (by decide)
  obtain ⟨b2, hb2, eb2⟩ := at_some l1 hl1 w1 2 256 (by decide) (by decide)
  obtain ⟨b3, hb3, eb3⟩ := at_some l1 hl1 w1 3 256 (by decide) (by decide)
  refine ⟨⟨a0, a1, a2, a3⟩, ⟨b0, b1, b2, b3⟩, ⟨ha0, ha1, ha2, ha3⟩, ⟨hb0, hb1, hb2, hb3⟩, fun k => ?_⟩
  have e : laws_FnMix.l0 (k + 4) l0 l1 [] [] [] 0 = laws_FnMix.l0 (k + 3 + 1) l0 l1 [] [] [] ((0 : Nat) : Int) := rfl
  rw [e, draw_one (k + 3) 0 a0 b0 l0 l1 [] [] [] ea0 eb0 ha0 hb0 (by decide) rfl rfl rfl,
    draw_one (k + 2) (0 + 1) a1 b1 l0 l1 _ _ _ ea1 eb1 ha1 hb1 (by decide) rfl rfl rfl,
    draw_one (k + 1) (0 + 1 + 1) a2 b2 l0 l1 _ _ _ ea2 eb2 ha2 hb2 (by decide) rfl rfl rfl,
    draw_one k (0 + 1 + 1 + 1) a3 b3 l0 l1 _ _ _ ea3 eb3 ha3 hb3 (by decide) rfl rfl rfl]
  rfl
theorem at4_x (u v : V4) (i : Nat) : at4 (u.x v) i = at4 u i ^^^ at4 v i := by
  match i with
  | 0 => rfl
  | 1 => rfl
  | 2 => rfl
  | _ + 3 => rfl
theorem sum_one (k i : Nat) (x : List Int) (u v : V4) (hu : u.ok) (hv : v.ok) (hi : i < 4) :
    laws_FnMix.l1 (k + 1) x (col u) (col v) (col (u.x v)) (i : Int) = laws_FnMix.l1 k x (col u) (col v) (col (u.x v)) ((i + 1 : Nat) : Int) := by
  simp only [laws_FnMix.l1]
  rw [if_pos (by omega), if_pos (by omega), col_len, col_len, col_len, if_pos (by omega), if_pos (by omega), if_pos (by omega), rd_col _ i hi, rd_col _ i hi, rd_col _ i hi, at4_x,
    xor_b _ _ (at4_lt u hu i) (at4_lt v hv i), if_pos rfl, suc4 i hi]
theorem again (k i : Nat) (x : List Int) (u : V4) (hu : u.ok) (hi : i < 3) : laws_FnMix.l2 (k + 1) x (col u) (i : Int) = laws_FnMix.l2 k x (col (V4.mx mixF u)) ((i + 1 : Nat) : Int) := by
  simp only [laws_FnMix.l2]
  rw [if_pos (by omega), impl_Mix_col u hu, Option.bind_some, if_pos rfl, suc4 i (by omega)]
theorem end0 (k : Nat) (l0 l1 : List Int) (A B C : V4) (hA : A.ok) (hB : B.ok) (hC : C.ok) (hk : 120 < k) :
    laws_FnMix.l0 (k + 1) l0 l1 (col A) (col B) (col C) ((4 : Nat) : Int) = laws_FnMix.j2 k (col A) (col (V4.mx mixF A)) (col (V4.mx mixF B)) (col (V4.mx mixF C)) false := by
  have hlen : (((col (V4.mx mixF C)).length : Int) != 4) = false := by rw [col_len]; rfl
  simp only [laws_FnMix.l0]
  rw [if_neg (by decide), impl_Mix_col A hA, Option.bind_some, impl_Mix_col B hB, Option.bind_some, impl_Mix_col C hC, Option.bind_some, spec_Mix_eq k (col A) (by omega), impl_Mix_col A hA, Option.bind_some]
  simp only [if_true]
  rw [sameInts_col k _ (by omega), Option.bind_some, if_pos rfl, if_pos (by rw [col_len]; decide), hlen]
theorem end1 (k : Nat) (x y z t : List Int) : laws_FnMix.l1 (k + 1) x y z t ((4 : Nat) : Int) = laws_FnMix.l2 k x y 0 := by
  simp only [laws_FnMix.l1]
  rw [if_neg (by decide)]
theorem end2 (k : Nat) (u : V4) (hk : 20 < k) : laws_FnMix.l2 (k + 1) (col u) (col u) ((3 : Nat) : Int) = some true := by
  simp only [laws_FnMix.l2]
  rw [if_neg (by decide), sameInts_col k u (by omega), Option.bind_some]
theorem mix_out (n : Nat) (l0 l1 : List Int) : laws_FnMix.j0 (n + 200) l0 l1 true = some true := by
  show laws_FnMix.j0 (n + 199 + 1) l0 l1 true = some true
  simp only [laws_FnMix.j0, if_true]
theorem FnMix : laws_FnMix.Pure := by
  intro l0 l1 h0 _ w0 h1 _ w1
  obtain ⟨n, _⟩ : ∃ n : Nat, n = 0 := ⟨0, rfl⟩
  refine ⟨n + 200, ?_⟩
  unfold laws_FnMix.f
  by_cases b0 : (l0.length : Int) > 1048576
  · rw [if_pos b0]; exact mix_out n l0 l1
  by_cases b1 : (l1.length : Int) > 1048576
  · rw [if_neg b0, decide_eq_true b1]; exact mix_out n l0 l1
  rw [if_neg b0, decide_eq_false b1]
  show laws_FnMix.j0 (n + 199 + 1) l0 l1 false = some true
  simp only [laws_FnMix.j0, Bool.false_eq_true, if_false]
  obtain ⟨A, B, hA, hB, e⟩ := draw_all l0 l1 (by omega) (by omega) w0 w1
  have hAB := V4.x_ok hA hB
  have mA := V4.mx_ok mixF A hA
  have mB := V4.mx_ok mixF B hB
  have hx : V4.mx mixF (A.x B) = (V4.mx mixF A).x (V4.mx mixF B) := (mx_add mixF).add A B hA hB
  have e' : laws_FnMix.l0 (n + 199) l0 l1 [] [] [] 0 = laws_FnMix.l0 (n + 194 + 1) l0 l1 (col A) (col B) (col (A.x B)) ((4 : Nat) : Int) := e (n + 195)
  rw [e']
  rw [end0 (n + 194) l0 l1 A B _ hA hB hAB (by omega), hx]
  show laws_FnMix.j2 (n + 193 + 1) _ _ _ _ _ = some true
  simp only [laws_FnMix.j2, Bool.false_eq_true, if_false]
  show laws_FnMix.l1 (n + 192 + 1) _ _ _ _ ((0 : Nat) : Int) = some true
  rw [sum_one (n + 192) 0 _ _ _ mA mB (by decide)]
  show laws_FnMix.l1 (n + 191 + 1) _ _ _ _ ((0 + 1 : Nat) : Int) = some true
  rw [sum_one (n + 191) 1 _ _ _ mA mB (by decide)]
  show laws_FnMix.l1 (n + 190 + 1) _ _ _ _ ((1 + 1 : Nat) : Int) = some true
  rw [sum_one (n + 190) 2 _ _ _ mA mB (by decide)]
  show laws_FnMix.l1 (n + 189 + 1) _ _ _ _ ((2 + 1 : Nat) : Int) = some true
  rw [sum_one (n + 189) 3 _ _ _ mA mB (by decide)]
  show laws_FnMix.l1 (n + 188 + 1) _ _ _ _ ((4 : Nat) : Int) = some true
  rw [end1 (n + 188)]
  show laws_FnMix.l2 (n + 187 + 1) _ _ ((0 : Nat) : Int) = some true
  have m2 := V4.mx_ok mixF _ mA
  have m3 := V4.mx_ok mixF _ m2
  rw [again (n + 187) 0 _ _ mA (by decide)]
  show laws_FnMix.l2 (n + 186 + 1) _ _ ((1 : Nat) : Int) = some true
  rw [again (n + 186) 1 _ _ m2 (by decide)]
  show laws_FnMix.l2 (n + 185 + 1) _ _ ((2 : Nat) : Int) = some true
  rw [again (n + 185) 2 _ _ m3 (by decide), mix_four A hA]
  show laws_FnMix.l2 (n + 184 + 1) _ _ ((3 : Nat) : Int) = some true
  exact end2 (n + 184) A (by omega)
end Go.Proofs.Ytbpefnfeiidioaa.Pure

/- Columns, mixed by the program and by the reference: both are V4.mx (no program in sight). -/
import Derived.Test.YtbpefnfeiidioaaPx1
import Derived.Test.YtbpefnfeiidioaaPx2
import Derived.Test.YtbpefnfeiidioaaVec
import Derived.Test.YtbpefnfeiidioaaPg
namespace Go.Proofs.Ytbpefnfeiidioaa.Pg
open Go.RowKit Go.Proofs.Ytbpefnfeiidioaa.P Go.Proofs.Ytbpefnfeiidioaa.Gf Go.Proofs.YtbpefnfeiidioaaW.PrintWords Go.Proofs.YtbpefnfeiidioaaW.PrintLast Go.Proofs.YtbpefnfeiidioaaW.PrintMore
set_option linter.unusedVariables false
def at4 (u : V4) (i : Nat) : Nat := match i with | 0 => u.a | 1 => u.b | 2 => u.c | _ => u.d
def col (u : V4) : List Int := [(u.a : Int), (u.b : Int), (u.c : Int), (u.d : Int)]
theorem at4_lt (u : V4) (hu : u.ok) (i : Nat) : at4 u i < 256 := by
  unfold at4; split
  · exact hu.1
  · exact hu.2.1
  · exact hu.2.2.1
  · exact hu.2.2.2
theorem rd_col (u : V4) (i : Nat) (hi : i < 4) : rd (col u) (i : Int) = (at4 u i : Nat) := by
  match i, hi with
  | 0, _ => rfl
  | 1, _ => rfl
  | 2, _ => rfl
  | 3, _ => rfl
theorem getD_col (u : V4) (i : Nat) (hi : i < 4) : (col u).getD i 0 = (at4 u i : Nat) := by
  match i, hi with
  | 0, _ => rfl
  | 1, _ => rfl
  | 2, _ => rfl
  | 3, _ => rfl
theorem col_len (u : V4) : (col u).length = 4 := rfl
theorem col_ok (u : V4) (hu : u.ok) : bytesOk (col u) := by
  intro x hx
  simp only [col, List.mem_cons, List.not_mem_nil, or_false] at hx
  obtain ⟨h1, h2, h3, h4⟩ := hu
  rcases hx with rfl | rfl | rfl | rfl <;> exact ⟨Int.natCast_nonneg _, by omega⟩
theorem mpart_step (c f : V4) (hc : c.ok) (hf : f.ok) (i k s : Nat) (hk : k < 4) (hs : s < 256) (h : mpart (col c) (col f) i k = (s : Nat)) :
    mpart (col c) (col f) i (k + 1) = ((s ^^^ gm (at4 c ((i + k) % 4)) (at4 f k) : Nat) : Int) := by
  show Go.bits .xor .u8 (mpart (col c) (col f) i k) (tm _ _) = _
  rw [h, getD_col c _ (Nat.mod_lt _ (by decide)), getD_col f k hk]
  exact xor_u8 s (gm (at4 c ((i + k) % 4)) (at4 f k)) hs (gm_lt (at4_lt c hc _))
theorem mpart_all (c f : V4) (hc : c.ok) (hf : f.ok) (i : Nat) : mpart (col c) (col f) i 4 =
    ((((0 ^^^ gm (at4 c ((i + 0) % 4)) (at4 f 0)) ^^^ gm (at4 c ((i + 1) % 4)) (at4 f 1)) ^^^ gm (at4 c ((i + 2) % 4)) (at4 f 2)) ^^^ gm (at4 c ((i + 3) % 4)) (at4 f 3) : Nat) := by
  have g : ∀ a b, gm (at4 c a) b < 256 := fun a b => gm_lt (at4_lt c hc a)
  exact mpart_step c f hc hf i 3 _ (by decide) (xor_lt (xor_lt (xor_lt (by decide) (g _ _)) (g _ _)) (g _ _))
    (mpart_step c f hc hf i 2 _ (by decide) (xor_lt (xor_lt (by decide) (g _ _)) (g _ _)) (mpart_step c f hc hf i 1 _ (by decide) (xor_lt (by decide) (g _ _)) (mpart_step c f hc hf i 0 0 (by decide) (by decide) rfl)))
theorem mixedL_col (c f : V4) (hc : c.ok) (hf : f.ok) : mixedL (col c) (col f) = col (V4.mx f c) := by
  unfold mixedL
  rw [mpart_all c f hc hf 0, mpart_all c f hc hf 1, mpart_all c f hc hf 2, mpart_all c f hc hf 3]
  simp only [Nat.zero_xor]
  rfl
theorem turn_back (i j : Nat) (hi : i < 4) (hj : j < 4) : Int.tmod (wrap64 ((wrap64 ((j : Int) - (i : Int))) + 4)) 4 = (((j + 4 - i) % 4 : Nat) : Int) := by
  have e1 : wrap64 ((j : Int) - (i : Int)) = (j : Int) - i := by unfold wrap64; omega
  have e2 : wrap64 ((j : Int) - (i : Int) + 4) = ((j + 4 - i : Nat) : Int) := by unfold wrap64; omega
  rw [e1, e2, Int.tmod_eq_emod_of_nonneg (Int.natCast_nonneg _)]
  rfl
theorem suc4 (i : Nat) (hi : i < 4) : wrap64 ((i : Int) + 1) = ((i + 1 : Nat) : Int) := by unfold wrap64; omega
theorem mix_round (k i j s : Nat) (u f : V4) (hu : u.ok) (hf : f.ok) (hi : i < 4) (hj : j < 4) (hs : s < 256) (hk : 8 < k) (acc : List Int) :
    spec_l01Mix.l1 (k + 1) (col u) (col f) acc (i : Int) (s : Int) (j : Int) = spec_l01Mix.l1 k (col u) (col f) acc (i : Int) ((s ^^^ gm (at4 u j) (at4 f ((j + 4 - i) % 4)) : Nat) : Int) ((j + 1 : Nat) : Int) := by
  have hm : (j + 4 - i) % 4 < 4 := Nat.mod_lt _ (by decide)
  simp only [spec_l01Mix.l1]
  rw [turn_back i j hi hj, col_len, col_len, if_pos (by omega), if_pos (by omega), if_pos (by omega), if_pos (by omega), if_pos (by omega), rd_col u j hj, rd_col f _ hm,
    mul_eq k _ _ (at4_lt u hu _) (at4_lt f hf _) hk, Option.bind_some, xor_b _ _ hs (gm_lt (at4_lt u hu _)), suc4 j hj]
theorem mix_last (k i s : Nat) (u f : V4) (hi : i < 4) (acc : List Int) (ha : acc.length < 100) :
    spec_l01Mix.l1 (k + 1) (col u) (col f) acc (i : Int) (s : Int) ((4 : Nat) : Int) = spec_l01Mix.l0 k (col u) (col f) (acc ++ [(s : Int)]) ((i + 1 : Nat) : Int) := by
  simp only [spec_l01Mix.l1]
  rw [if_neg (by omega), if_pos (by omega), suc4 i hi]
theorem mix_row (k i : Nat) (u f : V4) (hu : u.ok) (hf : f.ok) (hi : i < 4) (hk : 14 < k) (acc : List Int) (ha : acc.length < 100) :
    spec_l01Mix.l0 (k + 6) (col u) (col f) acc (i : Int) = spec_l01Mix.l0 k (col u) (col f)
      (acc ++ [(((((0 ^^^ gm (at4 u 0) (at4 f ((0 + 4 - i) % 4))) ^^^ gm (at4 u 1) (at4 f ((1 + 4 - i) % 4))) ^^^ gm (at4 u 2) (at4 f ((2 + 4 - i) % 4))) ^^^ gm (at4 u 3) (at4 f ((3 + 4 - i) % 4)) : Nat) : Int)]) ((i + 1 : Nat) : Int) := by
  have g : ∀ a b, gm (at4 u a) b < 256 := fun a b => gm_lt (at4_lt u hu a)
  have e : spec_l01Mix.l0 (k + 6) (col u) (col f) acc (i : Int) = spec_l01Mix.l1 (k + 5) (col u) (col f) acc (i : Int) ((0 : Nat) : Int) ((0 : Nat) : Int) := by
    show spec_l01Mix.l0 (k + 5 + 1) _ _ _ _ = _
    simp only [spec_l01Mix.l0]
    rw [if_pos (by omega)]
    rfl
  rw [e, mix_round (k + 4) i 0 0 u f hu hf hi (by decide) (by decide) (by omega), mix_round (k + 3) i (0 + 1) _ u f hu hf hi (by decide) (xor_lt (by decide) (g _ _)) (by omega),
    mix_round (k + 2) i (0 + 1 + 1) _ u f hu hf hi (by decide) (xor_lt (xor_lt (by decide) (g _ _)) (g _ _)) (by omega),
    mix_round (k + 1) i (0 + 1 + 1 + 1) _ u f hu hf hi (by decide) (xor_lt (xor_lt (xor_lt (by decide) (g _ _)) (g _ _)) (g _ _)) (by omega)]
  exact mix_last k i _ u f hi acc ha
theorem x_b (a b c d : Nat) : ((a ^^^ b) ^^^ c) ^^^ d = ((b ^^^ c) ^^^ d) ^^^ a := by
  rw [Nat.xor_assoc a b c, Nat.xor_assoc a (b ^^^ c) d, Nat.xor_comm a]
theorem mix_eq (k : Nat) (u f : V4) (hu : u.ok) (hf : f.ok) (hk : 60 < k) : spec_l01Mix.f k (col u) (col f) = some (col (V4.mx f u)) := by
  obtain ⟨k, rfl⟩ : ∃ m, k = m + 25 := ⟨k - 25, by omega⟩
  have h0 := mix_row (k + 1 + 6 + 6 + 6) 0 u f hu hf (by decide) (by omega) [] (by simp)
  have h1 := mix_row (k + 1 + 6 + 6) 1 u f hu hf (by decide) (by omega)
  have h2 := mix_row (k + 1 + 6) 2 u f hu hf (by decide) (by omega)
  have h3 := mix_row (k + 1) 3 u f hu hf (by decide) (by omega)
  unfold spec_l01Mix.f
  have e : spec_l01Mix.l0 (k + 25) (col u) (col f) [] 0 = spec_l01Mix.l0 (k + 1 + 6 + 6 + 6 + 6) (col u) (col f) [] ((0 : Nat) : Int) := rfl
  rw [e, h0, h1 _ (by simp), h2 _ (by simp), h3 _ (by simp)]
  simp only [spec_l01Mix.l0]
  rw [if_neg (by omega)]
  simp only [Nat.zero_xor, List.nil_append, List.cons_append]
  unfold col V4.mx
  congr 1
  simp only [List.cons.injEq, and_true]
  refine ⟨?_, ?_, ?_, ?_⟩
  · congr 1
  · congr 1
    exact x_b _ _ _ _
  · congr 1
    exact (x_b _ _ _ _).trans (x_b _ _ _ _)
  · congr 1
    exact ((x_b _ _ _ _).trans (x_b _ _ _ _)).trans (x_b _ _ _ _)
theorem mixF_ok : mixF.ok := by unfold mixF V4.ok; decide
theorem unmixF_ok : unmixF.ok := by unfold unmixF V4.ok; decide
theorem col_of (l : List Int) (h : l.length = 4) (hb : (l.all fun x => areAll_int_p x) = true) : ∃ u : V4, u.ok ∧ l = col u := by
  match l, h with
  | [a, b, c, d], _ =>
    simp only [List.all_cons, List.all_nil, Bool.and_true, Bool.and_eq_true, areAll_int_p, decide_eq_true_eq] at hb
    obtain ⟨⟨a1, a2⟩, ⟨b1, b2⟩, ⟨c1, c2⟩, d1, d2⟩ := hb
    refine ⟨⟨a.toNat, b.toNat, c.toNat, d.toNat⟩, ⟨?_, ?_, ?_, ?_⟩, ?_⟩
    · show a.toNat < 256; omega
    · show b.toNat < 256; omega
    · show c.toNat < 256; omega
    · show d.toNat < 256; omega
    · simp only [col, List.cons.injEq, and_true]
      omega
theorem col_all (u : V4) (hu : u.ok) : ((col u).all fun x => areAll_int_p x) = true := by
  obtain ⟨h1, h2, h3, h4⟩ := hu
  simp only [col, List.all_cons, List.all_nil, Bool.and_true, Bool.and_eq_true, areAll_int_p, decide_eq_true_eq]
  omega
theorem impl_Mix_col (u : V4) (hu : u.ok) : impl_MixColumn.f (col u) = some (col (V4.mx mixF u), 0) := by
  unfold impl_MixColumn.f
  rw [if_neg (by rw [col_len]; decide), if_neg (by rw [col_len]; decide), col_all u hu, if_neg (by decide)]
  have := mixedL_col u mixF hu mixF_ok
  have e : col mixF = [2, 3, 1, 1] := rfl
  rw [e] at this
  rw [this]
theorem smix_loop (k i : Nat) (l : List Int) (h : l.length = 4) (hi : i < 4) : spec_MixColumn.l0 (k + 1) l (i : Int) = if areAll_int_p (l.getD i 0) = true then spec_MixColumn.l0 k l ((i + 1 : Nat) : Int) else some ([], 4) := by
  have e : spec_l01Byte.f (rd l (i : Int)) = some (areAll_int_p (l.getD i 0)) := by
    unfold spec_l01Byte.f spec_l01In.f
    show (if l.getD i 0 ≥ 0 then _ else _ : Option Bool).bind _ = _
    unfold areAll_int_p
    by_cases h0 : l.getD i 0 ≥ 0
    · rw [if_pos h0, Option.bind_some]
      congr 1
      exact decide_eq_decide.mpr ⟨fun h => ⟨h0, h⟩, fun h => h.2⟩
    · rw [if_neg h0, Option.bind_some]
      congr 1
      exact (decide_eq_false fun h => h0 h.1).symm
  simp only [spec_MixColumn.l0]
  rw [if_pos (by omega), if_pos (by omega), if_pos (by omega), e, Option.bind_some, suc4 i hi]
theorem spec_Mix_eq (k : Nat) (l : List Int) (hk : 100 < k) : spec_MixColumn.f k l = impl_MixColumn.f l := by
  unfold spec_MixColumn.f impl_MixColumn.f
  by_cases h1 : 4096 < l.length
  · rw [if_pos (by omega), if_pos h1]
  · rw [if_neg (by omega), if_neg h1]
    by_cases h2 : l.length = 4
    · rw [if_pos (by omega), if_neg (by omega)]
      obtain ⟨k, rfl⟩ : ∃ m, k = m + 1 + 4 := ⟨k - 5, by omega⟩
      have e : spec_MixColumn.l0 (k + 1 + 4) l 0 = spec_MixColumn.l0 (k + 1 + 3 + 1) l ((0 : Nat) : Int) := rfl
      rw [e, smix_loop (k + 1 + 3) 0 l h2 (by decide), smix_loop (k + 1 + 2) (0 + 1) l h2 (by decide), smix_loop (k + 1 + 1) (0 + 1 + 1) l h2 (by decide), smix_loop (k + 1) (0 + 1 + 1 + 1) l h2 (by decide)]
      by_cases hb : (l.all fun x => areAll_int_p x) = true
      · rw [hb]
        simp only [Bool.true_eq_false, if_false]
        obtain ⟨u, hu, rfl⟩ := col_of l h2 hb
        have hall := hb
        simp only [col, List.all_cons, List.all_nil, Bool.and_true, Bool.and_eq_true] at hall
        obtain ⟨p1, p2, p3, p4⟩ := hall
        rw [if_pos (show areAll_int_p ((col u).getD 0 0) = true from p1), if_pos (show areAll_int_p ((col u).getD (0 + 1) 0) = true from p2), if_pos (show areAll_int_p ((col u).getD (0 + 1 + 1) 0) = true from p3), if_pos (show areAll_int_p ((col u).getD (0 + 1 + 1 + 1) 0) = true from p4)]
        simp only [spec_MixColumn.l0]
        rw [if_neg (by omega)]
        have e2 : ([2, 3, 1, 1] : List Int) = col mixF := rfl
        rw [e2, mix_eq k u mixF hu mixF_ok (by omega), mixedL_col u mixF hu mixF_ok]
        rfl
      · rw [Bool.not_eq_true] at hb
        rw [hb]
        simp only [if_true]
        rw [← Bool.not_eq_true] at hb
        match l, h2 with
        | [a, b, c, d], _ =>
          simp only [List.all_cons, List.all_nil, Bool.and_true, Bool.and_eq_true] at hb
          show (if areAll_int_p a = true then if areAll_int_p b = true then if areAll_int_p c = true then if areAll_int_p d = true then _ else _ else _ else _ else _ : Option (List Int × Int)) = _
          by_cases q1 : areAll_int_p a = true
          · by_cases q2 : areAll_int_p b = true
            · by_cases q3 : areAll_int_p c = true
              · by_cases q4 : areAll_int_p d = true
                · exact absurd ⟨q1, q2, q3, q4⟩ hb
                · rw [if_pos q1, if_pos q2, if_pos q3, if_neg q4]
              · rw [if_pos q1, if_pos q2, if_neg q3]
            · rw [if_pos q1, if_neg q2]
          · rw [if_neg q1]
    · rw [if_neg (by omega), if_pos h2]
end Go.Proofs.Ytbpefnfeiidioaa.Pg

/- For all bytes that make keys: round keys begin with the key, there are as many as its length tells, no two keys have the same first ones. No condition. -/
import Derived.Test.YtfbggdlidelliaaPx8
import Derived.Test.YtfbggdlidelliaaPat
import Derived.Test.YtfbggdlidelliaaPblob
import Derived.Test.YtfbggdlidelliaaPks
namespace Go.Proofs.Ytfbggdlidelliaa.Pure
open Go.RowKit Go.Proofs.Ytfbggdlidelliaa.P Go.Proofs.Ytfbggdlidelliaa.Pg Go.Proofs.YtfbggdlidelliaaW.PrintWords Go.Proofs.YtfbggdlidelliaaW.PrintLast Go.Proofs.YtfbggdlidelliaaW.PrintMore
theorem first_words (K : List Int) (n j q : Nat) (hq : q < n) : (Aes.kw K n j).1.getD q [] = Aes.word0 K q := by
  induction j with
  | zero => simp [Aes.kw, List.getD_eq_getElem?_getD, hq]
  | succ j ih =>
    have hl : q < (Aes.kw K n j).1.length := by rw [Aes.kw_length]; omega
    have e : ∀ x, ((Aes.kw K n j).1 ++ [x]).getD q [] = Aes.word0 K q := fun x => by
      rw [← ih, List.getD_eq_getElem?_getD, List.getElem?_append_left hl, List.getD_eq_getElem?_getD]
    simp only [Aes.kw]
    split
    · exact e _
    · split <;> exact e _
theorem four_first (K : List Int) (i : Nat) (h : 16 * i + 16 ≤ K.length) : Aes.fourOf (Aes.allWords K) i = (K.drop (16 * i)).take 16 := by
  have w : ∀ q, q < K.length / 4 → (Aes.allWords K).getD q [] = (K.drop (4 * q)).take 4 := fun q hq => by
    rw [Aes.allWords, first_words K _ _ q hq, ← word0_is K q (by omega), List.drop_take]
    congr 1; omega
  unfold Aes.fourOf
  rw [w (4 * i) (by omega), w (4 * i + 1) (by omega), w (4 * i + 2) (by omega), w (4 * i + 3) (by omega), show (16 : Nat) = 4 + 4 + 4 + 4 from rfl, List.take_add, List.take_add, List.take_add, List.drop_drop, List.drop_drop, List.drop_drop]
  congr 1
  · congr 1
    · congr 1
      · congr 2; omega
      · congr 2; omega
    · congr 2; omega
  · congr 2; omega
theorem rd_key (K : List Int) (i : Nat) (hi : i < K.length / 4 + 7) : rdOf ByteArray.empty ((Aes.keysL K).map strOfNums) (i : Int) = strOfNums (Aes.fourOf (Aes.allWords K) i) := by
  unfold rdOf
  rw [Int.toNat_natCast, List.getD_eq_getElem?_getD, List.getElem?_map, Aes.keysL, List.getElem?_map, List.getElem?_range hi]
  rfl
theorem keys16 (K : List Int) (h : K.length = 16) : rdOf ByteArray.empty ((Aes.keysL K).map strOfNums) 0 = strOfNums K := by
  have e := rd_key K 0 (by omega)
  rw [four_first K 0 (by omega), List.take_of_length_le (by simp; omega)] at e
  exact e
theorem keys32 (K : List Int) (h : K.length = 32) : rdOf ByteArray.empty ((Aes.keysL K).map strOfNums) 0 ++ rdOf ByteArray.empty ((Aes.keysL K).map strOfNums) 1 = strOfNums K := by
  have e0 := rd_key K 0 (by omega)
  have e1 := rd_key K 1 (by omega)
  rw [four_first K 0 (by omega)] at e0
  rw [four_first K 1 (by omega)] at e1
  have e0' : rdOf ByteArray.empty ((Aes.keysL K).map strOfNums) 0 = _ := e0
  have e1' : rdOf ByteArray.empty ((Aes.keysL K).map strOfNums) 1 = _ := e1
  rw [e0', e1', strOfNums_append]
  congr 1
  rw [show 16 * 0 = 0 from rfl, List.drop_zero, show 16 * 1 = 16 from rfl, List.take_of_length_le (l := K.drop 16) (by simp; omega), List.take_append_drop]
theorem sameT_run (d : Nat) : ∀ (k i : Nat) (l : List ByteArray), i + d = l.length → l.length ≤ 1000 → d < k → laws_sameTexts.l0 k l l (i : Int) = some true := by
  induction d with
  | zero =>
    intro k i l hi hl hk
    obtain ⟨k, rfl⟩ : ∃ m, k = m + 1 := ⟨k - 1, by omega⟩
    simp only [laws_sameTexts.l0]
    rw [if_neg (by omega)]
  | succ d ih =>
    intro k i l hi hl hk
    obtain ⟨k, rfl⟩ : ∃ m, k = m + 1 := ⟨k - 1, by omega⟩
    have hw : wrap64 ((i : Int) + 1) = ((i + 1 : Nat) : Int) := by unfold wrap64; omega
    simp only [laws_sameTexts.l0]
    rw [if_pos (by omega), if_pos (by omega), if_pos (by omega), if_pos trivial, hw]
    exact ih k (i + 1) l (by omega) hl (by omega)
theorem sameT_refl (k : Nat) (l : List ByteArray) (hl : l.length ≤ 1000) (hk : l.length < k) : laws_sameTexts.f k l l = some true := by
  unfold laws_sameTexts.f
  rw [if_pos rfl]
  exact sameT_run l.length k 0 l (by omega) hl hk
theorem keysN (r : List Int) (u : isU8 r) (k : Nat) (hk : 600 ≤ k) (h : r.length = 16 ∨ r.length = 32) : spec_KeySchedule.f k (strOfNums r) = some ((Aes.keysL r).map strOfNums, 0) ∧ impl_KeySchedule.f (strOfNums r) = some ((Aes.keysL r).map strOfNums, 0) := by
  have := keys_in k hk (strOfNums r) (by rw [str_size]; exact h)
  rw [bytesL_str r u] at this
  exact this
theorem keys_last (k n : Nat) (ra rb : List Int) (hn : n = 16 ∨ n = 32) (la : ra.length = n) (lb : rb.length = n) :
    laws_FnKeys.j1 (k + 1) (n : Int) (strOfNums ra) (strOfNums rb) ((Aes.keysL ra).map strOfNums) ((Aes.keysL rb).map strOfNums) false = some true := by
  have hla : ((Aes.keysL ra).map strOfNums).length = n / 4 + 7 := by rw [List.length_map, Aes.keysL_length, la]
  have hlb : ((Aes.keysL rb).map strOfNums).length = n / 4 + 7 := by rw [List.length_map, Aes.keysL_length, lb]
  simp only [laws_FnKeys.j1, Bool.false_eq_true, if_false]
  rw [if_pos (by rw [hla]; omega), if_pos (by rw [hlb]; omega)]
  rcases hn with rfl | rfl
  · rw [if_neg (by decide), keys16 ra la, keys16 rb lb, if_pos rfl, beq_self_eq_true]
  · have z : ∀ (K : List Int), K.length = 32 → (rdOf ByteArray.empty ((Aes.keysL K).map strOfNums) 0).size + (rdOf ByteArray.empty ((Aes.keysL K).map strOfNums) 1).size ≤ 9223372036854775807 := fun K hK => by
      have e0 := rd_key K 0 (by omega)
      have e1 := rd_key K 1 (by omega)
      rw [four_first K 0 (by omega)] at e0
      rw [four_first K 1 (by omega)] at e1
      have e0' : rdOf ByteArray.empty ((Aes.keysL K).map strOfNums) 0 = _ := e0
      have e1' : rdOf ByteArray.empty ((Aes.keysL K).map strOfNums) 1 = _ := e1
      rw [e0', e1', str_size, str_size, List.length_take, List.length_take]
      omega
    rw [if_pos (by decide), if_pos (by rw [hla]; decide), if_pos (z ra la), if_pos (by rw [hlb]; decide), if_pos (z rb lb), keys32 ra la, keys32 rb lb, if_pos rfl, beq_self_eq_true]
theorem seven_w (n m : Nat) (h : n / 4 = m) (hm : m ≤ 100) : wrap64 ((wrap64 (Int.tdiv (n : Int) 4)) + 7) = ((m + 7 : Nat) : Int) := by
  have e : Int.tdiv (n : Int) 4 = (m : Int) := by rw [Int.tdiv_eq_ediv_of_nonneg (Int.natCast_nonneg _), ← h]; rfl
  rw [e]
  unfold wrap64; omega
theorem keys_core (k : Nat) (hk : 600 ≤ k) (l0 l1 : List Int) (w0 : ∀ x ∈ l0, (Lit.int .u8 x).wf = true) (w1 : ∀ x ∈ l1, (Lit.int .u8 x).wf = true) (b1 : l1.length ≤ 1048576) : laws_FnKeys.j0 (k + 2) l0 l1 false = some true := by
  obtain ⟨t, ht, et⟩ := at_some l1 b1 w1 0 2 (by decide) (by decide)
  have et' : laws_at.f l1 0 2 = some (t : Int) := et
  obtain ⟨n, hn, hr⟩ : ∃ n : Nat, (n = 16 ∨ n = 32) ∧ rd [16, 32] (t : Int) = (n : Int) := by
    have : t = 0 ∨ t = 1 := by omega
    rcases this with rfl | rfl
    · exact ⟨16, .inl rfl, rfl⟩
    · exact ⟨32, .inr rfl, rfl⟩
  obtain ⟨ra, ea, ua, la⟩ := blobOf_some (isU8_of w0) n (by omega)
  obtain ⟨rb, eb, ub, lb⟩ := blobOf_some (isU8_of w1) n (by omega)
  have ka := keysN ra ua (k + 1) (by omega) (by omega)
  have kb := keysN rb ub (k + 1) (by omega) (by omega)
  have hla : ((Aes.keysL ra).map strOfNums).length = n / 4 + 7 := by rw [List.length_map, Aes.keysL_length, la]
  have hlb : ((Aes.keysL rb).map strOfNums).length = n / 4 + 7 := by rw [List.length_map, Aes.keysL_length, lb]
  have h15 : n / 4 + 7 ≤ 15 := by omega
  have h1 : laws_sameTexts.f (k + 1) ((Aes.keysL ra).map strOfNums) ((Aes.keysL ra).map strOfNums) = some true := by
    refine sameT_refl (k + 1) _ ?_ ?_
    · rw [hla]; omega
    · rw [hla]; omega
  have ea1 := ea (k + 1) (by omega)
  have eb1 := eb (k + 1) (by omega)
  have hw := seven_w n (n / 4) rfl (by omega)
  have hlast := keys_last k n ra rb hn la lb
  have hc : (0 : Int) ≤ (t : Int) := by omega
  have hc2 : (t : Int) < (([16, 32] : List Int).length : Int) := by simp; omega
  show laws_FnKeys.j0 ((k + 1) + 1) l0 l1 false = _
  simp only [laws_FnKeys.j0, Bool.false_eq_true, if_false]
  rw [Option.bind_some, et', Option.bind_some, if_pos hc, if_pos hc2, hr, ea1, Option.bind_some, eb1, Option.bind_some, ka.2, Option.bind_some, kb.2, Option.bind_some, ka.1, Option.bind_some]
  simp only [if_true]
  rw [h1, Option.bind_some, if_pos rfl, hla, hlb, hw, if_pos rfl, bne_self_eq_false]
  exact hlast
theorem FnKeys : laws_FnKeys.Pure := by
  intro l0 l1 _ _ w0 _ _ w1
  refine ⟨1000 + 2, ?_⟩
  unfold laws_FnKeys.f
  by_cases b0 : (l0.length : Int) > 1048576
  · rw [if_pos b0]
    show laws_FnKeys.j0 (1001 + 1) l0 l1 true = _
    simp only [laws_FnKeys.j0, if_true]
  rw [if_neg b0]
  by_cases b1 : (l1.length : Int) > 1048576
  · rw [decide_eq_true b1]
    show laws_FnKeys.j0 (1001 + 1) l0 l1 true = _
    simp only [laws_FnKeys.j0, if_true]
  · rw [decide_eq_false b1]
    exact keys_core 1000 (by decide) l0 l1 w0 w1 (by omega)
end Go.Proofs.Ytfbggdlidelliaa.Pure

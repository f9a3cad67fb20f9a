/- A source of choices: its bytes and its choices lie in their bounds; the drawn bytes (no program in sight). -/
import Derived.Test.YtfbggdlidelliaaZCmbPm14
import Derived.Test.YtfbggdlidelliaaZCmbPm13
import Derived.Test.YtfbggdlidelliaaZCmbPstr
namespace Go.Proofs.Ytfbggdlidelliaa.Pg
open Go.RowKit Go.Proofs.Ytfbggdlidelliaa.P Go.Proofs.YtfbggdlidelliaaW.PrintWords Go.Proofs.YtfbggdlidelliaaW.PrintLast Go.Proofs.YtfbggdlidelliaaW.PrintMore
theorem rd_src {l : List Int} (w : isU8 l) (i : Int) : 0 ≤ rd l i ∧ rd l i ≤ 255 := by
  unfold rd
  rcases Nat.lt_or_ge i.toNat l.length with h | h
  · rw [List.getD_eq_getElem?_getD, List.getElem?_eq_getElem h]
    exact w _ (List.getElem_mem h)
  · rw [List.getD_eq_getElem?_getD, List.getElem?_eq_none h]
    exact ⟨by decide, by decide⟩
theorem byteSeed_bd (s b : Int) : 0 ≤ byteSeed s b ∧ byteSeed s b < 2147483648 := by unfold byteSeed; omega
def At (B a s : Int) : Prop := 0 ≤ a ∧ a ≤ B ∧ 0 ≤ s ∧ s < 2147483648
theorem byte_some {l : List Int} (w : isU8 l) {B a s : Int} (h : At B a s) (hB : B ≤ 1000000000000) : ∃ r a' s', spec_l00Src_byte.f l a s = some (r, a', s') ∧ 0 ≤ r ∧ r ≤ 255 ∧ At (B + 1) a' s' := by
  obtain ⟨h0, h1, h2, h3⟩ := h
  obtain ⟨r0, r1⟩ := rd_src w a
  unfold spec_l00Src_byte.f
  rw [if_pos ⟨h0, by omega, h2, h3, r0, r1⟩]
  split
  · obtain ⟨b0, b1⟩ := byteSeed_bd s (rd l a)
    exact ⟨_, _, _, rfl, r0, r1, by omega, by omega, b0, b1⟩
  · split
    · exact ⟨_, _, _, rfl, by decide, by decide, by omega, by omega, h2, h3⟩
    · obtain ⟨b0, b1⟩ := byteNext_bd s
      exact ⟨_, _, _, rfl, by omega, by omega, by omega, by omega, b0, b1⟩
theorem next_some {l : List Int} (w : isU8 l) {B a s n : Int} (h : At B a s) (hB : B ≤ 100000000000) (hn : 1 ≤ n) : ∃ r a' s', spec_l00Src_next.f l a s n = some (r, a', s') ∧ 0 ≤ r ∧ r < n ∧ At (B + 3) a' s' := by
  unfold spec_l00Src_next.f
  by_cases h1 : n ≤ 1
  · rw [if_pos h1]
    obtain ⟨h0, h2, h3, h4⟩ := h
    exact ⟨_, _, _, rfl, by decide, by omega, h0, by omega, h3, h4⟩
  rw [if_neg h1]
  have hn0 : ¬ n = 0 := by omega
  by_cases h2 : n ≤ 256
  · rw [if_pos h2]
    obtain ⟨r, a', s', e, r0, r1, g0, g1, g2, g3⟩ := byte_some w h (by omega)
    rw [e, Option.bind_some, if_neg hn0]
    refine ⟨Int.tmod r n, a', s', rfl, ?_, ?_, g0, by omega, g2, g3⟩
    · exact Int.tmod_nonneg _ r0
    · exact Int.tmod_lt_of_pos _ (by omega)
  · rw [if_neg h2]
    obtain ⟨x, a1, s1, e1, x0, x1, g1⟩ := byte_some w h (by omega)
    obtain ⟨y, a2, s2, e2, y0, y1, g2⟩ := byte_some w g1 (by omega)
    obtain ⟨z, a3, s3, e3, z0, z1, g30, g31, g32, g33⟩ := byte_some w g2 (by omega)
    rw [e1, Option.bind_some, e2, Option.bind_some, e3, Option.bind_some, if_neg hn0]
    have hw : wrap64 ((wrap64 ((wrap64 (x * 65536)) + (wrap64 (y * 256)))) + z) = x * 65536 + y * 256 + z := by unfold wrap64; omega
    simp only [hw]
    clear hw
    refine ⟨Int.tmod (x * 65536 + y * 256 + z) n, a3, s3, rfl, ?_, ?_, g30, by omega, g32, g33⟩
    · exact Int.tmod_nonneg _ (by omega)
    · exact Int.tmod_lt_of_pos _ (by omega)
theorem isU8_snoc {l : List Int} (w : isU8 l) {x : Int} (h : 0 ≤ x ∧ x ≤ 255) : isU8 (l ++ [x]) := by
  intro y hy
  rcases List.mem_append.1 hy with hy | hy
  · exact w y hy
  · rw [List.mem_singleton.1 hy]; exact h
theorem isU8_nil : isU8 [] := fun x hx => by cases hx
theorem isU8_append {l m : List Int} (w : isU8 l) (v : isU8 m) : isU8 (l ++ m) := by
  intro y hy
  rcases List.mem_append.1 hy with hy | hy
  · exact w y hy
  · exact v y hy
theorem bytes_run {l : List Int} (w : isU8 l) (d : Nat) : ∀ (k : Nat) (acc : List Int) (B a s : Int), d < k → isU8 acc → acc.length + d ≤ 100000 → At B a s → B + 3 * (d : Int) ≤ 100000000000 →
    ∃ r a' s', spec_l00Src_bytes.l0 k acc (d : Int) l a s = some (r, a', s') ∧ isU8 r ∧ r.length = acc.length + d ∧ At (B + 3 * d) a' s' := by
  induction d with
  | zero =>
    intro k acc B a s hk ha hl hA hB
    obtain ⟨k, rfl⟩ : ∃ m, k = m + 1 := ⟨k - 1, by omega⟩
    refine ⟨acc, a, s, ?_, ha, by omega, ?_⟩
    · simp only [spec_l00Src_bytes.l0]; rw [if_neg (by omega)]
    · simpa using hA
  | succ d ih =>
    intro k acc B a s hk ha hl hA hB
    obtain ⟨k, rfl⟩ : ∃ m, k = m + 1 := ⟨k - 1, by omega⟩
    obtain ⟨r, a1, s1, e, r0, r1, hA1⟩ := next_some w (n := 256) hA (by omega) (by decide)
    have hm : r % 256 = r := by omega
    have hw : wrap64 (((d + 1 : Nat) : Int) - 1) = (d : Int) := by unfold wrap64; omega
    obtain ⟨r', a', s', e', u', hl', hA'⟩ := ih k (acc ++ [r]) (B + 3) a1 s1 (by omega) (isU8_snoc ha ⟨r0, by omega⟩) (by simp; omega) hA1 (by omega)
    refine ⟨r', a', s', ?_, u', by simp at hl'; omega, ?_⟩
    · simp only [spec_l00Src_bytes.l0]
      rw [if_pos (by omega), e, Option.bind_some, if_pos (by omega)]
      simp only [hm, hw]
      exact e'
    · have : B + 3 + 3 * (d : Int) = B + 3 * ((d + 1 : Nat) : Int) := by omega
      rw [← this]; exact hA'
theorem bytes_some {l : List Int} (w : isU8 l) {B a s : Int} (h : At B a s) (hB : B ≤ 1000000) (n : Nat) (hn : n ≤ 1000) (k : Nat) (hk : n < k) :
    ∃ r a' s', spec_l00Src_bytes.f k l a s (n : Int) = some (r, a', s') ∧ isU8 r ∧ r.length ≤ n ∧ At (B + 4000) a' s' := by
  unfold spec_l00Src_bytes.f
  have hw : wrap64 ((n : Int) + 1) = (n : Int) + 1 := by unfold wrap64; omega
  rw [hw]
  clear hw
  obtain ⟨r, a1, s1, e, r0, r1, hA1⟩ := next_some w (n := (n : Int) + 1) h (by omega) (by omega)
  rw [e, Option.bind_some]
  obtain ⟨d, rfl⟩ := Int.eq_ofNat_of_zero_le r0
  obtain ⟨r', a', s', e', u', hl', g0, g1, g2, g3⟩ := bytes_run w d k [] (B + 3) a1 s1 (by omega) isU8_nil (by simp; omega) hA1 (by omega)
  exact ⟨r', a', s', e', u', by simp at hl'; omega, g0, by omega, g2, g3⟩
end Go.Proofs.Ytfbggdlidelliaa.Pg

/- Drawn texts of so many bytes (no program in sight). -/
import Derived.Test.YtfbggdlidelliaaZCmbPm13
import Derived.Test.YtfbggdlidelliaaZCmbPsrc
namespace Go.Proofs.Ytfbggdlidelliaa.Pg
open Go.RowKit Go.Proofs.Ytfbggdlidelliaa.P Go.Proofs.YtfbggdlidelliaaW.PrintWords Go.Proofs.YtfbggdlidelliaaW.PrintLast Go.Proofs.YtfbggdlidelliaaW.PrintMore
theorem blob_run {l : List Int} (w : isU8 l) (d : Nat) : ∀ (k n i : Nat) (acc : List Int) (B a s : Int), i + d = n → n ≤ 1000 → d < k → isU8 acc → acc.length = i → At B a s → B + 3 * (d : Int) ≤ 100000000000 →
    ∃ r a' s', spec_l00Src_blob.l0 k (n : Int) acc (i : Int) l a s = some (strOfNums r, a', s') ∧ isU8 r ∧ r.length = n := by
  induction d with
  | zero =>
    intro k n i acc B a s hi hn hk ha hl hA hB
    obtain ⟨k, rfl⟩ : ∃ m, k = m + 1 := ⟨k - 1, by omega⟩
    refine ⟨acc, a, s, ?_, ha, by omega⟩
    simp only [spec_l00Src_blob.l0]
    rw [if_neg (by omega)]
  | succ d ih =>
    intro k n i acc B a s hi hn hk ha hl hA hB
    obtain ⟨k, rfl⟩ : ∃ m, k = m + 1 := ⟨k - 1, by omega⟩
    obtain ⟨r, a1, s1, e, r0, r1, hA1⟩ := next_some w (n := 256) hA (by omega) (by decide)
    have hm : r % 256 = r := by omega
    have hw : wrap64 ((i : Int) + 1) = ((i + 1 : Nat) : Int) := by unfold wrap64; omega
    obtain ⟨r', a', s', e', u', hl'⟩ := ih k n (i + 1) (acc ++ [r]) (B + 3) a1 s1 (by omega) hn (by omega) (isU8_snoc ha ⟨r0, by omega⟩) (by simp; omega) hA1 (by omega)
    refine ⟨r', a', s', ?_, u', hl'⟩
    simp only [spec_l00Src_blob.l0]
    rw [if_pos (by omega), e, Option.bind_some, if_pos (by omega)]
    simp only [hm, hw]
    exact e'
theorem blobOf_some {l : List Int} (w : isU8 l) (n : Nat) (hn : n ≤ 1000) : ∃ r, (∀ k, n < k → spec_BlobOf.f k l (n : Int) = some (strOfNums r)) ∧ isU8 r ∧ r.length = n := by
  have h0 : At 0 0 ((l.length : Int) % 1000) := ⟨by decide, by decide, by omega, by omega⟩
  obtain ⟨r, a', s', e, u, hl⟩ := blob_run w n (n + 1) n 0 [] 0 0 ((l.length : Int) % 1000) (by omega) hn (by omega) isU8_nil rfl h0 (by omega)
  refine ⟨r, fun k hk => ?_, u, hl⟩
  have : spec_BlobOf.f (n + 1) l (n : Int) = some (strOfNums r) := by
    unfold spec_BlobOf.f spec_l00Source.f spec_l00Src_blob.f
    rw [Option.bind_some]
    have e2 : spec_l00Src_blob.l0 (n + 1) (n : Int) [] 0 l 0 ((l.length : Int) % 1000) = some (strOfNums r, a', s') := e
    simp only [e2]
    rfl
  exact at_rounds (spec_BlobOf.mono _ _) hk this
end Go.Proofs.Ytfbggdlidelliaa.Pg

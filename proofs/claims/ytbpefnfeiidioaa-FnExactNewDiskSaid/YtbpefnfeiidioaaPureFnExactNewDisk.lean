/- For all numbers of blocks the program's new disk and its code are the reference's, in memory of its own. No condition. -/
import Derived.Test.YtbpefnfeiidioaaPx5
import Derived.Test.YtbpefnfeiidioaaPmarkS
namespace Go.Proofs.Ytbpefnfeiidioaa.Pure
open Go.RowKit Go.Proofs.Ytbpefnfeiidioaa.P Go.Proofs.Ytbpefnfeiidioaa.Pg Go.Proofs.YtbpefnfeiidioaaW.PrintWords Go.Proofs.YtbpefnfeiidioaaW.PrintLast Go.Proofs.YtbpefnfeiidioaaW.PrintMore

theorem FnExactNewDisk : laws_FnExactNewDisk.Pure := by
  intro a _
  refine ⟨200, ?_⟩
  unfold laws_FnExactNewDisk.f
  have hd : ∃ (bs : List ByteArray) (c : Int), bs.length ≤ 64 ∧ spec_NewDisk.f a = some (bs, [], [], c) ∧ impl_NewDisk.f a = some (bs, [], [], c) := by
    unfold spec_NewDisk.f impl_NewDisk.f spec_l01In.f impl_within.f impl_newDisk.f
    by_cases h0 : 1 ≤ a
    · by_cases h1 : a ≤ 64
      · have h2 : 0 ≤ a := by omega
        have h3 : a.toNat ≤ 17592186044416 := by omega
        exact ⟨List.replicate a.toNat (⟨#[]⟩ : ByteArray), 0, by simp; omega, by simp [h0, h1, h2, h3], by simp [h0, h1, h2, h3]⟩
      · exact ⟨[], 4, by decide, by simp [h0, h1], by simp [h0, h1]⟩
    · exact ⟨[], 4, by decide, by simp [h0], by simp [h0]⟩
  obtain ⟨bs, c, hl, e1, e2⟩ := hd
  have eP : ∀ k, 1 < k → laws_eqPendingS.f k [] [] = some true := by
    intro k hk
    obtain ⟨k, rfl⟩ : ∃ m, k = m + 1 := ⟨k - 1, by omega⟩
    simp [laws_eqPendingS.f, laws_eqPendingS.l0]
  have eD : ∀ k, 100 < k → laws_eqDisk.f k bs [] [] bs [] [] = some true := by
    intro k hk
    unfold laws_eqDisk.f
    rw [eqS_refl k bs (by omega) (by omega), Option.bind_some, if_pos rfl, eP k (by omega), Option.bind_some, if_pos rfl, eqS_refl k [] (by decide) (by simp; omega), Option.bind_some, if_pos rfl]
  have mP : ∀ (k : Nat) (c : Int), 1 < k → laws_markPendingS.f k [] c = some (c, []) := by
    intro k c hk
    obtain ⟨k, rfl⟩ : ∃ m, k = m + 1 := ⟨k - 1, by omega⟩
    simp [laws_markPendingS.f, laws_markPendingS.l0]
  have hP : ∀ (k : Nat) (c : Int), 1 < k → laws_heldPendingS.f k [] c = some c := by
    intro k c hk
    obtain ⟨k, rfl⟩ : ∃ m, k = m + 1 := ⟨k - 1, by omega⟩
    simp [laws_heldPendingS.f, laws_heldPendingS.l0]
  have mN : ∀ (k : Nat) (c : Int), 1 < k → laws_markStringS.f k [] c = some (c, []) := by
    intro k c hk
    obtain ⟨k, rfl⟩ : ∃ m, k = m + 1 := ⟨k - 1, by omega⟩
    simp [laws_markStringS.f, laws_markStringS.l0]
  have hN : ∀ (k : Nat) (c : Int), 1 < k → laws_heldStringS.f k [] c = some c := by
    intro k c hk
    obtain ⟨k, rfl⟩ : ∃ m, k = m + 1 := ⟨k - 1, by omega⟩
    simp [laws_heldStringS.f, laws_heldStringS.l0]
  obtain ⟨bs', em, hl', hh⟩ := markS_held 199 1 bs (by omega) (by omega) (by omega)
  have em' : laws_markStringS.f 199 bs 1 = some (((1 + bs.length : Nat) : Int), bs') := em
  have hh' : ∀ k', bs.length + 40 < k' → laws_heldStringS.f k' bs' 1 = some ((1 + bs.length : Nat) : Int) := hh
  have hD : ∀ k, 150 < k → laws_heldDisk.f k bs' [] [] 1 = some ((1 + bs.length : Nat) : Int) := by
    intro k hk
    unfold laws_heldDisk.f
    rw [hh' k (by omega), Option.bind_some, if_neg (by omega), hP k _ (by omega), Option.bind_some, if_neg (by omega), hN k _ (by omega), Option.bind_some, if_neg (by omega)]
  have mD : laws_markDisk.f 199 bs [] [] 1 = some (((1 + bs.length : Nat) : Int), bs', [], []) := by
    unfold laws_markDisk.f
    rw [em', Option.bind_some, mP 199 _ (by decide), Option.bind_some, mN 199 _ (by decide), Option.bind_some]
  rw [e1, Option.bind_some, e2, Option.bind_some]
  simp only []
  rw [eD 200 (by decide), Option.bind_some, if_pos rfl, bne_self_eq_false]
  show laws_FnExactNewDisk.j0 (199 + 1) a c false bs [] [] bs [] [] = some true
  simp only [laws_FnExactNewDisk.j0, Bool.false_eq_true, if_false]
  rw [mD, Option.bind_some]
  simp only []
  rw [hD 199 (by decide), Option.bind_some, if_neg (by omega), if_pos rfl, e2, Option.bind_some]
  simp only []
  rw [eD 199 (by decide), Option.bind_some, if_pos rfl, bne_self_eq_false]
  show laws_FnExactNewDisk.j1 (198 + 1) _ false bs' [] [] = some true
  simp only [laws_FnExactNewDisk.j1, Bool.false_eq_true, if_false]
  rw [hD 198 (by decide), Option.bind_some, if_neg (by omega), if_pos rfl]

end Go.Proofs.Ytbpefnfeiidioaa.Pure

/- Texts taken back from what they were filled up to: the reference's and the program's (no program in sight). -/
import Derived.Test.YtbpefnfeiidioaaPx3
import Derived.Test.YtbpefnfeiidioaaPpad
import Derived.Test.YtbpefnfeiidioaaPstr
namespace Go.Proofs.Ytbpefnfeiidioaa.Pg
open Go.RowKit Go.Proofs.Ytbpefnfeiidioaa.P Go.Proofs.YtbpefnfeiidioaaW.PrintWords Go.Proofs.YtbpefnfeiidioaaW.PrintLast Go.Proofs.YtbpefnfeiidioaaW.PrintMore
theorem rd_of_u8 {l : List Int} (w : isU8 l) (i : Int) : 0 ≤ rd l i ∧ rd l i ≤ 255 := by
  unfold rd
  rcases Nat.lt_or_ge i.toNat l.length with h | h
  · rw [List.getD_eq_getElem?_getD, List.getElem?_eq_getElem h]
    exact w _ (List.getElem_mem h)
  · rw [List.getD_eq_getElem?_getD, List.getElem?_eq_none h]
    exact ⟨by decide, by decide⟩
theorem padL_len (l : List Int) : (padL l).length = l.length + (16 - l.length % 16) := by simp [padL]
theorem padL_u8 {l : List Int} (h : isU8 l) : isU8 (padL l) := by
  intro x hx
  rcases List.mem_append.1 hx with h1 | h1
  · exact h x h1
  · have := List.eq_of_mem_replicate h1
    omega
theorem take_u8 {l : List Int} (h : isU8 l) (n : Nat) : isU8 (l.take n) := fun x hx => h x (List.mem_of_mem_take hx)
open Classical in
theorem unpad_scan (l : List Int) (q m : Nat) (hl : l.length < 1000000) (_ : m ≤ l.length) (d : Nat) : ∀ (k i : Nat), m ≤ i → i + d = l.length → d < k →
    spec_l02Unpad.l0 k l (q : Int) (i : Int) = if (∀ j, i ≤ j → j < l.length → wrap64 (rd l (j : Int)) = (q : Int)) then spec_l02Unpad.l0 1 l (q : Int) (l.length : Int) else some ([], false) := by
  induction d with
  | zero =>
    intro k i hi hd hk
    obtain ⟨k, rfl⟩ : ∃ m, k = m + 1 := ⟨k - 1, by omega⟩
    obtain rfl : i = l.length := by omega
    rw [if_pos (fun j h1 h2 => by omega)]
    simp only [spec_l02Unpad.l0]
    rw [if_neg (by omega), if_neg (by omega)]
  | succ d ih =>
    intro k i hi hd hk
    obtain ⟨k, rfl⟩ : ∃ m, k = m + 1 := ⟨k - 1, by omega⟩
    have e : spec_l02Unpad.l0 (k + 1) l (q : Int) (i : Int) = if wrap64 (rd l (i : Int)) = (q : Int) then spec_l02Unpad.l0 k l (q : Int) ((i + 1 : Nat) : Int) else some ([], false) := by
      simp only [spec_l02Unpad.l0]
      rw [if_pos (by omega), if_pos (by omega), suc_int i (by omega)]
    rw [e]
    by_cases hq : wrap64 (rd l (i : Int)) = (q : Int)
    · rw [if_pos hq, ih k (i + 1) (by omega) (by omega) (by omega)]
      by_cases ha : ∀ j, i + 1 ≤ j → j < l.length → wrap64 (rd l (j : Int)) = (q : Int)
      · rw [if_pos ha, if_pos (fun j h1 h2 => by
          rcases Nat.eq_or_lt_of_le h1 with h3 | h3
          · subst h3; exact hq
          · exact ha j h3 h2)]
      · rw [if_neg ha, if_neg (fun hb => ha (fun j h1 h2 => hb j (by omega) h2))]
    · rw [if_neg hq, if_neg (fun hb => hq (hb i (Nat.le_refl _) (by omega)))]
theorem unpad_last (l : List Int) (q : Nat) (hl : l.length < 1000000) (hq : q ≤ l.length) : spec_l02Unpad.l0 1 l (q : Int) (l.length : Int) = some (l.take (l.length - q), true) := by
  have e : wrap64 ((l.length : Int) - (q : Int)) = ((l.length - q : Nat) : Int) := by unfold wrap64; omega
  show spec_l02Unpad.l0 (0 + 1) l (q : Int) (l.length : Int) = _
  simp only [spec_l02Unpad.l0]
  rw [if_neg (by omega), Option.bind_some, e, if_pos (by omega), if_pos (by omega), Int.toNat_natCast, List.nil_append, if_pos (by simp; omega)]
/-- what the reference tells, over numbers -/
theorem spec_unpad (k : Nat) (l : List Int) (hu : isU8 l) (hl : l.length ≤ 65536) (hk : 70000 < k) : spec_l02Unpad.f k l = match unpadL l with | some r => some (r, true) | none => some ([], false) := by
  obtain ⟨k, rfl⟩ : ∃ m, k = m + 1 := ⟨k - 1, by omega⟩
  unfold spec_l02Unpad.f
  by_cases h0 : l.length = 0
  · rw [if_pos (by omega)]
    have : unpadL l = none := by unfold unpadL; rw [if_pos h0]
    rw [this]
    simp only [spec_l02Unpad.j0, if_true]
  · rw [if_neg (by omega)]
    have hr := rd_of_u8 hu ((l.length : Int) - 1)
    obtain ⟨q, hq⟩ : ∃ q : Nat, rd l ((l.length : Int) - 1) = (q : Int) := ⟨(rd l ((l.length : Int) - 1)).toNat, by omega⟩
    have hq2 : q ≤ 255 := by omega
    have hU : unpadL l = if l.length < q then none else if ((strOfNums (padL (l.take (l.length - q)))).toList == (strOfNums l).toList) = true then some (l.take (l.length - q)) else none := by
      unfold unpadL
      rw [if_neg h0, hq]
      rfl
    rw [strEq _ _ (padL_u8 (take_u8 hu _)) hu] at hU
    by_cases hm : l.length % 16 = 0
    · have hmb : (((l.length : Int) % 16) != 0) = false := by rw [bne_eq_false_iff_eq]; omega
      rw [hmb]
      simp only [spec_l02Unpad.j0, Bool.false_eq_true, if_false]
      have w1 : wrap64 ((l.length : Int) - 1) = (l.length : Int) - 1 := by unfold wrap64; omega
      have w2 : wrap64 (q : Int) = (q : Int) := by unfold wrap64; omega
      rw [w1, if_pos (by omega), if_pos (by omega), hq, w2]
      by_cases hin : 1 ≤ q ∧ q ≤ 16
      · have hi : spec_l01In.f (q : Int) 1 16 = some true := by
          unfold spec_l01In.f
          rw [if_pos (by omega)]
          simp; omega
        have hle : q ≤ l.length := by omega
        have w3 : wrap64 ((l.length : Int) - (q : Int)) = ((l.length - q : Nat) : Int) := by unfold wrap64; omega
        rw [hi, Option.bind_some, if_pos rfl, w3, unpad_scan l q 0 (by omega) (by omega) q k (l.length - q) (by omega) (by omega) (by omega), unpad_last l q (by omega) hle]
        rw [if_neg (by omega)] at hU
        have tl : (l.take (l.length - q)).length = l.length - q := by rw [List.length_take]; omega
        have hpad : padL (l.take (l.length - q)) = l.take (l.length - q) ++ List.replicate q (q : Int) := by
          unfold padL
          rw [tl]
          have e1 : 16 - (l.length - q) % 16 = q := by omega
          have e2 : 16 - ((l.length - q : Nat) : Int) % 16 = (q : Int) := by omega
          rw [e1, e2]
        have hiff : (∀ j, l.length - q ≤ j → j < l.length → wrap64 (rd l (j : Int)) = (q : Int)) ↔ padL (l.take (l.length - q)) = l := by
          rw [hpad]
          constructor
          · intro h
            apply List.ext_getElem
            · rw [List.length_append, tl, List.length_replicate]; omega
            · intro j h1 h2
              rcases Nat.lt_or_ge j (l.length - q) with h3 | h3
              · rw [List.getElem_append_left (by rw [tl]; exact h3)]
                simp
              · rw [List.getElem_append_right (by rw [tl]; exact h3), List.getElem_replicate]
                have := h j h3 h2
                rw [rd_nat l j h2] at this
                have hb := hu _ (List.getElem_mem h2)
                have w4 : wrap64 l[j] = l[j] := by unfold wrap64; omega
                rw [w4] at this
                exact this.symm
          · intro h j h1 h2
            rw [rd_nat l j h2]
            have hb := hu _ (List.getElem_mem h2)
            have w4 : wrap64 l[j] = l[j] := by unfold wrap64; omega
            rw [w4]
            have e3 : l[j]? = (l.take (l.length - q) ++ List.replicate q (q : Int))[j]? := by rw [h]
            rw [List.getElem?_append_right (by rw [tl]; exact h1), tl, List.getElem?_replicate, if_pos (by omega), List.getElem?_eq_getElem h2] at e3
            exact Option.some.inj e3
        by_cases hp : padL (l.take (l.length - q)) = l
        · rw [if_pos (hiff.2 hp), hU, if_pos (by simpa using hp)]
        · rw [if_neg (fun h => hp (hiff.1 h)), hU, if_neg (by simpa using hp)]
      · have hi : spec_l01In.f (q : Int) 1 16 = some false := by
          unfold spec_l01In.f
          by_cases h1 : (q : Int) ≥ 1
          · rw [if_pos h1]; simp; omega
          · rw [if_neg h1]
        have hno : unpadL l = none := by
          rw [hU]
          by_cases h1 : l.length < q
          · rw [if_pos h1]
          · rw [if_neg h1, if_neg]
            intro h2
            have h3 : padL (l.take (l.length - q)) = l := by simpa using h2
            have h4 := congrArg List.length h3
            rw [padL_len, List.length_take] at h4
            omega
        rw [hi, Option.bind_some, hno]
        simp
    · have hmb : (((l.length : Int) % 16) != 0) = true := by rw [bne_iff_ne]; omega
      rw [hmb]
      have hno : unpadL l = none := by
        rw [hU]
        by_cases h1 : l.length < q
        · rw [if_pos h1]
        · rw [if_neg h1, if_neg]
          intro h2
          have h3 : padL (l.take (l.length - q)) = l := by simpa using h2
          have h4 := congrArg List.length h3
          rw [padL_len, List.length_take] at h4
          omega
      rw [hno]
      simp only [spec_l02Unpad.j0, if_true]
theorem unpadL_len {l r : List Int} (h : unpadL l = some r) : r.length ≤ l.length := by
  unfold unpadL at h
  split at h
  · cases h
  · split at h
    · cases h
    · split at h
      · injection h with h
        rw [← h, List.length_take]
        omega
      · cases h
theorem u8s_of {l : List Int} (h : isU8 l) : u8s l = true := by
  unfold u8s
  rw [List.all_eq_true]
  intro x hx
  have := h x hx
  simp; omega
theorem spec_UnpadBlocks_eq (k : Nat) (l : List Int) (w : ∀ x ∈ l, (Lit.int .u8 x).wf = true) (hk : 100000 < k) : spec_UnpadBlocks.f k l = impl_UnpadBlocks.f l := by
  have hu := isU8_of w
  unfold spec_UnpadBlocks.f impl_UnpadBlocks.f
  rw [if_pos (u8s_of hu)]
  by_cases h : (l.length : Int) > 65536
  · rw [if_pos h, if_pos h]
  · rw [if_neg h, if_neg (by omega), spec_unpad k l hu (by omega) (by omega)]
    cases unpadL l with
    | none => simp
    | some r => simp
end Go.Proofs.Ytbpefnfeiidioaa.Pg

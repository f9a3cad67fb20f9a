/- Strings made of lists of bytes (no program in sight). -/
import Derived.Laws.BytesArg
import Derived.Laws.Strings
import Derived.RowKit
namespace Go.Proofs.Ytfbggdlidelliaa.Pg
open Go.RowKit
def isU8 (l : List Int) : Prop := ∀ x ∈ l, 0 ≤ x ∧ x ≤ 255
theorem isU8_of {l : List Int} (w : ∀ x ∈ l, (Lit.int .u8 x).wf = true) : isU8 l := by
  intro x hx
  have h := w x hx
  simp [Lit.wf, IntKind.min, IntKind.max, IntKind.signed, IntKind.bits] at h
  omega
theorem strOfNums_toList (xs : List Int) : (strOfNums xs).toList = xs.map fun n => UInt8.ofNat n.toNat := by
  rw [ByteArray.toList_eq]; rfl
theorem u8_inj {x y : Int} (hx : 0 ≤ x ∧ x ≤ 255) (hy : 0 ≤ y ∧ y ≤ 255) (h : UInt8.ofNat x.toNat = UInt8.ofNat y.toNat) : x = y := by
  have h2 := congrArg UInt8.toNat h
  rw [UInt8.toNat_ofNat', UInt8.toNat_ofNat', Nat.mod_eq_of_lt (by omega), Nat.mod_eq_of_lt (by omega)] at h2
  omega
theorem map_inj (a b : List Int) (ha : isU8 a) (hb : isU8 b) (h : (a.map fun n => UInt8.ofNat n.toNat) = b.map fun n => UInt8.ofNat n.toNat) : a = b := by
  induction a generalizing b with
  | nil => cases b with
    | nil => rfl
    | cons y b => simp at h
  | cons x a ih =>
    cases b with
    | nil => simp at h
    | cons y b =>
      simp only [List.map_cons, List.cons.injEq] at h
      rw [u8_inj (ha x (by simp)) (hb y (by simp)) h.1, ih b (fun z hz => ha z (by simp [hz])) (fun z hz => hb z (by simp [hz])) h.2]
theorem strEq (a b : List Int) (ha : isU8 a) (hb : isU8 b) : ((strOfNums a).toList == (strOfNums b).toList) = (a == b) := by
  rw [strOfNums_toList, strOfNums_toList, Bool.eq_iff_iff, beq_iff_eq, beq_iff_eq]
  exact ⟨map_inj a b ha hb, fun h => by rw [h]⟩
end Go.Proofs.Ytfbggdlidelliaa.Pg

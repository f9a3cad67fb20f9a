/- For all slots the program tells a right slot just where the reference does. No condition. -/
import Derived.Test.YtiapfnpnfekknaaRows
import Derived.Test.YtiapfnpnfekknaaPx1
import Derived.WalkKit
import Derived.ProofKit
import Derived.OpenShut
import Derived.ShutString
import Derived.ChangeOld
import Derived.Below
import Derived.Lib.SmallJoins
namespace Go.Proofs.Ytiapfnpnfekknaa.fnExactSlotOK
open Go.ChangeShapes Go.WideShapes Go.ChangeAt Go.RowKit Go.Joins Go.Proofs.Ytiapfnpnfekknaa.P
theorem own : ownKnob Try.prog.godebug = none := by kernel_rfl
theorem cells24 : Try.prog.cellsOf 24 = 2 := by kernel_rfl
theorem slotOK_pure (e : Int) (s : ByteArray) (hs : s.size ≤ maxLen) : laws_FnExactSlotOK.f e s = some true := by
  unfold maxLen at hs
  unfold laws_FnExactSlotOK.f laws_szSlot.f laws_toSlot.f spec_SlotOK.f impl_SlotOK.f impl_within.f spec_l01In.f
  have hw : wrap64 (1048576 - (s.size : Int)) = 1048576 - (s.size : Int) := by unfold wrap64; omega
  rw [hw]
  clear hw
  by_cases h : 1048576 - (s.size : Int) < 0
  · rw [if_pos h]
    simp
  · rw [if_neg h, Option.bind_some, if_neg h]
    by_cases h0 : 1 ≤ e <;> by_cases h1 : e ≤ 4294967295 <;> simp [h0, h1]
set_option maxRecDepth 100000 in
theorem lifted (os : Os) (started : os.Started) (H : Type) (enc : TypeId × Value → H) :
    ReturnsInHanded {} Try.checked os 4 .any (Rows.fnExactSlotOKSpec.pre6 enc Try.prog Try.f4 Rows.fnExactSlotOKRow.domain false) (Rows.fnExactSlotOKSpec.post enc Try.prog Try.f4 false true false false) := by
  refine returnsInHanded_of_change (C := Try.checked) own started (by kernel_rfl) Try.func4
    (ChangeSpec.witness6 (enc := enc) (C := Try.checked) false ⟨#[], #[.agg #[.int .i64 0, .string ByteArray.empty]], []⟩ 8 (by kernel_rfl) (by kernel_rfl) (by kernel_rfl) (by kernel_rfl)) ?_
  intro W base args ds gs before hval0 hW _ _
  have hval : ∀ (j : Nat) t v, Try.f4.params[j]? = some t → args[j]? = some v → Value.okWide Try.prog W .any base t v := hval0
  have hW' := hW
  obtain ⟨p, q, hA0, hV, rfl, _, _⟩ := hW
  have hA : DataW.TrodAll enc Try.prog W 0 (fun _ => true) true Try.f4.params.toList args.toList ds p := hA0
  rw [Try.params4] at hA hval
  obtain ⟨v0, d0, rfl, rfl, h0⟩ := trodAll_one hA
  obtain ⟨rfl, rfl⟩ := trodVars_none hV
  obtain ⟨c0, c1, y0, y1, m, rfl, rfl, rfl, hy0, hy1⟩ := open_agg2 Try.underlying24 (by kernel_rfl) cells24 (hval 0 24 v0 rfl rfl) h0
  obtain ⟨a, e0, rfl, wa⟩ := DataW.trod_int Try.underlying3 hy0
  obtain ⟨b, e1, rfl, wb⟩ := DataW.trod_string Try.underlying9 hy1
  simp at e0 e1
  subst e0 e1
  clear hA0 hval0
  have structReads : ∀ (W' : World) (sp : Nat → Bool), DataW.Trod enc Try.prog W' 0 sp true 24 (.agg #[.int .i64 a, .string b]) (.agg [.lit (.int .i64 a), .lit (.string b.data.toList)]) [] := fun W' sp =>
    shut_agg2 (y0 := (.lit (.int .i64 a), [])) (y1 := (.lit (.string b.data.toList), [])) Try.underlying24 (by kernel_rfl) cells24 ⟨1, by simp [DataW.trod, Try.underlying3, wa]⟩ ⟨1, by simp [DataW.trod, Try.underlying9, wb]⟩
  refine (laws_FnExactSlotOK.calls a b true W (slotOK_pure a b wb)).mono fun e W' ⟨he, bel⟩ => ?_
  subst he
  exact ⟨_, rfl, _, _, _, [], _, [], hW', trodAll_mk1 (shut_bool Try.underlying4 _), trodAll_mk1 (structReads _ _), rfl, bel.frame _, fun h => by cases h⟩
theorem over : Rows.fnExactSlotOKRow.holds Try.pinned (OpenSpec.ofChange Rows.fnExactSlotOKSpec) :=
  OpenClaim.holds_of_wide 4 Try.f4 rfl rfl rfl rfl rfl rfl rfl ⟨rfl, rfl, rfl, rfl, rfl⟩ rfl rfl rfl rfl rfl (by kernel_rfl) Try.func4 (by kernel_rfl)
    (of_decide_eq_true (by kernel_rfl)) (by unfold Func.isWrapper; first | (rw [if_pos (by decide +kernel)]; kernel_rfl) | (rw [if_neg (by decide +kernel)]; exact ⟨rfl, rfl⟩))
    (fun os started H enc _ => lifted os started H enc)
end Go.Proofs.Ytiapfnpnfekknaa.fnExactSlotOK
namespace Go.Proofs.Ytiapfnpnfekknaa
/-- The row, under a short name, for the claim. -/
theorem fnExactSlotOK_holds : Rows.FnExactSlotOKSaid := fnExactSlotOK.over
#print axioms fnExactSlotOK_holds
end Go.Proofs.Ytiapfnpnfekknaa

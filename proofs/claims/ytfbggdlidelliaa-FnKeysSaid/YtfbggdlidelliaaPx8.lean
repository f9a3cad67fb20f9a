-- Laid by a program of this session (wip/prn) over the translation: functions and their contracts. Lean checks it.
import Derived.Test.YtfbggdlidelliaaPx0
import Derived.Test.YtfbggdlidelliaaPx3
import Derived.Test.YtfbggdlidelliaaPx6
import Derived.Test.YtfbggdlidelliaaPx7
namespace Go.Proofs.Ytfbggdlidelliaa.P
open Go.RowKit Go.Proofs.YtfbggdlidelliaaW.PrintWords Go.Proofs.YtfbggdlidelliaaW.PrintLast Go.Proofs.YtfbggdlidelliaaW.PrintMore
attribute [local go_sem] max2_int min2_int max_two min_two max_three min_three max_four min_four   -- for this text's walks alone
set_option linter.unusedVariables false
set_option linter.unusedSimpArgs false

/-! ### spec_BlobOf: function 20 -/
def spec_BlobOf.f (k : Nat) (l0 : List Int) (a1 : Int) : Option (ByteArray) := (spec_l00Source.f l0).bind fun bt185 => ((spec_l00Src_blob.f k bt185.1 bt185.2.1 bt185.2.2 a1).bind fun bt189 => (some bt189.1))
theorem spec_BlobOf.mono : ∀ a0 a1 k, LeO (spec_BlobOf.f k a0 a1) (spec_BlobOf.f (k + 1) a0 a1) := by
  intro a0 a1 k
  unfold spec_BlobOf.f
  repeat' first
      | (with_reducible exact spec_l00Src_blob.mono _ _ _ _ _)
      | (with_reducible exact LeO.refl _)
      | (with_reducible exact LeO.none _)
      | (with_reducible refine LeO.ite ?_ ?_)
      | (with_reducible refine LeO.bind ?_ (fun _ => ?_))
      | exact spec_l00Src_blob.mono _ _ _ _ _
      | exact LeO.none _
      | refine LeO.ite ?_ ?_
      | refine LeO.bind ?_ (fun _ => ?_)
set_option maxHeartbeats 8000000 in
set_option maxRecDepth 100000 in
theorem spec_BlobOf.calls (k : Nat) (A0 : Option Addr) (c0 : Nat) (l0 : List Int) (a1 : Int) (r : ByteArray) (w : World) (hr0 : Kd.C (Kd.int .u8) w A0 l0.length l0) (hc0 : l0.length ≤ c0) (h : spec_BlobOf.f k l0 a1 = some r) :
    Calls Try.prog 20 #[.slice A0 l0.length c0, .int .i64 a1] w fun e w' => e = .returned (.string r) ∧ Below w.heap.size w w' := by
  have HR0 := Aside0.mk hr0
  have HC0 := Aside0.mk hc0
  clear hr0 hc0
  have HB := Aside0.mk (Below.refl w.heap.size w)
  have H : ((spec_l00Source.f l0).bind fun bt185 => ((spec_l00Src_blob.f k bt185.1 bt185.2.1 bt185.2.2 a1).bind fun bt189 => (some bt189.1))) = some r := h
  clear h
  replace H := Option.bind_eq_some_iff.mp H
  obtain ⟨⟨t185, t186, t187⟩, A30, H⟩ := H
  replace H : ((spec_l00Src_blob.f k t185 t186 t187 a1).bind fun bt189 => (some bt189.1)) = some r := H
  have A3 := Aside0.mk A30
  clear A30
  replace H := Option.bind_eq_some_iff.mp H
  obtain ⟨⟨t189, t190, t191⟩, A40, H⟩ := H
  replace H : (some t189) = some r := H
  have A4 := Aside0.mk A40
  clear A40
  obtain rfl := Option.some.inj H
  go_enter Try.func20, Try.ntmps20
  go_wp2_with (first | ((with_reducible refine gate_callee (f := 46) rfl ?_); refine goesL_ (some 6) rfl rfl Try.func46 (by kernel_rfl) rfl #[.slice A0 l0.length c0] rfl (by (try simp only [List.map_toArray, List.map_cons, List.map_nil]); first | done | rfl | (simp only [List.length_drop, List.length_take]; rfl)) ?_; (with_reducible refine (spec_l00Source.calls _ _ l0 t185 t186 t187 w _ ?side1 ?side2 ?side3 A3.out).mono ?_); (case side1 => repeat (first | (with_reducible first | exact HB.out | apply below_alloc | apply pw_below_drewN | apply below_drew1) | exact HB.out)); (case side2 => exact HR0.out); (case side3 => exact HC0.out); rintro e w5 ⟨g188, rfl, hi, hb, hb2⟩; refine ⟨_, rfl, ?_⟩; have n0_ := Aside0.mk (hb); have n1_ := Aside0.mk (hi); clear HB; have HB := n0_; have HI188 := n1_; clear n0_ n1_; (try clear hb); (try clear hb2); (try clear hk); (try clear hi)) | ((with_reducible refine gate_callee (f := 47) rfl ?_); refine goesL_ (some 8) rfl rfl Try.func47 (by kernel_rfl) rfl #[.pointer (some ⟨g188, 0, none⟩), .int .i64 a1] rfl (by (try simp only [List.map_toArray, List.map_cons, List.map_nil]); first | done | rfl | (simp only [List.length_drop, List.length_take]; rfl)) ?_; (with_reducible refine (spec_l00Src_blob.calls k g188 t185 t186 t187 a1 t189 t190 t191 w _ ?side1 ?side2 A4.out).mono ?_); (case side1 => repeat (first | (with_reducible first | exact HI188.out | apply IsS77.alloc | apply IsS77.drewN | apply IsS77.drew | apply IsS77.set_1 | apply IsS77.set_2) | exact HI188.out)); (case side2 => repeat (first | (with_reducible first | exact HB.out | apply below_alloc | apply pw_below_drewN | apply below_drew1 | refine below_set ?_ (IsS77.ge HI188.out)) | exact HB.out)); rintro e w6 ⟨rfl, hi, hb, hk⟩; refine ⟨_, rfl, ?_⟩; have n0_ := Aside0.mk (hb); have n1_ := Aside0.mk (hi); clear HB; clear HI188; have HB := n0_; have HI188 := n1_; clear n0_ n1_; (try clear hb); (try clear hb2); (try clear hk); (try clear hi)))
  go_ret
  exact ⟨by first | rfl | (simp [errW_none, errW_some] <;> rfl) | (simp [*, errW_none, errW_some] <;> rfl), by repeat (first | (with_reducible first | exact HB.out | apply below_alloc | apply pw_below_drewN | apply below_drew1 | refine below_set ?_ (IsS77.ge HI188.out)) | exact HB.out)⟩

/-! ### laws_sameTexts: function 21 -/
def laws_sameTexts.l0 : Nat → List ByteArray → List ByteArray → Int → Option (Bool)
  | 0, _, _, _ => none
  | k + 1, x0, x1, x5 => if x5 < (x0.length : Int) then (if 0 ≤ x5 then (if x5 < (x1.length : Int) then (if (rdOf ByteArray.empty x0 x5).toList = (rdOf ByteArray.empty x1 x5).toList then (laws_sameTexts.l0 k x0 x1 (wrap64 (x5 + 1))) else (some false)) else (none)) else (none)) else (some true)
def laws_sameTexts.f (k : Nat) (l0 : List ByteArray) (l1 : List ByteArray) : Option (Bool) := if (l0.length : Int) = (l1.length : Int) then (laws_sameTexts.l0 k l0 l1 0) else (some false)
theorem laws_sameTexts.mono_l : ∀ k, (∀ y0 y1 y2, LeO (laws_sameTexts.l0 k y0 y1 y2) (laws_sameTexts.l0 (k + 1) y0 y1 y2))
  | 0 => fun _ _ _ r h => by simp [laws_sameTexts.l0] at h
  | k + 1 => by
    have ih0 := laws_sameTexts.mono_l k
    · intro y0 y1 y2
      unfold laws_sameTexts.l0
      repeat' first
      | (with_reducible exact ih0 _ _ _)
      | (with_reducible exact LeO.refl _)
      | (with_reducible exact LeO.none _)
      | (with_reducible refine LeO.ite ?_ ?_)
      | (with_reducible refine LeO.bind ?_ (fun _ => ?_))
      | exact ih0 _ _ _
      | exact LeO.none _
      | refine LeO.ite ?_ ?_
      | refine LeO.bind ?_ (fun _ => ?_)
theorem laws_sameTexts.mono : ∀ a0 a1 k, LeO (laws_sameTexts.f k a0 a1) (laws_sameTexts.f (k + 1) a0 a1) := by
  intro a0 a1 k
  have ih0 := laws_sameTexts.mono_l k
  unfold laws_sameTexts.f
  repeat' first
      | (with_reducible exact ih0 _ _ _)
      | (with_reducible exact LeO.refl _)
      | (with_reducible exact LeO.none _)
      | (with_reducible refine LeO.ite ?_ ?_)
      | (with_reducible refine LeO.bind ?_ (fun _ => ?_))
      | exact ih0 _ _ _
      | exact LeO.none _
      | refine LeO.ite ?_ ?_
      | refine LeO.bind ?_ (fun _ => ?_)
set_option maxHeartbeats 8000000 in
set_option maxRecDepth 100000 in
theorem laws_sameTexts.calls (k : Nat) (A0 : Option Addr) (c0 : Nat) (l0 : List ByteArray) (A1 : Option Addr) (c1 : Nat) (l1 : List ByteArray) (r : Bool) (w : World) (hr0 : Kd.C Kd.string w A0 l0.length l0) (hc0 : l0.length ≤ c0) (hr1 : Kd.C Kd.string w A1 l1.length l1) (hc1 : l1.length ≤ c1) (h : laws_sameTexts.f k l0 l1 = some r) :
    Calls Try.prog 21 #[.slice A0 l0.length c0, .slice A1 l1.length c1] w fun e w' => e = .returned (.bool r) ∧ Drawn0 w w' := by
  have HR0 := Aside0.mk hr0
  have HC0 := Aside0.mk hc0
  clear hr0 hc0
  have HR1 := Aside0.mk hr1
  have HC1 := Aside0.mk hc1
  clear hr1 hc1
  have H : (if (l0.length : Int) = (l1.length : Int) then (laws_sameTexts.l0 k l0 l1 0) else (some false)) = some r := h
  clear h
  by_cases c3 : (l0.length : Int) = (l1.length : Int)
  · rw [if_pos c3] at H
    have c3b0 : ((l0.length : Int) == (l1.length : Int)) = true := beq_iff_eq.mpr c3
    have c3b1 : ((l0.length : Int) != (l1.length : Int)) = false := bne_eq_false_iff_eq.mpr c3
    have c3b2 : (l0.length == l1.length) = true := by first | simpa using c3 | (simp at c3 ⊢; omega)
    clear c3
    have H' := Aside0.mk H
    clear H
    go_enter Try.func21, Try.ntmps21
    go_wp2
    repeat (go_quiet (fail); try go_wp2)
    go_loopg [5] k (fun kq v5 w' => ∃ (x5_1 : Int), v5 = .int .i64 x5_1 ∧ Aside0 (laws_sameTexts.l0 kq l0 l1 x5_1 = some r) ∧ Aside0 (kq ≤ k) ∧ Drawn0 w w')
    case atStart => exact ⟨(0), (by first | rfl | (simp; done) | (simp [*]; done)), H', ⟨Nat.le_refl _⟩, by repeat (first | exact Drawn0.refl _ | apply Drawn0.step)⟩
    case round =>
      clear H'
      try clear c1
      try clear c2
      try clear p2
      try clear c3
      try clear c3b0
      try clear c3b1
      try clear c3b2
      obtain ⟨x5_1, rfl, HA, HK1, ⟨m1, rfl⟩⟩ := hrel
      cases gk with
      | zero => exact absurd HA.out (by simp [laws_sameTexts.l0])
      | succ k1 =>
        have H := HA.out
        clear HA
        simp only [laws_sameTexts.l0] at H
        by_cases c4 : x5_1 < (l0.length : Int)
        · rw [if_pos c4] at H
          have c4b0 : decide (x5_1 < (l0.length : Int)) = true := decide_eq_true c4
          clear c4
          by_cases c5 : 0 ≤ x5_1
          · rw [if_pos c5] at H
            have c5b0 : decide (0 ≤ x5_1) = true := decide_eq_true c5
            clear c5
            by_cases c6 : x5_1 < (l1.length : Int)
            · rw [if_pos c6] at H
              have c6b0 : decide (x5_1 < (l1.length : Int)) = true := decide_eq_true c6
              clear c6
              by_cases c7 : (rdOf ByteArray.empty l0 x5_1).toList = (rdOf ByteArray.empty l1 x5_1).toList
              · rw [if_pos c7] at H
                have c7b0 : ((rdOf ByteArray.empty l0 x5_1).toList == (rdOf ByteArray.empty l1 x5_1).toList) = true := beq_iff_eq.mpr c7
                have c7b1 : ((rdOf ByteArray.empty l0 x5_1).toList != (rdOf ByteArray.empty l1 x5_1).toList) = false := bne_eq_false_iff_eq.mpr c7
                clear c7
                have H' := Aside0.mk H
                clear H
                have p192 : 0 ≤ (x5_1 : Int) := of_decide_eq_true (by first | (with_reducible assumption) | assumption)
                have q192 : x5_1 < (l0.length : Int) := of_decide_eq_true (by first | (with_reducible assumption) | assumption)
                obtain ⟨ad192, e192, hx192_0⟩ := Kd.at_string HR0.out x5_1 p192 q192
                cases e192
                replace p192 := eq_true p192
                replace q192 := eq_true q192
                have p193 : 0 ≤ (x5_1 : Int) := of_decide_eq_true (by first | (with_reducible assumption) | assumption)
                have q193 : x5_1 < (l1.length : Int) := of_decide_eq_true (by first | (with_reducible assumption) | assumption)
                obtain ⟨ad193, e193, hx193_0⟩ := Kd.at_string HR1.out x5_1 p193 q193
                cases e193
                replace p193 := eq_true p193
                replace q193 := eq_true q193
                go_wp2
                repeat (go_quiet (fail); try go_wp2)
                go_roundg k1
                case measure => have := HK1.out; omega
                case rel => exact ⟨(wrap64 (x5_1 + 1)), (by first | rfl | (simp; done) | (simp [*]; done)), H', ⟨by have := HK1.out; omega⟩, by repeat (first | exact Drawn0.refl _ | apply Drawn0.step)⟩
              · rw [if_neg c7] at H
                have c7b0 : ((rdOf ByteArray.empty l0 x5_1).toList == (rdOf ByteArray.empty l1 x5_1).toList) = false := beq_eq_false_iff_ne.mpr c7
                have c7b1 : ((rdOf ByteArray.empty l0 x5_1).toList != (rdOf ByteArray.empty l1 x5_1).toList) = true := bne_iff_ne.mpr c7
                obtain rfl := Option.some.inj H
                have p192 : 0 ≤ (x5_1 : Int) := of_decide_eq_true (by first | (with_reducible assumption) | assumption)
                have q192 : x5_1 < (l0.length : Int) := of_decide_eq_true (by first | (with_reducible assumption) | assumption)
                obtain ⟨ad192, e192, hx192_0⟩ := Kd.at_string HR0.out x5_1 p192 q192
                cases e192
                replace p192 := eq_true p192
                replace q192 := eq_true q192
                have p193 : 0 ≤ (x5_1 : Int) := of_decide_eq_true (by first | (with_reducible assumption) | assumption)
                have q193 : x5_1 < (l1.length : Int) := of_decide_eq_true (by first | (with_reducible assumption) | assumption)
                obtain ⟨ad193, e193, hx193_0⟩ := Kd.at_string HR1.out x5_1 p193 q193
                cases e193
                replace p193 := eq_true p193
                replace q193 := eq_true q193
                go_wp2
                repeat (go_quiet (fail); try go_wp2)
                go_ret
                exact ⟨by first | rfl | (simp; done) | (simp [*]; done), by repeat (first | exact Drawn0.refl _ | apply Drawn0.step)⟩
            · rw [if_neg c6] at H
              exact absurd H (by simp)
          · rw [if_neg c5] at H
            exact absurd H (by simp)
        · rw [if_neg c4] at H
          have c4b0 : decide (x5_1 < (l0.length : Int)) = false := decide_eq_false c4
          clear c4
          obtain rfl := Option.some.inj H
          go_wp2
          repeat (go_quiet (fail); try go_wp2)
          go_ret
          exact ⟨by first | rfl | (simp; done) | (simp [*]; done), by repeat (first | exact Drawn0.refl _ | apply Drawn0.step)⟩
  · rw [if_neg c3] at H
    have c3b0 : ((l0.length : Int) == (l1.length : Int)) = false := beq_eq_false_iff_ne.mpr c3
    have c3b1 : ((l0.length : Int) != (l1.length : Int)) = true := bne_iff_ne.mpr c3
    have c3b2 : (l0.length == l1.length) = false := by first | simpa using c3 | (simp at c3 ⊢; omega)
    obtain rfl := Option.some.inj H
    go_enter Try.func21, Try.ntmps21
    go_wp2
    repeat (go_quiet (fail); try go_wp2)
    go_ret
    exact ⟨by first | rfl | (simp; done) | (simp [*]; done), by repeat (first | exact Drawn0.refl _ | apply Drawn0.step)⟩

/-! ### laws_FnKeys: function 4 -/
mutual
def laws_FnKeys.j0 : Nat → List Int → List Int → Bool → Option (Bool)
  | 0, _, _, _ => none
  | k + 1, x0, x1, x23 => if x23 = true then (some true) else ((some (([16, 32] : List Int) : List Int)).bind fun y194 => ((laws_at.f x1 0 2).bind fun t197 => (if 0 ≤ t197 then (if t197 < (y194.length : Int) then ((spec_BlobOf.f k x0 (rd y194 t197)).bind fun t199 => ((spec_BlobOf.f k x1 (rd y194 t197)).bind fun t200 => ((impl_KeySchedule.f t199).bind fun bt201 => ((impl_KeySchedule.f t200).bind fun bt205 => ((spec_KeySchedule.f k t199).bind fun bt209 => (if bt201.2 = 0 then (if bt205.2 = 0 then ((laws_sameTexts.f k bt201.1 bt209.1).bind fun t213 => (if t213 = true then (if (bt201.1.length : Int) = (wrap64 ((wrap64 (Int.tdiv (rd y194 t197) 4)) + 7)) then (laws_FnKeys.j1 k (rd y194 t197) t199 t200 bt201.1 bt205.1 ((bt205.1.length : Int) != (bt201.1.length : Int))) else (laws_FnKeys.j1 k (rd y194 t197) t199 t200 bt201.1 bt205.1 true)) else (laws_FnKeys.j1 k (rd y194 t197) t199 t200 bt201.1 bt205.1 true))) else (laws_FnKeys.j1 k (rd y194 t197) t199 t200 bt201.1 bt205.1 true)) else (laws_FnKeys.j1 k (rd y194 t197) t199 t200 bt201.1 bt205.1 true))))))) else (none)) else (none))))
def laws_FnKeys.j1 : Nat → Int → ByteArray → ByteArray → List ByteArray → List ByteArray → Bool → Option (Bool)
  | 0, _, _, _, _, _, _ => none
  | k + 1, x5, x6, x7, x8, x10, x76 => if x76 = true then (some false) else (if 0 < (x8.length : Int) then (if 0 < (x10.length : Int) then (if x5 = 32 then (if 1 < (x8.length : Int) then (if (rdOf ByteArray.empty x8 0).size + (rdOf ByteArray.empty x8 1).size ≤ 9223372036854775807 then (if 1 < (x10.length : Int) then (if (rdOf ByteArray.empty x10 0).size + (rdOf ByteArray.empty x10 1).size ≤ 9223372036854775807 then (if ((rdOf ByteArray.empty x8 0) ++ (rdOf ByteArray.empty x8 1)).toList = x6.toList then (some ((((rdOf ByteArray.empty x8 0) ++ (rdOf ByteArray.empty x8 1)).toList == ((rdOf ByteArray.empty x10 0) ++ (rdOf ByteArray.empty x10 1)).toList) == (x6.toList == x7.toList))) else (some false)) else (none)) else (none)) else (none)) else (none)) else (if (rdOf ByteArray.empty x8 0).toList = x6.toList then (some (((rdOf ByteArray.empty x8 0).toList == (rdOf ByteArray.empty x10 0).toList) == (x6.toList == x7.toList))) else (some false))) else (none)) else (none))
end
def laws_FnKeys.f (k : Nat) (l0 : List Int) (l1 : List Int) : Option (Bool) := if (l0.length : Int) > 1048576 then (laws_FnKeys.j0 k l0 l1 true) else (laws_FnKeys.j0 k l0 l1 (decide ((l1.length : Int) > 1048576)))
theorem laws_FnKeys.mono_l : ∀ k, (∀ y0 y1 y2, LeO (laws_FnKeys.j0 k y0 y1 y2) (laws_FnKeys.j0 (k + 1) y0 y1 y2)) ∧ (∀ y0 y1 y2 y3 y4 y5, LeO (laws_FnKeys.j1 k y0 y1 y2 y3 y4 y5) (laws_FnKeys.j1 (k + 1) y0 y1 y2 y3 y4 y5))
  | 0 => ⟨fun _ _ _ r h => by simp [laws_FnKeys.j0] at h, fun _ _ _ _ _ _ r h => by simp [laws_FnKeys.j1] at h⟩
  | k + 1 => by
    obtain ⟨ih0, ih1⟩ := laws_FnKeys.mono_l k
    refine ⟨?_, ?_⟩
    · intro y0 y1 y2
      unfold laws_FnKeys.j0
      repeat' first
      | (with_reducible exact ih0 _ _ _)
      | (with_reducible exact ih1 _ _ _ _ _ _)
      | (with_reducible exact laws_sameTexts.mono _ _ _)
      | (with_reducible exact spec_BlobOf.mono _ _ _)
      | (with_reducible exact spec_KeySchedule.mono _ _)
      | (with_reducible exact LeO.refl _)
      | (with_reducible exact LeO.none _)
      | (with_reducible refine LeO.ite ?_ ?_)
      | (with_reducible refine LeO.bind ?_ (fun _ => ?_))
      | exact ih0 _ _ _
      | exact ih1 _ _ _ _ _ _
      | exact laws_sameTexts.mono _ _ _
      | exact spec_BlobOf.mono _ _ _
      | exact spec_KeySchedule.mono _ _
      | exact LeO.none _
      | refine LeO.ite ?_ ?_
      | refine LeO.bind ?_ (fun _ => ?_)
    · intro y0 y1 y2 y3 y4 y5
      unfold laws_FnKeys.j1
      repeat' first
      | (with_reducible exact ih0 _ _ _)
      | (with_reducible exact ih1 _ _ _ _ _ _)
      | (with_reducible exact laws_sameTexts.mono _ _ _)
      | (with_reducible exact spec_BlobOf.mono _ _ _)
      | (with_reducible exact spec_KeySchedule.mono _ _)
      | (with_reducible exact LeO.refl _)
      | (with_reducible exact LeO.none _)
      | (with_reducible refine LeO.ite ?_ ?_)
      | (with_reducible refine LeO.bind ?_ (fun _ => ?_))
      | exact ih0 _ _ _
      | exact ih1 _ _ _ _ _ _
      | exact laws_sameTexts.mono _ _ _
      | exact spec_BlobOf.mono _ _ _
      | exact spec_KeySchedule.mono _ _
      | exact LeO.none _
      | refine LeO.ite ?_ ?_
      | refine LeO.bind ?_ (fun _ => ?_)
theorem laws_FnKeys.mono : ∀ a0 a1 k, LeO (laws_FnKeys.f k a0 a1) (laws_FnKeys.f (k + 1) a0 a1) := by
  intro a0 a1 k
  obtain ⟨ih0, ih1⟩ := laws_FnKeys.mono_l k
  unfold laws_FnKeys.f
  repeat' first
      | (with_reducible exact ih0 _ _ _)
      | (with_reducible exact ih1 _ _ _ _ _ _)
      | (with_reducible exact laws_sameTexts.mono _ _ _)
      | (with_reducible exact spec_BlobOf.mono _ _ _)
      | (with_reducible exact spec_KeySchedule.mono _ _)
      | (with_reducible exact LeO.refl _)
      | (with_reducible exact LeO.none _)
      | (with_reducible refine LeO.ite ?_ ?_)
      | (with_reducible refine LeO.bind ?_ (fun _ => ?_))
      | exact ih0 _ _ _
      | exact ih1 _ _ _ _ _ _
      | exact laws_sameTexts.mono _ _ _
      | exact spec_BlobOf.mono _ _ _
      | exact spec_KeySchedule.mono _ _
      | exact LeO.none _
      | refine LeO.ite ?_ ?_
      | refine LeO.bind ?_ (fun _ => ?_)
set_option maxHeartbeats 8000000 in
set_option maxRecDepth 100000 in
theorem laws_FnKeys.calls (k : Nat) (A0 : Option Addr) (c0 : Nat) (l0 : List Int) (A1 : Option Addr) (c1 : Nat) (l1 : List Int) (r : Bool) (w : World) (hr0 : Kd.C (Kd.int .u8) w A0 l0.length l0) (hc0 : l0.length ≤ c0) (hr1 : Kd.C (Kd.int .u8) w A1 l1.length l1) (hc1 : l1.length ≤ c1) (h : laws_FnKeys.f k l0 l1 = some r) :
    Calls Try.prog 4 #[.slice A0 l0.length c0, .slice A1 l1.length c1] w fun e w' => e = .returned (.bool r) ∧ Below w.heap.size w w' := by
  have HR0 := Aside0.mk hr0
  have HC0 := Aside0.mk hc0
  clear hr0 hc0
  have HR1 := Aside0.mk hr1
  have HC1 := Aside0.mk hc1
  clear hr1 hc1
  have HB := Aside0.mk (Below.refl w.heap.size w)
  have H : (if (l0.length : Int) > 1048576 then (laws_FnKeys.j0 k l0 l1 true) else (laws_FnKeys.j0 k l0 l1 (decide ((l1.length : Int) > 1048576)))) = some r := h
  clear h
  have HC3 := Aside0.mk H
  clear H
  go_enter Try.func4, Try.ntmps4
  go_upto_region 1 with (fail)
  go_cut [23] (fun v23 wc => ∃ (kq : Nat) (x23_2 : Bool), v23 = .bool x23_2 ∧ Aside0 (laws_FnKeys.j0 kq l0 l1 x23_2 = some r) ∧ Aside0 (kq ≤ k) ∧ Aside0 (Below w.heap.size w wc))
  case first =>
    have H := HC3.out
    clear HC3
    by_cases c4 : (l0.length : Int) > 1048576
    · rw [if_pos c4] at H
      have c4b0 : decide (1048576 < (l0.length : Int)) = true := decide_eq_true c4
      have c4b1 : decide (1048576 < l0.length) = true := decide_eq_true (by omega)
      clear c4
      (first | rw [c4b0] | (simp only [i64_w, i32_w]; rw [c4b0]) | skip)
      have H' := Aside0.mk H
      clear H
      go_wp2
      go_meet
      case rel => exact ⟨_, (true), (by first | rfl | (simp; done) | (simp [*]; done)), H', ⟨by first | omega | exact Nat.le_refl _⟩, ⟨by repeat (first | (with_reducible first | exact HB.out | apply below_alloc | apply pw_below_drewN | apply below_drew1) | exact HB.out)⟩⟩
    · rw [if_neg c4] at H
      have c4b0 : decide (1048576 < (l0.length : Int)) = false := decide_eq_false c4
      have c4b1 : decide (1048576 < l0.length) = false := decide_eq_false (by omega)
      clear c4
      (first | rw [c4b0] | (simp only [i64_w, i32_w]; rw [c4b0]) | skip)
      have H' := Aside0.mk H
      clear H
      go_wp2
      go_meet
      case rel => exact ⟨_, (decide ((l1.length : Int) > 1048576)), (by first | rfl | (simp; done) | (simp [*]; done)), H', ⟨by first | omega | exact Nat.le_refl _⟩, ⟨by repeat (first | (with_reducible first | exact HB.out | apply below_alloc | apply pw_below_drewN | apply below_drew1) | exact HB.out)⟩⟩
  case rest =>
    clear HC3
    try clear c1
    try clear p2
    try clear c4
    try clear c4b0
    try clear c4b1
    obtain ⟨kq, x23_2, rfl, HA, HJ2, HB⟩ := hcut
    cases kq with
    | zero => exact absurd HA.out (by simp [laws_FnKeys.j0])
    | succ kj2 =>
      have H := HA.out
      clear HA
      simp only [laws_FnKeys.j0] at H
      by_cases c5 : x23_2 = true
      · subst c5
        have H1 : (some true) = some r := by rw [if_pos rfl] at H; exact H
        clear H
        have H := H1
        clear H1
        obtain rfl := Option.some.inj H
        go_wp2
        go_ret
        exact ⟨by first | rfl | (simp [errW_none, errW_some] <;> rfl) | (simp [*, errW_none, errW_some] <;> rfl), by repeat (first | (with_reducible first | exact HB.out | apply below_alloc | apply pw_below_drewN | apply below_drew1) | exact HB.out)⟩
      · replace c5 := Bool.eq_false_iff.mpr c5
        subst c5
        have H1 : ((some (([16, 32] : List Int) : List Int)).bind fun y194 => ((laws_at.f l1 0 2).bind fun t197 => (if 0 ≤ t197 then (if t197 < (y194.length : Int) then ((spec_BlobOf.f kj2 l0 (rd y194 t197)).bind fun t199 => ((spec_BlobOf.f kj2 l1 (rd y194 t197)).bind fun t200 => ((impl_KeySchedule.f t199).bind fun bt201 => ((impl_KeySchedule.f t200).bind fun bt205 => ((spec_KeySchedule.f kj2 t199).bind fun bt209 => (if bt201.2 = 0 then (if bt205.2 = 0 then ((laws_sameTexts.f kj2 bt201.1 bt209.1).bind fun t213 => (if t213 = true then (if (bt201.1.length : Int) = (wrap64 ((wrap64 (Int.tdiv (rd y194 t197) 4)) + 7)) then (laws_FnKeys.j1 kj2 (rd y194 t197) t199 t200 bt201.1 bt205.1 ((bt205.1.length : Int) != (bt201.1.length : Int))) else (laws_FnKeys.j1 kj2 (rd y194 t197) t199 t200 bt201.1 bt205.1 true)) else (laws_FnKeys.j1 kj2 (rd y194 t197) t199 t200 bt201.1 bt205.1 true))) else (laws_FnKeys.j1 kj2 (rd y194 t197) t199 t200 bt201.1 bt205.1 true)) else (laws_FnKeys.j1 kj2 (rd y194 t197) t199 t200 bt201.1 bt205.1 true))))))) else (none)) else (none)))) = some r := by rw [if_neg (show ¬ (false = true) by decide)] at H; exact H
        clear H
        have H := H1
        clear H1
        obtain ⟨y194, hy194⟩ : ∃ y_ : List Int, y_ = (([16, 32] : List Int)) := ⟨_, rfl⟩
        replace H : ((laws_at.f l1 0 2).bind fun t197 => (if 0 ≤ t197 then (if t197 < (y194.length : Int) then ((spec_BlobOf.f kj2 l0 (rd y194 t197)).bind fun t199 => ((spec_BlobOf.f kj2 l1 (rd y194 t197)).bind fun t200 => ((impl_KeySchedule.f t199).bind fun bt201 => ((impl_KeySchedule.f t200).bind fun bt205 => ((spec_KeySchedule.f kj2 t199).bind fun bt209 => (if bt201.2 = 0 then (if bt205.2 = 0 then ((laws_sameTexts.f kj2 bt201.1 bt209.1).bind fun t213 => (if t213 = true then (if (bt201.1.length : Int) = (wrap64 ((wrap64 (Int.tdiv (rd y194 t197) 4)) + 7)) then (laws_FnKeys.j1 kj2 (rd y194 t197) t199 t200 bt201.1 bt205.1 ((bt205.1.length : Int) != (bt201.1.length : Int))) else (laws_FnKeys.j1 kj2 (rd y194 t197) t199 t200 bt201.1 bt205.1 true)) else (laws_FnKeys.j1 kj2 (rd y194 t197) t199 t200 bt201.1 bt205.1 true))) else (laws_FnKeys.j1 kj2 (rd y194 t197) t199 t200 bt201.1 bt205.1 true)) else (laws_FnKeys.j1 kj2 (rd y194 t197) t199 t200 bt201.1 bt205.1 true))))))) else (none)) else (none))) = some r := by first | (rw [hy194]; with_reducible exact H) | (have H2_ := (Option.bind_some _ _).symm.trans H; rw [hy194]; with_reducible exact H2_) | (have H2_ := (Option.bind_some _ _).symm.trans H; with_reducible exact H2_) | with_reducible exact H | (rw [hy194]; exact H) | exact H
        have Ny194 := Aside0.mk hy194
        clear hy194
        replace H := Option.bind_eq_some_iff.mp H
        obtain ⟨t197, A60, H⟩ := H
        replace H : (if 0 ≤ t197 then (if t197 < (y194.length : Int) then ((spec_BlobOf.f kj2 l0 (rd y194 t197)).bind fun t199 => ((spec_BlobOf.f kj2 l1 (rd y194 t197)).bind fun t200 => ((impl_KeySchedule.f t199).bind fun bt201 => ((impl_KeySchedule.f t200).bind fun bt205 => ((spec_KeySchedule.f kj2 t199).bind fun bt209 => (if bt201.2 = 0 then (if bt205.2 = 0 then ((laws_sameTexts.f kj2 bt201.1 bt209.1).bind fun t213 => (if t213 = true then (if (bt201.1.length : Int) = (wrap64 ((wrap64 (Int.tdiv (rd y194 t197) 4)) + 7)) then (laws_FnKeys.j1 kj2 (rd y194 t197) t199 t200 bt201.1 bt205.1 ((bt205.1.length : Int) != (bt201.1.length : Int))) else (laws_FnKeys.j1 kj2 (rd y194 t197) t199 t200 bt201.1 bt205.1 true)) else (laws_FnKeys.j1 kj2 (rd y194 t197) t199 t200 bt201.1 bt205.1 true))) else (laws_FnKeys.j1 kj2 (rd y194 t197) t199 t200 bt201.1 bt205.1 true)) else (laws_FnKeys.j1 kj2 (rd y194 t197) t199 t200 bt201.1 bt205.1 true))))))) else (none)) else (none)) = some r := H
        have A6 := Aside0.mk A60
        clear A60
        by_cases c7 : 0 ≤ t197
        · rw [if_pos c7] at H
          have c7b0 : decide (0 ≤ t197) = true := decide_eq_true c7
          clear c7
          by_cases c8 : t197 < (y194.length : Int)
          · rw [if_pos c8] at H
            have c8b0 : decide (t197 < (y194.length : Int)) = true := decide_eq_true c8
            clear c8
            replace H := Option.bind_eq_some_iff.mp H
            obtain ⟨t199, A90, H⟩ := H
            replace H : ((spec_BlobOf.f kj2 l1 (rd y194 t197)).bind fun t200 => ((impl_KeySchedule.f t199).bind fun bt201 => ((impl_KeySchedule.f t200).bind fun bt205 => ((spec_KeySchedule.f kj2 t199).bind fun bt209 => (if bt201.2 = 0 then (if bt205.2 = 0 then ((laws_sameTexts.f kj2 bt201.1 bt209.1).bind fun t213 => (if t213 = true then (if (bt201.1.length : Int) = (wrap64 ((wrap64 (Int.tdiv (rd y194 t197) 4)) + 7)) then (laws_FnKeys.j1 kj2 (rd y194 t197) t199 t200 bt201.1 bt205.1 ((bt205.1.length : Int) != (bt201.1.length : Int))) else (laws_FnKeys.j1 kj2 (rd y194 t197) t199 t200 bt201.1 bt205.1 true)) else (laws_FnKeys.j1 kj2 (rd y194 t197) t199 t200 bt201.1 bt205.1 true))) else (laws_FnKeys.j1 kj2 (rd y194 t197) t199 t200 bt201.1 bt205.1 true)) else (laws_FnKeys.j1 kj2 (rd y194 t197) t199 t200 bt201.1 bt205.1 true)))))) = some r := H
            have A9 := Aside0.mk A90
            clear A90
            replace H := Option.bind_eq_some_iff.mp H
            obtain ⟨t200, A100, H⟩ := H
            replace H : ((impl_KeySchedule.f t199).bind fun bt201 => ((impl_KeySchedule.f t200).bind fun bt205 => ((spec_KeySchedule.f kj2 t199).bind fun bt209 => (if bt201.2 = 0 then (if bt205.2 = 0 then ((laws_sameTexts.f kj2 bt201.1 bt209.1).bind fun t213 => (if t213 = true then (if (bt201.1.length : Int) = (wrap64 ((wrap64 (Int.tdiv (rd y194 t197) 4)) + 7)) then (laws_FnKeys.j1 kj2 (rd y194 t197) t199 t200 bt201.1 bt205.1 ((bt205.1.length : Int) != (bt201.1.length : Int))) else (laws_FnKeys.j1 kj2 (rd y194 t197) t199 t200 bt201.1 bt205.1 true)) else (laws_FnKeys.j1 kj2 (rd y194 t197) t199 t200 bt201.1 bt205.1 true))) else (laws_FnKeys.j1 kj2 (rd y194 t197) t199 t200 bt201.1 bt205.1 true)) else (laws_FnKeys.j1 kj2 (rd y194 t197) t199 t200 bt201.1 bt205.1 true))))) = some r := H
            have A10 := Aside0.mk A100
            clear A100
            replace H := Option.bind_eq_some_iff.mp H
            obtain ⟨⟨t201, t202⟩, A110, H⟩ := H
            replace H : ((impl_KeySchedule.f t200).bind fun bt205 => ((spec_KeySchedule.f kj2 t199).bind fun bt209 => (if t202 = 0 then (if bt205.2 = 0 then ((laws_sameTexts.f kj2 t201 bt209.1).bind fun t213 => (if t213 = true then (if (t201.length : Int) = (wrap64 ((wrap64 (Int.tdiv (rd y194 t197) 4)) + 7)) then (laws_FnKeys.j1 kj2 (rd y194 t197) t199 t200 t201 bt205.1 ((bt205.1.length : Int) != (t201.length : Int))) else (laws_FnKeys.j1 kj2 (rd y194 t197) t199 t200 t201 bt205.1 true)) else (laws_FnKeys.j1 kj2 (rd y194 t197) t199 t200 t201 bt205.1 true))) else (laws_FnKeys.j1 kj2 (rd y194 t197) t199 t200 t201 bt205.1 true)) else (laws_FnKeys.j1 kj2 (rd y194 t197) t199 t200 t201 bt205.1 true)))) = some r := H
            have A11 := Aside0.mk A110
            clear A110
            replace H := Option.bind_eq_some_iff.mp H
            obtain ⟨⟨t205, t206⟩, A120, H⟩ := H
            replace H : ((spec_KeySchedule.f kj2 t199).bind fun bt209 => (if t202 = 0 then (if t206 = 0 then ((laws_sameTexts.f kj2 t201 bt209.1).bind fun t213 => (if t213 = true then (if (t201.length : Int) = (wrap64 ((wrap64 (Int.tdiv (rd y194 t197) 4)) + 7)) then (laws_FnKeys.j1 kj2 (rd y194 t197) t199 t200 t201 t205 ((t205.length : Int) != (t201.length : Int))) else (laws_FnKeys.j1 kj2 (rd y194 t197) t199 t200 t201 t205 true)) else (laws_FnKeys.j1 kj2 (rd y194 t197) t199 t200 t201 t205 true))) else (laws_FnKeys.j1 kj2 (rd y194 t197) t199 t200 t201 t205 true)) else (laws_FnKeys.j1 kj2 (rd y194 t197) t199 t200 t201 t205 true))) = some r := H
            have A12 := Aside0.mk A120
            clear A120
            replace H := Option.bind_eq_some_iff.mp H
            obtain ⟨⟨t209, t210⟩, A130, H⟩ := H
            replace H : (if t202 = 0 then (if t206 = 0 then ((laws_sameTexts.f kj2 t201 t209).bind fun t213 => (if t213 = true then (if (t201.length : Int) = (wrap64 ((wrap64 (Int.tdiv (rd y194 t197) 4)) + 7)) then (laws_FnKeys.j1 kj2 (rd y194 t197) t199 t200 t201 t205 ((t205.length : Int) != (t201.length : Int))) else (laws_FnKeys.j1 kj2 (rd y194 t197) t199 t200 t201 t205 true)) else (laws_FnKeys.j1 kj2 (rd y194 t197) t199 t200 t201 t205 true))) else (laws_FnKeys.j1 kj2 (rd y194 t197) t199 t200 t201 t205 true)) else (laws_FnKeys.j1 kj2 (rd y194 t197) t199 t200 t201 t205 true)) = some r := H
            have A13 := Aside0.mk A130
            clear A130
            have HC14 := Aside0.mk H
            clear H
            go_upto_region 9 with (first | ((with_reducible refine gate_dst (N := 24) rfl ?_); (try (refine gate_guard (by rfl) ?_; dsimp only)); refine Kd.R_lit (Kd.int .i64) _ 3 ?hg (N := 24) ?hd (xs := ([16, 32] : List Int)) (inner := [.int .i64 16, .int .i64 32]) (ok := fun _ => True) (okp := fun _ => True) ?hr ?hp (fun _ hk => hk) trivial (Below.refl _ _) (Nat.le_refl _) (by simp) ?_; (case hd => rfl); (case hg => rfl); (case hr => first | (go_simp; done) | (go_simp; rfl)); (case hp => exact (Reps.one (show Kd.M (Kd.int .i64) _ _ _ 16 [.int .i64 16] from rfl) (Reps.one (show Kd.M (Kd.int .i64) _ _ _ 32 [.int .i64 32] from rfl) (Reps.none _ _)))); intro v195 w15 ho16 hb hg_ hnew_; clear hg_ hnew_; (first | rw [← Ny194.out] at ho16 | (simp only [Int.reduceToNat] at ho16; rw [← Ny194.out] at ho16)); have n0_ := Aside0.mk (Kd.R_lower ho16 (below_size (by repeat (first | (with_reducible first | exact HB.out | apply below_alloc | apply pw_below_drewN | apply below_drew1) | exact HB.out)))); have n1_ := Aside0.mk (below_step (by repeat (first | (with_reducible first | exact HB.out | apply below_alloc | apply pw_below_drewN | apply below_drew1) | exact HB.out)) hb); clear HB; have HO196 := n0_; have HB := n1_; clear n0_ n1_; clear hb ho16) | ((with_reducible refine gate_callee (f := 19) rfl ?_); refine goesL_ (some 26) rfl rfl Try.func19 (by kernel_rfl) rfl #[.slice A1 l1.length c1, .int .i64 0, .int .i64 2] rfl (by (try simp only [List.map_toArray, List.map_cons, List.map_nil]); first | done | rfl | (simp only [List.length_drop, List.length_take]; rfl)) ?_; (with_reducible refine (laws_at.calls _ _ l1 0 2 t197 _ ?side1 ?side2 A6.out).mono ?_); (case side1 => repeat (first | exact (Kd.C_below HR1.out HB.out) | (with_reducible refine Kd.C_alloc ?_ _) | (with_reducible refine Kd.C_drewN ?_ _) | (with_reducible refine Kd.C_drew ?_))); (case side2 => exact HC1.out); rintro e w' ⟨rfl, ⟨nd, rfl⟩⟩; refine ⟨_, rfl, ?_⟩; obtain ⟨Ao17, co17, eo17⟩ := Kd.R_slice HO196.out; subst eo17; have p198 : 0 ≤ (t197 : Int) := of_decide_eq_true (by first | (with_reducible assumption) | assumption); have q198 : t197 < (y194.length : Int) := of_decide_eq_true (by first | (with_reducible assumption) | assumption); obtain ⟨ad198, e198, hx198_0⟩ := Kd.at_int (Kd.R_reads' HO196.out).2.2 t197 p198 q198; cases e198; replace p198 := eq_true p198; replace q198 := eq_true q198) | ((with_reducible refine gate_callee (f := 20) rfl ?_); refine goesL_ (some 31) rfl rfl Try.func20 (by kernel_rfl) rfl #[.slice A0 l0.length c0, .int .i64 (rd y194 t197)] rfl (by (try simp only [List.map_toArray, List.map_cons, List.map_nil]); first | done | rfl | (simp only [List.length_drop, List.length_take]; rfl)) ?_; (with_reducible refine (spec_BlobOf.calls kj2 _ _ l0 (rd y194 t197) t199 _ ?side1 ?side2 A9.out).mono ?_); (case side1 => repeat (first | exact (Kd.C_below HR0.out (by repeat (first | (with_reducible first | exact HB.out | apply below_alloc | apply pw_below_drewN | apply below_drew1) | exact HB.out))) | (with_reducible refine Kd.C_alloc ?_ _) | (with_reducible refine Kd.C_drewN ?_ _) | (with_reducible refine Kd.C_drew ?_))); (case side2 => exact HC0.out); rintro e w18 ⟨rfl, hb⟩; refine ⟨_, rfl, ?_⟩; have n0_ := Aside0.mk (Kd.R_below (by (with_reducible repeat (first | apply Kd.R_alloc | apply Kd.R_drewN | apply Kd.R_drew)); exact HO196.out) hb); have n1_ := Aside0.mk (below_step (by repeat (first | (with_reducible first | exact HB.out | apply below_alloc | apply pw_below_drewN | apply below_drew1) | exact HB.out)) hb); clear HO196; clear HB; have HO196 := n0_; have HB := n1_; clear n0_ n1_; (try clear hb); (try clear hb2); (try clear hk); (try clear hi)) | ((with_reducible refine gate_callee (f := 20) rfl ?_); refine goesL_ (some 34) rfl rfl Try.func20 (by kernel_rfl) rfl #[.slice A1 l1.length c1, .int .i64 (rd y194 t197)] rfl (by (try simp only [List.map_toArray, List.map_cons, List.map_nil]); first | done | rfl | (simp only [List.length_drop, List.length_take]; rfl)) ?_; (with_reducible refine (spec_BlobOf.calls kj2 _ _ l1 (rd y194 t197) t200 _ ?side1 ?side2 A10.out).mono ?_); (case side1 => repeat (first | exact (Kd.C_below HR1.out HB.out) | (with_reducible refine Kd.C_alloc ?_ _) | (with_reducible refine Kd.C_drewN ?_ _) | (with_reducible refine Kd.C_drew ?_))); (case side2 => exact HC1.out); rintro e w19 ⟨rfl, hb⟩; refine ⟨_, rfl, ?_⟩; have n0_ := Aside0.mk (Kd.R_below (by (with_reducible repeat (first | apply Kd.R_alloc | apply Kd.R_drewN | apply Kd.R_drew)); exact HO196.out) hb); have n1_ := Aside0.mk (below_step (by repeat (first | (with_reducible first | exact HB.out | apply below_alloc | apply pw_below_drewN | apply below_drew1) | exact HB.out)) hb); clear HO196; clear HB; have HO196 := n0_; have HB := n1_; clear n0_ n1_; (try clear hb); (try clear hb2); (try clear hk); (try clear hi)) | ((with_reducible refine gate_callee (f := 15) rfl ?_); refine goesL_ (some 37) rfl rfl Try.func15 (by kernel_rfl) rfl #[.string t199] rfl (by (try simp only [List.map_toArray, List.map_cons, List.map_nil]); first | done | rfl | (simp only [List.length_drop, List.length_take]; rfl)) ?_; (with_reducible refine (impl_KeySchedule.calls t199 t201 t202 _ A11.out).mono ?_); rintro e w20 ⟨v203, rfl, ho0, hb⟩; refine ⟨_, rfl, ?_⟩; have n0_ := Aside0.mk (Kd.R_below (by (with_reducible repeat (first | apply Kd.R_alloc | apply Kd.R_drewN | apply Kd.R_drew)); exact HO196.out) hb); have n1_ := Aside0.mk (Kd.R_lower ho0 (below_size (by repeat (first | (with_reducible first | exact HB.out | apply below_alloc | apply pw_below_drewN | apply below_drew1) | exact HB.out)))); have n2_ := Aside0.mk (below_step (by repeat (first | (with_reducible first | exact HB.out | apply below_alloc | apply pw_below_drewN | apply below_drew1) | exact HB.out)) hb); clear HO196; clear HB; have HO196 := n0_; have HO204 := n1_; have HB := n2_; clear n0_ n1_ n2_; (try clear hb); (try clear hb2); (try clear hk); (try clear hi); (try clear ho0)) | ((with_reducible refine gate_callee (f := 15) rfl ?_); refine goesL_ (some 42) rfl rfl Try.func15 (by kernel_rfl) rfl #[.string t200] rfl (by (try simp only [List.map_toArray, List.map_cons, List.map_nil]); first | done | rfl | (simp only [List.length_drop, List.length_take]; rfl)) ?_; (with_reducible refine (impl_KeySchedule.calls t200 t205 t206 _ A12.out).mono ?_); rintro e w21 ⟨v207, rfl, ho0, hb⟩; refine ⟨_, rfl, ?_⟩; have n0_ := Aside0.mk (Kd.R_below (by (with_reducible repeat (first | apply Kd.R_alloc | apply Kd.R_drewN | apply Kd.R_drew)); exact HO196.out) hb); have n1_ := Aside0.mk (Kd.R_elder' (by (with_reducible repeat (first | apply Kd.R_alloc | apply Kd.R_drewN | apply Kd.R_drew)); exact HO204.out) (Kd.R_base ho0) hb); have n2_ := Aside0.mk (Kd.R_lower (Kd.R_new' ho0 (Kd.R_lt (by (with_reducible repeat (first | apply Kd.R_alloc | apply Kd.R_drewN | apply Kd.R_drew)); exact HO204.out))) (below_size (by repeat (first | (with_reducible first | exact HB.out | apply below_alloc | apply pw_below_drewN | apply below_drew1) | exact HB.out)))); have n3_ := Aside0.mk (below_step (by repeat (first | (with_reducible first | exact HB.out | apply below_alloc | apply pw_below_drewN | apply below_drew1) | exact HB.out)) hb); clear HO196; clear HO204; clear HB; have HO196 := n0_; have HO204 := n1_; have HO208 := n2_; have HB := n3_; clear n0_ n1_ n2_ n3_; (try clear hb); (try clear hb2); (try clear hk); (try clear hi); (try clear ho0)) | ((with_reducible refine gate_callee (f := 14) rfl ?_); refine goesL_ (some 47) rfl rfl Try.func14 (by kernel_rfl) rfl #[.string t199] rfl (by (try simp only [List.map_toArray, List.map_cons, List.map_nil]); first | done | rfl | (simp only [List.length_drop, List.length_take]; rfl)) ?_; (with_reducible refine (spec_KeySchedule.calls kj2 t199 t209 t210 _ A13.out).mono ?_); rintro e w22 ⟨v211, rfl, ho0, hb⟩; refine ⟨_, rfl, ?_⟩; have n0_ := Aside0.mk (Kd.R_below (by (with_reducible repeat (first | apply Kd.R_alloc | apply Kd.R_drewN | apply Kd.R_drew)); exact HO196.out) hb); have n1_ := Aside0.mk (Kd.R_elder' (by (with_reducible repeat (first | apply Kd.R_alloc | apply Kd.R_drewN | apply Kd.R_drew)); exact HO204.out) (Kd.R_base ho0) hb); have n2_ := Aside0.mk (Kd.R_elder' (by (with_reducible repeat (first | apply Kd.R_alloc | apply Kd.R_drewN | apply Kd.R_drew)); exact HO208.out) (Kd.R_base ho0) hb); have n3_ := Aside0.mk (Kd.R_lower (Kd.R_new' (Kd.R_new' ho0 (Kd.R_lt (by (with_reducible repeat (first | apply Kd.R_alloc | apply Kd.R_drewN | apply Kd.R_drew)); exact HO204.out))) (Kd.R_lt (by (with_reducible repeat (first | apply Kd.R_alloc | apply Kd.R_drewN | apply Kd.R_drew)); exact HO208.out))) (below_size (by repeat (first | (with_reducible first | exact HB.out | apply below_alloc | apply pw_below_drewN | apply below_drew1) | exact HB.out)))); have n4_ := Aside0.mk (below_step (by repeat (first | (with_reducible first | exact HB.out | apply below_alloc | apply pw_below_drewN | apply below_drew1) | exact HB.out)) hb); clear HO196; clear HO204; clear HO208; clear HB; have HO196 := n0_; have HO204 := n1_; have HO208 := n2_; have HO212 := n3_; have HB := n4_; clear n0_ n1_ n2_ n3_ n4_; (try clear hb); (try clear hb2); (try clear hk); (try clear hi); (try clear ho0)))
            (try simp only [Act.put, List.setIfInBounds_toArray, List.set_cons_zero, List.set_cons_succ])
            go_cut [76] (fun v76 wc => ∃ (kq : Nat) (x76_13 : Bool), v76 = .bool x76_13 ∧ Aside0 (laws_FnKeys.j1 kq (rd y194 t197) t199 t200 t201 t205 x76_13 = some r) ∧ Aside0 (kq ≤ kj2) ∧ Aside0 (Kd.R Kd.string 9 wc w.heap.size (fun k_ => some k_ ≠ (v207 : Value).ownBlock) v203 t201) ∧ Aside0 (Kd.R Kd.string 9 wc w.heap.size (fun k_ => some k_ ≠ (v203 : Value).ownBlock) v207 t205) ∧ Aside0 (Below w.heap.size w wc))
            case first =>
              have H := HC14.out
              clear HC14
              by_cases c23 : t202 = 0
              · rw [if_pos c23] at H
                have c23b0 : (t202 == 0) = true := beq_iff_eq.mpr c23
                have c23b1 : (t202 != 0) = false := bne_eq_false_iff_eq.mpr c23
                clear c23
                (first | rw [c23b0] | (simp only [i64_w, i32_w]; rw [c23b0]) | skip)
                by_cases c24 : t206 = 0
                · rw [if_pos c24] at H
                  have c24b0 : (t206 == 0) = true := beq_iff_eq.mpr c24
                  have c24b1 : (t206 != 0) = false := bne_eq_false_iff_eq.mpr c24
                  clear c24
                  replace H := Option.bind_eq_some_iff.mp H
                  obtain ⟨t213, A250, H⟩ := H
                  replace H : (if t213 = true then (if (t201.length : Int) = (wrap64 ((wrap64 (Int.tdiv (rd y194 t197) 4)) + 7)) then (laws_FnKeys.j1 kj2 (rd y194 t197) t199 t200 t201 t205 ((t205.length : Int) != (t201.length : Int))) else (laws_FnKeys.j1 kj2 (rd y194 t197) t199 t200 t201 t205 true)) else (laws_FnKeys.j1 kj2 (rd y194 t197) t199 t200 t201 t205 true)) = some r := H
                  have A25 := Aside0.mk A250
                  clear A250
                  by_cases c26 : t213 = true
                  · subst c26
                    have H1 : (if (t201.length : Int) = (wrap64 ((wrap64 (Int.tdiv (rd y194 t197) 4)) + 7)) then (laws_FnKeys.j1 kj2 (rd y194 t197) t199 t200 t201 t205 ((t205.length : Int) != (t201.length : Int))) else (laws_FnKeys.j1 kj2 (rd y194 t197) t199 t200 t201 t205 true)) = some r := by rw [if_pos rfl] at H; exact H
                    clear H
                    have H := H1
                    clear H1
                    by_cases c27 : (t201.length : Int) = (wrap64 ((wrap64 (Int.tdiv (rd y194 t197) 4)) + 7))
                    · rw [if_pos c27] at H
                      have c27b0 : ((t201.length : Int) == (wrap64 ((wrap64 (Int.tdiv (rd y194 t197) 4)) + 7))) = true := beq_iff_eq.mpr c27
                      have c27b1 : ((t201.length : Int) != (wrap64 ((wrap64 (Int.tdiv (rd y194 t197) 4)) + 7))) = false := bne_eq_false_iff_eq.mpr c27
                      clear c27
                      have H' := Aside0.mk H
                      clear H
                      obtain ⟨Ao28, co28, eo28⟩ := Kd.R_slice HO204.out
                      subst eo28
                      obtain ⟨Ao29, co29, eo29⟩ := Kd.R_slice HO212.out
                      subst eo29
                      go_wp2_with (first | (go_at_call 21; (with_reducible refine (laws_sameTexts.calls kj2 _ _ t201 _ _ t209 true _ ?side1 ?side2 ?side3 ?side4 A25.out).mono ?_); (case side1 => repeat (first | exact (Kd.R_reads' HO204.out).2.2 | (with_reducible refine Kd.C_alloc ?_ _) | (with_reducible refine Kd.C_drewN ?_ _) | (with_reducible refine Kd.C_drew ?_))); (case side2 => exact (Kd.R_reads' HO204.out).2.1); (case side3 => repeat (first | exact (Kd.R_reads' HO212.out).2.2 | (with_reducible refine Kd.C_alloc ?_ _) | (with_reducible refine Kd.C_drewN ?_ _) | (with_reducible refine Kd.C_drew ?_))); (case side4 => exact (Kd.R_reads' HO212.out).2.1); rintro e w' ⟨rfl, ⟨nd, rfl⟩⟩; obtain ⟨Ao30, co30, eo30⟩ := Kd.R_slice HO208.out; subst eo30))
                      go_meet
                      case rel => exact ⟨_, (((t205.length : Int) != (t201.length : Int))), (by first | rfl | (simp; done) | (simp [*]; done)), H', ⟨by have := HJ2.out; first | omega | exact Nat.le_refl _⟩, ⟨by (with_reducible repeat (first | apply Kd.R_alloc | apply Kd.R_drewN | apply Kd.R_drew)); exact Kd.R_mono HO204.out (fun _ hk => hk.1.2)⟩, ⟨by (with_reducible repeat (first | apply Kd.R_alloc | apply Kd.R_drewN | apply Kd.R_drew)); exact Kd.R_mono HO208.out (fun _ hk => hk.1.2)⟩, ⟨by repeat (first | (with_reducible first | exact HB.out | apply below_alloc | apply pw_below_drewN | apply below_drew1) | exact HB.out)⟩⟩
                    · rw [if_neg c27] at H
                      have c27b0 : ((t201.length : Int) == (wrap64 ((wrap64 (Int.tdiv (rd y194 t197) 4)) + 7))) = false := beq_eq_false_iff_ne.mpr c27
                      have c27b1 : ((t201.length : Int) != (wrap64 ((wrap64 (Int.tdiv (rd y194 t197) 4)) + 7))) = true := bne_iff_ne.mpr c27
                      have H' := Aside0.mk H
                      clear H
                      obtain ⟨Ao31, co31, eo31⟩ := Kd.R_slice HO204.out
                      subst eo31
                      obtain ⟨Ao32, co32, eo32⟩ := Kd.R_slice HO212.out
                      subst eo32
                      go_wp2_with (first | (go_at_call 21; (with_reducible refine (laws_sameTexts.calls kj2 _ _ t201 _ _ t209 true _ ?side1 ?side2 ?side3 ?side4 A25.out).mono ?_); (case side1 => repeat (first | exact (Kd.R_reads' HO204.out).2.2 | (with_reducible refine Kd.C_alloc ?_ _) | (with_reducible refine Kd.C_drewN ?_ _) | (with_reducible refine Kd.C_drew ?_))); (case side2 => exact (Kd.R_reads' HO204.out).2.1); (case side3 => repeat (first | exact (Kd.R_reads' HO212.out).2.2 | (with_reducible refine Kd.C_alloc ?_ _) | (with_reducible refine Kd.C_drewN ?_ _) | (with_reducible refine Kd.C_drew ?_))); (case side4 => exact (Kd.R_reads' HO212.out).2.1); rintro e w' ⟨rfl, ⟨nd, rfl⟩⟩))
                      go_meet
                      case rel => exact ⟨_, (true), (by first | rfl | (simp; done) | (simp [*]; done)), H', ⟨by have := HJ2.out; first | omega | exact Nat.le_refl _⟩, ⟨by (with_reducible repeat (first | apply Kd.R_alloc | apply Kd.R_drewN | apply Kd.R_drew)); exact Kd.R_mono HO204.out (fun _ hk => hk.1.2)⟩, ⟨by (with_reducible repeat (first | apply Kd.R_alloc | apply Kd.R_drewN | apply Kd.R_drew)); exact Kd.R_mono HO208.out (fun _ hk => hk.1.2)⟩, ⟨by repeat (first | (with_reducible first | exact HB.out | apply below_alloc | apply pw_below_drewN | apply below_drew1) | exact HB.out)⟩⟩
                  · replace c26 := Bool.eq_false_iff.mpr c26
                    subst c26
                    have H1 : (laws_FnKeys.j1 kj2 (rd y194 t197) t199 t200 t201 t205 true) = some r := by rw [if_neg (show ¬ (false = true) by decide)] at H; exact H
                    clear H
                    have H := H1
                    clear H1
                    have H' := Aside0.mk H
                    clear H
                    obtain ⟨Ao33, co33, eo33⟩ := Kd.R_slice HO204.out
                    subst eo33
                    obtain ⟨Ao34, co34, eo34⟩ := Kd.R_slice HO212.out
                    subst eo34
                    go_wp2_with (first | (go_at_call 21; (with_reducible refine (laws_sameTexts.calls kj2 _ _ t201 _ _ t209 false _ ?side1 ?side2 ?side3 ?side4 A25.out).mono ?_); (case side1 => repeat (first | exact (Kd.R_reads' HO204.out).2.2 | (with_reducible refine Kd.C_alloc ?_ _) | (with_reducible refine Kd.C_drewN ?_ _) | (with_reducible refine Kd.C_drew ?_))); (case side2 => exact (Kd.R_reads' HO204.out).2.1); (case side3 => repeat (first | exact (Kd.R_reads' HO212.out).2.2 | (with_reducible refine Kd.C_alloc ?_ _) | (with_reducible refine Kd.C_drewN ?_ _) | (with_reducible refine Kd.C_drew ?_))); (case side4 => exact (Kd.R_reads' HO212.out).2.1); rintro e w' ⟨rfl, ⟨nd, rfl⟩⟩))
                    go_meet
                    case rel => exact ⟨_, (true), (by first | rfl | (simp; done) | (simp [*]; done)), H', ⟨by have := HJ2.out; first | omega | exact Nat.le_refl _⟩, ⟨by (with_reducible repeat (first | apply Kd.R_alloc | apply Kd.R_drewN | apply Kd.R_drew)); exact Kd.R_mono HO204.out (fun _ hk => hk.1.2)⟩, ⟨by (with_reducible repeat (first | apply Kd.R_alloc | apply Kd.R_drewN | apply Kd.R_drew)); exact Kd.R_mono HO208.out (fun _ hk => hk.1.2)⟩, ⟨by repeat (first | (with_reducible first | exact HB.out | apply below_alloc | apply pw_below_drewN | apply below_drew1) | exact HB.out)⟩⟩
                · rw [if_neg c24] at H
                  have c24b0 : (t206 == 0) = false := beq_eq_false_iff_ne.mpr c24
                  have c24b1 : (t206 != 0) = true := bne_iff_ne.mpr c24
                  have H' := Aside0.mk H
                  clear H
                  go_wp2
                  go_meet
                  case rel => exact ⟨_, (true), (by first | rfl | (simp; done) | (simp [*]; done)), H', ⟨by have := HJ2.out; first | omega | exact Nat.le_refl _⟩, ⟨by (with_reducible repeat (first | apply Kd.R_alloc | apply Kd.R_drewN | apply Kd.R_drew)); exact Kd.R_mono HO204.out (fun _ hk => hk.1.2)⟩, ⟨by (with_reducible repeat (first | apply Kd.R_alloc | apply Kd.R_drewN | apply Kd.R_drew)); exact Kd.R_mono HO208.out (fun _ hk => hk.1.2)⟩, ⟨by repeat (first | (with_reducible first | exact HB.out | apply below_alloc | apply pw_below_drewN | apply below_drew1) | exact HB.out)⟩⟩
              · rw [if_neg c23] at H
                have c23b0 : (t202 == 0) = false := beq_eq_false_iff_ne.mpr c23
                have c23b1 : (t202 != 0) = true := bne_iff_ne.mpr c23
                (first | rw [c23b0] | (simp only [i64_w, i32_w]; rw [c23b0]) | skip)
                have H' := Aside0.mk H
                clear H
                go_wp2
                go_meet
                case rel => exact ⟨_, (true), (by first | rfl | (simp; done) | (simp [*]; done)), H', ⟨by have := HJ2.out; first | omega | exact Nat.le_refl _⟩, ⟨by (with_reducible repeat (first | apply Kd.R_alloc | apply Kd.R_drewN | apply Kd.R_drew)); exact Kd.R_mono HO204.out (fun _ hk => hk.1.2)⟩, ⟨by (with_reducible repeat (first | apply Kd.R_alloc | apply Kd.R_drewN | apply Kd.R_drew)); exact Kd.R_mono HO208.out (fun _ hk => hk.1.2)⟩, ⟨by repeat (first | (with_reducible first | exact HB.out | apply below_alloc | apply pw_below_drewN | apply below_drew1) | exact HB.out)⟩⟩
            case rest =>
              clear HC14
              try clear c1
              try clear p1
              try clear q1
              try clear hx1
              try clear c2
              try clear p2
              try clear c4
              try clear c4b0
              try clear c4b1
              try clear c5
              try clear p6
              try clear c7
              try clear c7b0
              try clear c8
              try clear c8b0
              try clear c14
              try clear c15
              try clear c19
              try clear p19
              try clear q19
              try clear hx19
              try clear c20
              try clear c23
              try clear c23b0
              try clear c23b1
              try clear c24
              try clear c24b0
              try clear c24b1
              try clear c26
              try clear c27
              try clear c27b0
              try clear c27b1
              try clear hx198_0
              try clear p198
              try clear p2
              try clear q198
              obtain ⟨kq, x76_13, rfl, HA, HJ13, HO_8, HO_10, HB⟩ := hcut
              cases kq with
              | zero => exact absurd HA.out (by simp [laws_FnKeys.j1])
              | succ kj13 =>
                have H := HA.out
                clear HA
                simp only [laws_FnKeys.j1] at H
                by_cases c35 : x76_13 = true
                · subst c35
                  have H1 : (some false) = some r := by rw [if_pos rfl] at H; exact H
                  clear H
                  have H := H1
                  clear H1
                  obtain rfl := Option.some.inj H
                  go_wp2
                  go_ret
                  exact ⟨by first | rfl | (simp [errW_none, errW_some] <;> rfl) | (simp [*, errW_none, errW_some] <;> rfl), by repeat (first | (with_reducible first | exact HB.out | apply below_alloc | apply pw_below_drewN | apply below_drew1) | exact HB.out)⟩
                · replace c35 := Bool.eq_false_iff.mpr c35
                  subst c35
                  have H1 : (if 0 < (t201.length : Int) then (if 0 < (t205.length : Int) then (if (rd y194 t197) = 32 then (if 1 < (t201.length : Int) then (if (rdOf ByteArray.empty t201 0).size + (rdOf ByteArray.empty t201 1).size ≤ 9223372036854775807 then (if 1 < (t205.length : Int) then (if (rdOf ByteArray.empty t205 0).size + (rdOf ByteArray.empty t205 1).size ≤ 9223372036854775807 then (if ((rdOf ByteArray.empty t201 0) ++ (rdOf ByteArray.empty t201 1)).toList = t199.toList then (some ((((rdOf ByteArray.empty t201 0) ++ (rdOf ByteArray.empty t201 1)).toList == ((rdOf ByteArray.empty t205 0) ++ (rdOf ByteArray.empty t205 1)).toList) == (t199.toList == t200.toList))) else (some false)) else (none)) else (none)) else (none)) else (none)) else (if (rdOf ByteArray.empty t201 0).toList = t199.toList then (some (((rdOf ByteArray.empty t201 0).toList == (rdOf ByteArray.empty t205 0).toList) == (t199.toList == t200.toList))) else (some false))) else (none)) else (none)) = some r := by rw [if_neg (show ¬ (false = true) by decide)] at H; exact H
                  clear H
                  have H := H1
                  clear H1
                  by_cases c36 : 0 < (t201.length : Int)
                  · rw [if_pos c36] at H
                    have c36b0 : decide (0 < (t201.length : Int)) = true := decide_eq_true c36
                    have c36b1 : decide (0 < t201.length) = true := decide_eq_true (by omega)
                    clear c36
                    by_cases c37 : 0 < (t205.length : Int)
                    · rw [if_pos c37] at H
                      have c37b0 : decide (0 < (t205.length : Int)) = true := decide_eq_true c37
                      have c37b1 : decide (0 < t205.length) = true := decide_eq_true (by omega)
                      clear c37
                      by_cases c38 : (rd y194 t197) = 32
                      · rw [if_pos c38] at H
                        have c38b0 : ((rd y194 t197) == 32) = true := beq_iff_eq.mpr c38
                        have c38b1 : ((rd y194 t197) != 32) = false := bne_eq_false_iff_eq.mpr c38
                        clear c38
                        by_cases c39 : 1 < (t201.length : Int)
                        · rw [if_pos c39] at H
                          have c39b0 : decide (1 < (t201.length : Int)) = true := decide_eq_true c39
                          have c39b1 : decide (1 < t201.length) = true := decide_eq_true (by omega)
                          clear c39
                          by_cases c40 : (rdOf ByteArray.empty t201 0).size + (rdOf ByteArray.empty t201 1).size ≤ 9223372036854775807
                          · rw [if_pos c40] at H
                            have c40b0 := eq_true c40
                            have c40b1 : decide ((rdOf ByteArray.empty t201 0).size + (rdOf ByteArray.empty t201 1).size ≤ 9223372036854775807) = true := decide_eq_true c40
                            try have c40b2 : (9223372036854775807 < (rdOf ByteArray.empty t201 0).size + (rdOf ByteArray.empty t201 1).size) = False := eq_false (Nat.not_lt.2 c40)
                            by_cases c41 : 1 < (t205.length : Int)
                            · rw [if_pos c41] at H
                              have c41b0 : decide (1 < (t205.length : Int)) = true := decide_eq_true c41
                              have c41b1 : decide (1 < t205.length) = true := decide_eq_true (by omega)
                              clear c41
                              by_cases c42 : (rdOf ByteArray.empty t205 0).size + (rdOf ByteArray.empty t205 1).size ≤ 9223372036854775807
                              · rw [if_pos c42] at H
                                have c42b0 := eq_true c42
                                have c42b1 : decide ((rdOf ByteArray.empty t205 0).size + (rdOf ByteArray.empty t205 1).size ≤ 9223372036854775807) = true := decide_eq_true c42
                                try have c42b2 : (9223372036854775807 < (rdOf ByteArray.empty t205 0).size + (rdOf ByteArray.empty t205 1).size) = False := eq_false (Nat.not_lt.2 c42)
                                by_cases c43 : ((rdOf ByteArray.empty t201 0) ++ (rdOf ByteArray.empty t201 1)).toList = t199.toList
                                · rw [if_pos c43] at H
                                  have c43b0 : (((rdOf ByteArray.empty t201 0) ++ (rdOf ByteArray.empty t201 1)).toList == t199.toList) = true := beq_iff_eq.mpr c43
                                  have c43b1 : (((rdOf ByteArray.empty t201 0) ++ (rdOf ByteArray.empty t201 1)).toList != t199.toList) = false := bne_eq_false_iff_eq.mpr c43
                                  clear c43
                                  obtain rfl := Option.some.inj H
                                  obtain ⟨Ao44, co44, eo44⟩ := Kd.R_slice HO_8.out
                                  subst eo44
                                  have p214 : 0 ≤ (0 : Int) := (by omega)
                                  have q214 : 0 < (t201.length : Int) := of_decide_eq_true (by first | (with_reducible assumption) | assumption)
                                  obtain ⟨ad214, e214, hx214_0⟩ := Kd.at_string (Kd.R_reads' HO_8.out).2.2 0 p214 q214
                                  cases e214
                                  have qi214 : (0 < t201.length) = True := eq_true (by omega)
                                  (try rw [show ((0 : Int)).toNat = 0 from rfl] at hx214_0)
                                  (try rw [Addr.add_zero'] at hx214_0)
                                  replace p214 := eq_true p214
                                  replace q214 := eq_true q214
                                  obtain ⟨Ao45, co45, eo45⟩ := Kd.R_slice HO_10.out
                                  subst eo45
                                  have p215 : 0 ≤ (0 : Int) := (by omega)
                                  have q215 : 0 < (t205.length : Int) := of_decide_eq_true (by first | (with_reducible assumption) | assumption)
                                  obtain ⟨ad215, e215, hx215_0⟩ := Kd.at_string (Kd.R_reads' HO_10.out).2.2 0 p215 q215
                                  cases e215
                                  have qi215 : (0 < t205.length) = True := eq_true (by omega)
                                  (try rw [show ((0 : Int)).toNat = 0 from rfl] at hx215_0)
                                  (try rw [Addr.add_zero'] at hx215_0)
                                  replace p215 := eq_true p215
                                  replace q215 := eq_true q215
                                  have p216 : 0 ≤ (1 : Int) := (by omega)
                                  have q216 : 1 < (t201.length : Int) := of_decide_eq_true (by first | (with_reducible assumption) | assumption)
                                  obtain ⟨ad216, e216, hx216_0⟩ := Kd.at_string (Kd.R_reads' HO_8.out).2.2 1 p216 q216
                                  obtain rfl : ad214 = ad216 := (by injection e216)
                                  (try simp only [show (1 : Int).toNat = 1 from rfl, Nat.reduceMul, Nat.reduceEqDiff, Go.Addr.add, ↓reduceIte] at hx216_0)
                                  have qi216 : (1 < t201.length) = True := eq_true (by omega)
                                  (try rw [show ((1 : Int)).toNat = 1 from rfl] at hx216_0)
                                  replace p216 := eq_true p216
                                  replace q216 := eq_true q216
                                  have p217 : 0 ≤ (1 : Int) := (by omega)
                                  have q217 : 1 < (t205.length : Int) := of_decide_eq_true (by first | (with_reducible assumption) | assumption)
                                  obtain ⟨ad217, e217, hx217_0⟩ := Kd.at_string (Kd.R_reads' HO_10.out).2.2 1 p217 q217
                                  obtain rfl : ad215 = ad217 := (by injection e217)
                                  (try simp only [show (1 : Int).toNat = 1 from rfl, Nat.reduceMul, Nat.reduceEqDiff, Go.Addr.add, ↓reduceIte] at hx217_0)
                                  have qi217 : (1 < t205.length) = True := eq_true (by omega)
                                  (try rw [show ((1 : Int)).toNat = 1 from rfl] at hx217_0)
                                  replace p217 := eq_true p217
                                  replace q217 := eq_true q217
                                  go_wp2
                                  go_ret
                                  exact ⟨by first | rfl | (simp [errW_none, errW_some] <;> rfl) | (simp [*, errW_none, errW_some] <;> rfl), by repeat (first | (with_reducible first | exact HB.out | apply below_alloc | apply pw_below_drewN | apply below_drew1) | exact HB.out)⟩
                                · rw [if_neg c43] at H
                                  have c43b0 : (((rdOf ByteArray.empty t201 0) ++ (rdOf ByteArray.empty t201 1)).toList == t199.toList) = false := beq_eq_false_iff_ne.mpr c43
                                  have c43b1 : (((rdOf ByteArray.empty t201 0) ++ (rdOf ByteArray.empty t201 1)).toList != t199.toList) = true := bne_iff_ne.mpr c43
                                  obtain rfl := Option.some.inj H
                                  obtain ⟨Ao46, co46, eo46⟩ := Kd.R_slice HO_8.out
                                  subst eo46
                                  have p214 : 0 ≤ (0 : Int) := (by omega)
                                  have q214 : 0 < (t201.length : Int) := of_decide_eq_true (by first | (with_reducible assumption) | assumption)
                                  obtain ⟨ad214, e214, hx214_0⟩ := Kd.at_string (Kd.R_reads' HO_8.out).2.2 0 p214 q214
                                  cases e214
                                  have qi214 : (0 < t201.length) = True := eq_true (by omega)
                                  (try rw [show ((0 : Int)).toNat = 0 from rfl] at hx214_0)
                                  (try rw [Addr.add_zero'] at hx214_0)
                                  replace p214 := eq_true p214
                                  replace q214 := eq_true q214
                                  obtain ⟨Ao47, co47, eo47⟩ := Kd.R_slice HO_10.out
                                  subst eo47
                                  have p215 : 0 ≤ (0 : Int) := (by omega)
                                  have q215 : 0 < (t205.length : Int) := of_decide_eq_true (by first | (with_reducible assumption) | assumption)
                                  obtain ⟨ad215, e215, hx215_0⟩ := Kd.at_string (Kd.R_reads' HO_10.out).2.2 0 p215 q215
                                  cases e215
                                  have qi215 : (0 < t205.length) = True := eq_true (by omega)
                                  (try rw [show ((0 : Int)).toNat = 0 from rfl] at hx215_0)
                                  (try rw [Addr.add_zero'] at hx215_0)
                                  replace p215 := eq_true p215
                                  replace q215 := eq_true q215
                                  have p216 : 0 ≤ (1 : Int) := (by omega)
                                  have q216 : 1 < (t201.length : Int) := of_decide_eq_true (by first | (with_reducible assumption) | assumption)
                                  obtain ⟨ad216, e216, hx216_0⟩ := Kd.at_string (Kd.R_reads' HO_8.out).2.2 1 p216 q216
                                  obtain rfl : ad214 = ad216 := (by injection e216)
                                  (try simp only [show (1 : Int).toNat = 1 from rfl, Nat.reduceMul, Nat.reduceEqDiff, Go.Addr.add, ↓reduceIte] at hx216_0)
                                  have qi216 : (1 < t201.length) = True := eq_true (by omega)
                                  (try rw [show ((1 : Int)).toNat = 1 from rfl] at hx216_0)
                                  replace p216 := eq_true p216
                                  replace q216 := eq_true q216
                                  have p217 : 0 ≤ (1 : Int) := (by omega)
                                  have q217 : 1 < (t205.length : Int) := of_decide_eq_true (by first | (with_reducible assumption) | assumption)
                                  obtain ⟨ad217, e217, hx217_0⟩ := Kd.at_string (Kd.R_reads' HO_10.out).2.2 1 p217 q217
                                  obtain rfl : ad215 = ad217 := (by injection e217)
                                  (try simp only [show (1 : Int).toNat = 1 from rfl, Nat.reduceMul, Nat.reduceEqDiff, Go.Addr.add, ↓reduceIte] at hx217_0)
                                  have qi217 : (1 < t205.length) = True := eq_true (by omega)
                                  (try rw [show ((1 : Int)).toNat = 1 from rfl] at hx217_0)
                                  replace p217 := eq_true p217
                                  replace q217 := eq_true q217
                                  go_wp2
                                  go_ret
                                  exact ⟨by first | rfl | (simp [errW_none, errW_some] <;> rfl) | (simp [*, errW_none, errW_some] <;> rfl), by repeat (first | (with_reducible first | exact HB.out | apply below_alloc | apply pw_below_drewN | apply below_drew1) | exact HB.out)⟩
                              · rw [if_neg c42] at H
                                exact absurd H (by simp)
                            · rw [if_neg c41] at H
                              exact absurd H (by simp)
                          · rw [if_neg c40] at H
                            exact absurd H (by simp)
                        · rw [if_neg c39] at H
                          exact absurd H (by simp)
                      · rw [if_neg c38] at H
                        have c38b0 : ((rd y194 t197) == 32) = false := beq_eq_false_iff_ne.mpr c38
                        have c38b1 : ((rd y194 t197) != 32) = true := bne_iff_ne.mpr c38
                        by_cases c48 : (rdOf ByteArray.empty t201 0).toList = t199.toList
                        · rw [if_pos c48] at H
                          have c48b0 : ((rdOf ByteArray.empty t201 0).toList == t199.toList) = true := beq_iff_eq.mpr c48
                          have c48b1 : ((rdOf ByteArray.empty t201 0).toList != t199.toList) = false := bne_eq_false_iff_eq.mpr c48
                          clear c48
                          obtain rfl := Option.some.inj H
                          obtain ⟨Ao49, co49, eo49⟩ := Kd.R_slice HO_8.out
                          subst eo49
                          have p214 : 0 ≤ (0 : Int) := (by omega)
                          have q214 : 0 < (t201.length : Int) := of_decide_eq_true (by first | (with_reducible assumption) | assumption)
                          obtain ⟨ad214, e214, hx214_0⟩ := Kd.at_string (Kd.R_reads' HO_8.out).2.2 0 p214 q214
                          cases e214
                          have qi214 : (0 < t201.length) = True := eq_true (by omega)
                          (try rw [show ((0 : Int)).toNat = 0 from rfl] at hx214_0)
                          (try rw [Addr.add_zero'] at hx214_0)
                          replace p214 := eq_true p214
                          replace q214 := eq_true q214
                          obtain ⟨Ao50, co50, eo50⟩ := Kd.R_slice HO_10.out
                          subst eo50
                          have p215 : 0 ≤ (0 : Int) := (by omega)
                          have q215 : 0 < (t205.length : Int) := of_decide_eq_true (by first | (with_reducible assumption) | assumption)
                          obtain ⟨ad215, e215, hx215_0⟩ := Kd.at_string (Kd.R_reads' HO_10.out).2.2 0 p215 q215
                          cases e215
                          have qi215 : (0 < t205.length) = True := eq_true (by omega)
                          (try rw [show ((0 : Int)).toNat = 0 from rfl] at hx215_0)
                          (try rw [Addr.add_zero'] at hx215_0)
                          replace p215 := eq_true p215
                          replace q215 := eq_true q215
                          go_wp2
                          go_ret
                          exact ⟨by first | rfl | (simp [errW_none, errW_some] <;> rfl) | (simp [*, errW_none, errW_some] <;> rfl), by repeat (first | (with_reducible first | exact HB.out | apply below_alloc | apply pw_below_drewN | apply below_drew1) | exact HB.out)⟩
                        · rw [if_neg c48] at H
                          have c48b0 : ((rdOf ByteArray.empty t201 0).toList == t199.toList) = false := beq_eq_false_iff_ne.mpr c48
                          have c48b1 : ((rdOf ByteArray.empty t201 0).toList != t199.toList) = true := bne_iff_ne.mpr c48
                          obtain rfl := Option.some.inj H
                          obtain ⟨Ao51, co51, eo51⟩ := Kd.R_slice HO_8.out
                          subst eo51
                          have p214 : 0 ≤ (0 : Int) := (by omega)
                          have q214 : 0 < (t201.length : Int) := of_decide_eq_true (by first | (with_reducible assumption) | assumption)
                          obtain ⟨ad214, e214, hx214_0⟩ := Kd.at_string (Kd.R_reads' HO_8.out).2.2 0 p214 q214
                          cases e214
                          have qi214 : (0 < t201.length) = True := eq_true (by omega)
                          (try rw [show ((0 : Int)).toNat = 0 from rfl] at hx214_0)
                          (try rw [Addr.add_zero'] at hx214_0)
                          replace p214 := eq_true p214
                          replace q214 := eq_true q214
                          obtain ⟨Ao52, co52, eo52⟩ := Kd.R_slice HO_10.out
                          subst eo52
                          have p215 : 0 ≤ (0 : Int) := (by omega)
                          have q215 : 0 < (t205.length : Int) := of_decide_eq_true (by first | (with_reducible assumption) | assumption)
                          obtain ⟨ad215, e215, hx215_0⟩ := Kd.at_string (Kd.R_reads' HO_10.out).2.2 0 p215 q215
                          cases e215
                          have qi215 : (0 < t205.length) = True := eq_true (by omega)
                          (try rw [show ((0 : Int)).toNat = 0 from rfl] at hx215_0)
                          (try rw [Addr.add_zero'] at hx215_0)
                          replace p215 := eq_true p215
                          replace q215 := eq_true q215
                          go_wp2
                          go_ret
                          exact ⟨by first | rfl | (simp [errW_none, errW_some] <;> rfl) | (simp [*, errW_none, errW_some] <;> rfl), by repeat (first | (with_reducible first | exact HB.out | apply below_alloc | apply pw_below_drewN | apply below_drew1) | exact HB.out)⟩
                    · rw [if_neg c37] at H
                      exact absurd H (by simp)
                  · rw [if_neg c36] at H
                    exact absurd H (by simp)
          · rw [if_neg c8] at H
            exact absurd H (by simp)
        · rw [if_neg c7] at H
          exact absurd H (by simp)

/-- THE ONE PURE STATEMENT of laws_FnKeys: yours. -/
def laws_FnKeys.Pure : Prop := ∀ (l0 : List Int) (l1 : List Int), l0.length ≤ maxLen → l0.length * 1 ≤ 140737488351232 → (∀ x ∈ l0, (Lit.int .u8 x).wf = true) → l1.length ≤ maxLen → l1.length * 1 ≤ 140737488351232 → (∀ x ∈ l1, (Lit.int .u8 x).wf = true) → ∃ k, laws_FnKeys.f k l0 l1 = some true
theorem laws_FnKeys.walk (P : laws_FnKeys.Pure) (a0 : Option Addr) (len0 cap0 : Nat) (z0 : List Int) (a1 : Option Addr) (len1 cap1 : Nat) (z1 : List Int) (w : World) (w0 : (a0 = none ∧ len0 = 0 ∧ cap0 = 0 ∧ z0 = []) ∨ ∃ x, a0 = some x ∧ len0 ≤ cap0 ∧ cap0 ≤ maxLen ∧ z0.length = cap0 ∧ (∀ i, i < z0.length → w.cell? (x.add i) = some (.int .u8 (z0.getD i 0))) ∧ ∀ n ∈ z0, (Lit.int .u8 n).wf = true) (y0 : len0 * 1 ≤ 140737488351232) (w1 : (a1 = none ∧ len1 = 0 ∧ cap1 = 0 ∧ z1 = []) ∨ ∃ x, a1 = some x ∧ len1 ≤ cap1 ∧ cap1 ≤ maxLen ∧ z1.length = cap1 ∧ (∀ i, i < z1.length → w.cell? (x.add i) = some (.int .u8 (z1.getD i 0))) ∧ ∀ n ∈ z1, (Lit.int .u8 n).wf = true) (y1 : len1 * 1 ≤ 140737488351232) :
    Calls Try.prog 4 #[.slice a0 len0 cap0, .slice a1 len1 cap1] w fun e w' => e = .returned (.bool true) ∧ Below w.heap.size w w' := by
  obtain ⟨l0, rfl, hr0, hm0, hw0, hc0⟩ := ReadsInt.ofRowC w0
  obtain ⟨l1, rfl, hr1, hm1, hw1, hc1⟩ := ReadsInt.ofRowC w1
  obtain ⟨k, h⟩ := P l0 l1 hm0 y0 hw0 hm1 y1 hw1
  refine (laws_FnKeys.calls k _ _ l0 _ _ l1 true w (Kd.C_of_reads (d := (0 : Int)) (h1 := fun _ => rfl) hr0) hc0 (Kd.C_of_reads (d := (0 : Int)) (h1 := fun _ => rfl) hr1) hc1 h).mono ?_
  rintro e w' ⟨rfl, hd⟩
  exact ⟨rfl, hd⟩

end Go.Proofs.Ytfbggdlidelliaa.P

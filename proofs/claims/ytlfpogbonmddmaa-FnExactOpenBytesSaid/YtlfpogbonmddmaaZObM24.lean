/- Laid by a program of this session: of Pt16, Peq, PmarkB, Phm, Phk, Psk, Penc what this law uses. -/
import Derived.Test.YtlfpogbonmddmaaZObM9
import Derived.Test.YtlfpogbonmddmaaZObPt1
import Derived.Test.YtlfpogbonmddmaaZObPt3
import Derived.Test.YtlfpogbonmddmaaZObPt8
import Derived.Test.YtlfpogbonmddmaaZObM19
import Derived.Test.YtlfpogbonmddmaaZObPt15
import Derived.Test.YtlfpogbonmddmaaZObPt2
import Derived.Test.YtlfpogbonmddmaaZObPt7
import Derived.Test.YtlfpogbonmddmaaZObPt4
namespace Go.Proofs.Ytlfpogbonmddmaa.P
open Go.RowKit Go.Proofs.YtlfpogbonmddmaaW.PrintWords Go.Proofs.YtlfpogbonmddmaaW.PrintLast Go.Proofs.YtlfpogbonmddmaaW.PrintMore
attribute [local go_sem] min2_int min_two
set_option linter.unusedVariables false
set_option linter.unusedSimpArgs false
def spec_l04Open.f (a0 a1 : ByteArray) (l2 l3 : List Int) : Option (List Int × Bool) :=
  if l3.length < 16 then some ([], false) else if 2000000 < l3.length then none else
  (spec_l04Keys.f a0).bind fun p => (spec_l04Tag.f p.2 a1 l2 (l3.take (l3.length - 16))).bind fun g =>
    if g.toList = (strOfNums (l3.drop (l3.length - 16))).toList then
      (spec_l02Ctr.f 300000 p.1 a1 (l3.take (l3.length - 16))).bind fun e => some (e, true)
    else some ([], false)
def sopen_T5 : Bool × List (List Nat × List Nat) := (true, [([], []), ([], []), ([], []), ([], []), ([], []), ([3, 4], [3, 4]), ([0, 1, 2, 5], [0, 1, 2, 5]), ([], []), ([], []), ([7, 8], [7, 8]), ([9], [9]), ([6, 10], [6, 10])])
def sopen_B5 : List Nat := [0, 0, 0, 0, 0, 24, 63, 0, 0, 384, 896, 2047]
theorem sopen_tab5 : rtab .any (opsOf Try.f51 5) = sopen_T5 := by kernel_rfl
theorem sopen_bits5 : waitsOk sopen_T5.2 sopen_B5 = true := by kernel_rfl
theorem ow_empty (w : World) (e : TypeId) : (w.alloc (.cells #[] e)).ownsRow w.heap.size e 1 (.slice (some ⟨w.heap.size, 0, none⟩) 0 0) 0 [] := ⟨rfl, .inr ⟨_, 0, #[], rfl, Nat.le_refl _, blk_new _ _, Nat.le_refl _, Nat.zero_le _, rfl, rfl⟩⟩
set_option maxHeartbeats 8000000 in
set_option maxRecDepth 100000 in
theorem spec_l04Open.calls (a0 a1 : ByteArray) (A2 : Option Addr) (c2 : Nat) (l2 : List Int) (A3 : Option Addr) (c3 : Nat) (l3 : List Int) (r1 : List Int) (r2 : Bool) (w : World) (hr2 : Kd.C (Kd.int .u8) w A2 l2.length l2) (hc2 : l2.length ≤ c2) (hr3 : Kd.C (Kd.int .u8) w A3 l3.length l3) (hc3 : l3.length ≤ c3) (h : spec_l04Open.f a0 a1 l2 l3 = some (r1, r2)) :
    Calls Try.prog 51 #[.string a0, .string a1, .slice A2 l2.length c2, .slice A3 l3.length c3] w fun e w' => ∃ v0_ : Value, e = .returned (.tuple #[v0_, .bool r2]) ∧ Kd.R (Kd.int .u8) 5 w' w.heap.size (fun _ => True) v0_ r1 ∧ Below w.heap.size w w' := by
  unfold spec_l04Open.f at h
  have HR2 := Aside0.mk hr2
  have HR3 := Aside0.mk hr3
  have HC2 := Aside0.mk hc2
  have HC3 := Aside0.mk hc3
  clear hr2 hr3 hc2
  by_cases hs : l3.length < 16
  · rw [if_pos hs] at h
    obtain ⟨rfl, rfl⟩ : ([] : List Int) = r1 ∧ false = r2 := by simpa using h
    obtain ⟨z, hz⟩ : ∃ z : Int, wrap64 ((l3.length : Int) - 16) = z := ⟨_, rfl⟩
    have hz0 : z < 0 := by rw [← hz]; unfold wrap64; omega
    have d1 : decide (z < 0) = true := decide_eq_true hz0
    clear h hs hz0 hc3
    go_enter Try.func51, Try.ntmps51
    go_wp2
    go_ret2
    exact ⟨_, rfl, Kd.R_of_own (xs := ([] : List Int)) (ow_empty w 5) (fun _ _ => trivial), below_alloc (Below.refl _ _) _⟩
  rw [if_neg hs] at h
  by_cases hs2 : 2000000 < l3.length
  · rw [if_pos hs2] at h
    cases h
  rw [if_neg hs2] at h
  obtain ⟨⟨k1, k2⟩, h1, h⟩ := Option.bind_eq_some_iff.mp h
  obtain ⟨g, h2, h⟩ := Option.bind_eq_some_iff.mp h
  obtain ⟨q, hq⟩ : ∃ q : Nat, q = l3.length - 16 := ⟨_, rfl⟩
  rw [← hq] at h h2
  have HQ : Aside0 (q + 16 = l3.length) := ⟨by omega⟩
  obtain ⟨x, hx⟩ : ∃ x, x = l3.take q := ⟨_, rfl⟩
  obtain ⟨y, hy⟩ : ∃ y, y = l3.drop q := ⟨_, rfl⟩
  rw [← hx, ← hy] at h
  rw [← hx] at h2
  have H1 := Aside0.mk h1
  have H2 : Aside0 (spec_l04Tag.f k2 a1 l2 x = some g) := ⟨h2⟩
  have HXS : Aside0 (x.length = q) := ⟨by rw [hx, List.length_take]; omega⟩
  have HYS : Aside0 (y.length = 16) := ⟨by rw [hy, List.length_drop]; omega⟩
  have HXE := Aside0.mk hx
  have HYE := Aside0.mk hy
  have hqw : wrap64 ((l3.length : Int) - 16) = (q : Int) := by unfold wrap64; omega
  have HQW := Aside0.mk hqw
  have q0 : (0 : Int) ≤ (q : Int) := Int.natCast_nonneg q
  have qn : decide ((q : Int) < 0) = false := decide_eq_false (by clear hqw; omega)
  have q1 : (q : Int) ≤ (l3.length : Int) := by clear hqw; omega
  have q2 : (q : Int) ≤ (c3 : Int) := by clear hqw; omega
  have H := Aside0.mk h
  have HQ1 : Aside0 (q ≤ l3.length) := ⟨by clear hqw; omega⟩
  clear hs hs2 hq h1 h2 hx hy h hc3
  go_enter Try.func51, Try.ntmps51
  go_wp2_with fail
  refine (spec_l04Keys.calls a0 k1 k2 _ H1.out).mono ?_
  rintro e1 w1 ⟨rfl, hb1⟩
  have HB1 := Aside0.mk hb1
  have HCT := Aside0.mk (Kd.C_below (Kd.C_below HR2.out hb1) (below_drew (Below.refl w1.heap.size w1)))
  have HCX : Aside0 (Kd.C (Kd.int .u8) w1.drew A3 x.length x) := ⟨by rw [HXE.out]; exact Kd.C_take (Kd.C_below (Kd.C_below HR3.out hb1) (below_drew (Below.refl w1.heap.size w1))) HQ1.out⟩
  obtain ⟨A4, hA4⟩ : ∃ A, (if c3 = q then A3 else Option.map (fun x => x.add q) A3) = A := ⟨_, rfl⟩
  have hl4 : l3.length - q = 16 := by clear hqw; have := HQ.out; omega
  have HCY : Aside0 (Kd.C (Kd.int .u8) w1.drew A4 16 y) := ⟨by
    have h := Kd.C_drop (c := c3) (Kd.C_below (Kd.C_below HR3.out hb1) (below_drew (Below.refl w1.heap.size w1))) HQ1.out HC3.out
    rw [← HYE.out, HYS.out, show (fun x : Addr => x.add (q * (Kd.int IntKind.u8).sz)) = fun x => x.add q from funext fun x => by show x.add (q * 1) = _; rw [Nat.mul_one], hA4] at h
    exact h⟩
  have HKS : Aside0 (∀ w', Below w1.drew.heap.size w1.drew w' → (convert 22 9 (.slice A4 16 (c3 - q))).run Try.prog w' = .ok (.string (strOfNums y)) w') := ⟨fun w' h => Kd.C_string Try.underlying22 Try.underlying5 Try.underlying9 (Kd.C_below HCY.out h)⟩
  have HXL : Aside0 (x.length ≤ c3) := ⟨by have h1 := HXS.out; have h2 := HQ1.out; have h3 := HC3.out; omega⟩
  clear hb1
  go_upto_region 5 with (fail)
  refine start_ (n := 12) (S := fun w' => Below w1.drew.heap.size w1.drew w') (ds := []) #[false, false, false, false, false, false, false, false, false, false, false, false] (by kernel_rfl) rfl rfl (Below.refl _ _) (fun hHeld => ?_)
  refine with_tabW sopen_tab5 sopen_bits5 (fun HT_ HW_ => ?_)
  refine pure_ (i := 0) (N := some 24) (v := ?_) (a' := ?_) #[true, false, false, false, false, false, false, false, false, false, false, false] rfl rfl (any_of HT_.out (by kernel_rfl)) (fun _ _ _ h => h) (Or.inl ⟨by rfl, ?_⟩) ?_ ?_
  rotate_left
  · intro w'
    go_simp
    with_reducible rfl
  rotate_left
  · simp only [Act.put, List.setIfInBounds_toArray, List.set_cons_zero, List.set_cons_succ, i64_w, i32_w]
    rfl
  refine pure_ (i := 1) (N := some 25) (v := ?_) (a' := ?_) #[true, true, false, false, false, false, false, false, false, false, false, false] rfl rfl (any_of HT_.out (by kernel_rfl)) (fun _ _ _ h => h) (Or.inl ⟨by rfl, ?_⟩) ?_ ?_
  rotate_left
  · intro w'
    go_simp
    with_reducible rfl
  rotate_left
  · simp only [Act.put, List.setIfInBounds_toArray, List.set_cons_zero, List.set_cons_succ, i64_w, i32_w]
    rfl
  refine pure_ (i := 2) (N := some 26) (v := ?_) (a' := ?_) #[true, true, true, false, false, false, false, false, false, false, false, false] rfl rfl (any_of HT_.out (by kernel_rfl)) (fun _ _ _ h => h) (Or.inl ⟨by rfl, ?_⟩) ?_ ?_
  rotate_left
  · intro w'
    go_simp
    with_reducible rfl
  rotate_left
  · simp only [Act.put, List.setIfInBounds_toArray, List.set_cons_zero, List.set_cons_succ, i64_w, i32_w]
    rfl
  refine pure_ (i := 3) (N := some 27) (v := ?_) (a' := ?_) #[true, true, true, true, false, false, false, false, false, false, false, false] rfl rfl (any_of HT_.out (by kernel_rfl)) (fun _ _ _ h => h) (Or.inl ⟨by rfl, ?_⟩) ?_ ?_
  rotate_left
  · intro w'
    go_simp
    with_reducible rfl
  rotate_left
  · simp only [Act.put, List.setIfInBounds_toArray, List.set_cons_zero, List.set_cons_succ, i64_w, i32_w]
    rfl
  refine pure_ (i := 4) (N := some 28) (v := ?_) (a' := ?_) #[true, true, true, true, true, false, false, false, false, false, false, false] rfl rfl (any_of HT_.out (by kernel_rfl)) (fun _ _ _ h => h) (Or.inl ⟨by rfl, ?_⟩) ?_ ?_
  rotate_left
  · intro w'
    go_simp
    with_reducible rfl
  rotate_left
  · simp only [Act.put, List.setIfInBounds_toArray, List.set_cons_zero, List.set_cons_succ, i64_w, i32_w]
    rfl
  refine pure_ (i := 5) (N := some 29) (v := ?_) (a' := ?_) #[true, true, true, true, true, true, false, false, false, false, false, false] rfl rfl (any_of HT_.out (by kernel_rfl)) (fun _ _ _ h => h) (Or.inl ⟨by rfl, ?_⟩) ?_ ?_
  rotate_left
  · intro w'
    go_simp
    with_reducible rfl
  rotate_left
  · simp only [Act.put, List.setIfInBounds_toArray, List.set_cons_zero, List.set_cons_succ, i64_w, i32_w]
    rfl
  refine pure_ (i := 7) (N := some 31) (v := ?_) (a' := ?_) #[true, true, true, true, true, true, false, true, false, false, false, false] rfl rfl (any_of HT_.out (by kernel_rfl)) (fun _ _ _ h => h) (Or.inl ⟨by rfl, ?_⟩) ?_ ?_
  rotate_left
  · intro w'
    go_simp
    with_reducible rfl
  rotate_left
  · simp only [Act.put, List.setIfInBounds_toArray, List.set_cons_zero, List.set_cons_succ, i64_w, i32_w]
    rfl
  refine pure_ (i := 8) (N := some 32) (v := ?_) (a' := ?_) #[true, true, true, true, true, true, false, true, true, false, false, false] rfl rfl (any_of HT_.out (by kernel_rfl)) (fun _ _ _ h => h) (Or.inl ⟨by rfl, ?_⟩) ?_ ?_
  rotate_left
  · intro w'
    go_simp
    with_reducible rfl
  rotate_left
  · simp only [Act.put, List.setIfInBounds_toArray, List.set_cons_zero, List.set_cons_succ, i64_w, i32_w]
    rfl
  refine pure_ (i := 9) (N := some 33) (v := ?_) (a' := ?_) #[true, true, true, true, true, true, false, true, true, true, false, false] rfl rfl (any_of HT_.out (by kernel_rfl)) (fun _ _ _ h => h) (Or.inl ⟨by rfl, ?_⟩) ?_ ?_
  rotate_left
  · intro w'
    go_simp
    with_reducible rfl
  rotate_left
  · simp only [Act.put, List.setIfInBounds_toArray, List.set_cons_zero, List.set_cons_succ, i64_w, i32_w]
    rfl
  refine take_ (i := 10) (N := some 34) (v := ?_) (a' := ?_) #[true, true, true, true, true, true, false, true, true, true, true, false] rfl rfl (take_ofW HT_.out HW_.out (by kernel_rfl)) (fun _ _ _ h => h) (Or.inl ⟨by rfl, ?_⟩) hHeld ?_ ?_
  rotate_left
  · rintro w' s0
    have ks := HKS.out _ s0
    go_simp
    with_reducible rfl
  rotate_left
  · simp only [Act.put, List.setIfInBounds_toArray, List.set_cons_zero, List.set_cons_succ, i64_w, i32_w]
    rfl
  refine one_ (i := 6) (N := some 30) #[true, true, true, true, true, true, true, true, true, true, true, false] rfl rfl (one_of HT_.out (by kernel_rfl)) (by decide) (fun K hK => ?_)
  go_simp
  have htag := spec_l04Tag.calls k2 a1 A2 c2 l2 A3 c3 x g _ (Kd.C_below HCT.out hHeld) HC2.out (Kd.C_below HCX.out hHeld) HXL.out H2.out
  rw [HXS.out] at htag
  with_reducible refine htag.mono ?_
  clear htag
  rintro e2 w2 ⟨rfl, hb2⟩
  refine hK.out _ _ (below_then hHeld hHeld.size hb2) (fun hHeld => ?_)
  clear hK K
  refine pure_ (i := 11) (N := some 35) (v := ?_) (a' := ?_) #[true, true, true, true, true, true, true, true, true, true, true, true] rfl rfl (any_of HT_.out (by kernel_rfl)) (fun _ _ _ h => h) (Or.inl ⟨by rfl, ?_⟩) ?_ ?_
  rotate_left
  · intro w'
    go_simp
    with_reducible rfl
  rotate_left
  · simp only [Act.put, List.setIfInBounds_toArray, List.set_cons_zero, List.set_cons_succ, i64_w, i32_w]
    rfl
  refine done_ (done_of HT_.out (by kernel_rfl)) ?_
  have HB2 : Aside0 (Below w.heap.size w w2) := ⟨(below_drew1 HB1.out).trans (hHeld.mono (below_drew1 HB1.out).size)⟩
  have HCX2 : Aside0 (Kd.C (Kd.int .u8) w2 A3 x.length x) := ⟨Kd.C_below HCX.out hHeld⟩
  have H := H.out
  clear hA4 hl4 hHeld
  by_cases hc : g.toList = (strOfNums y).toList
  · rw [if_pos hc] at H
    obtain ⟨e, h3, H⟩ := Option.bind_eq_some_iff.mp H
    obtain ⟨rfl, rfl⟩ : e = r1 ∧ true = r2 := by simpa using H
    have H3 : Aside0 (spec_l02Ctr.f 300000 k1 a1 x = some e) := ⟨h3⟩
    have hcb : (!g.toList == (strOfNums y).toList) = false := by simp [hc]
    rw [hcb]
    clear H h3 hc hcb
    go_wp2_with fail
    have hctr := spec_l02Ctr.calls 300000 k1 a1 A3 c3 x e w2 HCX2.out HXL.out H3.out
    rw [HXS.out] at hctr
    refine hctr.mono ?_
    clear hctr
    rintro e2 w3 ⟨v, rfl, hR, hb3⟩
    have HB3 := Aside0.mk (HB2.out.trans (hb3.mono HB2.out.size))
    have HR := Aside0.mk (Kd.R_lower hR HB2.out.size)
    clear hR hb3
    go_wp2
    go_ret2
    exact ⟨_, rfl, HR.out, HB3.out⟩
  · rw [if_neg hc] at H
    obtain ⟨rfl, rfl⟩ : ([] : List Int) = r1 ∧ false = r2 := by simpa using H
    have hcb : (!g.toList == (strOfNums y).toList) = true := by simp [hc]
    rw [hcb]
    clear H hc hcb
    go_wp2
    go_ret2
    exact ⟨_, rfl, Kd.R_lower (Kd.R_of_own (xs := ([] : List Int)) (ow_empty w2 5) (fun _ _ => trivial)) HB2.out.size, below_alloc HB2.out _⟩
def spec_OpenBytes.j0 : Nat → ByteArray → ByteArray → List Int → List Int → Bool → Option (List Int × Int)
  | 0, _, _, _, _, _ => none
  | k + 1, x0, x1, x2, x3, x30 => if x30 = true then (some ((([] : List Int)), 2)) else ((spec_l04Code.f k x0 x1 x2 x3 0).bind fun t269 => (if t269 = 0 then (if (x3.length : Int) < 16 then (some ((([] : List Int)), 3)) else ((spec_l04Open.f x0 x1 x2 x3).bind fun bt276 => (if bt276.2 = true then (some (bt276.1, 0)) else (some ((([] : List Int)), 10))))) else (some ((([] : List Int)), t269))))
def spec_OpenBytes.f (k : Nat) (a0 : ByteArray) (a1 : ByteArray) (l2 : List Int) (l3 : List Int) : Option (List Int × Int) := if (a0.size : Int) > 65536 then (spec_OpenBytes.j0 k a0 a1 l2 l3 true) else (if (a1.size : Int) > 65536 then (spec_OpenBytes.j0 k a0 a1 l2 l3 true) else (if (l2.length : Int) > 65536 then (spec_OpenBytes.j0 k a0 a1 l2 l3 true) else (spec_OpenBytes.j0 k a0 a1 l2 l3 (decide ((l3.length : Int) > 65536)))))
set_option maxHeartbeats 8000000 in
set_option maxRecDepth 100000 in
theorem spec_OpenBytes.calls (k : Nat) (a0 : ByteArray) (a1 : ByteArray) (A2 : Option Addr) (c2 : Nat) (l2 : List Int) (A3 : Option Addr) (c3 : Nat) (l3 : List Int) (r1 : List Int) (r2 : Int) (w : World) (hr2 : Kd.C (Kd.int .u8) w A2 l2.length l2) (hc2 : l2.length ≤ c2) (hr3 : Kd.C (Kd.int .u8) w A3 l3.length l3) (hc3 : l3.length ≤ c3) (h : spec_OpenBytes.f k a0 a1 l2 l3 = some (r1, r2)) :
    Calls Try.prog 20 #[.string a0, .string a1, .slice A2 l2.length c2, .slice A3 l3.length c3] w fun e w' => ∃ v0_ : Value, e = .returned (.tuple #[v0_, .int .i64 r2]) ∧ Kd.R (Kd.int .u8) 5 w' w.heap.size (fun _ => True) v0_ r1 ∧ Below w.heap.size w w' := by
  have HR2 := Aside0.mk hr2
  have HC2 := Aside0.mk hc2
  clear hr2 hc2
  have HR3 := Aside0.mk hr3
  have HC3 := Aside0.mk hc3
  clear hr3 hc3
  have HB := Aside0.mk (Below.refl w.heap.size w)
  have H : (if (a0.size : Int) > 65536 then (spec_OpenBytes.j0 k a0 a1 l2 l3 true) else (if (a1.size : Int) > 65536 then (spec_OpenBytes.j0 k a0 a1 l2 l3 true) else (if (l2.length : Int) > 65536 then (spec_OpenBytes.j0 k a0 a1 l2 l3 true) else (spec_OpenBytes.j0 k a0 a1 l2 l3 (decide ((l3.length : Int) > 65536)))))) = some (r1, r2) := h
  clear h
  have HC5 := Aside0.mk H
  clear H
  go_enter Try.func20, Try.ntmps20
  go_upto_region 1 with (fail)
  go_cut [30] (fun v30 wc => ∃ (kq : Nat) (x30_4 : Bool), v30 = .bool x30_4 ∧ Aside0 (spec_OpenBytes.j0 kq a0 a1 l2 l3 x30_4 = some (r1, r2)) ∧ Aside0 (kq ≤ k) ∧ Aside0 (Below w.heap.size w wc))
  case first =>
    have H := HC5.out
    clear HC5
    by_cases c6 : (a0.size : Int) > 65536
    · rw [if_pos c6] at H
      have c6b0 : decide (65536 < (a0.size : Int)) = true := decide_eq_true c6
      have c6b1 : decide (65536 < a0.size) = true := decide_eq_true (by omega)
      clear c6
      (first | rw [c6b0] | (simp only [i64_w, i32_w]; rw [c6b0]) | skip)
      have H' := Aside0.mk H
      clear H
      go_wp2
      go_meet
      case rel => exact ⟨_, (true), (by first | rfl | (simp; done) | (simp [*]; done)), H', ⟨by first | omega | exact Nat.le_refl _⟩, ⟨by repeat (first | (with_reducible first | exact HB.out | apply below_alloc | apply pw_below_drewN | apply below_drew1) | exact HB.out)⟩⟩
    · rw [if_neg c6] at H
      have c6b0 : decide (65536 < (a0.size : Int)) = false := decide_eq_false c6
      have c6b1 : decide (65536 < a0.size) = false := decide_eq_false (by omega)
      clear c6
      (first | rw [c6b0] | (simp only [i64_w, i32_w]; rw [c6b0]) | skip)
      by_cases c7 : (a1.size : Int) > 65536
      · rw [if_pos c7] at H
        have c7b0 : decide (65536 < (a1.size : Int)) = true := decide_eq_true c7
        have c7b1 : decide (65536 < a1.size) = true := decide_eq_true (by omega)
        clear c7
        have H' := Aside0.mk H
        clear H
        go_wp2
        go_meet
        case rel => exact ⟨_, (true), (by first | rfl | (simp; done) | (simp [*]; done)), H', ⟨by first | omega | exact Nat.le_refl _⟩, ⟨by repeat (first | (with_reducible first | exact HB.out | apply below_alloc | apply pw_below_drewN | apply below_drew1) | exact HB.out)⟩⟩
      · rw [if_neg c7] at H
        have c7b0 : decide (65536 < (a1.size : Int)) = false := decide_eq_false c7
        have c7b1 : decide (65536 < a1.size) = false := decide_eq_false (by omega)
        clear c7
        by_cases c8 : (l2.length : Int) > 65536
        · rw [if_pos c8] at H
          have c8b0 : decide (65536 < (l2.length : Int)) = true := decide_eq_true c8
          have c8b1 : decide (65536 < l2.length) = true := decide_eq_true (by omega)
          clear c8
          have H' := Aside0.mk H
          clear H
          go_wp2
          go_meet
          case rel => exact ⟨_, (true), (by first | rfl | (simp; done) | (simp [*]; done)), H', ⟨by first | omega | exact Nat.le_refl _⟩, ⟨by repeat (first | (with_reducible first | exact HB.out | apply below_alloc | apply pw_below_drewN | apply below_drew1) | exact HB.out)⟩⟩
        · rw [if_neg c8] at H
          have c8b0 : decide (65536 < (l2.length : Int)) = false := decide_eq_false c8
          have c8b1 : decide (65536 < l2.length) = false := decide_eq_false (by omega)
          clear c8
          have H' := Aside0.mk H
          clear H
          go_wp2
          go_meet
          case rel => exact ⟨_, (decide ((l3.length : Int) > 65536)), (by first | rfl | (simp; done) | (simp [*]; done)), H', ⟨by first | omega | exact Nat.le_refl _⟩, ⟨by repeat (first | (with_reducible first | exact HB.out | apply below_alloc | apply pw_below_drewN | apply below_drew1) | exact HB.out)⟩⟩
  case rest =>
    clear HC5
    try clear c2
    try clear p2
    try clear c3
    try clear c6
    try clear c6b0
    try clear c6b1
    try clear c7
    try clear c7b0
    try clear c7b1
    try clear c8
    try clear c8b0
    try clear c8b1
    obtain ⟨kq, x30_4, rfl, HA, HJ4, HB⟩ := hcut
    cases kq with
    | zero => exact absurd HA.out (by simp [spec_OpenBytes.j0])
    | succ kj4 =>
      have H := HA.out
      clear HA
      simp only [spec_OpenBytes.j0] at H
      by_cases c9 : x30_4 = true
      · subst c9
        have H1 : (some ((([] : List Int)), 2)) = some (r1, r2) := by rw [if_pos rfl] at H; exact H
        clear H
        have H := H1
        clear H1
        obtain ⟨y266, hy266⟩ : ∃ y_ : List Int, y_ = (([] : List Int)) := ⟨_, rfl⟩
        replace H : (some (y266, 2)) = some (r1, r2) := by first | (rw [hy266]; with_reducible exact H) | (have H2_ := (Option.bind_some _ _).symm.trans H; rw [hy266]; with_reducible exact H2_) | (have H2_ := (Option.bind_some _ _).symm.trans H; with_reducible exact H2_) | with_reducible exact H | (rw [hy266]; exact H) | exact H
        have Ny266 := Aside0.mk hy266
        clear hy266
        simp only [Option.some.injEq, Prod.mk.injEq] at H
        obtain ⟨rfl, rfl⟩ := H
        go_wp2_with (first | ((with_reducible refine gate_dst (N := 31) rfl ?_); (try (refine gate_guard (by rfl) ?_; dsimp only)); refine Kd.R_lit (Kd.int .u8) _ 5 ?hg (N := 31) ?hd (xs := ([] : List Int)) (inner := []) (ok := fun _ => True) (okp := fun _ => True) ?hr ?hp (fun _ hk => hk) trivial (Below.refl _ _) (Nat.le_refl _) (by simp) ?_; (case hd => rfl); (case hg => rfl); (case hr => first | (go_simp; done) | (go_simp; rfl)); (case hp => exact (Reps.none _ _)); intro v267 w10 ho11 hb hg_ hnew_; clear hg_ hnew_; (first | rw [← Ny266.out] at ho11 | (simp only [Int.reduceToNat] at ho11; rw [← Ny266.out] at ho11)); have n0_ := Aside0.mk (Kd.R_lower ho11 (below_size (by repeat (first | (with_reducible first | exact HB.out | apply below_alloc | apply pw_below_drewN | apply below_drew1) | exact HB.out)))); have n1_ := Aside0.mk (below_step (by repeat (first | (with_reducible first | exact HB.out | apply below_alloc | apply pw_below_drewN | apply below_drew1) | exact HB.out)) hb); clear HB; have HO268 := n0_; have HB := n1_; clear n0_ n1_; clear hb ho11))
        go_ret2
        exact ⟨_, by first | rfl | (simp [errW_none, errW_some] <;> rfl) | (simp [*, errW_none, errW_some] <;> rfl), by (with_reducible repeat (first | apply Kd.R_alloc | apply Kd.R_drewN | apply Kd.R_drew)); exact HO268.out, by repeat (first | (with_reducible first | exact HB.out | apply below_alloc | apply pw_below_drewN | apply below_drew1) | exact HB.out)⟩
      · replace c9 := Bool.eq_false_iff.mpr c9
        subst c9
        have H1 : ((spec_l04Code.f kj4 a0 a1 l2 l3 0).bind fun t269 => (if t269 = 0 then (if (l3.length : Int) < 16 then (some ((([] : List Int)), 3)) else ((spec_l04Open.f a0 a1 l2 l3).bind fun bt276 => (if bt276.2 = true then (some (bt276.1, 0)) else (some ((([] : List Int)), 10))))) else (some ((([] : List Int)), t269)))) = some (r1, r2) := by rw [if_neg (show ¬ (false = true) by decide)] at H; exact H
        clear H
        have H := H1
        clear H1
        replace H := Option.bind_eq_some_iff.mp H
        obtain ⟨t269, A120, H⟩ := H
        replace H : (if t269 = 0 then (if (l3.length : Int) < 16 then (some ((([] : List Int)), 3)) else ((spec_l04Open.f a0 a1 l2 l3).bind fun bt276 => (if bt276.2 = true then (some (bt276.1, 0)) else (some ((([] : List Int)), 10))))) else (some ((([] : List Int)), t269))) = some (r1, r2) := H
        have A12 := Aside0.mk A120
        clear A120
        by_cases c13 : t269 = 0
        · rw [if_pos c13] at H
          have c13b0 : (t269 == 0) = true := beq_iff_eq.mpr c13
          have c13b1 : (t269 != 0) = false := bne_eq_false_iff_eq.mpr c13
          clear c13
          by_cases c14 : (l3.length : Int) < 16
          · rw [if_pos c14] at H
            have c14b0 : decide ((l3.length : Int) < 16) = true := decide_eq_true c14
            have c14b1 : decide (l3.length < 16) = true := decide_eq_true (by omega)
            clear c14
            obtain ⟨y273, hy273⟩ : ∃ y_ : List Int, y_ = (([] : List Int)) := ⟨_, rfl⟩
            replace H : (some (y273, 3)) = some (r1, r2) := by first | (rw [hy273]; with_reducible exact H) | (have H2_ := (Option.bind_some _ _).symm.trans H; rw [hy273]; with_reducible exact H2_) | (have H2_ := (Option.bind_some _ _).symm.trans H; with_reducible exact H2_) | with_reducible exact H | (rw [hy273]; exact H) | exact H
            have Ny273 := Aside0.mk hy273
            clear hy273
            simp only [Option.some.injEq, Prod.mk.injEq] at H
            obtain ⟨rfl, rfl⟩ := H
            go_wp2_with (first | ((with_reducible refine gate_callee (f := 46) rfl ?_); refine goesL_ (some 36) rfl rfl Try.func46 (by kernel_rfl) rfl #[.string a0, .string a1, .slice A2 l2.length c2, .slice A3 l3.length c3, .int .i64 0] rfl (by (try simp only [List.map_toArray, List.map_cons, List.map_nil]); first | done | rfl | (simp only [List.length_drop, List.length_take]; rfl)) ?_; (with_reducible refine (spec_l04Code.calls kj4 a0 a1 _ _ l2 _ _ l3 0 t269 _ ?side1 ?side2 ?side3 ?side4 A12.out).mono ?_); (case side1 => repeat (first | exact (Kd.C_below HR2.out HB.out) | (with_reducible refine Kd.C_alloc ?_ _) | (with_reducible refine Kd.C_drewN ?_ _) | (with_reducible refine Kd.C_drew ?_))); (case side2 => exact HC2.out); (case side3 => repeat (first | exact (Kd.C_below HR3.out HB.out) | (with_reducible refine Kd.C_alloc ?_ _) | (with_reducible refine Kd.C_drewN ?_ _) | (with_reducible refine Kd.C_drew ?_))); (case side4 => exact HC3.out); rintro e w' ⟨rfl, ⟨nd, rfl⟩⟩; refine ⟨_, rfl, ?_⟩) | ((with_reducible refine gate_dst (N := 44) rfl ?_); (try (refine gate_guard (by rfl) ?_; dsimp only)); refine Kd.R_lit (Kd.int .u8) _ 5 ?hg (N := 44) ?hd (xs := ([] : List Int)) (inner := []) (ok := fun _ => True) (okp := fun _ => True) ?hr ?hp (fun _ hk => hk) trivial (Below.refl _ _) (Nat.le_refl _) (by simp) ?_; (case hd => rfl); (case hg => rfl); (case hr => first | (go_simp; done) | (go_simp; rfl)); (case hp => exact (Reps.none _ _)); intro v274 w15 ho16 hb hg_ hnew_; clear hg_ hnew_; (first | rw [← Ny273.out] at ho16 | (simp only [Int.reduceToNat] at ho16; rw [← Ny273.out] at ho16)); have n0_ := Aside0.mk (Kd.R_lower ho16 (below_size (by repeat (first | (with_reducible first | exact HB.out | apply below_alloc | apply pw_below_drewN | apply below_drew1) | exact HB.out)))); have n1_ := Aside0.mk (below_step (by repeat (first | (with_reducible first | exact HB.out | apply below_alloc | apply pw_below_drewN | apply below_drew1) | exact HB.out)) hb); clear HB; have HO275 := n0_; have HB := n1_; clear n0_ n1_; clear hb ho16))
            go_ret2
            exact ⟨_, by first | rfl | (simp [errW_none, errW_some] <;> rfl) | (simp [*, errW_none, errW_some] <;> rfl), by (with_reducible repeat (first | apply Kd.R_alloc | apply Kd.R_drewN | apply Kd.R_drew)); exact HO275.out, by repeat (first | (with_reducible first | exact HB.out | apply below_alloc | apply pw_below_drewN | apply below_drew1) | exact HB.out)⟩
          · rw [if_neg c14] at H
            have c14b0 : decide ((l3.length : Int) < 16) = false := decide_eq_false c14
            have c14b1 : decide (l3.length < 16) = false := decide_eq_false (by omega)
            clear c14
            replace H := Option.bind_eq_some_iff.mp H
            obtain ⟨⟨t276, t277⟩, A170, H⟩ := H
            replace H : (if t277 = true then (some (t276, 0)) else (some ((([] : List Int)), 10))) = some (r1, r2) := H
            have A17 := Aside0.mk A170
            clear A170
            by_cases c18 : t277 = true
            · subst c18
              have H1 : (some (t276, 0)) = some (r1, r2) := by rw [if_pos rfl] at H; exact H
              clear H
              have H := H1
              clear H1
              simp only [Option.some.injEq, Prod.mk.injEq] at H
              obtain ⟨rfl, rfl⟩ := H
              go_wp2_with (first | ((with_reducible refine gate_callee (f := 46) rfl ?_); refine goesL_ (some 36) rfl rfl Try.func46 (by kernel_rfl) rfl #[.string a0, .string a1, .slice A2 l2.length c2, .slice A3 l3.length c3, .int .i64 0] rfl (by (try simp only [List.map_toArray, List.map_cons, List.map_nil]); first | done | rfl | (simp only [List.length_drop, List.length_take]; rfl)) ?_; (with_reducible refine (spec_l04Code.calls kj4 a0 a1 _ _ l2 _ _ l3 0 t269 _ ?side1 ?side2 ?side3 ?side4 A12.out).mono ?_); (case side1 => repeat (first | exact (Kd.C_below HR2.out HB.out) | (with_reducible refine Kd.C_alloc ?_ _) | (with_reducible refine Kd.C_drewN ?_ _) | (with_reducible refine Kd.C_drew ?_))); (case side2 => exact HC2.out); (case side3 => repeat (first | exact (Kd.C_below HR3.out HB.out) | (with_reducible refine Kd.C_alloc ?_ _) | (with_reducible refine Kd.C_drewN ?_ _) | (with_reducible refine Kd.C_drew ?_))); (case side4 => exact HC3.out); rintro e w' ⟨rfl, ⟨nd, rfl⟩⟩; refine ⟨_, rfl, ?_⟩) | ((with_reducible refine gate_callee (f := 51) rfl ?_); refine goesL_ (some 50) rfl rfl Try.func51 (by kernel_rfl) rfl #[.string a0, .string a1, .slice A2 l2.length c2, .slice A3 l3.length c3] rfl (by (try simp only [List.map_toArray, List.map_cons, List.map_nil]); first | done | rfl | (simp only [List.length_drop, List.length_take]; rfl)) ?_; (with_reducible refine (spec_l04Open.calls a0 a1 _ _ l2 _ _ l3 t276 true _ ?side1 ?side2 ?side3 ?side4 A17.out).mono ?_); (case side1 => repeat (first | exact (Kd.C_below HR2.out (by repeat (first | (with_reducible first | exact HB.out | apply below_alloc | apply pw_below_drewN | apply below_drew1) | exact HB.out))) | (with_reducible refine Kd.C_alloc ?_ _) | (with_reducible refine Kd.C_drewN ?_ _) | (with_reducible refine Kd.C_drew ?_))); (case side2 => exact HC2.out); (case side3 => repeat (first | exact (Kd.C_below HR3.out (by repeat (first | (with_reducible first | exact HB.out | apply below_alloc | apply pw_below_drewN | apply below_drew1) | exact HB.out))) | (with_reducible refine Kd.C_alloc ?_ _) | (with_reducible refine Kd.C_drewN ?_ _) | (with_reducible refine Kd.C_drew ?_))); (case side4 => exact HC3.out); rintro e w19 ⟨v278, rfl, ho0, hb⟩; refine ⟨_, rfl, ?_⟩; have n0_ := Aside0.mk (Kd.R_lower ho0 (below_size (by repeat (first | (with_reducible first | exact HB.out | apply below_alloc | apply pw_below_drewN | apply below_drew1) | exact HB.out)))); have n1_ := Aside0.mk (below_step (by repeat (first | (with_reducible first | exact HB.out | apply below_alloc | apply pw_below_drewN | apply below_drew1) | exact HB.out)) hb); clear HB; have HO279 := n0_; have HB := n1_; clear n0_ n1_; (try clear hb); (try clear hb2); (try clear hk); (try clear hi); (try clear ho0)))
              go_ret2
              exact ⟨_, by first | rfl | (simp [errW_none, errW_some] <;> rfl) | (simp [*, errW_none, errW_some] <;> rfl), by (with_reducible repeat (first | apply Kd.R_alloc | apply Kd.R_drewN | apply Kd.R_drew)); exact HO279.out, by repeat (first | (with_reducible first | exact HB.out | apply below_alloc | apply pw_below_drewN | apply below_drew1) | exact HB.out)⟩
            · replace c18 := Bool.eq_false_iff.mpr c18
              subst c18
              have H1 : (some ((([] : List Int)), 10)) = some (r1, r2) := by rw [if_neg (show ¬ (false = true) by decide)] at H; exact H
              clear H
              have H := H1
              clear H1
              obtain ⟨y280, hy280⟩ : ∃ y_ : List Int, y_ = (([] : List Int)) := ⟨_, rfl⟩
              replace H : (some (y280, 10)) = some (r1, r2) := by first | (rw [hy280]; with_reducible exact H) | (have H2_ := (Option.bind_some _ _).symm.trans H; rw [hy280]; with_reducible exact H2_) | (have H2_ := (Option.bind_some _ _).symm.trans H; with_reducible exact H2_) | with_reducible exact H | (rw [hy280]; exact H) | exact H
              have Ny280 := Aside0.mk hy280
              clear hy280
              simp only [Option.some.injEq, Prod.mk.injEq] at H
              obtain ⟨rfl, rfl⟩ := H
              go_wp2_with (first | ((with_reducible refine gate_callee (f := 46) rfl ?_); refine goesL_ (some 36) rfl rfl Try.func46 (by kernel_rfl) rfl #[.string a0, .string a1, .slice A2 l2.length c2, .slice A3 l3.length c3, .int .i64 0] rfl (by (try simp only [List.map_toArray, List.map_cons, List.map_nil]); first | done | rfl | (simp only [List.length_drop, List.length_take]; rfl)) ?_; (with_reducible refine (spec_l04Code.calls kj4 a0 a1 _ _ l2 _ _ l3 0 t269 _ ?side1 ?side2 ?side3 ?side4 A12.out).mono ?_); (case side1 => repeat (first | exact (Kd.C_below HR2.out HB.out) | (with_reducible refine Kd.C_alloc ?_ _) | (with_reducible refine Kd.C_drewN ?_ _) | (with_reducible refine Kd.C_drew ?_))); (case side2 => exact HC2.out); (case side3 => repeat (first | exact (Kd.C_below HR3.out HB.out) | (with_reducible refine Kd.C_alloc ?_ _) | (with_reducible refine Kd.C_drewN ?_ _) | (with_reducible refine Kd.C_drew ?_))); (case side4 => exact HC3.out); rintro e w' ⟨rfl, ⟨nd, rfl⟩⟩; refine ⟨_, rfl, ?_⟩) | ((with_reducible refine gate_callee (f := 51) rfl ?_); refine goesL_ (some 50) rfl rfl Try.func51 (by kernel_rfl) rfl #[.string a0, .string a1, .slice A2 l2.length c2, .slice A3 l3.length c3] rfl (by (try simp only [List.map_toArray, List.map_cons, List.map_nil]); first | done | rfl | (simp only [List.length_drop, List.length_take]; rfl)) ?_; (with_reducible refine (spec_l04Open.calls a0 a1 _ _ l2 _ _ l3 t276 false _ ?side1 ?side2 ?side3 ?side4 A17.out).mono ?_); (case side1 => repeat (first | exact (Kd.C_below HR2.out (by repeat (first | (with_reducible first | exact HB.out | apply below_alloc | apply pw_below_drewN | apply below_drew1) | exact HB.out))) | (with_reducible refine Kd.C_alloc ?_ _) | (with_reducible refine Kd.C_drewN ?_ _) | (with_reducible refine Kd.C_drew ?_))); (case side2 => exact HC2.out); (case side3 => repeat (first | exact (Kd.C_below HR3.out (by repeat (first | (with_reducible first | exact HB.out | apply below_alloc | apply pw_below_drewN | apply below_drew1) | exact HB.out))) | (with_reducible refine Kd.C_alloc ?_ _) | (with_reducible refine Kd.C_drewN ?_ _) | (with_reducible refine Kd.C_drew ?_))); (case side4 => exact HC3.out); rintro e w20 ⟨v278, rfl, ho0, hb⟩; refine ⟨_, rfl, ?_⟩; have n0_ := Aside0.mk (Kd.R_lower ho0 (below_size (by repeat (first | (with_reducible first | exact HB.out | apply below_alloc | apply pw_below_drewN | apply below_drew1) | exact HB.out)))); have n1_ := Aside0.mk (below_step (by repeat (first | (with_reducible first | exact HB.out | apply below_alloc | apply pw_below_drewN | apply below_drew1) | exact HB.out)) hb); clear HB; have HO279 := n0_; have HB := n1_; clear n0_ n1_; (try clear hb); (try clear hb2); (try clear hk); (try clear hi); (try clear ho0)) | ((with_reducible refine gate_dst (N := 55) rfl ?_); (try (refine gate_guard (by rfl) ?_; dsimp only)); refine Kd.R_lit (Kd.int .u8) _ 5 ?hg (N := 55) ?hd (xs := ([] : List Int)) (inner := []) (ok := fun _ => True) (okp := fun _ => True) ?hr ?hp (fun _ hk => hk) trivial (Below.refl _ _) (Nat.le_refl _) (by simp) ?_; (case hd => rfl); (case hg => rfl); (case hr => first | (go_simp; done) | (go_simp; rfl)); (case hp => exact (Reps.none _ _)); intro v281 w21 ho22 hb hg_ hnew_; clear hg_ hnew_; (first | rw [← Ny280.out] at ho22 | (simp only [Int.reduceToNat] at ho22; rw [← Ny280.out] at ho22)); have n0_ := Aside0.mk (Kd.R_elder' (by (with_reducible repeat (first | apply Kd.R_alloc | apply Kd.R_drewN | apply Kd.R_drew)); exact HO279.out) (Kd.R_base ho22) hb); have n1_ := Aside0.mk (Kd.R_lower (Kd.R_new' ho22 (Kd.R_lt (by (with_reducible repeat (first | apply Kd.R_alloc | apply Kd.R_drewN | apply Kd.R_drew)); exact HO279.out))) (below_size (by repeat (first | (with_reducible first | exact HB.out | apply below_alloc | apply pw_below_drewN | apply below_drew1) | exact HB.out)))); have n2_ := Aside0.mk (below_step (by repeat (first | (with_reducible first | exact HB.out | apply below_alloc | apply pw_below_drewN | apply below_drew1) | exact HB.out)) hb); clear HO279; clear HB; have HO279 := n0_; have HO282 := n1_; have HB := n2_; clear n0_ n1_ n2_; clear hb ho22))
              go_ret2
              exact ⟨_, by first | rfl | (simp [errW_none, errW_some] <;> rfl) | (simp [*, errW_none, errW_some] <;> rfl), by (with_reducible repeat (first | apply Kd.R_alloc | apply Kd.R_drewN | apply Kd.R_drew)); exact Kd.R_mono HO282.out (fun _ hk => trivial), by repeat (first | (with_reducible first | exact HB.out | apply below_alloc | apply pw_below_drewN | apply below_drew1) | exact HB.out)⟩
        · rw [if_neg c13] at H
          have c13b0 : (t269 == 0) = false := beq_eq_false_iff_ne.mpr c13
          have c13b1 : (t269 != 0) = true := bne_iff_ne.mpr c13
          obtain ⟨y270, hy270⟩ : ∃ y_ : List Int, y_ = (([] : List Int)) := ⟨_, rfl⟩
          replace H : (some (y270, t269)) = some (r1, r2) := by first | (rw [hy270]; with_reducible exact H) | (have H2_ := (Option.bind_some _ _).symm.trans H; rw [hy270]; with_reducible exact H2_) | (have H2_ := (Option.bind_some _ _).symm.trans H; with_reducible exact H2_) | with_reducible exact H | (rw [hy270]; exact H) | exact H
          have Ny270 := Aside0.mk hy270
          clear hy270
          simp only [Option.some.injEq, Prod.mk.injEq] at H
          obtain ⟨rfl, rfl⟩ := H
          go_wp2_with (first | ((with_reducible refine gate_callee (f := 46) rfl ?_); refine goesL_ (some 36) rfl rfl Try.func46 (by kernel_rfl) rfl #[.string a0, .string a1, .slice A2 l2.length c2, .slice A3 l3.length c3, .int .i64 0] rfl (by (try simp only [List.map_toArray, List.map_cons, List.map_nil]); first | done | rfl | (simp only [List.length_drop, List.length_take]; rfl)) ?_; (with_reducible refine (spec_l04Code.calls kj4 a0 a1 _ _ l2 _ _ l3 0 t269 _ ?side1 ?side2 ?side3 ?side4 A12.out).mono ?_); (case side1 => repeat (first | exact (Kd.C_below HR2.out HB.out) | (with_reducible refine Kd.C_alloc ?_ _) | (with_reducible refine Kd.C_drewN ?_ _) | (with_reducible refine Kd.C_drew ?_))); (case side2 => exact HC2.out); (case side3 => repeat (first | exact (Kd.C_below HR3.out HB.out) | (with_reducible refine Kd.C_alloc ?_ _) | (with_reducible refine Kd.C_drewN ?_ _) | (with_reducible refine Kd.C_drew ?_))); (case side4 => exact HC3.out); rintro e w' ⟨rfl, ⟨nd, rfl⟩⟩; refine ⟨_, rfl, ?_⟩) | ((with_reducible refine gate_dst (N := 39) rfl ?_); (try (refine gate_guard (by rfl) ?_; dsimp only)); refine Kd.R_lit (Kd.int .u8) _ 5 ?hg (N := 39) ?hd (xs := ([] : List Int)) (inner := []) (ok := fun _ => True) (okp := fun _ => True) ?hr ?hp (fun _ hk => hk) trivial (Below.refl _ _) (Nat.le_refl _) (by simp) ?_; (case hd => rfl); (case hg => rfl); (case hr => first | (go_simp; done) | (go_simp; rfl)); (case hp => exact (Reps.none _ _)); intro v271 w23 ho24 hb hg_ hnew_; clear hg_ hnew_; (first | rw [← Ny270.out] at ho24 | (simp only [Int.reduceToNat] at ho24; rw [← Ny270.out] at ho24)); have n0_ := Aside0.mk (Kd.R_lower ho24 (below_size (by repeat (first | (with_reducible first | exact HB.out | apply below_alloc | apply pw_below_drewN | apply below_drew1) | exact HB.out)))); have n1_ := Aside0.mk (below_step (by repeat (first | (with_reducible first | exact HB.out | apply below_alloc | apply pw_below_drewN | apply below_drew1) | exact HB.out)) hb); clear HB; have HO272 := n0_; have HB := n1_; clear n0_ n1_; clear hb ho24))
          go_ret2
          exact ⟨_, by first | rfl | (simp [errW_none, errW_some] <;> rfl) | (simp [*, errW_none, errW_some] <;> rfl), by (with_reducible repeat (first | apply Kd.R_alloc | apply Kd.R_drewN | apply Kd.R_drew)); exact HO272.out, by repeat (first | (with_reducible first | exact HB.out | apply below_alloc | apply pw_below_drewN | apply below_drew1) | exact HB.out)⟩
def impl_unseal.f (a0 a1 a2 a3 : ByteArray) : Option (ByteArray × Bool) :=
  if a3.size < 16 then some (⟨#[]⟩, false) else if 2000000 < a3.size then none else
  (impl_sealKeys.f 300000 a0).bind fun p => (impl_tag.f 300000 p.2 a1 a2 (a3.extract 0 (a3.size - 16))).bind fun g =>
    if g.toList = (a3.extract (a3.size - 16) a3.size).toList then
      (impl_ctr.f p.1 a1 (bytesL (a3.extract 0 (a3.size - 16)))).bind fun e => some (strOfNums e, true)
    else some (⟨#[]⟩, false)
def unseal_T5 : Bool × List (List Nat × List Nat) := (true, [([], []), ([], []), ([], []), ([], []), ([0, 1, 2, 3], [0, 1, 2, 3]), ([], []), ([], []), ([6], [6]), ([5, 7], [5, 7]), ([4, 8], [4, 8])])
def unseal_B5 : List Nat := [0, 0, 0, 0, 15, 0, 0, 64, 224, 511]
theorem unseal_tab5 : rtab .any (opsOf Try.f52 5) = unseal_T5 := by kernel_rfl
theorem unseal_bits5 : waitsOk unseal_T5.2 unseal_B5 = true := by kernel_rfl
set_option maxHeartbeats 8000000 in
set_option maxRecDepth 100000 in
theorem impl_unseal.calls (a0 a1 a2 a3 : ByteArray) (r1 : ByteArray) (r2 : Bool) (w : World) (h : impl_unseal.f a0 a1 a2 a3 = some (r1, r2)) :
    Calls Try.prog 52 #[.string a0, .string a1, .string a2, .string a3] w fun e w' => e = .returned (.tuple #[.string r1, .bool r2]) ∧ Below w.heap.size w w' := by
  unfold impl_unseal.f at h
  by_cases hs : a3.size < 16
  · rw [if_pos hs] at h
    obtain ⟨rfl, rfl⟩ : (⟨#[]⟩ : ByteArray) = r1 ∧ false = r2 := by simpa using h
    have d1 : decide ((a3.size : Int) < 16) = true := decide_eq_true (by omega)
    have d2 : decide (a3.size < 16) = true := decide_eq_true hs
    clear h hs
    go_enter Try.func52, Try.ntmps52
    go_wp2
    go_ret2
    exact ⟨rfl, Below.refl _ _⟩
  rw [if_neg hs] at h
  by_cases hs2 : 2000000 < a3.size
  · rw [if_pos hs2] at h
    cases h
  rw [if_neg hs2] at h
  obtain ⟨⟨k1, k2⟩, h1, h⟩ := Option.bind_eq_some_iff.mp h
  obtain ⟨g, h2, h⟩ := Option.bind_eq_some_iff.mp h
  have d1 : decide ((a3.size : Int) < 16) = false := decide_eq_false (by omega)
  have d2 : decide (a3.size < 16) = false := decide_eq_false hs
  obtain ⟨q, hq⟩ : ∃ q : Nat, q = a3.size - 16 := ⟨_, rfl⟩
  rw [← hq] at h h2
  have HQ : Aside0 (q + 16 = a3.size) := ⟨by omega⟩
  obtain ⟨x, hx⟩ : ∃ x, x = a3.extract 0 q := ⟨_, rfl⟩
  rw [← hx] at h h2
  have H1 := Aside0.mk h1
  have H2 : Aside0 (impl_tag.f 300000 k2 a1 a2 x = some g) := ⟨h2⟩
  have hqw : wrap64 ((a3.size : Int) - 16) = (q : Int) := by unfold wrap64; omega
  have HQW := Aside0.mk hqw
  have HX := Aside0.mk hx
  have q0 : (0 : Int) ≤ (q : Int) := Int.natCast_nonneg q
  have q1 : (q : Int) ≤ (a3.size : Int) := by clear hqw; omega
  have q2 : q ≤ a3.size := by clear hqw; omega
  have HXS : Aside0 (x.size = q) := ⟨by clear hqw; rw [hx, ByteArray.size_extract]; omega⟩
  have hxe : a3.extract 0 q = x := hx.symm
  obtain ⟨y, hy⟩ : ∃ y, y = a3.extract q a3.size := ⟨_, rfl⟩
  rw [← hy] at h
  have hye : a3.extract q a3.size = y := hy.symm
  have H := Aside0.mk h
  clear hs hs2 hq h1 h2 hx hy h
  go_enter Try.func52, Try.ntmps52
  go_wp2_with fail
  refine (impl_sealKeys.calls 300000 a0 k1 k2 _ H1.out).mono ?_
  rintro e1 w1 ⟨rfl, hb1⟩
  have HB1 := Aside0.mk hb1
  clear hb1
  go_upto_region 5 with (fail)
  clear hqw
  have hxs : x.size = q := HXS.out
  refine start_ (n := 10) (S := fun w' => True) (ds := []) #[false, false, false, false, false, false, false, false, false, false] (by kernel_rfl) rfl rfl trivial (fun hHeld => ?_)
  refine with_tabW unseal_tab5 unseal_bits5 (fun HT_ HW_ => ?_)
  refine pure_ (i := 0) (N := some 26) (v := ?_) (a' := ?_) #[true, false, false, false, false, false, false, false, false, false] rfl rfl (any_of HT_.out (by kernel_rfl)) (fun _ _ _ h => h) (Or.inl ⟨by rfl, ?_⟩) ?_ ?_
  rotate_left
  · intro w'
    go_simp
    with_reducible rfl
  rotate_left
  · simp only [Act.put, List.setIfInBounds_toArray, List.set_cons_zero, List.set_cons_succ, i64_w, i32_w]
    rfl
  refine pure_ (i := 1) (N := some 27) (v := ?_) (a' := ?_) #[true, true, false, false, false, false, false, false, false, false] rfl rfl (any_of HT_.out (by kernel_rfl)) (fun _ _ _ h => h) (Or.inl ⟨by rfl, ?_⟩) ?_ ?_
  rotate_left
  · intro w'
    go_simp
    with_reducible rfl
  rotate_left
  · simp only [Act.put, List.setIfInBounds_toArray, List.set_cons_zero, List.set_cons_succ, i64_w, i32_w]
    rfl
  refine pure_ (i := 2) (N := some 28) (v := ?_) (a' := ?_) #[true, true, true, false, false, false, false, false, false, false] rfl rfl (any_of HT_.out (by kernel_rfl)) (fun _ _ _ h => h) (Or.inl ⟨by rfl, ?_⟩) ?_ ?_
  rotate_left
  · intro w'
    go_simp
    with_reducible rfl
  rotate_left
  · simp only [Act.put, List.setIfInBounds_toArray, List.set_cons_zero, List.set_cons_succ, i64_w, i32_w]
    rfl
  refine pure_ (i := 3) (N := some 29) (v := ?_) (a' := ?_) #[true, true, true, true, false, false, false, false, false, false] rfl rfl (any_of HT_.out (by kernel_rfl)) (fun _ _ _ h => h) (Or.inl ⟨by rfl, ?_⟩) ?_ ?_
  rotate_left
  · intro w'
    go_simp
    with_reducible rfl
  rotate_left
  · simp only [Act.put, List.setIfInBounds_toArray, List.set_cons_zero, List.set_cons_succ, i64_w, i32_w]
    rfl
  refine pure_ (i := 5) (N := some 31) (v := ?_) (a' := ?_) #[true, true, true, true, false, true, false, false, false, false] rfl rfl (any_of HT_.out (by kernel_rfl)) (fun _ _ _ h => h) (Or.inl ⟨by rfl, ?_⟩) ?_ ?_
  rotate_left
  · intro w'
    go_simp
    with_reducible rfl
  rotate_left
  · simp only [Act.put, List.setIfInBounds_toArray, List.set_cons_zero, List.set_cons_succ, i64_w, i32_w]
    rfl
  refine pure_ (i := 6) (N := some 32) (v := ?_) (a' := ?_) #[true, true, true, true, false, true, true, false, false, false] rfl rfl (any_of HT_.out (by kernel_rfl)) (fun _ _ _ h => h) (Or.inl ⟨by rfl, ?_⟩) ?_ ?_
  rotate_left
  · intro w'
    go_simp
    with_reducible rfl
  rotate_left
  · simp only [Act.put, List.setIfInBounds_toArray, List.set_cons_zero, List.set_cons_succ, i64_w, i32_w]
    rfl
  refine pure_ (i := 7) (N := some 33) (v := ?_) (a' := ?_) #[true, true, true, true, false, true, true, true, false, false] rfl rfl (any_of HT_.out (by kernel_rfl)) (fun _ _ _ h => h) (Or.inl ⟨by rfl, ?_⟩) ?_ ?_
  rotate_left
  · intro w'
    go_simp
    with_reducible rfl
  rotate_left
  · simp only [Act.put, List.setIfInBounds_toArray, List.set_cons_zero, List.set_cons_succ, i64_w, i32_w]
    rfl
  refine pure_ (i := 8) (N := some 34) (v := ?_) (a' := ?_) #[true, true, true, true, false, true, true, true, true, false] rfl rfl (any_of HT_.out (by kernel_rfl)) (fun _ _ _ h => h) (Or.inl ⟨by rfl, ?_⟩) ?_ ?_
  rotate_left
  · intro w'
    go_simp
    with_reducible rfl
  rotate_left
  · simp only [Act.put, List.setIfInBounds_toArray, List.set_cons_zero, List.set_cons_succ, i64_w, i32_w]
    rfl
  refine one_ (i := 4) (N := some 30) #[true, true, true, true, true, true, true, true, true, false] rfl rfl (one_of HT_.out (by kernel_rfl)) (by decide) (fun K hK => ?_)
  go_simp
  with_reducible refine (impl_tag.calls 300000 k2 a1 a2 x g _ H2.out).mono ?_
  rintro e2 w2 ⟨rfl, hb2⟩
  have HB2 : Aside0 (Below w.heap.size w w2) := ⟨(below_drew1 HB1.out).trans (hb2.mono (below_drew1 HB1.out).size)⟩
  clear hb2
  refine hK.out _ _ trivial (fun hHeld => ?_)
  clear hK K
  refine pure_ (i := 9) (N := some 35) (v := ?_) (a' := ?_) #[true, true, true, true, true, true, true, true, true, true] rfl rfl (any_of HT_.out (by kernel_rfl)) (fun _ _ _ h => h) (Or.inl ⟨by rfl, ?_⟩) ?_ ?_
  rotate_left
  · intro w'
    go_simp
    with_reducible rfl
  rotate_left
  · simp only [Act.put, List.setIfInBounds_toArray, List.set_cons_zero, List.set_cons_succ, i64_w, i32_w]
    rfl
  refine done_ (done_of HT_.out (by kernel_rfl)) ?_
  have H := H.out
  by_cases hc : g.toList = y.toList
  · rw [if_pos hc] at H
    obtain ⟨e, h3, H⟩ := Option.bind_eq_some_iff.mp H
    obtain ⟨rfl, rfl⟩ : strOfNums e = r1 ∧ true = r2 := by simpa using H
    have H3 : Aside0 (impl_ctr.f k1 a1 (bytesL x) = some e) := ⟨h3⟩
    have HLN : Aside0 ((bytesL x).length ≤ 1048576) := ⟨by
      unfold impl_ctr.f at h3
      split at h3
      · rename_i hc
        exact hc.2.2.2
      · cases h3⟩
    have hcb : (!g.toList == y.toList) = false := by simp [hc]
    rw [hcb]
    clear H h3 hc hcb
    have kc := Lib.run_convert_string_bytes (P := Try.prog) w2 9 22 5 x Try.underlying9 Try.underlying22 Try.underlying5
    have HRB := Aside0.mk (conv_rowB w2 w2.heap.size 5 x (Nat.le_refl _))
    have HBW : Aside0 (Below w.heap.size w (Lib.bytesWorld w2 5 x)) := ⟨bytes_below HB2.out HB2.out.size _ _⟩
    generalize Lib.bytesWorld w2 5 x = W1 at kc HRB HBW
    generalize grownCap w2 x.size 0 5 = cK at kc HRB
    generalize w2.heap.size = gk at kc HRB
    clear hxs hxe hye
    go_wp2_with fail
    have hq := impl_ctr.calls k1 a1 (some ⟨gk, 0, none⟩) cK (bytesL x) e W1 (rowB_C (by have := HRB.out; rw [bytesL_length]; exact this) (by have := HLN.out; omega)) (by have := rowB_form' HRB.out; rw [bytesL_length]; exact this) H3.out
    rw [bytesL_length] at hq
    refine hq.mono ?_
    clear hq kc
    rintro e2 w3 ⟨v, rfl, hR, hb3⟩
    have HB3 := Aside0.mk (HBW.out.trans (hb3.mono HBW.out.size))
    obtain ⟨Ae, ce, rfl, hce, hCe⟩ := Kd.R_reads hR
    have ks := Kd.C_string (P := Try.prog) (dst := 9) (src := 22) (c := ce) Try.underlying22 Try.underlying5 Try.underlying9 hCe
    clear hR hb3 hCe hce
    go_wp2
    go_ret2
    exact ⟨rfl, HB3.out⟩
  · rw [if_neg hc] at H
    obtain ⟨rfl, rfl⟩ : (⟨#[]⟩ : ByteArray) = r1 ∧ false = r2 := by simpa using H
    have hcb : (!g.toList == y.toList) = true := by simp [hc]
    rw [hcb]
    clear H hc hxs hxe hye hcb
    go_wp2
    go_ret2
    exact ⟨rfl, HB2.out⟩
end Go.Proofs.Ytlfpogbonmddmaa.P
namespace Go.Proofs.Ytlfpogbonmddmaa.Pg
open Go.RowKit Go.Proofs.Ytlfpogbonmddmaa.P Go.Proofs.YtlfpogbonmddmaaW.PrintWords Go.Proofs.YtlfpogbonmddmaaW.PrintLast Go.Proofs.YtlfpogbonmddmaaW.PrintMore
theorem suc_int (i : Nat) (hi : i < 9223372036854775807) : wrap64 ((i : Int) + 1) = ((i + 1 : Nat) : Int) := by unfold wrap64; omega
theorem rd_nat (l : List Int) (i : Nat) (h : i < l.length) : rd l (i : Int) = l[i] := by
  simp [rd, h]
theorem toByteS_run (l : List Int) (hl : l.length ≤ 281474976710656) (d : Nat) : ∀ (k i : Nat) (acc : List Int), acc.length = l.length → i + d = l.length → (∀ j, j < i → acc[j]? = l[j]?) → d < k → laws_toByteS.l0 k l acc i = some l := by
  induction d with
  | zero =>
    intro k i acc ha hi hj hk
    obtain ⟨k, rfl⟩ : ∃ m, k = m + 1 := ⟨k - 1, by omega⟩
    simp only [laws_toByteS.l0]
    rw [if_neg (by omega)]
    congr 1
    apply List.ext_getElem?
    intro j
    rcases Nat.lt_or_ge j i with h | h
    · exact hj j h
    · rw [List.getElem?_eq_none (by omega), List.getElem?_eq_none (by omega)]
  | succ d ih =>
    intro k i acc ha hi hj hk
    obtain ⟨k, rfl⟩ : ∃ m, k = m + 1 := ⟨k - 1, by omega⟩
    simp only [laws_toByteS.l0]
    rw [if_pos (by omega), if_pos (by omega), if_pos (by omega), suc_int i (by omega), rd_nat l i (by omega), Int.toNat_natCast]
    refine ih k (i + 1) _ (by rw [List.length_set]; exact ha) (by omega) (fun j hj2 => ?_) (by omega)
    rcases Nat.lt_or_ge j i with h | h
    · rw [List.getElem?_set_ne (by omega)]; exact hj j h
    · obtain rfl : j = i := by omega
      rw [List.getElem?_set_self (by omega), List.getElem?_eq_getElem (by omega)]
theorem toByteS_eq (k : Nat) (l : List Int) (hl : l.length ≤ 281474976710656) (hk : l.length < k) : laws_toByteS.f k l = some l := by
  unfold laws_toByteS.f
  rw [if_pos (by omega), if_pos (by omega)]
  exact toByteS_run l hl l.length k 0 _ (by simp) (by omega) (fun j h => absurd h (by omega)) hk
theorem eqByteS_run (a b : List Int) (hl : a.length ≤ 281474976710656) (he : a.length = b.length) (d : Nat) : ∀ (k i : Nat), i + d = a.length → (∀ j, j < i → a[j]? = b[j]?) → d < k → laws_eqByteS.l0 k a b i = some (a == b) := by
  induction d with
  | zero =>
    intro k i hi hj hk
    obtain ⟨k, rfl⟩ : ∃ m, k = m + 1 := ⟨k - 1, by omega⟩
    simp only [laws_eqByteS.l0]
    rw [if_neg (by omega)]
    have : a = b := by
      apply List.ext_getElem?
      intro j
      rcases Nat.lt_or_ge j i with h | h
      · exact hj j h
      · rw [List.getElem?_eq_none (by omega), List.getElem?_eq_none (by omega)]
    rw [this]; simp
  | succ d ih =>
    intro k i hi hj hk
    obtain ⟨k, rfl⟩ : ∃ m, k = m + 1 := ⟨k - 1, by omega⟩
    simp only [laws_eqByteS.l0]
    rw [if_pos (by omega), if_pos (by omega), if_pos (by omega), suc_int i (by omega), rd_nat a i (by omega), rd_nat b i (by omega)]
    by_cases h : a[i] = b[i]
    · rw [if_pos h]
      refine ih k (i + 1) (by omega) (fun j hj2 => ?_) (by omega)
      rcases Nat.lt_or_ge j i with h2 | h2
      · exact hj j h2
      · obtain rfl : j = i := by omega
        rw [List.getElem?_eq_getElem (by omega), List.getElem?_eq_getElem (by omega), h]
    · rw [if_neg h]
      have : ¬ a = b := by
        rintro rfl
        exact h rfl
      simp [this]
theorem eqByteS_eq (k : Nat) (a b : List Int) (hl : a.length ≤ 281474976710656) (hk : a.length < k) : laws_eqByteS.f k a b = some (a == b) := by
  unfold laws_eqByteS.f
  by_cases he : a.length = b.length
  · rw [if_pos (by omega)]
    exact eqByteS_run a b hl he a.length k 0 (by omega) (fun j h => absurd h (by omega)) hk
  · rw [if_neg (by omega)]
    have : ¬ a = b := fun h => he (by rw [h])
    simp [this]
end Go.Proofs.Ytlfpogbonmddmaa.Pg
namespace Go.Proofs.Ytlfpogbonmddmaa.Pg
open Go.RowKit Go.Proofs.Ytlfpogbonmddmaa.P Go.Proofs.YtlfpogbonmddmaaW.PrintWords Go.Proofs.YtlfpogbonmddmaaW.PrintLast Go.Proofs.YtlfpogbonmddmaaW.PrintMore
theorem cm (c : Nat) : (c : Int) % 256 = ((c % 256 : Nat) : Int) := by omega
theorem markB_run (d : Nat) : ∀ (k i c : Nat) (l : List Int), i + d = l.length → l.length < 100000000 → c + d < 900000000 → d < k →
    ∃ l', laws_markByteS.l0 k l (c : Int) (i : Int) = some (((c + d : Nat) : Int), l') ∧ l'.length = l.length ∧ (∀ j, j < i → l'[j]? = l[j]?) ∧ ∀ j, i ≤ j → j < l.length → l'[j]? = some (((c + (j - i)) % 256 : Nat) : Int) := by
  induction d with
  | zero =>
    intro k i c l hi _ _ hk
    obtain ⟨k, rfl⟩ : ∃ m, k = m + 1 := ⟨k - 1, by omega⟩
    refine ⟨l, ?_, rfl, fun _ _ => rfl, fun j h1 h2 => by omega⟩
    simp only [laws_markByteS.l0]
    rw [if_neg (by omega)]
    rfl
  | succ d ih =>
    intro k i c l hi hl hc hk
    obtain ⟨k, rfl⟩ : ∃ m, k = m + 1 := ⟨k - 1, by omega⟩
    obtain ⟨l', e, h1, h2, h3⟩ := ih k (i + 1) (c + 1) (l.set i (((c % 256 : Nat)) : Int)) (by rw [List.length_set]; omega) (by rw [List.length_set]; omega) (by omega) (by omega)
    rw [List.length_set] at h1 h3
    refine ⟨l', ?_, h1, fun j hj => ?_, fun j hj1 hj2 => ?_⟩
    · simp only [laws_markByteS.l0]
      rw [if_pos (by omega), if_pos (by omega), Int.toNat_natCast, cm c, suc_int i (by omega), suc_int c (by omega), e]
      congr 3
      omega
    · rw [h2 j (by omega), List.getElem?_set_ne (by omega)]
    · rcases Nat.eq_or_lt_of_le hj1 with e2 | e2
      · subst e2
        rw [h2 i (by omega), List.getElem?_set_self (by omega)]
        simp
      · rw [h3 j (by omega) hj2]
        congr 3
        omega
theorem heldB_run (d : Nat) : ∀ (k i c : Nat) (l : List Int), i + d = l.length → l.length < 100000000 → c + d < 900000000 → d < k → (∀ j, i ≤ j → j < l.length → l[j]? = some (((c + (j - i)) % 256 : Nat) : Int)) →
    laws_heldByteS.l0 k l (c : Int) (i : Int) = some ((c + d : Nat) : Int) := by
  induction d with
  | zero =>
    intro k i c l hi _ _ hk _
    obtain ⟨k, rfl⟩ : ∃ m, k = m + 1 := ⟨k - 1, by omega⟩
    simp only [laws_heldByteS.l0]
    rw [if_neg (by omega)]
    rfl
  | succ d ih =>
    intro k i c l hi hl hc hk hj
    obtain ⟨k, rfl⟩ : ∃ m, k = m + 1 := ⟨k - 1, by omega⟩
    have h0 := hj i (Nat.le_refl _) (by omega)
    have hr : rd l (i : Int) = ((c % 256 : Nat) : Int) := by
      simp [rd, List.getD_eq_getElem?_getD, h0]
    simp only [laws_heldByteS.l0]
    rw [if_pos (by omega), if_pos (by omega), hr, cm c, if_pos rfl, suc_int i (by omega), suc_int c (by omega),
      ih k (i + 1) (c + 1) l (by omega) hl (by omega) (by omega) (fun j h1 h2 => by
        rw [hj j (by omega) h2]
        congr 3
        omega)]
    congr 2
    omega
end Go.Proofs.Ytlfpogbonmddmaa.Pg
namespace Go.Proofs.Ytlfpogbonmddmaa.Pg
open Go.RowKit Go.Proofs.Ytlfpogbonmddmaa.P Go.Proofs.YtlfpogbonmddmaaW.PrintWords Go.Proofs.YtlfpogbonmddmaaW.PrintLast Go.Proofs.YtlfpogbonmddmaaW.PrintMore
theorem size_strOfNums (l : List Int) : (strOfNums l).size = l.length := by simp [strOfNums, ByteArray.size]
theorem hash_strOfNums (l : List Int) (hu : u8ok l) (hl : l.length ≤ 1099511627776) : impl_hash.f (strOfNums l) = some (strOfNums (Sha.shaL l)) := by
  unfold impl_hash.f
  rw [if_pos (by rw [size_strOfNums]; exact hl), bytesL_str l hu]
theorem masked_strOfNums (l : List Int) (m : Int) (hu : u8ok l) (hl : l.length ≤ 64) : impl_masked.f (strOfNums l) m = some (strOfNums (Sha.maskL l m)) := by
  unfold impl_masked.f
  rw [if_pos (by rw [size_strOfNums]; exact hl), bytesL_str l hu]
theorem hmac_j0 (k : Nat) (key b : List Int) (hu : u8ok key) (hl : key.length ≤ 64) (hb : u8ok b) (hbl : b.length ≤ 1073741824) : impl_hmac.j0 (k + 1) (strOfNums key) (strOfNums b) = some (strOfNums (Sha.shaL (Sha.maskL key 92 ++ Sha.shaL (Sha.maskL key 54 ++ b)))) := by
  have u1 := u8ok_append (u8ok_mask key 54 (by simp) hu) hb
  have u2 := u8ok_append (u8ok_mask key 92 (by simp) hu) (u8ok_shaL (Sha.maskL key 54 ++ b))
  simp only [impl_hmac.j0]
  rw [masked_strOfNums key 92 hu hl, Option.bind_some, masked_strOfNums key 54 hu hl, Option.bind_some, if_pos (by rw [size_strOfNums, size_strOfNums, maskL_length]; omega), strOfNums_append, hash_strOfNums _ u1 (by rw [List.length_append, maskL_length]; omega), Option.bind_some, if_pos (by rw [size_strOfNums, size_strOfNums, maskL_length, shaL_length]; decide), strOfNums_append, hash_strOfNums _ u2 (by rw [List.length_append, maskL_length, shaL_length]; decide), Option.bind_some]
theorem hmac_eq (k : Nat) (key b : List Int) (hu : u8ok key) (hl : key.length ≤ 1073741824) (hb : u8ok b) (hbl : b.length ≤ 1073741824) : impl_hmac.f (k + 1) (strOfNums key) (strOfNums b) = some (strOfNums (Sha.hmacL key b)) := by
  unfold impl_hmac.f Sha.hmacL
  by_cases h : 64 < key.length
  · rw [if_pos (by rw [size_strOfNums]; omega), hash_strOfNums key hu (by omega), Option.bind_some, hmac_j0 k _ b (u8ok_shaL key) (by rw [shaL_length]; omega) hb hbl, Sha.hkey, if_pos h]
  · rw [if_neg (by rw [size_strOfNums]; omega), hmac_j0 k key b hu (by omega) hb hbl, Sha.hkey, if_neg h]
end Go.Proofs.Ytlfpogbonmddmaa.Pg
namespace Go.Proofs.Ytlfpogbonmddmaa.Pg
open Go.RowKit Go.Proofs.Ytlfpogbonmddmaa.P Go.Proofs.YtlfpogbonmddmaaW.PrintWords Go.Proofs.YtlfpogbonmddmaaW.PrintLast Go.Proofs.YtlfpogbonmddmaaW.PrintMore
theorem bo1 (n : Int) (k : Nat) : impl_bytesOf.f (k + 3) n 1 = some (strOfNums [n % 256]) := by
  have w0 : wrap64 (1 - 1) = 0 := by unfold wrap64; omega
  have wm : wrap64 (0 - 1) = -1 := by unfold wrap64; omega
  unfold impl_bytesOf.f
  rw [if_pos (by decide), if_pos (by decide), w0]
  simp only [impl_bytesOf.l0]
  rw [if_pos (by decide), if_pos (by decide), if_pos (by decide), wm, if_neg (by decide)]
  rfl
theorem str_app (a b : List Int) : strOfNums a ++ strOfNums b = strOfNums (a ++ b) := strOfNums_append a b
theorem expand_step (k : Nat) (K info : List Int) (N j : Nat) (hK : u8ok K) (hKl : K.length ≤ 1048576) (hi : u8ok info) (hil : info.length ≤ 1048576) (h : 32 * j < N) (hj : j ≤ 300) :
    impl_expand.l0 (k + 4) (strOfNums K) (strOfNums info) (N : Int) (strOfNums (Sha.exp K info j).1) (strOfNums (Sha.exp K info j).2) ((j + 1 : Nat) : Int)
      = impl_expand.l0 (k + 3) (strOfNums K) (strOfNums info) (N : Int) (strOfNums (Sha.exp K info (j + 1)).1) (strOfNums (Sha.exp K info (j + 1)).2) ((j + 1 + 1 : Nat) : Int) := by
  have e1 := exp_len K info j
  have e2 := exp_last K info j
  have hw : wrap64 (((j + 1 : Nat) : Int) + 1) = ((j + 1 + 1 : Nat) : Int) := by unfold wrap64; omega
  have hone : u8ok [((j + 1 : Nat) : Int) % 256] := fun x hx => by obtain rfl := List.mem_singleton.1 hx; omega
  conv => lhs; simp only [impl_expand.l0]
  rw [if_pos (by rw [size_strOfNums]; omega), if_pos (by rw [size_strOfNums, size_strOfNums]; omega), bo1, Option.bind_some, str_app, if_pos (by rw [size_strOfNums, size_strOfNums, List.length_append]; simp; omega), str_app,
    hmac_eq (k + 2) K _ hK (by omega) (u8ok_append (u8ok_append (exp_u8 K info j).2 hi) hone) (by rw [List.length_append, List.length_append]; simp; omega), Option.bind_some, if_pos (by rw [size_strOfNums, size_strOfNums, hmacL_length]; omega), str_app, hw]
  rfl
theorem expand_end (k : Nat) (K info : List Int) (N j : Nat) (h : N ≤ 32 * j) (hj : j ≤ N + 31) (i : Int) :
    impl_expand.l0 (k + 1) (strOfNums K) (strOfNums info) (N : Int) (strOfNums (Sha.exp K info j).1) (strOfNums (Sha.exp K info j).2) i = some (strOfNums (Sha.expandL K info N)) := by
  have e1 := exp_len K info j
  simp only [impl_expand.l0]
  rw [if_neg (by rw [size_strOfNums]; omega), if_pos (by omega), if_pos (by rw [size_strOfNums]; omega), exp_take K info N j h hj, Int.toNat_natCast, str_extract]
theorem expand_run (d : Nat) : ∀ (k : Nat) (K info : List Int) (N j : Nat), u8ok K → K.length ≤ 1048576 → u8ok info → info.length ≤ 1048576 → N ≤ 32 * (j + d) → j ≤ N + 31 → j + d ≤ 290 →
    impl_expand.l0 (k + d + 4) (strOfNums K) (strOfNums info) (N : Int) (strOfNums (Sha.exp K info j).1) (strOfNums (Sha.exp K info j).2) ((j + 1 : Nat) : Int) = some (strOfNums (Sha.expandL K info N)) := by
  induction d with
  | zero => intro k K info N j hK hKl hi hil h hj _; exact expand_end (k + 3) K info N j h hj _
  | succ d ih =>
    intro k K info N j hK hKl hi hil h hj hd
    by_cases hlt : 32 * j < N
    · rw [show k + (d + 1) + 4 = (k + d + 1) + 4 from by omega, expand_step (k + d + 1) K info N j hK hKl hi hil hlt (by omega), show k + d + 1 + 3 = k + d + 4 from by omega]
      exact ih k K info N (j + 1) hK hKl hi hil (by omega) (by omega) (by omega)
    · exact expand_end (k + (d + 1) + 3) K info N j (by omega) hj _
theorem expand_eq (k : Nat) (K info : List Int) (N : Nat) (hK : u8ok K) (hKl : K.length ≤ 1048576) (hi : u8ok info) (hil : info.length ≤ 1048576) (hN : N ≤ 8160) :
    impl_expand.f (k + 264) (strOfNums K) (strOfNums info) (N : Int) = some (strOfNums (Sha.expandL K info N)) := by
  have h := expand_run 260 k K info N 0 hK hKl hi hil (by omega) (by omega) (by omega)
  exact h
end Go.Proofs.Ytlfpogbonmddmaa.Pg
namespace Go.Proofs.Ytlfpogbonmddmaa.Pg
open Go.RowKit Go.Proofs.Ytlfpogbonmddmaa.P Go.Proofs.YtlfpogbonmddmaaW.PrintWords Go.Proofs.YtlfpogbonmddmaaW.PrintLast Go.Proofs.YtlfpogbonmddmaaW.PrintMore
theorem sealKeys_eq (k : Nat) (s : ByteArray) (h : s.size ≤ 1048576) : impl_sealKeys.f (k + 264) s = some (strOfNums ((keysK s).take 32), strOfNums ((keysK s).drop 32)) := by
  have c1 : (⟨#[115, 101, 97, 108]⟩ : ByteArray) = strOfNums [115, 101, 97, 108] := rfl
  have c2 : (⟨#[107, 101, 121, 115]⟩ : ByteArray) = strOfNums [107, 101, 121, 115] := rfl
  have hb : (bytesL s).length ≤ 1048576 := by rw [bytesL_length]; exact h
  have e1 := hmac_eq (k + 263) [115, 101, 97, 108] (bytesL s) (fun x hx => by simp only [List.mem_cons, List.not_mem_nil, or_false] at hx; omega) (by decide) (u8ok_bytesL s) (by omega)
  have e2 := expand_eq k (Sha.hmacL [115, 101, 97, 108] (bytesL s)) [107, 101, 121, 115] 64 (u8ok_hmacL _ _) (by rw [hmacL_length]; decide) (fun x hx => by simp only [List.mem_cons, List.not_mem_nil, or_false] at hx; omega) (by decide) (by decide)
  rw [str_bytesL] at e1
  have hz : (strOfNums (keysK s)).size = 64 := by rw [size_strOfNums, keysK_length]
  unfold impl_sealKeys.f
  rw [c1, c2, e1, Option.bind_some]
  show (impl_expand.f (k + 264) (strOfNums (Sha.hmacL [115, 101, 97, 108] (bytesL s))) (strOfNums [107, 101, 121, 115]) ((64 : Nat) : Int)).bind _ = _
  rw [e2, Option.bind_some]
  show (if (0 : Int) ≤ 32 then (if 32 ≤ ((strOfNums (keysK s)).size : Int) then some ((strOfNums (keysK s)).extract 0 32, (strOfNums (keysK s)).extract 32 (strOfNums (keysK s)).size) else none) else none) = _
  rw [if_pos (by decide), if_pos (by rw [hz]; decide), hz, str_extract, str_extract2, List.take_of_length_le (l := keysK s) (i := 64) (by rw [keysK_length]; decide)]
theorem spec_sealKeys_eq (s : ByteArray) (h : s.size ≤ 1048576) : spec_l04Keys.f s = some (strOfNums ((keysK s).take 32), strOfNums ((keysK s).drop 32)) := by
  unfold spec_l04Keys.f
  rw [if_pos h]
end Go.Proofs.Ytlfpogbonmddmaa.Pg
namespace Go.Proofs.Ytlfpogbonmddmaa.Pg
open Go.RowKit Go.Proofs.Ytlfpogbonmddmaa.P
theorem spec_keys (key : ByteArray) (hkey : key.size = 16 ∨ key.size = 32) : spec_l01Keys.f key Aes.subs = some ((Aes.keysL (bytesL key)).map strOfNums) := by
  unfold spec_l01Keys.f
  rw [if_pos ⟨rfl, hkey⟩]
end Go.Proofs.Ytlfpogbonmddmaa.Pg

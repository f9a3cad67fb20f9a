/- Laid by a program of this session: of Pt16 what this law uses. -/
import Derived.Test.YtlfpogbonmddmaaZFsM11
import Derived.Test.YtlfpogbonmddmaaZFsPt1
import Derived.Test.YtlfpogbonmddmaaZFsPt3
import Derived.Test.YtlfpogbonmddmaaZFsPt8
import Derived.Test.YtlfpogbonmddmaaZFsM21
import Derived.Test.YtlfpogbonmddmaaZFsPt15
namespace Go.Proofs.Ytlfpogbonmddmaa.P
open Go.RowKit Go.Proofs.YtlfpogbonmddmaaW.PrintWords Go.Proofs.YtlfpogbonmddmaaW.PrintLast Go.Proofs.YtlfpogbonmddmaaW.PrintMore
attribute [local go_sem] min2_int min_two
set_option linter.unusedVariables false
set_option linter.unusedSimpArgs false
def spec_l04Open.f (a0 a1 : ByteArray) (l2 l3 : List Int) : Option (List Int × Bool) :=
 if l3.length < 16 then some ([], false) else if 2000000 < l3.length then none else
 (spec_l04Keys.f a0).bind fun p => (spec_l04Tag.f p.2 a1 l2 (l3.take (l3.length - 16))).bind fun g =>
   if g.toList = (strOfNums (l3.drop (l3.length - 16))).toList then
     (spec_l02Ctr.f 300000 p.1 a1 (l3.take (l3.length - 16))).bind fun e => some (e, true)
   else some ([], false)
def sopen_T5 : Bool × List (List Nat × List Nat) := (true, [([], []), ([], []), ([], []), ([], []), ([], []), ([3, 4], [3, 4]), ([0, 1, 2, 5], [0, 1, 2, 5]), ([], []), ([], []), ([7, 8], [7, 8]), ([9], [9]), ([6, 10], [6, 10])])
def sopen_B5 : List Nat := [0, 0, 0, 0, 0, 24, 63, 0, 0, 384, 896, 2047]
theorem sopen_tab5 : rtab .any (opsOf Try.f51 5) = sopen_T5 := by kernel_rfl
theorem sopen_bits5 : waitsOk sopen_T5.2 sopen_B5 = true := by kernel_rfl
theorem ow_empty (w : World) (e : TypeId) : (w.alloc (.cells #[] e)).ownsRow w.heap.size e 1 (.slice (some ⟨w.heap.size, 0, none⟩) 0 0) 0 [] := ⟨rfl, .inr ⟨_, 0, #[], rfl, Nat.le_refl _, blk_new _ _, Nat.le_refl _, Nat.zero_le _, rfl, rfl⟩⟩
set_option maxHeartbeats 8000000 in
set_option maxRecDepth 100000 in
theorem spec_l04Open.calls (a0 a1 : ByteArray) (A2 : Option Addr) (c2 : Nat) (l2 : List Int) (A3 : Option Addr) (c3 : Nat) (l3 : List Int) (r1 : List Int) (r2 : Bool) (w : World) (hr2 : Kd.C (Kd.int .u8) w A2 l2.length l2) (hc2 : l2.length ≤ c2) (hr3 : Kd.C (Kd.int .u8) w A3 l3.length l3) (hc3 : l3.length ≤ c3) (h : spec_l04Open.f a0 a1 l2 l3 = some (r1, r2)) :
   Calls Try.prog 51 #[.string a0, .string a1, .slice A2 l2.length c2, .slice A3 l3.length c3] w fun e w' => ∃ v0_ : Value, e = .returned (.tuple #[v0_, .bool r2]) ∧ Kd.R (Kd.int .u8) 5 w' w.heap.size (fun _ => True) v0_ r1 ∧ Below w.heap.size w w' := by
 unfold spec_l04Open.f at h
 have HR2 := Aside0.mk hr2
 have HR3 := Aside0.mk hr3
 have HC2 := Aside0.mk hc2
 have HC3 := Aside0.mk hc3
 clear hr2 hr3 hc2
 by_cases hs : l3.length < 16
 · rw [if_pos hs] at h
   obtain ⟨rfl, rfl⟩ : ([] : List Int) = r1 ∧ false = r2 := by simpa using h
   obtain ⟨z, hz⟩ : ∃ z : Int, wrap64 ((l3.length : Int) - 16) = z := ⟨_, rfl⟩
   have hz0 : z < 0 := by rw [← hz]; unfold wrap64; omega
   have d1 : decide (z < 0) = true := decide_eq_true hz0
   clear h hs hz0 hc3
   go_enter Try.func51, Try.ntmps51
   go_wp2
   go_ret2
   exact ⟨_, rfl, Kd.R_of_own (xs := ([] : List Int)) (ow_empty w 5) (fun _ _ => trivial), below_alloc (Below.refl _ _) _⟩
 rw [if_neg hs] at h
 by_cases hs2 : 2000000 < l3.length
 · rw [if_pos hs2] at h
   cases h
 rw [if_neg hs2] at h
 obtain ⟨⟨k1, k2⟩, h1, h⟩ := Option.bind_eq_some_iff.mp h
 obtain ⟨g, h2, h⟩ := Option.bind_eq_some_iff.mp h
 obtain ⟨q, hq⟩ : ∃ q : Nat, q = l3.length - 16 := ⟨_, rfl⟩
 rw [← hq] at h h2
 have HQ : Aside0 (q + 16 = l3.length) := ⟨by omega⟩
 obtain ⟨x, hx⟩ : ∃ x, x = l3.take q := ⟨_, rfl⟩
 obtain ⟨y, hy⟩ : ∃ y, y = l3.drop q := ⟨_, rfl⟩
 rw [← hx, ← hy] at h
 rw [← hx] at h2
 have H1 := Aside0.mk h1
 have H2 : Aside0 (spec_l04Tag.f k2 a1 l2 x = some g) := ⟨h2⟩
 have HXS : Aside0 (x.length = q) := ⟨by rw [hx, List.length_take]; omega⟩
 have HYS : Aside0 (y.length = 16) := ⟨by rw [hy, List.length_drop]; omega⟩
 have HXE := Aside0.mk hx
 have HYE := Aside0.mk hy
 have hqw : wrap64 ((l3.length : Int) - 16) = (q : Int) := by unfold wrap64; omega
 have HQW := Aside0.mk hqw
 have q0 : (0 : Int) ≤ (q : Int) := Int.natCast_nonneg q
 have qn : decide ((q : Int) < 0) = false := decide_eq_false (by clear hqw; omega)
 have q1 : (q : Int) ≤ (l3.length : Int) := by clear hqw; omega
 have q2 : (q : Int) ≤ (c3 : Int) := by clear hqw; omega
 have H := Aside0.mk h
 have HQ1 : Aside0 (q ≤ l3.length) := ⟨by clear hqw; omega⟩
 clear hs hs2 hq h1 h2 hx hy h hc3
 go_enter Try.func51, Try.ntmps51
 go_wp2_with fail
 refine (spec_l04Keys.calls a0 k1 k2 _ H1.out).mono ?_
 rintro e1 w1 ⟨rfl, hb1⟩
 have HB1 := Aside0.mk hb1
 have HCT := Aside0.mk (Kd.C_below (Kd.C_below HR2.out hb1) (below_drew (Below.refl w1.heap.size w1)))
 have HCX : Aside0 (Kd.C (Kd.int .u8) w1.drew A3 x.length x) := ⟨by rw [HXE.out]; exact Kd.C_take (Kd.C_below (Kd.C_below HR3.out hb1) (below_drew (Below.refl w1.heap.size w1))) HQ1.out⟩
 obtain ⟨A4, hA4⟩ : ∃ A, (if c3 = q then A3 else Option.map (fun x => x.add q) A3) = A := ⟨_, rfl⟩
 have hl4 : l3.length - q = 16 := by clear hqw; have := HQ.out; omega
 have HCY : Aside0 (Kd.C (Kd.int .u8) w1.drew A4 16 y) := ⟨by
   have h := Kd.C_drop (c := c3) (Kd.C_below (Kd.C_below HR3.out hb1) (below_drew (Below.refl w1.heap.size w1))) HQ1.out HC3.out
   rw [← HYE.out, HYS.out, show (fun x : Addr => x.add (q * (Kd.int IntKind.u8).sz)) = fun x => x.add q from funext fun x => by show x.add (q * 1) = _; rw [Nat.mul_one], hA4] at h
   exact h⟩
 have HKS : Aside0 (∀ w', Below w1.drew.heap.size w1.drew w' → (convert 22 9 (.slice A4 16 (c3 - q))).run Try.prog w' = .ok (.string (strOfNums y)) w') := ⟨fun w' h => Kd.C_string Try.underlying22 Try.underlying5 Try.underlying9 (Kd.C_below HCY.out h)⟩
 have HXL : Aside0 (x.length ≤ c3) := ⟨by have h1 := HXS.out; have h2 := HQ1.out; have h3 := HC3.out; omega⟩
 clear hb1
 go_upto_region 5 with (fail)
 refine start_ (n := 12) (S := fun w' => Below w1.drew.heap.size w1.drew w') (ds := []) #[false, false, false, false, false, false, false, false, false, false, false, false] (by kernel_rfl) rfl rfl (Below.refl _ _) (fun hHeld => ?_)
 refine with_tabW sopen_tab5 sopen_bits5 (fun HT_ HW_ => ?_)
 refine pure_ (i := 0) (N := some 24) (v := ?_) (a' := ?_) #[true, false, false, false, false, false, false, false, false, false, false, false] rfl rfl (any_of HT_.out (by kernel_rfl)) (fun _ _ _ h => h) (Or.inl ⟨by rfl, ?_⟩) ?_ ?_
 rotate_left
 · intro w'
   go_simp
   with_reducible rfl
 rotate_left
 · simp only [Act.put, sA_, s0_, s1_, i64_w, i32_w]
   rfl
 refine pure_ (i := 1) (N := some 25) (v := ?_) (a' := ?_) #[true, true, false, false, false, false, false, false, false, false, false, false] rfl rfl (any_of HT_.out (by kernel_rfl)) (fun _ _ _ h => h) (Or.inl ⟨by rfl, ?_⟩) ?_ ?_
 rotate_left
 · intro w'
   go_simp
   with_reducible rfl
 rotate_left
 · simp only [Act.put, sA_, s0_, s1_, i64_w, i32_w]
   rfl
 refine pure_ (i := 2) (N := some 26) (v := ?_) (a' := ?_) #[true, true, true, false, false, false, false, false, false, false, false, false] rfl rfl (any_of HT_.out (by kernel_rfl)) (fun _ _ _ h => h) (Or.inl ⟨by rfl, ?_⟩) ?_ ?_
 rotate_left
 · intro w'
   go_simp
   with_reducible rfl
 rotate_left
 · simp only [Act.put, sA_, s0_, s1_, i64_w, i32_w]
   rfl
 refine pure_ (i := 3) (N := some 27) (v := ?_) (a' := ?_) #[true, true, true, true, false, false, false, false, false, false, false, false] rfl rfl (any_of HT_.out (by kernel_rfl)) (fun _ _ _ h => h) (Or.inl ⟨by rfl, ?_⟩) ?_ ?_
 rotate_left
 · intro w'
   go_simp
   with_reducible rfl
 rotate_left
 · simp only [Act.put, sA_, s0_, s1_, i64_w, i32_w]
   rfl
 refine pure_ (i := 4) (N := some 28) (v := ?_) (a' := ?_) #[true, true, true, true, true, false, false, false, false, false, false, false] rfl rfl (any_of HT_.out (by kernel_rfl)) (fun _ _ _ h => h) (Or.inl ⟨by rfl, ?_⟩) ?_ ?_
 rotate_left
 · intro w'
   go_simp
   with_reducible rfl
 rotate_left
 · simp only [Act.put, sA_, s0_, s1_, i64_w, i32_w]
   rfl
 refine pure_ (i := 5) (N := some 29) (v := ?_) (a' := ?_) #[true, true, true, true, true, true, false, false, false, false, false, false] rfl rfl (any_of HT_.out (by kernel_rfl)) (fun _ _ _ h => h) (Or.inl ⟨by rfl, ?_⟩) ?_ ?_
 rotate_left
 · intro w'
   go_simp
   with_reducible rfl
 rotate_left
 · simp only [Act.put, sA_, s0_, s1_, i64_w, i32_w]
   rfl
 refine pure_ (i := 7) (N := some 31) (v := ?_) (a' := ?_) #[true, true, true, true, true, true, false, true, false, false, false, false] rfl rfl (any_of HT_.out (by kernel_rfl)) (fun _ _ _ h => h) (Or.inl ⟨by rfl, ?_⟩) ?_ ?_
 rotate_left
 · intro w'
   go_simp
   with_reducible rfl
 rotate_left
 · simp only [Act.put, sA_, s0_, s1_, i64_w, i32_w]
   rfl
 refine pure_ (i := 8) (N := some 32) (v := ?_) (a' := ?_) #[true, true, true, true, true, true, false, true, true, false, false, false] rfl rfl (any_of HT_.out (by kernel_rfl)) (fun _ _ _ h => h) (Or.inl ⟨by rfl, ?_⟩) ?_ ?_
 rotate_left
 · intro w'
   go_simp
   with_reducible rfl
 rotate_left
 · simp only [Act.put, sA_, s0_, s1_, i64_w, i32_w]
   rfl
 refine pure_ (i := 9) (N := some 33) (v := ?_) (a' := ?_) #[true, true, true, true, true, true, false, true, true, true, false, false] rfl rfl (any_of HT_.out (by kernel_rfl)) (fun _ _ _ h => h) (Or.inl ⟨by rfl, ?_⟩) ?_ ?_
 rotate_left
 · intro w'
   go_simp
   with_reducible rfl
 rotate_left
 · simp only [Act.put, sA_, s0_, s1_, i64_w, i32_w]
   rfl
 refine take_ (i := 10) (N := some 34) (v := ?_) (a' := ?_) #[true, true, true, true, true, true, false, true, true, true, true, false] rfl rfl (take_ofW HT_.out HW_.out (by kernel_rfl)) (fun _ _ _ h => h) (Or.inl ⟨by rfl, ?_⟩) hHeld ?_ ?_
 rotate_left
 · rintro w' s0
   have ks := HKS.out _ s0
   go_simp
   with_reducible rfl
 rotate_left
 · simp only [Act.put, sA_, s0_, s1_, i64_w, i32_w]
   rfl
 refine one_ (i := 6) (N := some 30) #[true, true, true, true, true, true, true, true, true, true, true, false] rfl rfl (one_of HT_.out (by kernel_rfl)) (by decide) (fun K hK => ?_)
 go_simp
 have htag := spec_l04Tag.calls k2 a1 A2 c2 l2 A3 c3 x g _ (Kd.C_below HCT.out hHeld) HC2.out (Kd.C_below HCX.out hHeld) HXL.out H2.out
 rw [HXS.out] at htag
 with_reducible refine htag.mono ?_
 clear htag
 rintro e2 w2 ⟨rfl, hb2⟩
 refine hK.out _ _ (below_then hHeld hHeld.size hb2) (fun hHeld => ?_)
 clear hK K
 refine pure_ (i := 11) (N := some 35) (v := ?_) (a' := ?_) #[true, true, true, true, true, true, true, true, true, true, true, true] rfl rfl (any_of HT_.out (by kernel_rfl)) (fun _ _ _ h => h) (Or.inl ⟨by rfl, ?_⟩) ?_ ?_
 rotate_left
 · intro w'
   go_simp
   with_reducible rfl
 rotate_left
 · simp only [Act.put, sA_, s0_, s1_, i64_w, i32_w]
   rfl
 refine done_ (done_of HT_.out (by kernel_rfl)) ?_
 have HB2 : Aside0 (Below w.heap.size w w2) := ⟨(below_drew1 HB1.out).trans (hHeld.mono (below_drew1 HB1.out).size)⟩
 have HCX2 : Aside0 (Kd.C (Kd.int .u8) w2 A3 x.length x) := ⟨Kd.C_below HCX.out hHeld⟩
 have H := H.out
 clear hA4 hl4 hHeld
 by_cases hc : g.toList = (strOfNums y).toList
 · rw [if_pos hc] at H
   obtain ⟨e, h3, H⟩ := Option.bind_eq_some_iff.mp H
   obtain ⟨rfl, rfl⟩ : e = r1 ∧ true = r2 := by simpa using H
   have H3 : Aside0 (spec_l02Ctr.f 300000 k1 a1 x = some e) := ⟨h3⟩
   have hcb : (!g.toList == (strOfNums y).toList) = false := by simp [hc]
   rw [hcb]
   clear H h3 hc hcb
   go_wp2_with fail
   have hctr := spec_l02Ctr.calls 300000 k1 a1 A3 c3 x e w2 HCX2.out HXL.out H3.out
   rw [HXS.out] at hctr
   refine hctr.mono ?_
   clear hctr
   rintro e2 w3 ⟨v, rfl, hR, hb3⟩
   have HB3 := Aside0.mk (HB2.out.trans (hb3.mono HB2.out.size))
   have HR := Aside0.mk (Kd.R_lower hR HB2.out.size)
   clear hR hb3
   go_wp2
   go_ret2
   exact ⟨_, rfl, HR.out, HB3.out⟩
 · rw [if_neg hc] at H
   obtain ⟨rfl, rfl⟩ : ([] : List Int) = r1 ∧ false = r2 := by simpa using H
   have hcb : (!g.toList == (strOfNums y).toList) = true := by simp [hc]
   rw [hcb]
   clear H hc hcb
   go_wp2
   go_ret2
   exact ⟨_, rfl, Kd.R_lower (Kd.R_of_own (xs := ([] : List Int)) (ow_empty w2 5) (fun _ _ => trivial)) HB2.out.size, below_alloc HB2.out _⟩
def spec_OpenBytes.j0 : Nat → ByteArray → ByteArray → List Int → List Int → Bool → Option (List Int × Int)
 | 0, _, _, _, _, _ => none
 | k + 1, x0, x1, x2, x3, x30 => if x30 = true then (some ((([] : List Int)), 2)) else ((spec_l04Code.f k x0 x1 x2 x3 0).bind fun t269 => (if t269 = 0 then (if (x3.length : Int) < 16 then (some ((([] : List Int)), 3)) else ((spec_l04Open.f x0 x1 x2 x3).bind fun bt276 => (if bt276.2 = true then (some (bt276.1, 0)) else (some ((([] : List Int)), 10))))) else (some ((([] : List Int)), t269))))
def spec_OpenBytes.f (k : Nat) (a0 : ByteArray) (a1 : ByteArray) (l2 : List Int) (l3 : List Int) : Option (List Int × Int) := if (a0.size : Int) > 65536 then (spec_OpenBytes.j0 k a0 a1 l2 l3 true) else (if (a1.size : Int) > 65536 then (spec_OpenBytes.j0 k a0 a1 l2 l3 true) else (if (l2.length : Int) > 65536 then (spec_OpenBytes.j0 k a0 a1 l2 l3 true) else (spec_OpenBytes.j0 k a0 a1 l2 l3 (decide ((l3.length : Int) > 65536)))))
set_option maxHeartbeats 8000000 in
set_option maxRecDepth 100000 in
theorem spec_OpenBytes.calls (k : Nat) (a0 : ByteArray) (a1 : ByteArray) (A2 : Option Addr) (c2 : Nat) (l2 : List Int) (A3 : Option Addr) (c3 : Nat) (l3 : List Int) (r1 : List Int) (r2 : Int) (w : World) (hr2 : Kd.C (Kd.int .u8) w A2 l2.length l2) (hc2 : l2.length ≤ c2) (hr3 : Kd.C (Kd.int .u8) w A3 l3.length l3) (hc3 : l3.length ≤ c3) (h : spec_OpenBytes.f k a0 a1 l2 l3 = some (r1, r2)) :
   Calls Try.prog 20 #[.string a0, .string a1, .slice A2 l2.length c2, .slice A3 l3.length c3] w fun e w' => ∃ v0_ : Value, e = .returned (.tuple #[v0_, .int .i64 r2]) ∧ Kd.R (Kd.int .u8) 5 w' w.heap.size (fun _ => True) v0_ r1 ∧ Below w.heap.size w w' := by
 have HR2 := Aside0.mk hr2
 have HC2 := Aside0.mk hc2
 clear hr2 hc2
 have HR3 := Aside0.mk hr3
 have HC3 := Aside0.mk hc3
 clear hr3 hc3
 have HB := Aside0.mk (Below.refl w.heap.size w)
 have H : (if (a0.size : Int) > 65536 then (spec_OpenBytes.j0 k a0 a1 l2 l3 true) else (if (a1.size : Int) > 65536 then (spec_OpenBytes.j0 k a0 a1 l2 l3 true) else (if (l2.length : Int) > 65536 then (spec_OpenBytes.j0 k a0 a1 l2 l3 true) else (spec_OpenBytes.j0 k a0 a1 l2 l3 (decide ((l3.length : Int) > 65536)))))) = some (r1, r2) := h
 clear h
 have HC5 := Aside0.mk H
 clear H
 go_enter Try.func20, Try.ntmps20
 go_upto_region 1 with (fail)
 go_cut [30] (fun v30 wc => ∃ (kq : Nat) (x30_4 : Bool), v30 = .bool x30_4 ∧ Aside0 (spec_OpenBytes.j0 kq a0 a1 l2 l3 x30_4 = some (r1, r2)) ∧ Aside0 (kq ≤ k) ∧ Aside0 (Below w.heap.size w wc))
 case first =>
   have H := HC5.out
   clear HC5
   by_cases c6 : (a0.size : Int) > 65536
   · rw [if_pos c6] at H
     have c6b0 : decide (65536 < (a0.size : Int)) = true := decide_eq_true c6
     have c6b1 : decide (65536 < a0.size) = true := decide_eq_true (by omega)
     clear c6
     (first | rw [c6b0] | (simp only [i64_w, i32_w]; rw [c6b0]) | skip)
     have H' := Aside0.mk H
     clear H
     go_wp2
     go_meet
     case rel => exact ⟨_, (true), (by first | rfl | (simp; done) | (simp [*]; done)), H', ⟨by first | omega | exact Nat.le_refl _⟩, ⟨by repeat (first | (with_reducible first | exact HB.out | apply below_alloc | apply pw_below_drewN | apply below_drew1) | exact HB.out)⟩⟩
   · rw [if_neg c6] at H
     have c6b0 : decide (65536 < (a0.size : Int)) = false := decide_eq_false c6
     have c6b1 : decide (65536 < a0.size) = false := decide_eq_false (by omega)
     clear c6
     (first | rw [c6b0] | (simp only [i64_w, i32_w]; rw [c6b0]) | skip)
     by_cases c7 : (a1.size : Int) > 65536
     · rw [if_pos c7] at H
       have c7b0 : decide (65536 < (a1.size : Int)) = true := decide_eq_true c7
       have c7b1 : decide (65536 < a1.size) = true := decide_eq_true (by omega)
       clear c7
       have H' := Aside0.mk H
       clear H
       go_wp2
       go_meet
       case rel => exact ⟨_, (true), (by first | rfl | (simp; done) | (simp [*]; done)), H', ⟨by first | omega | exact Nat.le_refl _⟩, ⟨by repeat (first | (with_reducible first | exact HB.out | apply below_alloc | apply pw_below_drewN | apply below_drew1) | exact HB.out)⟩⟩
     · rw [if_neg c7] at H
       have c7b0 : decide (65536 < (a1.size : Int)) = false := decide_eq_false c7
       have c7b1 : decide (65536 < a1.size) = false := decide_eq_false (by omega)
       clear c7
       by_cases c8 : (l2.length : Int) > 65536
       · rw [if_pos c8] at H
         have c8b0 : decide (65536 < (l2.length : Int)) = true := decide_eq_true c8
         have c8b1 : decide (65536 < l2.length) = true := decide_eq_true (by omega)
         clear c8
         have H' := Aside0.mk H
         clear H
         go_wp2
         go_meet
         case rel => exact ⟨_, (true), (by first | rfl | (simp; done) | (simp [*]; done)), H', ⟨by first | omega | exact Nat.le_refl _⟩, ⟨by repeat (first | (with_reducible first | exact HB.out | apply below_alloc | apply pw_below_drewN | apply below_drew1) | exact HB.out)⟩⟩
       · rw [if_neg c8] at H
         have c8b0 : decide (65536 < (l2.length : Int)) = false := decide_eq_false c8
         have c8b1 : decide (65536 < l2.length) = false := decide_eq_false (by omega)
         clear c8
         have H' := Aside0.mk H
         clear H
         go_wp2
         go_meet
         case rel => exact ⟨_, (decide ((l3.length : Int) > 65536)), (by first | rfl | (simp; done) | (simp [*]; done)), H', ⟨by first | omega | exact Nat.le_refl _⟩, ⟨by repeat (first | (with_reducible first | exact HB.out | apply below_alloc | apply pw_below_drewN | apply below_drew1) | exact HB.out)⟩⟩
 case rest =>
   clear HC5
   try clear c2
   try clear p2
   try clear c3
   try clear c6
   try clear c6b0
   try clear c6b1
   try clear c7
   try clear c7b0
   try clear c7b1
   try clear c8
   try clear c8b0
   try clear c8b1
   obtain ⟨kq, x30_4, rfl, HA, HJ4, HB⟩ := hcut
   cases kq with
   | zero => exact absurd HA.out (by simp [spec_OpenBytes.j0])
   | succ kj4 =>
     have H := HA.out
     clear HA
     simp only [spec_OpenBytes.j0] at H
     by_cases c9 : x30_4 = true
     · subst c9
       have H1 : (some ((([] : List Int)), 2)) = some (r1, r2) := by rw [if_pos rfl] at H; exact H
       clear H
       have H := H1
       clear H1
       obtain ⟨y266, hy266⟩ : ∃ y_ : List Int, y_ = (([] : List Int)) := ⟨_, rfl⟩
       replace H : (some (y266, 2)) = some (r1, r2) := by first | (rw [hy266]; with_reducible exact H) | (have H2_ := (Option.bind_some _ _).symm.trans H; rw [hy266]; with_reducible exact H2_) | (have H2_ := (Option.bind_some _ _).symm.trans H; with_reducible exact H2_) | with_reducible exact H | (rw [hy266]; exact H) | exact H
       have Ny266 := Aside0.mk hy266
       clear hy266
       simp only [Option.some.injEq, Prod.mk.injEq] at H
       obtain ⟨rfl, rfl⟩ := H
       go_wp2_with (first | ((with_reducible refine gate_dst (N := 31) rfl ?_); (try (refine gate_guard (by rfl) ?_; dsimp only)); refine Kd.R_lit (Kd.int .u8) _ 5 ?hg (N := 31) ?hd (xs := ([] : List Int)) (inner := []) (ok := fun _ => True) (okp := fun _ => True) ?hr ?hp (fun _ hk => hk) trivial (Below.refl _ _) (Nat.le_refl _) (by simp) ?_; (case hd => rfl); (case hg => rfl); (case hr => first | (go_simp; done) | (go_simp; rfl)); (case hp => exact (Reps.none _ _)); intro v267 w10 ho11 hb hg_ hnew_; clear hg_ hnew_; (first | rw [← Ny266.out] at ho11 | (simp only [Int.reduceToNat] at ho11; rw [← Ny266.out] at ho11)); have n0_ := Aside0.mk (Kd.R_lower ho11 (below_size (by repeat (first | (with_reducible first | exact HB.out | apply below_alloc | apply pw_below_drewN | apply below_drew1) | exact HB.out)))); have n1_ := Aside0.mk (below_step (by repeat (first | (with_reducible first | exact HB.out | apply below_alloc | apply pw_below_drewN | apply below_drew1) | exact HB.out)) hb); clear HB; have HO268 := n0_; have HB := n1_; clear n0_ n1_; clear hb ho11))
       go_ret2
       exact ⟨_, by first | rfl | (simp [errW_none, errW_some] <;> rfl) | (simp [*, errW_none, errW_some] <;> rfl), by (with_reducible repeat (first | apply Kd.R_alloc | apply Kd.R_drewN | apply Kd.R_drew)); exact HO268.out, by repeat (first | (with_reducible first | exact HB.out | apply below_alloc | apply pw_below_drewN | apply below_drew1) | exact HB.out)⟩
     · replace c9 := Bool.eq_false_iff.mpr c9
       subst c9
       have H1 : ((spec_l04Code.f kj4 a0 a1 l2 l3 0).bind fun t269 => (if t269 = 0 then (if (l3.length : Int) < 16 then (some ((([] : List Int)), 3)) else ((spec_l04Open.f a0 a1 l2 l3).bind fun bt276 => (if bt276.2 = true then (some (bt276.1, 0)) else (some ((([] : List Int)), 10))))) else (some ((([] : List Int)), t269)))) = some (r1, r2) := by rw [if_neg (show ¬ (false = true) by decide)] at H; exact H
       clear H
       have H := H1
       clear H1
       replace H := Option.bind_eq_some_iff.mp H
       obtain ⟨t269, A120, H⟩ := H
       replace H : (if t269 = 0 then (if (l3.length : Int) < 16 then (some ((([] : List Int)), 3)) else ((spec_l04Open.f a0 a1 l2 l3).bind fun bt276 => (if bt276.2 = true then (some (bt276.1, 0)) else (some ((([] : List Int)), 10))))) else (some ((([] : List Int)), t269))) = some (r1, r2) := H
       have A12 := Aside0.mk A120
       clear A120
       by_cases c13 : t269 = 0
       · rw [if_pos c13] at H
         have c13b0 : (t269 == 0) = true := beq_iff_eq.mpr c13
         have c13b1 : (t269 != 0) = false := bne_eq_false_iff_eq.mpr c13
         clear c13
         by_cases c14 : (l3.length : Int) < 16
         · rw [if_pos c14] at H
           have c14b0 : decide ((l3.length : Int) < 16) = true := decide_eq_true c14
           have c14b1 : decide (l3.length < 16) = true := decide_eq_true (by omega)
           clear c14
           obtain ⟨y273, hy273⟩ : ∃ y_ : List Int, y_ = (([] : List Int)) := ⟨_, rfl⟩
           replace H : (some (y273, 3)) = some (r1, r2) := by first | (rw [hy273]; with_reducible exact H) | (have H2_ := (Option.bind_some _ _).symm.trans H; rw [hy273]; with_reducible exact H2_) | (have H2_ := (Option.bind_some _ _).symm.trans H; with_reducible exact H2_) | with_reducible exact H | (rw [hy273]; exact H) | exact H
           have Ny273 := Aside0.mk hy273
           clear hy273
           simp only [Option.some.injEq, Prod.mk.injEq] at H
           obtain ⟨rfl, rfl⟩ := H
           go_wp2_with (first | ((with_reducible refine gate_callee (f := 46) rfl ?_); refine goesL_ (some 36) rfl rfl Try.func46 (by kernel_rfl) rfl #[.string a0, .string a1, .slice A2 l2.length c2, .slice A3 l3.length c3, .int .i64 0] rfl (by (try simp only [List.map_toArray, List.map_cons, List.map_nil]); first | done | rfl | (simp only [List.length_drop, List.length_take]; rfl)) ?_; (with_reducible refine (spec_l04Code.calls kj4 a0 a1 _ _ l2 _ _ l3 0 t269 _ ?side1 ?side2 ?side3 ?side4 A12.out).mono ?_); (case side1 => repeat (first | exact (Kd.C_below HR2.out HB.out) | (with_reducible refine Kd.C_alloc ?_ _) | (with_reducible refine Kd.C_drewN ?_ _) | (with_reducible refine Kd.C_drew ?_))); (case side2 => exact HC2.out); (case side3 => repeat (first | exact (Kd.C_below HR3.out HB.out) | (with_reducible refine Kd.C_alloc ?_ _) | (with_reducible refine Kd.C_drewN ?_ _) | (with_reducible refine Kd.C_drew ?_))); (case side4 => exact HC3.out); rintro e w' ⟨rfl, ⟨nd, rfl⟩⟩; refine ⟨_, rfl, ?_⟩) | ((with_reducible refine gate_dst (N := 44) rfl ?_); (try (refine gate_guard (by rfl) ?_; dsimp only)); refine Kd.R_lit (Kd.int .u8) _ 5 ?hg (N := 44) ?hd (xs := ([] : List Int)) (inner := []) (ok := fun _ => True) (okp := fun _ => True) ?hr ?hp (fun _ hk => hk) trivial (Below.refl _ _) (Nat.le_refl _) (by simp) ?_; (case hd => rfl); (case hg => rfl); (case hr => first | (go_simp; done) | (go_simp; rfl)); (case hp => exact (Reps.none _ _)); intro v274 w15 ho16 hb hg_ hnew_; clear hg_ hnew_; (first | rw [← Ny273.out] at ho16 | (simp only [Int.reduceToNat] at ho16; rw [← Ny273.out] at ho16)); have n0_ := Aside0.mk (Kd.R_lower ho16 (below_size (by repeat (first | (with_reducible first | exact HB.out | apply below_alloc | apply pw_below_drewN | apply below_drew1) | exact HB.out)))); have n1_ := Aside0.mk (below_step (by repeat (first | (with_reducible first | exact HB.out | apply below_alloc | apply pw_below_drewN | apply below_drew1) | exact HB.out)) hb); clear HB; have HO275 := n0_; have HB := n1_; clear n0_ n1_; clear hb ho16))
           go_ret2
           exact ⟨_, by first | rfl | (simp [errW_none, errW_some] <;> rfl) | (simp [*, errW_none, errW_some] <;> rfl), by (with_reducible repeat (first | apply Kd.R_alloc | apply Kd.R_drewN | apply Kd.R_drew)); exact HO275.out, by repeat (first | (with_reducible first | exact HB.out | apply below_alloc | apply pw_below_drewN | apply below_drew1) | exact HB.out)⟩
         · rw [if_neg c14] at H
           have c14b0 : decide ((l3.length : Int) < 16) = false := decide_eq_false c14
           have c14b1 : decide (l3.length < 16) = false := decide_eq_false (by omega)
           clear c14
           replace H := Option.bind_eq_some_iff.mp H
           obtain ⟨⟨t276, t277⟩, A170, H⟩ := H
           replace H : (if t277 = true then (some (t276, 0)) else (some ((([] : List Int)), 10))) = some (r1, r2) := H
           have A17 := Aside0.mk A170
           clear A170
           by_cases c18 : t277 = true
           · subst c18
             have H1 : (some (t276, 0)) = some (r1, r2) := by rw [if_pos rfl] at H; exact H
             clear H
             have H := H1
             clear H1
             simp only [Option.some.injEq, Prod.mk.injEq] at H
             obtain ⟨rfl, rfl⟩ := H
             go_wp2_with (first | ((with_reducible refine gate_callee (f := 46) rfl ?_); refine goesL_ (some 36) rfl rfl Try.func46 (by kernel_rfl) rfl #[.string a0, .string a1, .slice A2 l2.length c2, .slice A3 l3.length c3, .int .i64 0] rfl (by (try simp only [List.map_toArray, List.map_cons, List.map_nil]); first | done | rfl | (simp only [List.length_drop, List.length_take]; rfl)) ?_; (with_reducible refine (spec_l04Code.calls kj4 a0 a1 _ _ l2 _ _ l3 0 t269 _ ?side1 ?side2 ?side3 ?side4 A12.out).mono ?_); (case side1 => repeat (first | exact (Kd.C_below HR2.out HB.out) | (with_reducible refine Kd.C_alloc ?_ _) | (with_reducible refine Kd.C_drewN ?_ _) | (with_reducible refine Kd.C_drew ?_))); (case side2 => exact HC2.out); (case side3 => repeat (first | exact (Kd.C_below HR3.out HB.out) | (with_reducible refine Kd.C_alloc ?_ _) | (with_reducible refine Kd.C_drewN ?_ _) | (with_reducible refine Kd.C_drew ?_))); (case side4 => exact HC3.out); rintro e w' ⟨rfl, ⟨nd, rfl⟩⟩; refine ⟨_, rfl, ?_⟩) | ((with_reducible refine gate_callee (f := 51) rfl ?_); refine goesL_ (some 50) rfl rfl Try.func51 (by kernel_rfl) rfl #[.string a0, .string a1, .slice A2 l2.length c2, .slice A3 l3.length c3] rfl (by (try simp only [List.map_toArray, List.map_cons, List.map_nil]); first | done | rfl | (simp only [List.length_drop, List.length_take]; rfl)) ?_; (with_reducible refine (spec_l04Open.calls a0 a1 _ _ l2 _ _ l3 t276 true _ ?side1 ?side2 ?side3 ?side4 A17.out).mono ?_); (case side1 => repeat (first | exact (Kd.C_below HR2.out (by repeat (first | (with_reducible first | exact HB.out | apply below_alloc | apply pw_below_drewN | apply below_drew1) | exact HB.out))) | (with_reducible refine Kd.C_alloc ?_ _) | (with_reducible refine Kd.C_drewN ?_ _) | (with_reducible refine Kd.C_drew ?_))); (case side2 => exact HC2.out); (case side3 => repeat (first | exact (Kd.C_below HR3.out (by repeat (first | (with_reducible first | exact HB.out | apply below_alloc | apply pw_below_drewN | apply below_drew1) | exact HB.out))) | (with_reducible refine Kd.C_alloc ?_ _) | (with_reducible refine Kd.C_drewN ?_ _) | (with_reducible refine Kd.C_drew ?_))); (case side4 => exact HC3.out); rintro e w19 ⟨v278, rfl, ho0, hb⟩; refine ⟨_, rfl, ?_⟩; have n0_ := Aside0.mk (Kd.R_lower ho0 (below_size (by repeat (first | (with_reducible first | exact HB.out | apply below_alloc | apply pw_below_drewN | apply below_drew1) | exact HB.out)))); have n1_ := Aside0.mk (below_step (by repeat (first | (with_reducible first | exact HB.out | apply below_alloc | apply pw_below_drewN | apply below_drew1) | exact HB.out)) hb); clear HB; have HO279 := n0_; have HB := n1_; clear n0_ n1_; (try clear hb); (try clear hb2); (try clear hk); (try clear hi); (try clear ho0)))
             go_ret2
             exact ⟨_, by first | rfl | (simp [errW_none, errW_some] <;> rfl) | (simp [*, errW_none, errW_some] <;> rfl), by (with_reducible repeat (first | apply Kd.R_alloc | apply Kd.R_drewN | apply Kd.R_drew)); exact HO279.out, by repeat (first | (with_reducible first | exact HB.out | apply below_alloc | apply pw_below_drewN | apply below_drew1) | exact HB.out)⟩
           · replace c18 := Bool.eq_false_iff.mpr c18
             subst c18
             have H1 : (some ((([] : List Int)), 10)) = some (r1, r2) := by rw [if_neg (show ¬ (false = true) by decide)] at H; exact H
             clear H
             have H := H1
             clear H1
             obtain ⟨y280, hy280⟩ : ∃ y_ : List Int, y_ = (([] : List Int)) := ⟨_, rfl⟩
             replace H : (some (y280, 10)) = some (r1, r2) := by first | (rw [hy280]; with_reducible exact H) | (have H2_ := (Option.bind_some _ _).symm.trans H; rw [hy280]; with_reducible exact H2_) | (have H2_ := (Option.bind_some _ _).symm.trans H; with_reducible exact H2_) | with_reducible exact H | (rw [hy280]; exact H) | exact H
             have Ny280 := Aside0.mk hy280
             clear hy280
             simp only [Option.some.injEq, Prod.mk.injEq] at H
             obtain ⟨rfl, rfl⟩ := H
             go_wp2_with (first | ((with_reducible refine gate_callee (f := 46) rfl ?_); refine goesL_ (some 36) rfl rfl Try.func46 (by kernel_rfl) rfl #[.string a0, .string a1, .slice A2 l2.length c2, .slice A3 l3.length c3, .int .i64 0] rfl (by (try simp only [List.map_toArray, List.map_cons, List.map_nil]); first | done | rfl | (simp only [List.length_drop, List.length_take]; rfl)) ?_; (with_reducible refine (spec_l04Code.calls kj4 a0 a1 _ _ l2 _ _ l3 0 t269 _ ?side1 ?side2 ?side3 ?side4 A12.out).mono ?_); (case side1 => repeat (first | exact (Kd.C_below HR2.out HB.out) | (with_reducible refine Kd.C_alloc ?_ _) | (with_reducible refine Kd.C_drewN ?_ _) | (with_reducible refine Kd.C_drew ?_))); (case side2 => exact HC2.out); (case side3 => repeat (first | exact (Kd.C_below HR3.out HB.out) | (with_reducible refine Kd.C_alloc ?_ _) | (with_reducible refine Kd.C_drewN ?_ _) | (with_reducible refine Kd.C_drew ?_))); (case side4 => exact HC3.out); rintro e w' ⟨rfl, ⟨nd, rfl⟩⟩; refine ⟨_, rfl, ?_⟩) | ((with_reducible refine gate_callee (f := 51) rfl ?_); refine goesL_ (some 50) rfl rfl Try.func51 (by kernel_rfl) rfl #[.string a0, .string a1, .slice A2 l2.length c2, .slice A3 l3.length c3] rfl (by (try simp only [List.map_toArray, List.map_cons, List.map_nil]); first | done | rfl | (simp only [List.length_drop, List.length_take]; rfl)) ?_; (with_reducible refine (spec_l04Open.calls a0 a1 _ _ l2 _ _ l3 t276 false _ ?side1 ?side2 ?side3 ?side4 A17.out).mono ?_); (case side1 => repeat (first | exact (Kd.C_below HR2.out (by repeat (first | (with_reducible first | exact HB.out | apply below_alloc | apply pw_below_drewN | apply below_drew1) | exact HB.out))) | (with_reducible refine Kd.C_alloc ?_ _) | (with_reducible refine Kd.C_drewN ?_ _) | (with_reducible refine Kd.C_drew ?_))); (case side2 => exact HC2.out); (case side3 => repeat (first | exact (Kd.C_below HR3.out (by repeat (first | (with_reducible first | exact HB.out | apply below_alloc | apply pw_below_drewN | apply below_drew1) | exact HB.out))) | (with_reducible refine Kd.C_alloc ?_ _) | (with_reducible refine Kd.C_drewN ?_ _) | (with_reducible refine Kd.C_drew ?_))); (case side4 => exact HC3.out); rintro e w20 ⟨v278, rfl, ho0, hb⟩; refine ⟨_, rfl, ?_⟩; have n0_ := Aside0.mk (Kd.R_lower ho0 (below_size (by repeat (first | (with_reducible first | exact HB.out | apply below_alloc | apply pw_below_drewN | apply below_drew1) | exact HB.out)))); have n1_ := Aside0.mk (below_step (by repeat (first | (with_reducible first | exact HB.out | apply below_alloc | apply pw_below_drewN | apply below_drew1) | exact HB.out)) hb); clear HB; have HO279 := n0_; have HB := n1_; clear n0_ n1_; (try clear hb); (try clear hb2); (try clear hk); (try clear hi); (try clear ho0)) | ((with_reducible refine gate_dst (N := 55) rfl ?_); (try (refine gate_guard (by rfl) ?_; dsimp only)); refine Kd.R_lit (Kd.int .u8) _ 5 ?hg (N := 55) ?hd (xs := ([] : List Int)) (inner := []) (ok := fun _ => True) (okp := fun _ => True) ?hr ?hp (fun _ hk => hk) trivial (Below.refl _ _) (Nat.le_refl _) (by simp) ?_; (case hd => rfl); (case hg => rfl); (case hr => first | (go_simp; done) | (go_simp; rfl)); (case hp => exact (Reps.none _ _)); intro v281 w21 ho22 hb hg_ hnew_; clear hg_ hnew_; (first | rw [← Ny280.out] at ho22 | (simp only [Int.reduceToNat] at ho22; rw [← Ny280.out] at ho22)); have n0_ := Aside0.mk (Kd.R_elder' (by (with_reducible repeat (first | apply Kd.R_alloc | apply Kd.R_drewN | apply Kd.R_drew)); exact HO279.out) (Kd.R_base ho22) hb); have n1_ := Aside0.mk (Kd.R_lower (Kd.R_new' ho22 (Kd.R_lt (by (with_reducible repeat (first | apply Kd.R_alloc | apply Kd.R_drewN | apply Kd.R_drew)); exact HO279.out))) (below_size (by repeat (first | (with_reducible first | exact HB.out | apply below_alloc | apply pw_below_drewN | apply below_drew1) | exact HB.out)))); have n2_ := Aside0.mk (below_step (by repeat (first | (with_reducible first | exact HB.out | apply below_alloc | apply pw_below_drewN | apply below_drew1) | exact HB.out)) hb); clear HO279; clear HB; have HO279 := n0_; have HO282 := n1_; have HB := n2_; clear n0_ n1_ n2_; clear hb ho22))
             go_ret2
             exact ⟨_, by first | rfl | (simp [errW_none, errW_some] <;> rfl) | (simp [*, errW_none, errW_some] <;> rfl), by (with_reducible repeat (first | apply Kd.R_alloc | apply Kd.R_drewN | apply Kd.R_drew)); exact Kd.R_mono HO282.out (fun _ hk => trivial), by repeat (first | (with_reducible first | exact HB.out | apply below_alloc | apply pw_below_drewN | apply below_drew1) | exact HB.out)⟩
       · rw [if_neg c13] at H
         have c13b0 : (t269 == 0) = false := beq_eq_false_iff_ne.mpr c13
         have c13b1 : (t269 != 0) = true := bne_iff_ne.mpr c13
         obtain ⟨y270, hy270⟩ : ∃ y_ : List Int, y_ = (([] : List Int)) := ⟨_, rfl⟩
         replace H : (some (y270, t269)) = some (r1, r2) := by first | (rw [hy270]; with_reducible exact H) | (have H2_ := (Option.bind_some _ _).symm.trans H; rw [hy270]; with_reducible exact H2_) | (have H2_ := (Option.bind_some _ _).symm.trans H; with_reducible exact H2_) | with_reducible exact H | (rw [hy270]; exact H) | exact H
         have Ny270 := Aside0.mk hy270
         clear hy270
         simp only [Option.some.injEq, Prod.mk.injEq] at H
         obtain ⟨rfl, rfl⟩ := H
         go_wp2_with (first | ((with_reducible refine gate_callee (f := 46) rfl ?_); refine goesL_ (some 36) rfl rfl Try.func46 (by kernel_rfl) rfl #[.string a0, .string a1, .slice A2 l2.length c2, .slice A3 l3.length c3, .int .i64 0] rfl (by (try simp only [List.map_toArray, List.map_cons, List.map_nil]); first | done | rfl | (simp only [List.length_drop, List.length_take]; rfl)) ?_; (with_reducible refine (spec_l04Code.calls kj4 a0 a1 _ _ l2 _ _ l3 0 t269 _ ?side1 ?side2 ?side3 ?side4 A12.out).mono ?_); (case side1 => repeat (first | exact (Kd.C_below HR2.out HB.out) | (with_reducible refine Kd.C_alloc ?_ _) | (with_reducible refine Kd.C_drewN ?_ _) | (with_reducible refine Kd.C_drew ?_))); (case side2 => exact HC2.out); (case side3 => repeat (first | exact (Kd.C_below HR3.out HB.out) | (with_reducible refine Kd.C_alloc ?_ _) | (with_reducible refine Kd.C_drewN ?_ _) | (with_reducible refine Kd.C_drew ?_))); (case side4 => exact HC3.out); rintro e w' ⟨rfl, ⟨nd, rfl⟩⟩; refine ⟨_, rfl, ?_⟩) | ((with_reducible refine gate_dst (N := 39) rfl ?_); (try (refine gate_guard (by rfl) ?_; dsimp only)); refine Kd.R_lit (Kd.int .u8) _ 5 ?hg (N := 39) ?hd (xs := ([] : List Int)) (inner := []) (ok := fun _ => True) (okp := fun _ => True) ?hr ?hp (fun _ hk => hk) trivial (Below.refl _ _) (Nat.le_refl _) (by simp) ?_; (case hd => rfl); (case hg => rfl); (case hr => first | (go_simp; done) | (go_simp; rfl)); (case hp => exact (Reps.none _ _)); intro v271 w23 ho24 hb hg_ hnew_; clear hg_ hnew_; (first | rw [← Ny270.out] at ho24 | (simp only [Int.reduceToNat] at ho24; rw [← Ny270.out] at ho24)); have n0_ := Aside0.mk (Kd.R_lower ho24 (below_size (by repeat (first | (with_reducible first | exact HB.out | apply below_alloc | apply pw_below_drewN | apply below_drew1) | exact HB.out)))); have n1_ := Aside0.mk (below_step (by repeat (first | (with_reducible first | exact HB.out | apply below_alloc | apply pw_below_drewN | apply below_drew1) | exact HB.out)) hb); clear HB; have HO272 := n0_; have HB := n1_; clear n0_ n1_; clear hb ho24))
         go_ret2
         exact ⟨_, by first | rfl | (simp [errW_none, errW_some] <;> rfl) | (simp [*, errW_none, errW_some] <;> rfl), by (with_reducible repeat (first | apply Kd.R_alloc | apply Kd.R_drewN | apply Kd.R_drew)); exact HO272.out, by repeat (first | (with_reducible first | exact HB.out | apply below_alloc | apply pw_below_drewN | apply below_drew1) | exact HB.out)⟩
def impl_unseal.f (a0 a1 a2 a3 : ByteArray) : Option (ByteArray × Bool) :=
 if a3.size < 16 then some (⟨#[]⟩, false) else if 2000000 < a3.size then none else
 (impl_sealKeys.f 300000 a0).bind fun p => (impl_tag.f 300000 p.2 a1 a2 (a3.extract 0 (a3.size - 16))).bind fun g =>
   if g.toList = (a3.extract (a3.size - 16) a3.size).toList then
     (impl_ctr.f p.1 a1 (bytesL (a3.extract 0 (a3.size - 16)))).bind fun e => some (strOfNums e, true)
   else some (⟨#[]⟩, false)
def unseal_T5 : Bool × List (List Nat × List Nat) := (true, [([], []), ([], []), ([], []), ([], []), ([0, 1, 2, 3], [0, 1, 2, 3]), ([], []), ([], []), ([6], [6]), ([5, 7], [5, 7]), ([4, 8], [4, 8])])
def unseal_B5 : List Nat := [0, 0, 0, 0, 15, 0, 0, 64, 224, 511]
theorem unseal_tab5 : rtab .any (opsOf Try.f52 5) = unseal_T5 := by kernel_rfl
theorem unseal_bits5 : waitsOk unseal_T5.2 unseal_B5 = true := by kernel_rfl
set_option maxHeartbeats 8000000 in
set_option maxRecDepth 100000 in
theorem impl_unseal.calls (a0 a1 a2 a3 : ByteArray) (r1 : ByteArray) (r2 : Bool) (w : World) (h : impl_unseal.f a0 a1 a2 a3 = some (r1, r2)) :
   Calls Try.prog 52 #[.string a0, .string a1, .string a2, .string a3] w fun e w' => e = .returned (.tuple #[.string r1, .bool r2]) ∧ Below w.heap.size w w' := by
 unfold impl_unseal.f at h
 by_cases hs : a3.size < 16
 · rw [if_pos hs] at h
   obtain ⟨rfl, rfl⟩ : (⟨#[]⟩ : ByteArray) = r1 ∧ false = r2 := by simpa using h
   have d1 : decide ((a3.size : Int) < 16) = true := decide_eq_true (by omega)
   have d2 : decide (a3.size < 16) = true := decide_eq_true hs
   clear h hs
   go_enter Try.func52, Try.ntmps52
   go_wp2
   go_ret2
   exact ⟨rfl, Below.refl _ _⟩
 rw [if_neg hs] at h
 by_cases hs2 : 2000000 < a3.size
 · rw [if_pos hs2] at h
   cases h
 rw [if_neg hs2] at h
 obtain ⟨⟨k1, k2⟩, h1, h⟩ := Option.bind_eq_some_iff.mp h
 obtain ⟨g, h2, h⟩ := Option.bind_eq_some_iff.mp h
 have d1 : decide ((a3.size : Int) < 16) = false := decide_eq_false (by omega)
 have d2 : decide (a3.size < 16) = false := decide_eq_false hs
 obtain ⟨q, hq⟩ : ∃ q : Nat, q = a3.size - 16 := ⟨_, rfl⟩
 rw [← hq] at h h2
 have HQ : Aside0 (q + 16 = a3.size) := ⟨by omega⟩
 obtain ⟨x, hx⟩ : ∃ x, x = a3.extract 0 q := ⟨_, rfl⟩
 rw [← hx] at h h2
 have H1 := Aside0.mk h1
 have H2 : Aside0 (impl_tag.f 300000 k2 a1 a2 x = some g) := ⟨h2⟩
 have hqw : wrap64 ((a3.size : Int) - 16) = (q : Int) := by unfold wrap64; omega
 have HQW := Aside0.mk hqw
 have HX := Aside0.mk hx
 have q0 : (0 : Int) ≤ (q : Int) := Int.natCast_nonneg q
 have q1 : (q : Int) ≤ (a3.size : Int) := by clear hqw; omega
 have q2 : q ≤ a3.size := by clear hqw; omega
 have HXS : Aside0 (x.size = q) := ⟨by clear hqw; rw [hx, ByteArray.size_extract]; omega⟩
 have hxe : a3.extract 0 q = x := hx.symm
 obtain ⟨y, hy⟩ : ∃ y, y = a3.extract q a3.size := ⟨_, rfl⟩
 rw [← hy] at h
 have hye : a3.extract q a3.size = y := hy.symm
 have H := Aside0.mk h
 clear hs hs2 hq h1 h2 hx hy h
 go_enter Try.func52, Try.ntmps52
 go_wp2_with fail
 refine (impl_sealKeys.calls 300000 a0 k1 k2 _ H1.out).mono ?_
 rintro e1 w1 ⟨rfl, hb1⟩
 have HB1 := Aside0.mk hb1
 clear hb1
 go_upto_region 5 with (fail)
 clear hqw
 have hxs : x.size = q := HXS.out
 refine start_ (n := 10) (S := fun w' => True) (ds := []) #[false, false, false, false, false, false, false, false, false, false] (by kernel_rfl) rfl rfl trivial (fun hHeld => ?_)
 refine with_tabW unseal_tab5 unseal_bits5 (fun HT_ HW_ => ?_)
 refine pure_ (i := 0) (N := some 26) (v := ?_) (a' := ?_) #[true, false, false, false, false, false, false, false, false, false] rfl rfl (any_of HT_.out (by kernel_rfl)) (fun _ _ _ h => h) (Or.inl ⟨by rfl, ?_⟩) ?_ ?_
 rotate_left
 · intro w'
   go_simp
   with_reducible rfl
 rotate_left
 · simp only [Act.put, sA_, s0_, s1_, i64_w, i32_w]
   rfl
 refine pure_ (i := 1) (N := some 27) (v := ?_) (a' := ?_) #[true, true, false, false, false, false, false, false, false, false] rfl rfl (any_of HT_.out (by kernel_rfl)) (fun _ _ _ h => h) (Or.inl ⟨by rfl, ?_⟩) ?_ ?_
 rotate_left
 · intro w'
   go_simp
   with_reducible rfl
 rotate_left
 · simp only [Act.put, sA_, s0_, s1_, i64_w, i32_w]
   rfl
 refine pure_ (i := 2) (N := some 28) (v := ?_) (a' := ?_) #[true, true, true, false, false, false, false, false, false, false] rfl rfl (any_of HT_.out (by kernel_rfl)) (fun _ _ _ h => h) (Or.inl ⟨by rfl, ?_⟩) ?_ ?_
 rotate_left
 · intro w'
   go_simp
   with_reducible rfl
 rotate_left
 · simp only [Act.put, sA_, s0_, s1_, i64_w, i32_w]
   rfl
 refine pure_ (i := 3) (N := some 29) (v := ?_) (a' := ?_) #[true, true, true, true, false, false, false, false, false, false] rfl rfl (any_of HT_.out (by kernel_rfl)) (fun _ _ _ h => h) (Or.inl ⟨by rfl, ?_⟩) ?_ ?_
 rotate_left
 · intro w'
   go_simp
   with_reducible rfl
 rotate_left
 · simp only [Act.put, sA_, s0_, s1_, i64_w, i32_w]
   rfl
 refine pure_ (i := 5) (N := some 31) (v := ?_) (a' := ?_) #[true, true, true, true, false, true, false, false, false, false] rfl rfl (any_of HT_.out (by kernel_rfl)) (fun _ _ _ h => h) (Or.inl ⟨by rfl, ?_⟩) ?_ ?_
 rotate_left
 · intro w'
   go_simp
   with_reducible rfl
 rotate_left
 · simp only [Act.put, sA_, s0_, s1_, i64_w, i32_w]
   rfl
 refine pure_ (i := 6) (N := some 32) (v := ?_) (a' := ?_) #[true, true, true, true, false, true, true, false, false, false] rfl rfl (any_of HT_.out (by kernel_rfl)) (fun _ _ _ h => h) (Or.inl ⟨by rfl, ?_⟩) ?_ ?_
 rotate_left
 · intro w'
   go_simp
   with_reducible rfl
 rotate_left
 · simp only [Act.put, sA_, s0_, s1_, i64_w, i32_w]
   rfl
 refine pure_ (i := 7) (N := some 33) (v := ?_) (a' := ?_) #[true, true, true, true, false, true, true, true, false, false] rfl rfl (any_of HT_.out (by kernel_rfl)) (fun _ _ _ h => h) (Or.inl ⟨by rfl, ?_⟩) ?_ ?_
 rotate_left
 · intro w'
   go_simp
   with_reducible rfl
 rotate_left
 · simp only [Act.put, sA_, s0_, s1_, i64_w, i32_w]
   rfl
 refine pure_ (i := 8) (N := some 34) (v := ?_) (a' := ?_) #[true, true, true, true, false, true, true, true, true, false] rfl rfl (any_of HT_.out (by kernel_rfl)) (fun _ _ _ h => h) (Or.inl ⟨by rfl, ?_⟩) ?_ ?_
 rotate_left
 · intro w'
   go_simp
   with_reducible rfl
 rotate_left
 · simp only [Act.put, sA_, s0_, s1_, i64_w, i32_w]
   rfl
 refine one_ (i := 4) (N := some 30) #[true, true, true, true, true, true, true, true, true, false] rfl rfl (one_of HT_.out (by kernel_rfl)) (by decide) (fun K hK => ?_)
 go_simp
 with_reducible refine (impl_tag.calls 300000 k2 a1 a2 x g _ H2.out).mono ?_
 rintro e2 w2 ⟨rfl, hb2⟩
 have HB2 : Aside0 (Below w.heap.size w w2) := ⟨(below_drew1 HB1.out).trans (hb2.mono (below_drew1 HB1.out).size)⟩
 clear hb2
 refine hK.out _ _ trivial (fun hHeld => ?_)
 clear hK K
 refine pure_ (i := 9) (N := some 35) (v := ?_) (a' := ?_) #[true, true, true, true, true, true, true, true, true, true] rfl rfl (any_of HT_.out (by kernel_rfl)) (fun _ _ _ h => h) (Or.inl ⟨by rfl, ?_⟩) ?_ ?_
 rotate_left
 · intro w'
   go_simp
   with_reducible rfl
 rotate_left
 · simp only [Act.put, sA_, s0_, s1_, i64_w, i32_w]
   rfl
 refine done_ (done_of HT_.out (by kernel_rfl)) ?_
 have H := H.out
 by_cases hc : g.toList = y.toList
 · rw [if_pos hc] at H
   obtain ⟨e, h3, H⟩ := Option.bind_eq_some_iff.mp H
   obtain ⟨rfl, rfl⟩ : strOfNums e = r1 ∧ true = r2 := by simpa using H
   have H3 : Aside0 (impl_ctr.f k1 a1 (bytesL x) = some e) := ⟨h3⟩
   have HLN : Aside0 ((bytesL x).length ≤ 1048576) := ⟨by
     unfold impl_ctr.f at h3
     split at h3
     · rename_i hc
       exact hc.2.2.2
     · cases h3⟩
   have hcb : (!g.toList == y.toList) = false := by simp [hc]
   rw [hcb]
   clear H h3 hc hcb
   have kc := Lib.run_convert_string_bytes (P := Try.prog) w2 9 22 5 x Try.underlying9 Try.underlying22 Try.underlying5
   have HRB := Aside0.mk (conv_rowB w2 w2.heap.size 5 x (Nat.le_refl _))
   have HBW : Aside0 (Below w.heap.size w (Lib.bytesWorld w2 5 x)) := ⟨bytes_below HB2.out HB2.out.size _ _⟩
   generalize Lib.bytesWorld w2 5 x = W1 at kc HRB HBW
   generalize grownCap w2 x.size 0 5 = cK at kc HRB
   generalize w2.heap.size = gk at kc HRB
   clear hxs hxe hye
   go_wp2_with fail
   have hq := impl_ctr.calls k1 a1 (some ⟨gk, 0, none⟩) cK (bytesL x) e W1 (rowB_C (by have := HRB.out; rw [bytesL_length]; exact this) (by have := HLN.out; omega)) (by have := rowB_form' HRB.out; rw [bytesL_length]; exact this) H3.out
   rw [bytesL_length] at hq
   refine hq.mono ?_
   clear hq kc
   rintro e2 w3 ⟨v, rfl, hR, hb3⟩
   have HB3 := Aside0.mk (HBW.out.trans (hb3.mono HBW.out.size))
   obtain ⟨Ae, ce, rfl, hce, hCe⟩ := Kd.R_reads hR
   have ks := Kd.C_string (P := Try.prog) (dst := 9) (src := 22) (c := ce) Try.underlying22 Try.underlying5 Try.underlying9 hCe
   clear hR hb3 hCe hce
   go_wp2
   go_ret2
   exact ⟨rfl, HB3.out⟩
 · rw [if_neg hc] at H
   obtain ⟨rfl, rfl⟩ : (⟨#[]⟩ : ByteArray) = r1 ∧ false = r2 := by simpa using H
   have hcb : (!g.toList == y.toList) = true := by simp [hc]
   rw [hcb]
   clear H hc hxs hxe hye hcb
   go_wp2
   go_ret2
   exact ⟨rfl, HB2.out⟩
def IsS87 (w0 W : World) (g : Nat) (f0 : List Int) (f1 : Int) (f2 : Int) : Prop := ∃ A0 c0, W.heap[g]? = some (.cells #[.slice A0 f0.length c0, .int .i64 f1, .int .i64 f2] 87 (0, 0)) ∧ w0.heap.size ≤ g ∧ Kd.C (Kd.int .u8) w0 A0 f0.length f0
theorem IsS87.grown {w0 W : World} {g : Nat} {f0 : List Int} {f1 : Int} {f2 : Int} {W1 : World} {row : Option Nat} (h : IsS87 w0 W g f0 f1 f2) (hw : W.grownBy W1 row) (hne : some g ≠ row) : IsS87 w0 W1 g f0 f1 f2 := by
 obtain ⟨A0, c0, hb, hg, hr0⟩ := h
 exact ⟨A0, c0, blk_grown hb hw hne, hg, hr0⟩
theorem IsS87.below {w0 W : World} {g : Nat} {f0 : List Int} {f1 : Int} {f2 : Int} {W1 : World} (h : IsS87 w0 W g f0 f1 f2) (hw : Below W.heap.size W W1) : IsS87 w0 W1 g f0 f1 f2 := h.grown (grown_of_below hw none) (by simp)
theorem IsS87.apart {w0 W : World} {g : Nat} {f0 : List Int} {f1 : Int} {f2 : Int} {α : Type} {d : Kd α} {e : Nat} {base : Nat} {ok : Nat → Prop} {v : Value} {xs : List α} (h : IsS87 w0 W g f0 f1 f2) (ho : d.R e W base ok v xs) (ht : ∀ q, q ∈ e :: d.E → q ≠ 87) : d.R e W base (fun k => ok k ∧ k ≠ g) v xs := by
 obtain ⟨A0, c0, hb, hg, hr0⟩ := h
 exact Kd.R_types ho hb ht
theorem IsS87.own_ne {w0 W : World} {g : Nat} {f0 : List Int} {f1 : Int} {f2 : Int} {α : Type} {d : Kd α} {e : Nat} {base : Nat} {ok : Nat → Prop} {v : Value} {xs : List α} (h : IsS87 w0 W g f0 f1 f2) (ho : d.R e W base ok v xs) (ht : e ≠ 87) : some g ≠ v.ownBlock := by
 obtain ⟨A0, c0, hb, hg, hr0⟩ := h
 exact Kd.R_ne ho hb ht
def spec_l00Source.f (l0 : List Int) : Option (List Int × Int × Int) := some (l0, 0, (l0.length : Int) % 1000)
set_option maxHeartbeats 8000000 in
set_option maxRecDepth 100000 in
theorem spec_l00Source.calls (A0 : Option Addr) (c0 : Nat) (l0 : List Int) (r1 : List Int) (r2 : Int) (r3 : Int) (w0 w : World) (hB : Below w0.heap.size w0 w) (hr0 : Kd.C (Kd.int .u8) w0 A0 l0.length l0) (hc0 : l0.length ≤ c0) (h : spec_l00Source.f l0 = some (r1, r2, r3)) :
   Calls Try.prog 53 #[.slice A0 l0.length c0] w fun e w' => ∃ g_ : Nat, e = .returned (.pointer (some ⟨g_, 0, none⟩)) ∧ IsS87 w0 w' g_ r1 r2 r3 ∧ Below w0.heap.size w0 w' ∧ Below w.heap.size w w' := by
 have hu87 := Try.underlying87
 have HR0 := Aside0.mk hr0
 have HC0 := Aside0.mk hc0
 clear hr0 hc0
 have HBW := Aside0.mk (Below.refl w.heap.size w)
 have HW0 := Aside0.mk hB.size
 have HB := Aside0.mk hB
 clear hB
 have H : (some (l0, 0, (l0.length : Int) % 1000)) = some (r1, r2, r3) := h
 clear h
 simp only [Option.some.injEq, Prod.mk.injEq] at H
 obtain ⟨rfl, rfl, rfl⟩ := H
 go_enter Try.func53, Try.ntmps53
 go_wp2_with (first | ((with_reducible refine gate_dst (N := 8) rfl ?_); refine box_event ?hg (N := 8) ?hd (cs := #[.slice A0 l0.length c0, .int .i64 0, .int .i64 ((l0.length : Int) % 1000)]) (t := 87) ?hr ?_; (case hd => rfl); (case hg => rfl); (case hr => first | (go_simp; done) | (go_simp; rfl)); intro gb309 hg w2 hbox hb; have n0_ := Aside0.mk (below_step HBW.out hb); have n1_ := Aside0.mk (below_step (by repeat (first | (with_reducible first | exact HB.out | apply below_alloc | apply pw_below_drewN | apply below_drew1) | exact HB.out)) hb); have n2_ := Aside0.mk (hbox); have n3_ := Aside0.mk ((by rw [hg]; exact (below_size (by repeat (first | (with_reducible first | exact HBW.out | apply below_alloc | apply pw_below_drewN | apply below_drew1) | exact HBW.out))) : w.heap.size ≤ gb309)); have n4_ := Aside0.mk ((Nat.le_trans HW0.out (by rw [hg]; exact (below_size (by repeat (first | (with_reducible first | exact HBW.out | apply below_alloc | apply pw_below_drewN | apply below_drew1) | exact HBW.out))) : w.heap.size ≤ gb309) : w0.heap.size ≤ gb309)); clear HBW; clear HB; have HBW := n0_; have HB := n1_; have BK309 := n2_; have GW309 := n3_; have GE309 := n4_; clear n0_ n1_ n2_ n3_ n4_; clear hb hbox hg))
 go_ret
 exact ⟨_, rfl, (show IsS87 w0 _ gb309 l0 0 ((l0.length : Int) % 1000) from ⟨_, _, by (with_reducible repeat (first | refine blk_drewN ?_ _ | refine blk_drew ?_ | refine blk_alloc ?_ _)); exact BK309.out, GE309.out, HR0.out⟩), by repeat (first | (with_reducible first | exact HB.out | apply below_alloc | apply pw_below_drewN | apply below_drew1 | refine below_set ?_ GE309.out) | exact HB.out), by repeat (first | (with_reducible first | exact HBW.out | apply below_alloc | apply pw_below_drewN | apply below_drew1 | refine below_set ?_ GW309.out) | exact HBW.out)⟩
def byteSeed (s b : Int) : Int := (s * 31 + b + 7) % 2147483648
def byteNext (s : Int) : Int := (s * 1103515245 + 12345) % 2147483648
theorem byteNext_bd (s : Int) : 0 ≤ byteNext s ∧ byteNext s < 2147483648 := by unfold byteNext; omega
def spec_l00Src_byte.f (l : List Int) (a s : Int) : Option (Int × Int × Int) :=
 if 0 ≤ a ∧ a ≤ 4611686018427387904 ∧ 0 ≤ s ∧ s < 2147483648 ∧ 0 ≤ rd l a ∧ rd l a ≤ 255 then
   if a < (l.length : Int) then some (rd l a, a + 1, byteSeed s (rd l a))
   else if 3000 < a + 1 then some (0, a + 1, s)
   else some (byteNext s / 65536 % 256, a + 1, byteNext s)
 else none
def bytePost (w0 w : World) (g : Nat) (l : List Int) (r a s : Int) (e : Ending) (w' : World) : Prop :=
 e = .returned (.int .i64 r) ∧ IsS87 w0 w' g l a s ∧ Below w0.heap.size w0 w' ∧ KeepBut w w' g none
theorem byte_far {w : World} {g j : Nat} {v : Value} {ad : Addr} {u : Value} (h : w.cell? ad = some u) (hne : ad.block ≠ g) : (w.setCell ⟨g, j, none⟩ v).cell? ad = some u := by
 rw [← h]
 exact World.cell?_of_block (Below.heap_setCell w ⟨g, j, none⟩ v ad.block hne)
theorem byte_add (ad : Addr) (j : Nat) : (ad.add j).block = ad.block := by unfold Addr.add; split <;> rfl
theorem byte_in (g : Nat) (l : List Int) (a s b : Int) (c0 : Nat) (w0 w : World) (ad : Addr) (hb : w.heap[g]? = some (.cells #[.slice (some ad) l.length c0, .int .i64 a, .int .i64 s] 87 (0, 0)))
   (hg : w0.heap.size ≤ g) (hr : Kd.C (Kd.int .u8) w0 (some ad) l.length l) (hB : Below w0.heap.size w0 w)
   (h0 : 0 ≤ a) (h1 : a ≤ 4611686018427387904) (h2 : 0 ≤ s) (h3 : s < 2147483648) (h4 : 0 ≤ b) (h5 : b ≤ 255) (hl : l.length ≤ 9223372036854775807) (h6 : a < (l.length : Int)) (hcell : w.cell? (ad.add a.toNat) = some (.int .u8 b)) (hne : ad.block ≠ g) :
   Calls Try.prog 102 #[.pointer (some ⟨g, 0, none⟩)] w (bytePost w0 w g l b (a + 1) (byteSeed s b)) := by
 have HR := Aside0.mk hr
 have HG := Aside0.mk hg
 have HB := Aside0.mk hB
 have HK := Aside0.mk (KeepBut.refl w g none)
 clear hr hg hB
 have c0_ := blk_cell hb 0
 have c1_ := blk_cell hb 1
 have c2_ := blk_cell hb 2
 have z1_ := blk_frozen hb 1
 have z2_ := blk_frozen hb 2
 simp at c0_ c1_ c2_
 go_enter Try.func102, Try.ntmps102
 go_wp2
 have hb1 := blk_put hb 1 (.int .i64 (a + 1)) rfl
 have hcell1 : (w.setCell ⟨g, 1, none⟩ (.int .i64 (a + 1))).cell? (ad.add a.toNat) = some (.int .u8 b) := byte_far hcell (by rw [byte_add]; exact hne)
 have HK1 := Aside0.mk (HK.out.set_ 1 (.int .i64 (a + 1)))
 have HB1 := Aside0.mk (below_set (j := 1) (v := .int .i64 (a + 1)) HB.out HG.out)
 clear c0_ c1_ c2_ z1_ z2_ hb hcell HK HB
 generalize w.setCell ⟨g, 1, none⟩ (.int .i64 (a + 1)) = w1 at *
 have c0_ := blk_cell hb1 0
 have c1_ := blk_cell hb1 1
 have c2_ := blk_cell hb1 2
 have z1_ := blk_frozen hb1 1
 have z2_ := blk_frozen hb1 2
 simp at c0_ c1_ c2_
 have hle : decide (a + 1 ≤ (l.length : Int)) = true := decide_eq_true (by omega)
 go_quiet (fail)
 go_wp2
 go_region
 go_wp2
 have hb2 := blk_put (blk_drewN hb1 (nq + 1)) 2 (.int .i64 ((s * 31 + b + 7) % 2147483648)) rfl
 have hcell2 : ((w1.drewN (nq + 1)).setCell ⟨g, 2, none⟩ (.int .i64 ((s * 31 + b + 7) % 2147483648))).cell? (ad.add a.toNat) = some (.int .u8 b) := byte_far (w := w1.drewN (nq + 1)) hcell1 (by rw [byte_add]; exact hne)
 have HK2 := Aside0.mk ((keep_drewN HK1.out (nq + 1)).set_ 2 (.int .i64 ((s * 31 + b + 7) % 2147483648)))
 have HB2 := Aside0.mk (below_set (j := 2) (v := .int .i64 ((s * 31 + b + 7) % 2147483648)) (pw_below_drewN HB1.out (nq + 1)) HG.out)
 clear c0_ c1_ c2_ z1_ z2_ hb1 hcell1 HK1 HB1
 generalize (w1.drewN (nq + 1)).setCell ⟨g, 2, none⟩ (.int .i64 ((s * 31 + b + 7) % 2147483648)) = w2 at *
 have c0_ := blk_cell hb2 0
 have c1_ := blk_cell hb2 1
 have c2_ := blk_cell hb2 2
 simp at c0_ c1_ c2_
 go_quiet (fail)
 go_wp2
 go_ret
 exact ⟨rfl, ⟨_, _, blk_drewN hb2 _, HG.out, HR.out⟩, pw_below_drewN HB2.out _, keep_drewN HK2.out _⟩
theorem byte_out (g : Nat) (l : List Int) (a s : Int) (A0 : Option Addr) (c0 : Nat) (w0 w : World) (hb : w.heap[g]? = some (.cells #[.slice A0 l.length c0, .int .i64 a, .int .i64 s] 87 (0, 0)))
   (hg : w0.heap.size ≤ g) (hr : Kd.C (Kd.int .u8) w0 A0 l.length l) (hB : Below w0.heap.size w0 w)
   (h0 : 0 ≤ a) (h1 : a ≤ 4611686018427387904) (h2 : 0 ≤ s) (h3 : s < 2147483648) (h6 : ¬ a < (l.length : Int)) (h7 : 3000 < a + 1) :
   Calls Try.prog 102 #[.pointer (some ⟨g, 0, none⟩)] w (bytePost w0 w g l 0 (a + 1) s) := by
 have HR := Aside0.mk hr
 have HG := Aside0.mk hg
 have HB := Aside0.mk hB
 have HK := Aside0.mk (KeepBut.refl w g none)
 clear hr hg hB
 have c0_ := blk_cell hb 0
 have c1_ := blk_cell hb 1
 have c2_ := blk_cell hb 2
 have z1_ := blk_frozen hb 1
 simp at c0_ c1_ c2_
 go_enter Try.func102, Try.ntmps102
 go_wp2
 have hb1 := blk_put hb 1 (.int .i64 (a + 1)) rfl
 have HK1 := Aside0.mk (HK.out.set_ 1 (.int .i64 (a + 1)))
 have HB1 := Aside0.mk (below_set (j := 1) (v := .int .i64 (a + 1)) HB.out HG.out)
 clear c0_ c1_ c2_ z1_ hb HK HB
 generalize w.setCell ⟨g, 1, none⟩ (.int .i64 (a + 1)) = w1 at *
 have c0_ := blk_cell hb1 0
 have c1_ := blk_cell hb1 1
 have c2_ := blk_cell hb1 2
 simp at c0_ c1_ c2_
 have hle : decide (a + 1 ≤ (l.length : Int)) = false := decide_eq_false (by omega)
 have hbig : decide (3000 < a + 1) = true := decide_eq_true (by omega)
 go_quiet (fail)
 go_wp2
 go_ret
 exact ⟨rfl, ⟨_, _, blk_drewN hb1 _, HG.out, HR.out⟩, pw_below_drewN HB1.out _, keep_drewN HK1.out _⟩
theorem byte_drawn (g : Nat) (l : List Int) (a s : Int) (A0 : Option Addr) (c0 : Nat) (w0 w : World) (hb : w.heap[g]? = some (.cells #[.slice A0 l.length c0, .int .i64 a, .int .i64 s] 87 (0, 0)))
   (hg : w0.heap.size ≤ g) (hr : Kd.C (Kd.int .u8) w0 A0 l.length l) (hB : Below w0.heap.size w0 w)
   (h0 : 0 ≤ a) (h1 : a ≤ 4611686018427387904) (h2 : 0 ≤ s) (h3 : s < 2147483648) (h6 : ¬ a < (l.length : Int)) (h7 : ¬ 3000 < a + 1) :
   Calls Try.prog 102 #[.pointer (some ⟨g, 0, none⟩)] w (bytePost w0 w g l (byteNext s / 65536 % 256) (a + 1) (byteNext s)) := by
 have HR := Aside0.mk hr
 have HG := Aside0.mk hg
 have HB := Aside0.mk hB
 have HK := Aside0.mk (KeepBut.refl w g none)
 clear hr hg hB
 have c0_ := blk_cell hb 0
 have c1_ := blk_cell hb 1
 have c2_ := blk_cell hb 2
 have z1_ := blk_frozen hb 1
 have z2_ := blk_frozen hb 2
 simp at c0_ c1_ c2_
 go_enter Try.func102, Try.ntmps102
 go_wp2
 have hb1 := blk_put hb 1 (.int .i64 (a + 1)) rfl
 have HK1 := Aside0.mk (HK.out.set_ 1 (.int .i64 (a + 1)))
 have HB1 := Aside0.mk (below_set (j := 1) (v := .int .i64 (a + 1)) HB.out HG.out)
 clear c0_ c1_ c2_ z1_ z2_ hb HK HB
 generalize w.setCell ⟨g, 1, none⟩ (.int .i64 (a + 1)) = w1 at *
 have c0_ := blk_cell hb1 0
 have c1_ := blk_cell hb1 1
 have c2_ := blk_cell hb1 2
 have z1_ := blk_frozen hb1 1
 have z2_ := blk_frozen hb1 2
 simp at c0_ c1_ c2_
 have hle : decide (a + 1 ≤ (l.length : Int)) = false := decide_eq_false (by omega)
 have hbig : decide (3000 < a + 1) = false := decide_eq_false (by omega)
 go_quiet (fail)
 have hb2 := blk_put (blk_drewN hb1 nq) 2 (.int .i64 ((s * 1103515245 + 12345) % 2147483648)) rfl
 have HK2 := Aside0.mk ((keep_drewN HK1.out nq).set_ 2 (.int .i64 ((s * 1103515245 + 12345) % 2147483648)))
 have HB2 := Aside0.mk (below_set (j := 2) (v := .int .i64 ((s * 1103515245 + 12345) % 2147483648)) (pw_below_drewN HB1.out nq) HG.out)
 go_wp2
 go_ret
 exact ⟨rfl, ⟨_, _, hb2, HG.out, HR.out⟩, HB2.out, HK2.out⟩
theorem spec_l00Src_byte.calls (g : Nat) (s0_0 : List Int) (s0_1 : Int) (s0_2 : Int) (r1 : Int) (r2 : Int) (r3 : Int) (w0 w : World) (hI : IsS87 w0 w g s0_0 s0_1 s0_2) (hB : Below w0.heap.size w0 w) (h : spec_l00Src_byte.f s0_0 s0_1 s0_2 = some (r1, r2, r3)) :
   Calls Try.prog 102 #[.pointer (some ⟨g, 0, none⟩)] w fun e w' => e = .returned (.int .i64 r1) ∧ IsS87 w0 w' g s0_0 r2 r3 ∧ Below w0.heap.size w0 w' ∧ KeepBut w w' g none := by
 show Calls Try.prog 102 #[.pointer (some ⟨g, 0, none⟩)] w (bytePost w0 w g s0_0 r1 r2 r3)
 unfold spec_l00Src_byte.f at h
 obtain ⟨A0, c0, hb, hg, hr⟩ := hI
 by_cases hc : 0 ≤ s0_1 ∧ s0_1 ≤ 4611686018427387904 ∧ 0 ≤ s0_2 ∧ s0_2 < 2147483648 ∧ 0 ≤ rd s0_0 s0_1 ∧ rd s0_0 s0_1 ≤ 255
 · rw [if_pos hc] at h
   obtain ⟨h0, h1, h2, h3, h4, h5⟩ := hc
   by_cases h6 : s0_1 < (s0_0.length : Int)
   · rw [if_pos h6] at h
     obtain ⟨rfl, rfl, rfl⟩ : rd s0_0 s0_1 = r1 ∧ s0_1 + 1 = r2 ∧ byteSeed s0_2 (rd s0_0 s0_1) = r3 := by simpa using h
     obtain ⟨ad, c, rfl, _, hc, hw⟩ := Kd.C_get hr 0 s0_1 h0 (by omega)
     have hc : c = [.int .u8 (rd s0_0 s0_1)] := hc
     subst hc
     have hcw := hw 0 _ rfl
     have hcw2 : w0.cell? (ad.add s0_1.toNat) = some (.int .u8 (rd s0_0 s0_1)) := by simpa [Kd.int, Kd.scalar] using hcw
     have hlt : ad.block < w0.heap.size := by
       have := World.block_lt_of_cell? w0 _ hcw2
       rwa [byte_add] at this
     exact byte_in g s0_0 s0_1 s0_2 (rd s0_0 s0_1) c0 w0 w ad hb hg hr hB h0 h1 h2 h3 h4 h5 hr.2.1 h6 ((hB.cell (p := ad.add s0_1.toNat) (by rw [byte_add]; exact hlt)).trans hcw2) (by omega)
   · rw [if_neg h6] at h
     by_cases h7 : 3000 < s0_1 + 1
     · rw [if_pos h7] at h
       obtain ⟨rfl, rfl, rfl⟩ : (0 : Int) = r1 ∧ s0_1 + 1 = r2 ∧ s0_2 = r3 := by simpa using h
       exact byte_out g s0_0 s0_1 s0_2 A0 c0 w0 w hb hg hr hB h0 h1 h2 h3 h6 h7
     · rw [if_neg h7] at h
       obtain ⟨rfl, rfl, rfl⟩ : byteNext s0_2 / 65536 % 256 = r1 ∧ s0_1 + 1 = r2 ∧ byteNext s0_2 = r3 := by simpa using h
       exact byte_drawn g s0_0 s0_1 s0_2 A0 c0 w0 w hb hg hr hB h0 h1 h2 h3 h6 h7
 · rw [if_neg hc] at h
   cases h
end Go.Proofs.Ytlfpogbonmddmaa.P

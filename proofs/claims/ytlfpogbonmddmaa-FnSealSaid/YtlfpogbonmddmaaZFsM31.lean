/- Laid by a program of this session: of Psealb, Psealw, Psealm, WSized what this law uses. -/
import Derived.Test.YtlfpogbonmddmaaZFsPt9
import Derived.Test.YtlfpogbonmddmaaZFsPt15
import Derived.Test.YtlfpogbonmddmaaZFsPt16
import Derived.Test.YtlfpogbonmddmaaZFsM30
import Derived.Test.YtlfpogbonmddmaaZFsPt8
import Derived.Test.YtlfpogbonmddmaaZFsPt17
import Derived.Test.YtlfpogbonmddmaaZFsM29
import Derived.Test.YtlfpogbonmddmaaZFsPt18
import Derived.Test.YtlfpogbonmddmaaZFsWLast
import Derived.Test.YtlfpogbonmddmaaZFsWMore
import Derived.RegionTactic
import Derived.BigRegion
import Derived.SizedLaws
import Derived.ChangeSlices
namespace Go.Proofs.Ytlfpogbonmddmaa.Pg
open Go.RowKit Go.Proofs.Ytlfpogbonmddmaa.P Go.Proofs.YtlfpogbonmddmaaW.PrintWords Go.Proofs.YtlfpogbonmddmaaW.PrintLast Go.Proofs.YtlfpogbonmddmaaW.PrintMore
set_option linter.unusedVariables false
set_option linter.unusedSimpArgs false
theorem long2_s (a0 a1 : ByteArray) (b : Bool) (h : b = decide (65536 < a0.size ∨ 65536 < a1.size)) : impl_isLong_string.f [a0, a1] = some b := by
 subst h
 unfold impl_isLong_string.f
 congr 1
 simp only [List.any_cons, List.any_nil, Bool.or_false]
 rw [Bool.decide_or]
 congr 1
 · exact decide_eq_decide.2 (by omega)
 · exact decide_eq_decide.2 (by omega)
theorem longB_s (l : List Int) (b : Bool) (h : b = decide (65536 < l.length)) : impl_isLong_byte.f [l] = some b := by
 subst h
 unfold impl_isLong_byte.f
 congr 1
 simp only [List.any_cons, List.any_nil, Bool.or_false]
 exact decide_eq_decide.2 (by omega)
theorem longBB_s (l m : List Int) (b : Bool) (h : b = decide (65536 < l.length ∨ 65536 < m.length)) : impl_isLong_byte.f [l, m] = some b := by
 subst h
 unfold impl_isLong_byte.f
 congr 1
 simp only [List.any_cons, List.any_nil, Bool.or_false]
 rw [Bool.decide_or]
 congr 1
 · exact decide_eq_decide.2 (by omega)
 · exact decide_eq_decide.2 (by omega)
theorem C_two_slice {W : World} {g : Nat} {A A' : Option Addr} {n c n' c' : Nat} {xs ys : List Int} {T : TypeId} {fr : Nat × Nat} (h : W.heap[g]? = some (.cells #[.slice A n c, .slice A' n' c'] T fr)) (hn : xs.length = n) (hc : n ≤ c) (hC : Kd.C (Kd.int .u8) W A xs.length xs) (hn' : ys.length = n') (hc' : n' ≤ c') (hC' : Kd.C (Kd.int .u8) W A' ys.length ys) :
   Kd.C (Kd.slice 5 (Kd.int .u8)) W (some ⟨g, 0, none⟩) 2 [xs, ys] := by
 subst hn hn'
 refine ⟨rfl, by decide, fun _ => ⟨⟨g, 0, none⟩, rfl, fun j p hj => ?_⟩⟩
 match j, hj with
 | 0, hj =>
   obtain rfl : xs = p := by simpa using hj
   refine ⟨[.slice A xs.length c], rfl, ⟨A, c, rfl, hc, hC⟩, fun i u hu => ?_⟩
   match i, hu with
   | 0, hu =>
     obtain rfl : Value.slice A xs.length c = u := by simpa using hu
     rw [add_plain]
     simpa using cell_of_row W g 0 _ _ _ h
 | 1, hj =>
   obtain rfl : ys = p := by simpa using hj
   refine ⟨[.slice A' ys.length c'], rfl, ⟨A', c', rfl, hc', hC'⟩, fun i u hu => ?_⟩
   match i, hu with
   | 0, hu =>
     obtain rfl : Value.slice A' ys.length c' = u := by simpa using hu
     rw [add_plain]
     show W.cell? ⟨g, 1, none⟩ = _
     simpa using cell_of_row W g 1 _ _ _ h
def sealX (a0 a1 : ByteArray) (x b : List Int) : List Int × Int :=
 if 65536 < a0.size ∨ 65536 < a1.size ∨ 65536 < x.length ∨ 65520 < b.length then ([], 2) else if a0.size = 32 ∧ a1.size = 12 then (sealL a0 a1 x b, 0) else ([], 1)
def openX (a0 a1 : ByteArray) (x b : List Int) : List Int × Int :=
 if 65536 < a0.size ∨ 65536 < a1.size ∨ 65536 < x.length ∨ 65536 < b.length then ([], 2) else if a0.size = 32 ∧ a1.size = 12 then
   (if b.length < 16 then ([], 3) else match openL a0 a1 x b with | some r => (r, 0) | none => ([], 10)) else ([], 1)
set_option maxHeartbeats 4000000 in
set_option maxRecDepth 100000 in
theorem SealBytes_in (a0 a1 : ByteArray) (A2 : Option Addr) (c2 : Nat) (l2 : List Int) (A3 : Option Addr) (c3 : Nat) (l3 : List Int) (r1 : List Int) (r2 : Int) (w0 : World) (hr2 : Kd.C (Kd.int .u8) w0 A2 l2.length l2) (hc2 : l2.length ≤ c2) (hr3 : Kd.C (Kd.int .u8) w0 A3 l3.length l3) (hc3 : l3.length ≤ c3) (u2 : u8ok l2) (u3 : u8ok l3) (h : sealX a0 a1 l2 l3 = (r1, r2)) :
   Calls Try.prog 16 #[.string a0, .string a1, .slice A2 l2.length c2, .slice A3 l3.length c3] w0 fun e w' => ∃ v0_ : Value, e = .returned (.tuple #[v0_, .int .i64 r2]) ∧ RB w' w0.heap.size v0_ r1 ∧ Below w0.heap.size w0 w' := by
 unfold sealX at h
 have HR2 := Aside0.mk hr2
 have HC2 := Aside0.mk hc2
 have HR3 := Aside0.mk hr3
 have HC3 := Aside0.mk hc3
 by_cases h1 : 65536 < a0.size ∨ 65536 < a1.size
 · rw [if_pos (by omega)] at h
   obtain ⟨rfl, rfl⟩ : ([] : List Int) = r1 ∧ (2 : Int) = r2 := by simpa using h
   have HF := Aside0.mk (long2_s a0 a1 true (decide_eq_true h1).symm)
   clear h h1 hr2 hc2 hr3 hc3 u2 u3
   go_enter Try.func16, Try.ntmps16
   go_wp2_with fail
   refine (impl_isLong_string.calls _ _ [a0, a1] true _ (C_two_string (g := w0.heap.size) (T := 9) (fr := (0, 0)) (blk_new w0 _)) (Nat.le_refl _) HF.out).mono ?_
   rintro e wa ⟨rfl, hd⟩
   have HBa := Aside0.mk (below_then (below_alloc (Below.refl _ _) _) (by simp) hd.below : Below w0.heap.size w0 wa)
   clear hd
   go_wp2
   go_ret2
   exact ⟨_, rfl, RB_nil _ _, HBa.out⟩
 have HF := Aside0.mk (long2_s a0 a1 false (decide_eq_false h1).symm)
 by_cases h2 : 65536 < l2.length
 · rw [if_pos (by omega)] at h
   obtain ⟨rfl, rfl⟩ : ([] : List Int) = r1 ∧ (2 : Int) = r2 := by simpa using h
   have HF2 := Aside0.mk (longB_s l2 true (decide_eq_true h2).symm)
   clear h h1 hr2 hc2 hr3 hc3 u2 u3 h2
   go_enter Try.func16, Try.ntmps16
   go_wp2_with fail
   refine (impl_isLong_string.calls _ _ [a0, a1] false _ (C_two_string (g := w0.heap.size) (T := 9) (fr := (0, 0)) (blk_new w0 _)) (Nat.le_refl _) HF.out).mono ?_
   rintro e wa ⟨rfl, hd⟩
   have HBa := Aside0.mk (below_then (below_alloc (Below.refl _ _) _) (by simp) hd.below : Below w0.heap.size w0 wa)
   clear hd
   go_wp2_with fail
   have hC := C_one_slice (c := c2) (xs := l2) (blk_new wa (Obj.cells #[Value.slice A2 l2.length c2] 22)) rfl HC2.out (Kd.C_alloc (Kd.C_below HR2.out HBa.out) _)
   refine (impl_isLong_byte.calls _ 1 [l2] _ _ hC (Nat.le_refl _) HF2.out).mono ?_
   rintro e wb ⟨rfl, hd⟩
   have HBb := Aside0.mk (below_then (below_alloc HBa.out _) (by have := HBa.out.size; simp; omega) hd.below : Below w0.heap.size w0 wb)
   clear hd hC
   go_wp2
   go_ret2
   exact ⟨_, rfl, RB_nil _ _, HBb.out⟩
 have HF2 := Aside0.mk (longB_s l2 false (decide_eq_false h2).symm)
 by_cases h3 : 65520 < l3.length
 · rw [if_pos (by omega)] at h
   obtain ⟨rfl, rfl⟩ : ([] : List Int) = r1 ∧ (2 : Int) = r2 := by simpa using h
   have d1 : decide (65520 < (l3.length : Int)) = true := decide_eq_true (by omega)
   have d2 : decide (65520 < l3.length) = true := decide_eq_true h3
   clear h h1 hr2 hc2 hr3 hc3 u2 u3 h2 h3
   go_enter Try.func16, Try.ntmps16
   go_wp2_with fail
   refine (impl_isLong_string.calls _ _ [a0, a1] false _ (C_two_string (g := w0.heap.size) (T := 9) (fr := (0, 0)) (blk_new w0 _)) (Nat.le_refl _) HF.out).mono ?_
   rintro e wa ⟨rfl, hd⟩
   have HBa := Aside0.mk (below_then (below_alloc (Below.refl _ _) _) (by simp) hd.below : Below w0.heap.size w0 wa)
   clear hd
   go_wp2_with fail
   have hC := C_one_slice (c := c2) (xs := l2) (blk_new wa (Obj.cells #[Value.slice A2 l2.length c2] 22)) rfl HC2.out (Kd.C_alloc (Kd.C_below HR2.out HBa.out) _)
   refine (impl_isLong_byte.calls _ 1 [l2] _ _ hC (Nat.le_refl _) HF2.out).mono ?_
   rintro e wb ⟨rfl, hd⟩
   have HBb := Aside0.mk (below_then (below_alloc HBa.out _) (by have := HBa.out.size; simp; omega) hd.below : Below w0.heap.size w0 wb)
   clear hd hC
   go_wp2
   go_ret2
   exact ⟨_, rfl, RB_nil _ _, HBb.out⟩
 have d1 : decide (65520 < (l3.length : Int)) = false := decide_eq_false (by omega)
 have d2 : decide (65520 < l3.length) = false := decide_eq_false h3
 rw [if_neg (by omega)] at h
 by_cases h4 : ¬ (a0.size = 32)
 · rw [if_neg (fun h => h4 h.1)] at h
   obtain ⟨rfl, rfl⟩ : ([] : List Int) = r1 ∧ (1 : Int) = r2 := by simpa using h
   have d3 : ((a0.size : Int) != 32) = true := by rw [bne_iff_ne]; omega
   have d4 : ¬ (a0.size : Int) = 32 := by omega
   have d5 : decide ((a0.size : Int) = 32) = false := decide_eq_false d4
   have d6 : ((a0.size : Int) == 32) = false := by rw [beq_eq_false_iff_ne]; exact d4
   clear h h1 hr2 hc2 hr3 hc3 u2 u3 h4 h2 h3
   go_enter Try.func16, Try.ntmps16
   go_wp2_with fail
   refine (impl_isLong_string.calls _ _ [a0, a1] false _ (C_two_string (g := w0.heap.size) (T := 9) (fr := (0, 0)) (blk_new w0 _)) (Nat.le_refl _) HF.out).mono ?_
   rintro e wa ⟨rfl, hd⟩
   have HBa := Aside0.mk (below_then (below_alloc (Below.refl _ _) _) (by simp) hd.below : Below w0.heap.size w0 wa)
   clear hd
   go_wp2_with fail
   have hC := C_one_slice (c := c2) (xs := l2) (blk_new wa (Obj.cells #[Value.slice A2 l2.length c2] 22)) rfl HC2.out (Kd.C_alloc (Kd.C_below HR2.out HBa.out) _)
   refine (impl_isLong_byte.calls _ 1 [l2] _ _ hC (Nat.le_refl _) HF2.out).mono ?_
   rintro e wb ⟨rfl, hd⟩
   have HBb := Aside0.mk (below_then (below_alloc HBa.out _) (by have := HBa.out.size; simp; omega) hd.below : Below w0.heap.size w0 wb)
   clear hd hC
   go_wp2
   go_ret2
   exact ⟨_, rfl, RB_nil _ _, HBb.out⟩
 replace h4 := Classical.not_not.1 h4
 have e3 : ((a0.size : Int) != 32) = false := by rw [h4]; rfl
 have e4 : (a0.size : Int) = 32 := by omega
 by_cases h5 : ¬ (a1.size = 12)
 · rw [if_neg (fun h => h5 h.2)] at h
   obtain ⟨rfl, rfl⟩ : ([] : List Int) = r1 ∧ (1 : Int) = r2 := by simpa using h
   have d3 : ((a1.size : Int) != 12) = true := by rw [bne_iff_ne]; omega
   have d4 : ¬ (a1.size : Int) = 12 := by omega
   have d5 : decide ((a1.size : Int) = 12) = false := decide_eq_false d4
   have d6 : ((a1.size : Int) == 12) = false := by rw [beq_eq_false_iff_ne]; exact d4
   clear h h1 hr2 hc2 hr3 hc3 u2 u3 h4 h5 h2 h3
   go_enter Try.func16, Try.ntmps16
   go_wp2_with fail
   refine (impl_isLong_string.calls _ _ [a0, a1] false _ (C_two_string (g := w0.heap.size) (T := 9) (fr := (0, 0)) (blk_new w0 _)) (Nat.le_refl _) HF.out).mono ?_
   rintro e wa ⟨rfl, hd⟩
   have HBa := Aside0.mk (below_then (below_alloc (Below.refl _ _) _) (by simp) hd.below : Below w0.heap.size w0 wa)
   clear hd
   go_wp2_with fail
   have hC := C_one_slice (c := c2) (xs := l2) (blk_new wa (Obj.cells #[Value.slice A2 l2.length c2] 22)) rfl HC2.out (Kd.C_alloc (Kd.C_below HR2.out HBa.out) _)
   refine (impl_isLong_byte.calls _ 1 [l2] _ _ hC (Nat.le_refl _) HF2.out).mono ?_
   rintro e wb ⟨rfl, hd⟩
   have HBb := Aside0.mk (below_then (below_alloc HBa.out _) (by have := HBa.out.size; simp; omega) hd.below : Below w0.heap.size w0 wb)
   clear hd hC
   go_wp2
   go_ret2
   exact ⟨_, rfl, RB_nil _ _, HBb.out⟩
 replace h5 := Classical.not_not.1 h5
 have e5 : ((a1.size : Int) != 12) = false := by rw [h5]; rfl
 have e6 : (a1.size : Int) = 12 := by omega
 rw [if_pos ⟨h4, h5⟩] at h
 obtain ⟨rfl, rfl⟩ : sealL a0 a1 l2 l3 = r1 ∧ (0 : Int) = r2 := by simpa using h
 have HS : Aside0 (impl_seal.f a0 a1 (strOfNums l2) (strOfNums l3) = some (strOfNums (sealL a0 a1 l2 l3))) := ⟨iseal_eq a0 a1 l2 l3 u2 u3 h4 h5 (by omega) (by omega)⟩
 have HSL : Aside0 ((sealL a0 a1 l2 l3).length ≤ 70000) := ⟨by rw [sealL_length]; omega⟩
 have HSU : Aside0 (u8ok (sealL a0 a1 l2 l3)) := ⟨sealL_ok a0 a1 l2 u3⟩
 obtain ⟨L, hL⟩ : ∃ L, L = sealL a0 a1 l2 l3 := ⟨_, rfl⟩
 rw [← hL] at HS HSL HSU ⊢
 clear hL
 clear h h1 hr2 hc2 hr3 hc3 u2 u3 h2 h3 h4 h5
 go_enter Try.func16, Try.ntmps16
 go_wp2_with fail
 refine (impl_isLong_string.calls _ _ [a0, a1] false _ (C_two_string (g := w0.heap.size) (T := 9) (fr := (0, 0)) (blk_new w0 _)) (Nat.le_refl _) HF.out).mono ?_
 rintro e wa ⟨rfl, hd⟩
 have HBa := Aside0.mk (below_then (below_alloc (Below.refl _ _) _) (by simp) hd.below : Below w0.heap.size w0 wa)
 clear hd
 go_wp2_with fail
 have hC := C_one_slice (c := c2) (xs := l2) (blk_new wa (Obj.cells #[Value.slice A2 l2.length c2] 22)) rfl HC2.out (Kd.C_alloc (Kd.C_below HR2.out HBa.out) _)
 refine (impl_isLong_byte.calls _ 1 [l2] _ _ hC (Nat.le_refl _) HF2.out).mono ?_
 rintro e wb ⟨rfl, hd⟩
 have HBb := Aside0.mk (below_then (below_alloc HBa.out _) (by have := HBa.out.size; simp; omega) hd.below : Below w0.heap.size w0 wb)
 clear hd hC
 have k2 := Kd.C_string (P := Try.prog) (dst := 9) (src := 22) (c := c2) Try.underlying22 Try.underlying5 Try.underlying9 (Kd.C_below HR2.out HBb.out)
 have k3 := Kd.C_string (P := Try.prog) (dst := 9) (src := 22) (c := c3) Try.underlying22 Try.underlying5 Try.underlying9 (Kd.C_below HR3.out HBb.out)
 go_wp2_with fail
 refine (impl_seal.calls a0 a1 (strOfNums l2) (strOfNums l3) (strOfNums L) _ HS.out).mono ?_
 rintro e wd ⟨rfl, hb⟩
 have HBd := Aside0.mk (HBb.out.trans (hb.mono HBb.out.size))
 clear hb k2 k3
 have hsz : (strOfNums L).size = L.length := str_size L
 have kc := Lib.run_convert_string_bytes (P := Try.prog) wd 9 22 5 (strOfNums L) Try.underlying9 Try.underlying22 Try.underlying5
 have HRB := Aside0.mk (conv_rowB wd w0.heap.size 5 (strOfNums L) HBd.out.size)
 have HBW := Aside0.mk (Go.Proofs.Ytlfpogbonmddmaa.P.bytes_below HBd.out HBd.out.size 5 (strOfNums L))
 rw [bytesL_str L HSU.out] at HRB
 generalize Lib.bytesWorld wd 5 (strOfNums L) = WE at kc HRB HBW
 generalize grownCap wd (strOfNums L).size 0 5 = cE at kc HRB
 clear hsz
 go_wp2
 go_ret2
 exact ⟨_, rfl, .inr HRB.out, HBW.out⟩
set_option maxHeartbeats 4000000 in
set_option maxRecDepth 100000 in
theorem OpenBytes_in (a0 a1 : ByteArray) (A2 : Option Addr) (c2 : Nat) (l2 : List Int) (A3 : Option Addr) (c3 : Nat) (l3 : List Int) (r1 : List Int) (r2 : Int) (w0 : World) (hr2 : Kd.C (Kd.int .u8) w0 A2 l2.length l2) (hc2 : l2.length ≤ c2) (hr3 : Kd.C (Kd.int .u8) w0 A3 l3.length l3) (hc3 : l3.length ≤ c3) (u2 : u8ok l2) (u3 : u8ok l3) (h : openX a0 a1 l2 l3 = (r1, r2)) :
   Calls Try.prog 21 #[.string a0, .string a1, .slice A2 l2.length c2, .slice A3 l3.length c3] w0 fun e w' => ∃ v0_ : Value, e = .returned (.tuple #[v0_, .int .i64 r2]) ∧ RB w' w0.heap.size v0_ r1 ∧ Below w0.heap.size w0 w' := by
 unfold openX at h
 have HR2 := Aside0.mk hr2
 have HC2 := Aside0.mk hc2
 have HR3 := Aside0.mk hr3
 have HC3 := Aside0.mk hc3
 by_cases h1 : 65536 < a0.size ∨ 65536 < a1.size
 · rw [if_pos (by omega)] at h
   obtain ⟨rfl, rfl⟩ : ([] : List Int) = r1 ∧ (2 : Int) = r2 := by simpa using h
   have HF := Aside0.mk (long2_s a0 a1 true (decide_eq_true h1).symm)
   clear h h1 hr2 hc2 hr3 hc3 u2 u3
   go_enter Try.func21, Try.ntmps21
   go_wp2_with fail
   refine (impl_isLong_string.calls _ _ [a0, a1] true _ (C_two_string (g := w0.heap.size) (T := 9) (fr := (0, 0)) (blk_new w0 _)) (Nat.le_refl _) HF.out).mono ?_
   rintro e wa ⟨rfl, hd⟩
   have HBa := Aside0.mk (below_then (below_alloc (Below.refl _ _) _) (by simp) hd.below : Below w0.heap.size w0 wa)
   clear hd
   go_wp2
   go_ret2
   exact ⟨_, rfl, RB_nil _ _, HBa.out⟩
 have HF := Aside0.mk (long2_s a0 a1 false (decide_eq_false h1).symm)
 by_cases h2 : 65536 < l2.length ∨ 65536 < l3.length
 · rw [if_pos (by omega)] at h
   obtain ⟨rfl, rfl⟩ : ([] : List Int) = r1 ∧ (2 : Int) = r2 := by simpa using h
   have HF2 := Aside0.mk (longBB_s l2 l3 true (decide_eq_true h2).symm)
   clear h h1 hr2 hc2 hr3 hc3 u2 u3 h2
   go_enter Try.func21, Try.ntmps21
   go_wp2_with fail
   refine (impl_isLong_string.calls _ _ [a0, a1] false _ (C_two_string (g := w0.heap.size) (T := 9) (fr := (0, 0)) (blk_new w0 _)) (Nat.le_refl _) HF.out).mono ?_
   rintro e wa ⟨rfl, hd⟩
   have HBa := Aside0.mk (below_then (below_alloc (Below.refl _ _) _) (by simp) hd.below : Below w0.heap.size w0 wa)
   clear hd
   go_wp2_with fail
   have hC := C_two_slice (c := c2) (c' := c3) (xs := l2) (ys := l3) (blk_new wa (Obj.cells #[Value.slice A2 l2.length c2, Value.slice A3 l3.length c3] 22)) rfl HC2.out (Kd.C_alloc (Kd.C_below HR2.out HBa.out) _) rfl HC3.out (Kd.C_alloc (Kd.C_below HR3.out HBa.out) _)
   refine (impl_isLong_byte.calls _ 2 [l2, l3] _ _ hC (Nat.le_refl _) HF2.out).mono ?_
   rintro e wb ⟨rfl, hd⟩
   have HBb := Aside0.mk (below_then (below_alloc HBa.out _) (by have := HBa.out.size; simp; omega) hd.below : Below w0.heap.size w0 wb)
   clear hd hC
   go_wp2
   go_ret2
   exact ⟨_, rfl, RB_nil _ _, HBb.out⟩
 have HF2 := Aside0.mk (longBB_s l2 l3 false (decide_eq_false h2).symm)
 rw [if_neg (by omega)] at h
 by_cases h4 : ¬ (a0.size = 32)
 · rw [if_neg (fun h => h4 h.1)] at h
   obtain ⟨rfl, rfl⟩ : ([] : List Int) = r1 ∧ (1 : Int) = r2 := by simpa using h
   have d3 : ((a0.size : Int) != 32) = true := by rw [bne_iff_ne]; omega
   have d4 : ¬ (a0.size : Int) = 32 := by omega
   have d5 : decide ((a0.size : Int) = 32) = false := decide_eq_false d4
   have d6 : ((a0.size : Int) == 32) = false := by rw [beq_eq_false_iff_ne]; exact d4
   clear h h1 hr2 hc2 hr3 hc3 u2 u3 h4 h2
   go_enter Try.func21, Try.ntmps21
   go_wp2_with fail
   refine (impl_isLong_string.calls _ _ [a0, a1] false _ (C_two_string (g := w0.heap.size) (T := 9) (fr := (0, 0)) (blk_new w0 _)) (Nat.le_refl _) HF.out).mono ?_
   rintro e wa ⟨rfl, hd⟩
   have HBa := Aside0.mk (below_then (below_alloc (Below.refl _ _) _) (by simp) hd.below : Below w0.heap.size w0 wa)
   clear hd
   go_wp2_with fail
   have hC := C_two_slice (c := c2) (c' := c3) (xs := l2) (ys := l3) (blk_new wa (Obj.cells #[Value.slice A2 l2.length c2, Value.slice A3 l3.length c3] 22)) rfl HC2.out (Kd.C_alloc (Kd.C_below HR2.out HBa.out) _) rfl HC3.out (Kd.C_alloc (Kd.C_below HR3.out HBa.out) _)
   refine (impl_isLong_byte.calls _ 2 [l2, l3] _ _ hC (Nat.le_refl _) HF2.out).mono ?_
   rintro e wb ⟨rfl, hd⟩
   have HBb := Aside0.mk (below_then (below_alloc HBa.out _) (by have := HBa.out.size; simp; omega) hd.below : Below w0.heap.size w0 wb)
   clear hd hC
   go_wp2
   go_ret2
   exact ⟨_, rfl, RB_nil _ _, HBb.out⟩
 replace h4 := Classical.not_not.1 h4
 have e3 : ((a0.size : Int) != 32) = false := by rw [h4]; rfl
 have e4 : (a0.size : Int) = 32 := by omega
 by_cases h5 : ¬ (a1.size = 12)
 · rw [if_neg (fun h => h5 h.2)] at h
   obtain ⟨rfl, rfl⟩ : ([] : List Int) = r1 ∧ (1 : Int) = r2 := by simpa using h
   have d3 : ((a1.size : Int) != 12) = true := by rw [bne_iff_ne]; omega
   have d4 : ¬ (a1.size : Int) = 12 := by omega
   have d5 : decide ((a1.size : Int) = 12) = false := decide_eq_false d4
   have d6 : ((a1.size : Int) == 12) = false := by rw [beq_eq_false_iff_ne]; exact d4
   clear h h1 hr2 hc2 hr3 hc3 u2 u3 h4 h5 h2
   go_enter Try.func21, Try.ntmps21
   go_wp2_with fail
   refine (impl_isLong_string.calls _ _ [a0, a1] false _ (C_two_string (g := w0.heap.size) (T := 9) (fr := (0, 0)) (blk_new w0 _)) (Nat.le_refl _) HF.out).mono ?_
   rintro e wa ⟨rfl, hd⟩
   have HBa := Aside0.mk (below_then (below_alloc (Below.refl _ _) _) (by simp) hd.below : Below w0.heap.size w0 wa)
   clear hd
   go_wp2_with fail
   have hC := C_two_slice (c := c2) (c' := c3) (xs := l2) (ys := l3) (blk_new wa (Obj.cells #[Value.slice A2 l2.length c2, Value.slice A3 l3.length c3] 22)) rfl HC2.out (Kd.C_alloc (Kd.C_below HR2.out HBa.out) _) rfl HC3.out (Kd.C_alloc (Kd.C_below HR3.out HBa.out) _)
   refine (impl_isLong_byte.calls _ 2 [l2, l3] _ _ hC (Nat.le_refl _) HF2.out).mono ?_
   rintro e wb ⟨rfl, hd⟩
   have HBb := Aside0.mk (below_then (below_alloc HBa.out _) (by have := HBa.out.size; simp; omega) hd.below : Below w0.heap.size w0 wb)
   clear hd hC
   go_wp2
   go_ret2
   exact ⟨_, rfl, RB_nil _ _, HBb.out⟩
 replace h5 := Classical.not_not.1 h5
 have e5 : ((a1.size : Int) != 12) = false := by rw [h5]; rfl
 have e6 : (a1.size : Int) = 12 := by omega
 rw [if_pos ⟨h4, h5⟩] at h
 by_cases h6 : l3.length < 16
 · rw [if_pos h6] at h
   obtain ⟨rfl, rfl⟩ : ([] : List Int) = r1 ∧ (3 : Int) = r2 := by simpa using h
   have d1 : decide ((l3.length : Int) < 16) = true := decide_eq_true (by omega)
   have d2 : decide (l3.length < 16) = true := decide_eq_true h6
   clear h h1 hr2 hc2 hr3 hc3 u2 u3 h2 h4 h5 h6
   go_enter Try.func21, Try.ntmps21
   go_wp2_with fail
   refine (impl_isLong_string.calls _ _ [a0, a1] false _ (C_two_string (g := w0.heap.size) (T := 9) (fr := (0, 0)) (blk_new w0 _)) (Nat.le_refl _) HF.out).mono ?_
   rintro e wa ⟨rfl, hd⟩
   have HBa := Aside0.mk (below_then (below_alloc (Below.refl _ _) _) (by simp) hd.below : Below w0.heap.size w0 wa)
   clear hd
   go_wp2_with fail
   have hC := C_two_slice (c := c2) (c' := c3) (xs := l2) (ys := l3) (blk_new wa (Obj.cells #[Value.slice A2 l2.length c2, Value.slice A3 l3.length c3] 22)) rfl HC2.out (Kd.C_alloc (Kd.C_below HR2.out HBa.out) _) rfl HC3.out (Kd.C_alloc (Kd.C_below HR3.out HBa.out) _)
   refine (impl_isLong_byte.calls _ 2 [l2, l3] _ _ hC (Nat.le_refl _) HF2.out).mono ?_
   rintro e wb ⟨rfl, hd⟩
   have HBb := Aside0.mk (below_then (below_alloc HBa.out _) (by have := HBa.out.size; simp; omega) hd.below : Below w0.heap.size w0 wb)
   clear hd hC
   go_wp2
   go_ret2
   exact ⟨_, rfl, RB_nil _ _, HBb.out⟩
 have d1 : decide ((l3.length : Int) < 16) = false := decide_eq_false (by omega)
 have d2 : decide (l3.length < 16) = false := decide_eq_false h6
 rw [if_neg h6] at h
 cases ho : openL a0 a1 l2 l3 with
 | none =>
   rw [ho] at h
   obtain ⟨rfl, rfl⟩ : ([] : List Int) = r1 ∧ (10 : Int) = r2 := by simpa using h
   have HS : Aside0 (impl_unseal.f a0 a1 (strOfNums l2) (strOfNums l3) = some (⟨#[]⟩, false)) := ⟨by rw [iopen_eq a0 a1 l2 l3 u2 u3 h4 h5 (by omega) (by omega), ho]⟩
   clear h h1 hr2 hc2 hr3 hc3 u2 u3 h2 h4 h5 h6 ho
   go_enter Try.func21, Try.ntmps21
   go_wp2_with fail
   refine (impl_isLong_string.calls _ _ [a0, a1] false _ (C_two_string (g := w0.heap.size) (T := 9) (fr := (0, 0)) (blk_new w0 _)) (Nat.le_refl _) HF.out).mono ?_
   rintro e wa ⟨rfl, hd⟩
   have HBa := Aside0.mk (below_then (below_alloc (Below.refl _ _) _) (by simp) hd.below : Below w0.heap.size w0 wa)
   clear hd
   go_wp2_with fail
   have hC := C_two_slice (c := c2) (c' := c3) (xs := l2) (ys := l3) (blk_new wa (Obj.cells #[Value.slice A2 l2.length c2, Value.slice A3 l3.length c3] 22)) rfl HC2.out (Kd.C_alloc (Kd.C_below HR2.out HBa.out) _) rfl HC3.out (Kd.C_alloc (Kd.C_below HR3.out HBa.out) _)
   refine (impl_isLong_byte.calls _ 2 [l2, l3] _ _ hC (Nat.le_refl _) HF2.out).mono ?_
   rintro e wb ⟨rfl, hd⟩
   have HBb := Aside0.mk (below_then (below_alloc HBa.out _) (by have := HBa.out.size; simp; omega) hd.below : Below w0.heap.size w0 wb)
   clear hd hC
   have k2 := Kd.C_string (P := Try.prog) (dst := 9) (src := 22) (c := c2) Try.underlying22 Try.underlying5 Try.underlying9 (Kd.C_below HR2.out HBb.out)
   have k3 := Kd.C_string (P := Try.prog) (dst := 9) (src := 22) (c := c3) Try.underlying22 Try.underlying5 Try.underlying9 (Kd.C_below HR3.out HBb.out)
   go_wp2_with fail
   refine (impl_unseal.calls a0 a1 (strOfNums l2) (strOfNums l3) ⟨#[]⟩ false _ HS.out).mono ?_
   rintro e wd ⟨rfl, hb⟩
   have HBd := Aside0.mk (HBb.out.trans (hb.mono HBb.out.size))
   clear hb k2 k3
   go_wp2
   go_ret2
   exact ⟨_, rfl, RB_nil _ _, HBd.out⟩
 | some L =>
   rw [ho] at h
   obtain ⟨rfl, rfl⟩ : L = r1 ∧ (0 : Int) = r2 := by simpa using h
   have HS : Aside0 (impl_unseal.f a0 a1 (strOfNums l2) (strOfNums l3) = some (strOfNums L, true)) := ⟨by rw [iopen_eq a0 a1 l2 l3 u2 u3 h4 h5 (by omega) (by omega), ho]⟩
   have HSU : Aside0 (u8ok L) := ⟨(openL_ok u3 ho).1⟩
   clear h h1 hr2 hc2 hr3 hc3 u2 u3 h2 h4 h5 h6 ho
   go_enter Try.func21, Try.ntmps21
   go_wp2_with fail
   refine (impl_isLong_string.calls _ _ [a0, a1] false _ (C_two_string (g := w0.heap.size) (T := 9) (fr := (0, 0)) (blk_new w0 _)) (Nat.le_refl _) HF.out).mono ?_
   rintro e wa ⟨rfl, hd⟩
   have HBa := Aside0.mk (below_then (below_alloc (Below.refl _ _) _) (by simp) hd.below : Below w0.heap.size w0 wa)
   clear hd
   go_wp2_with fail
   have hC := C_two_slice (c := c2) (c' := c3) (xs := l2) (ys := l3) (blk_new wa (Obj.cells #[Value.slice A2 l2.length c2, Value.slice A3 l3.length c3] 22)) rfl HC2.out (Kd.C_alloc (Kd.C_below HR2.out HBa.out) _) rfl HC3.out (Kd.C_alloc (Kd.C_below HR3.out HBa.out) _)
   refine (impl_isLong_byte.calls _ 2 [l2, l3] _ _ hC (Nat.le_refl _) HF2.out).mono ?_
   rintro e wb ⟨rfl, hd⟩
   have HBb := Aside0.mk (below_then (below_alloc HBa.out _) (by have := HBa.out.size; simp; omega) hd.below : Below w0.heap.size w0 wb)
   clear hd hC
   have k2 := Kd.C_string (P := Try.prog) (dst := 9) (src := 22) (c := c2) Try.underlying22 Try.underlying5 Try.underlying9 (Kd.C_below HR2.out HBb.out)
   have k3 := Kd.C_string (P := Try.prog) (dst := 9) (src := 22) (c := c3) Try.underlying22 Try.underlying5 Try.underlying9 (Kd.C_below HR3.out HBb.out)
   go_wp2_with fail
   refine (impl_unseal.calls a0 a1 (strOfNums l2) (strOfNums l3) (strOfNums L) true _ HS.out).mono ?_
   rintro e wd ⟨rfl, hb⟩
   have HBd := Aside0.mk (HBb.out.trans (hb.mono HBb.out.size))
   clear hb k2 k3
   have hsz : (strOfNums L).size = L.length := str_size L
   have kc := Lib.run_convert_string_bytes (P := Try.prog) wd 9 22 5 (strOfNums L) Try.underlying9 Try.underlying22 Try.underlying5
   have HRB := Aside0.mk (conv_rowB wd w0.heap.size 5 (strOfNums L) HBd.out.size)
   have HBW := Aside0.mk (Go.Proofs.Ytlfpogbonmddmaa.P.bytes_below HBd.out HBd.out.size 5 (strOfNums L))
   rw [bytesL_str L HSU.out] at HRB
   generalize Lib.bytesWorld wd 5 (strOfNums L) = WE at kc HRB HBW
   generalize grownCap wd (strOfNums L).size 0 5 = cE at kc HRB
   clear hsz
   go_wp2
   go_ret2
   exact ⟨_, rfl, .inr HRB.out, HBW.out⟩
end Go.Proofs.Ytlfpogbonmddmaa.Pg
namespace Go.Proofs.Ytlfpogbonmddmaa.Pg
open Go.RowKit Go.Proofs.Ytlfpogbonmddmaa.P Go.Proofs.YtlfpogbonmddmaaW.PrintWords Go.Proofs.YtlfpogbonmddmaaW.PrintLast Go.Proofs.YtlfpogbonmddmaaW.PrintMore
set_option linter.unusedVariables false
set_option linter.unusedSimpArgs false
theorem openX_len (a0 a1 : ByteArray) (x b : List Int) (ub : u8ok b) : (openX a0 a1 x b).1.length ≤ 70000 := by
 unfold openX
 split
 · simp
 · split
   · split
     · simp
     · split
       · rename_i r hr
         have := (openL_ok ub hr).2
         show r.length ≤ 70000
         omega
       · simp
   · simp
theorem spec_sealx (a0 a1 : ByteArray) (x b : List Int) (ux : u8ok x) (ub : u8ok b) : spec_SealBytes.f 300000 a0 a1 x b = some (sealX a0 a1 x b) := by
 have hw : wrap64 (65536 - 16) = 65520 := by unfold wrap64; omega
 unfold spec_SealBytes.f sealX
 by_cases h0 : 65536 < a0.size
 · rw [if_pos (by omega), if_pos (.inl h0)]
   simp only [spec_SealBytes.j0, if_true]
 rw [if_neg (by omega)]
 by_cases h1 : 65536 < a1.size
 · rw [if_pos (by omega), if_pos (.inr (.inl h1))]
   simp only [spec_SealBytes.j0, if_true]
 rw [if_neg (by omega)]
 by_cases h2 : 65536 < x.length
 · rw [if_pos (by omega), if_pos (.inr (.inr (.inl h2)))]
   simp only [spec_SealBytes.j0, if_true]
 rw [if_neg (by omega)]
 by_cases h3 : 65520 < b.length
 · rw [if_pos (show 65536 < a0.size ∨ 65536 < a1.size ∨ 65536 < x.length ∨ 65520 < b.length from .inr (.inr (.inr h3)))]
   by_cases h4 : 65536 < b.length
   · rw [decide_eq_true (by omega)]
     simp only [spec_SealBytes.j0, if_true]
   rw [decide_eq_false (by omega)]
   simp only [spec_SealBytes.j0, Bool.false_eq_true, if_false]
   unfold spec_l04Code.f
   rw [if_neg (by omega), hw, decide_eq_true (by omega)]
   simp [spec_l04Code.j0]
 rw [decide_eq_false (by omega), if_neg (show ¬ (65536 < a0.size ∨ 65536 < a1.size ∨ 65536 < x.length ∨ 65520 < b.length) by omega)]
 simp only [spec_SealBytes.j0, Bool.false_eq_true, if_false]
 unfold spec_l04Code.f
 rw [if_neg (by omega), hw, decide_eq_false (by omega)]
 simp only [spec_l04Code.j0, Bool.false_eq_true, if_false]
 by_cases h5 : a0.size = 32
 · by_cases h6 : a1.size = 12
   · rw [sseal_eq _ a0 a1 x b ux ub h5 h6 (by omega) (by omega) (by decide)]
     simp [h5, h6]
   · have h7 : ¬ ((a1.size : Int) = 12) := by omega
     simp [h5, h6, h7]
 · have h7 : ¬ ((a0.size : Int) = 32) := by omega
   simp [h5, h7]
theorem spec_openx (a0 a1 : ByteArray) (x b : List Int) (ux : u8ok x) (ub : u8ok b) : spec_OpenBytes.f 300000 a0 a1 x b = some (openX a0 a1 x b) := by
 have hw : wrap64 (65536 - 0) = 65536 := by unfold wrap64; omega
 unfold spec_OpenBytes.f openX
 by_cases h0 : 65536 < a0.size
 · rw [if_pos (by omega), if_pos (.inl h0)]
   simp only [spec_OpenBytes.j0, if_true]
 rw [if_neg (by omega)]
 by_cases h1 : 65536 < a1.size
 · rw [if_pos (by omega), if_pos (.inr (.inl h1))]
   simp only [spec_OpenBytes.j0, if_true]
 rw [if_neg (by omega)]
 by_cases h2 : 65536 < x.length
 · rw [if_pos (by omega), if_pos (.inr (.inr (.inl h2)))]
   simp only [spec_OpenBytes.j0, if_true]
 rw [if_neg (by omega)]
 by_cases h3 : 65536 < b.length
 · rw [decide_eq_true (by omega), if_pos (.inr (.inr (.inr h3)))]
   simp only [spec_OpenBytes.j0, if_true]
 rw [decide_eq_false (by omega), if_neg (show ¬ (65536 < a0.size ∨ 65536 < a1.size ∨ 65536 < x.length ∨ 65536 < b.length) by omega)]
 simp only [spec_OpenBytes.j0, Bool.false_eq_true, if_false]
 unfold spec_l04Code.f
 rw [if_neg (by omega), hw, decide_eq_false (by omega)]
 simp only [spec_l04Code.j0, Bool.false_eq_true, if_false]
 by_cases h5 : a0.size = 32
 · by_cases h6 : a1.size = 12
   · by_cases h8 : b.length < 16
     · have h9 : (b.length : Int) < 16 := by omega
       simp [h5, h6, h8, h9]
     · have h9 : ¬ ((b.length : Int) < 16) := by omega
       rw [sopen_eq a0 a1 x b ux ub h5 h6 (by omega) (by omega)]
       simp [h5, h6, h8, h9]
       cases openL a0 a1 x b <;> simp
   · have h7 : ¬ ((a1.size : Int) = 12) := by omega
     simp [h5, h6, h7]
 · have h7 : ¬ ((a0.size : Int) = 32) := by omega
   simp [h5, h7]
end Go.Proofs.Ytlfpogbonmddmaa.Pg
namespace Go.Proofs.Ytlfpogbonmddmaa.Pg
open Go.RowKit Go.Proofs.Ytlfpogbonmddmaa.P Go.Proofs.YtlfpogbonmddmaaW.PrintWords Go.Proofs.YtlfpogbonmddmaaW.PrintLast Go.Proofs.YtlfpogbonmddmaaW.PrintMore
set_option linter.unusedVariables false
set_option linter.unusedSimpArgs false
def smN (a b : Int) : List Int := (Sha.four 0 ++ Sha.four a) ++ Sha.four b
theorem sm_xor (y m : Int) (hy : 0 ≤ y ∧ y ≤ 255) (hm : 0 ≤ m ∧ m ≤ 255) : 0 ≤ Go.bits .xor .u8 y m ∧ Go.bits .xor .u8 y m ≤ 255 := by
 obtain ⟨a, rfl⟩ : ∃ a : Nat, y = (a : Int) := ⟨y.toNat, by omega⟩
 obtain ⟨b, rfl⟩ : ∃ b : Nat, m = (b : Int) := ⟨m.toNat, by omega⟩
 have e := Gf.xor_u8 a b (by omega) (by omega)
 have h : a ^^^ b < 2 ^ 8 := Nat.xor_lt_two_pow (by omega) (by omega)
 rw [show Go.bits .xor .u8 (a : Int) (b : Int) = ((a ^^^ b : Nat) : Int) from e]
 omega
theorem sm_cell {W : World} {B g c : Nat} {l : List Int} (h : rowB W B (.slice (some ⟨g, 0, none⟩) l.length c) l) (i : Nat) (hi : i < l.length) : (∃ x, W.cell? ⟨g, i, none⟩ = some x) ∧ W.frozen? ⟨g, i, none⟩ = false := by
 obtain ⟨g2, cap2, e2, _, hl, hc, _⟩ := h
 injection e2 with e3 _ e4
 injection e3 with e3
 injection e3 with e3
 subst e3
 subst e4
 obtain ⟨h1, h2⟩ := hc i (by omega)
 exact ⟨Option.isSome_iff_exists.1 h1, h2⟩
theorem sm_base {W : World} {B g n c : Nat} {l : List Int} (h : rowB W B (.slice (some ⟨g, 0, none⟩) n c) l) : B ≤ g := by
 obtain ⟨g2, cap2, e2, hg, _⟩ := h
 injection e2 with e3
 injection e3 with e3
 injection e3 with e3
 omega
theorem sm_four_size (n : Int) : (strOfNums (Sha.four n)).size = 4 := by rw [strOfNums_size]; rfl
theorem sm_snonce (a b : Int) : spec_l04Nonce.f a b = some (strOfNums (smN a b)) := by
 have e : ∀ n : Int, spec_l02Four.f n = some (Sha.four n) := fun n => rfl
 unfold spec_l04Nonce.f
 simp only [e, Option.bind_some, ByteArray.size_append, sm_four_size]
 simp [smN, str_app]
theorem sm_inonce (k : Nat) (a b : Int) (hk : 5 < k) : impl_sealNonce.f k a b = some (strOfNums (smN a b)) := by
 unfold impl_sealNonce.f
 simp only [sx_bytesOf4 k _ hk, Option.bind_some, ByteArray.size_append, sm_four_size]
 simp [smN, str_app]
theorem sm_nonces (k : Nat) (a b : Nat) (ha : a < 1000) (hb : b < 1000) (hk : 5 < k) : impl_SealNonce.f k (a : Int) (b : Int) = some (strOfNums (smN a b), 0) ∧ spec_SealNonce.f (a : Int) (b : Int) = some (strOfNums (smN a b), 0) := by
 have w : ∀ n : Nat, n < 1000 → spec_l01In.f (n : Int) 0 4294967295 = some true ∧ impl_isWord.f (n : Int) = some true := fun n hn => by
   unfold impl_isWord.f impl_within.f spec_l01In.f
   exact ⟨by simp; omega, by simp; omega⟩
 obtain ⟨h1, h2⟩ := w a ha
 obtain ⟨h3, h4⟩ := w b hb
 unfold impl_SealNonce.f spec_SealNonce.f
 rw [h1, h2, h3, h4]
 simp only [Option.bind_some, if_true]
 rw [sm_snonce, sm_inonce k _ _ hk]
 simp only [Option.bind_some, and_self]
theorem sm_keys (s : ByteArray) (h : s.size = 32) : impl_SealKeys.f 300000 s = some (strOfNums ((keysK s).take 32), strOfNums ((keysK s).drop 32), 0) ∧ spec_SealKeys.f s = some (strOfNums ((keysK s).take 32), strOfNums ((keysK s).drop 32), 0) := by
 have e1 := sealKeys_eq (300000 - 264) s (by omega)
 rw [show 300000 - 264 + 264 = 300000 from rfl] at e1
 unfold impl_SealKeys.f spec_SealKeys.f impl_isLong_string.f
 constructor
 · rw [Option.bind_some, if_neg (by simp; omega), if_pos (by omega), e1, Option.bind_some]
 · rw [if_neg (by omega), if_pos (by omega), spec_sealKeys_eq s (by omega), Option.bind_some]
theorem sm_vals (K N X B : List Int) (lK : K.length = 32) (lN : N.length = 12) (uX : u8ok X) (lX : X.length ≤ 9) (uB : u8ok B) (lB : B.length ≤ 100) :
   ∃ S : List Int, sealX (strOfNums K) (strOfNums N) X B = (S, 0) ∧ spec_SealBytes.f 300000 (strOfNums K) (strOfNums N) X B = some (S, 0) ∧ openX (strOfNums K) (strOfNums N) X S = (B, 0) ∧ u8ok S ∧ S.length = B.length + 16 := by
 have kK : (strOfNums K).size = 32 := by rw [size_strOfNums]; exact lK
 have kN : (strOfNums N).size = 12 := by rw [size_strOfNums]; exact lN
 have hl := sealL_length (strOfNums K) (strOfNums N) X B
 have e : sealX (strOfNums K) (strOfNums N) X B = (sealL (strOfNums K) (strOfNums N) X B, 0) := by
   unfold sealX
   rw [if_neg (by omega), if_pos ⟨kK, kN⟩]
 refine ⟨sealL (strOfNums K) (strOfNums N) X B, e, by rw [spec_sealx _ _ _ _ uX uB, e], ?_, sealL_ok _ _ _ uB, hl⟩
 unfold openX
 rw [if_neg (by omega), if_pos ⟨kK, kN⟩, if_neg (by omega), open_seal _ _ _ uB]
def fseal_T15 : Bool × List (List Nat × List Nat) := (true, [([], []), ([], []), ([], []), ([2], [2]), ([1, 3], [1, 3]), ([0, 4], [0, 4]), ([5], [5]), ([], []), ([7, 4], [7]), ([8], [8]), ([9], [9]), ([6, 10], [6, 10]), ([0, 4, 0, 1, 2, 3, 4, 5, 6, 7, 8, 9, 10, 11], [0, 4]), ([12, 11, 8, 0, 1, 2, 3, 4, 5, 6, 7, 8, 9, 10, 11], [11, 12])])
def fseal_B15 : List Nat := [0, 0, 0, 4, 14, 31, 63, 0, 158, 414, 926, 2047, 4095, 8191]
theorem fseal_tab15 : rtab .any (opsOf Try.f5 15) = fseal_T15 := by kernel_rfl
theorem fseal_bits15 : waitsOk fseal_T15.2 fseal_B15 = true := by kernel_rfl
set_option maxHeartbeats 8000000 in
set_option maxRecDepth 100000 in
theorem seal_in (A0 : Option Addr) (c0 : Nat) (l0 : List Int) (A1 : Option Addr) (c1 : Nat) (l1 : List Int) (w : World) (hr0 : Kd.C (Kd.int .u8) w A0 l0.length l0) (hc0 : l0.length ≤ c0) (hr1 : Kd.C (Kd.int .u8) w A1 l1.length l1) (hc1 : l1.length ≤ c1) (h0 : isU8 l0) (h1 : isU8 l1) (b0 : l0.length ≤ 1048576) (b1 : l1.length ≤ 1048576) (w0 : ∀ x ∈ l0, (Lit.int .u8 x).wf = true) (w1 : ∀ x ∈ l1, (Lit.int .u8 x).wf = true) :
   Calls Try.prog 5 #[.slice A0 l0.length c0, .slice A1 l1.length c1] w fun e w' => e = .returned (.bool true) ∧ Below w.heap.size w w' := by
 obtain ⟨K, eK, uK, lK⟩ := blobOf_some h0 32 (by omega)
 obtain ⟨X, eX, uX, lX⟩ := bytesOf_some h0 9 (by omega)
 obtain ⟨B, eB, uB, lB⟩ := plain_some h1
 obtain ⟨p, hp, ep⟩ := at_some l0 b0 w0 0 1000 (by decide) (by decide)
 obtain ⟨q, hq, eq⟩ := at_some l1 b1 w1 0 1000 (by decide) (by decide)
 obtain ⟨n1, n2⟩ := sm_nonces 300000 p q hp hq (by decide)
 obtain ⟨N, eN⟩ : ∃ N, N = smN (p : Int) (q : Int) := ⟨_, rfl⟩
 have lN : N.length = 12 := by rw [eN]; rfl
 rw [← eN] at n1 n2
 obtain ⟨L, v1, v2, v3, uL, lL⟩ := sm_vals K N X B lK lN uX lX uB lB
 obtain ⟨i, hi, ei⟩ := at_some l1 b1 w1 1 L.length (by decide) (by omega)
 obtain ⟨d, hd, ed⟩ := at_some l1 b1 w1 2 255 (by decide) (by decide)
 have kK : (strOfNums K).size = 32 := by rw [size_strOfNums]; exact lK
 obtain ⟨k1, k2⟩ := sm_keys (strOfNums K) kK
 obtain ⟨y, hy⟩ : ∃ y, y = L.getD i 0 := ⟨_, rfl⟩
 have uy : 0 ≤ y ∧ y ≤ 255 := by
   rw [hy, List.getD_eq_getElem?_getD, List.getElem?_eq_getElem hi]
   exact uL _ (List.getElem_mem hi)
 obtain ⟨m, hm⟩ : ∃ m : Int, m = 1 + (d : Int) := ⟨_, rfl⟩
 have um : 0 ≤ m ∧ m ≤ 255 := by omega
 obtain ⟨v, hv⟩ : ∃ v, v = Go.bits .xor .u8 y m := ⟨_, rfl⟩
 have uv : 0 ≤ v ∧ v ≤ 255 := by rw [hv]; exact sm_xor _ _ uy um
 obtain ⟨M, hM⟩ : ∃ M, M = L.set i v := ⟨_, rfl⟩
 have lM : M.length = L.length := by rw [hM, List.length_set]
 have uM : u8ok M := by
   rw [hM]
   exact fun x hx => (List.mem_or_eq_of_mem_set hx).elim (uL x) (fun e => e ▸ uv)
 obtain ⟨R, rc, hx⟩ : ∃ R rc, openX (strOfNums K) (strOfNums N) X M = (R, rc) := ⟨_, _, rfl⟩
 have v4 : spec_OpenBytes.f 300000 (strOfNums K) (strOfNums N) X M = some (R, rc) := by rw [spec_openx _ _ _ _ uX uM, hx]
 have lR : R.length ≤ 70000 := by have := openX_len (strOfNums K) (strOfNums N) X M uM; rw [hx] at this; exact this
 have EK : Aside0 (spec_BlobOf.f 1000 l0 32 = some (strOfNums K)) := ⟨eK 1000 (by decide)⟩
 have EX : Aside0 (spec_BytesOf.f 1000 l0 9 = some X) := ⟨eX 1000 (by decide)⟩
 have EB : Aside0 (spec_PlainOf.f 1000 l1 = some B) := ⟨eB 1000 (by decide)⟩
 have EP : Aside0 (laws_at.f l0 0 1000 = some (p : Int)) := ⟨ep⟩
 have EQ : Aside0 (laws_at.f l1 0 1000 = some (q : Int)) := ⟨eq⟩
 have EI : Aside0 (laws_at.f l1 1 (L.length : Int) = some (i : Int)) := ⟨ei⟩
 have ED : Aside0 (laws_at.f l1 2 255 = some (d : Int)) := ⟨ed⟩
 have N1 := Aside0.mk n1
 have N2 := Aside0.mk n2
 have V1 := Aside0.mk v1
 have V2 := Aside0.mk v2
 have V3 := Aside0.mk v3
 have V4 := Aside0.mk v4
 have VX := Aside0.mk hx
 have K1 := Aside0.mk k1
 have K2 := Aside0.mk k2
 have UX : Aside0 (u8ok X) := ⟨uX⟩
 have UB : Aside0 (u8ok B) := ⟨uB⟩
 have UL : Aside0 (u8ok L) := ⟨uL⟩
 have UM := Aside0.mk uM
 have HZ : Aside0 (L.length = B.length + 16 ∧ B.length ≤ 100 ∧ X.length ≤ 9 ∧ R.length ≤ 70000 ∧ M.length = L.length ∧ i < L.length) := ⟨lL, lB, lX, lR, lM, hi⟩
 have HY := Aside0.mk hy
 have HMM := Aside0.mk hM
 have HM := Aside0.mk hm
 have HMU := Aside0.mk um
 have HV := Aside0.mk hv
 have HI := Aside0.mk hi
 have HD := Aside0.mk hd
 have HR0 := Aside0.mk hr0
 have HC0 := Aside0.mk hc0
 have HR1 := Aside0.mk hr1
 have HC1 := Aside0.mk hc1
 have d0 : decide (1048576 < (l0.length : Int)) = false := decide_eq_false (by omega)
 have d1 : decide (1048576 < (l1.length : Int)) = false := decide_eq_false (by omega)
 have d2 : decide (1048576 < l0.length) = false := decide_eq_false (by omega)
 have d3 : decide (1048576 < l1.length) = false := decide_eq_false (by omega)
 clear eK eX eB ep eq ei ed n1 n2 v1 v2 v3 v4 hx k1 k2 uX uB uL uM uK lK lX lB lN lL lR eN kK hM lM hy hm um hv uv uy hi hd hp hq hr0 hc0 hr1 hc1 h0 h1 b0 b1 w0 w1
 have HB : Aside0 (Below w.heap.size w w) := ⟨Below.refl _ _⟩
 go_enter Try.func5, Try.ntmps5
 go_wp2_with fail
 refine (spec_BlobOf.calls 1000 A0 c0 l0 32 (strOfNums K) _ (Kd.C_below HR0.out HB.out) HC0.out EK.out).mono ?_
 rintro e w1 ⟨rfl, hb⟩
 have HB : Aside0 (Below w.heap.size w w1) := ⟨below_then HB.out HB.out.size hb⟩
 clear hb
 go_wp2_with fail
 refine (laws_at.calls A0 c0 l0 0 1000 (p : Int) _ (Kd.C_below HR0.out HB.out) HC0.out EP.out).mono ?_
 rintro e w2 ⟨rfl, hd⟩
 have hb := hd.below
 have HB : Aside0 (Below w.heap.size w w2) := ⟨below_then HB.out HB.out.size hb⟩
 clear hb hd
 go_wp2_with fail
 refine (laws_at.calls A1 c1 l1 0 1000 (q : Int) _ (Kd.C_below HR1.out HB.out) HC1.out EQ.out).mono ?_
 rintro e w3 ⟨rfl, hd⟩
 have hb := hd.below
 have HB : Aside0 (Below w.heap.size w w3) := ⟨below_then HB.out HB.out.size hb⟩
 clear hb hd
 go_wp2_with fail
 refine (impl_SealNonce.calls 300000 (p : Int) (q : Int) (strOfNums N) 0 _ N1.out).mono ?_
 rintro e w4 ⟨rfl, hb⟩
 have HB : Aside0 (Below w.heap.size w w4) := ⟨below_then HB.out HB.out.size hb⟩
 clear hb
 go_wp2_with fail
 refine (laws_at.calls A0 c0 l0 0 1000 (p : Int) _ (Kd.C_below HR0.out HB.out) HC0.out EP.out).mono ?_
 rintro e w5 ⟨rfl, hd⟩
 have hb := hd.below
 have HB : Aside0 (Below w.heap.size w w5) := ⟨below_then HB.out HB.out.size hb⟩
 clear hb hd
 go_wp2_with fail
 refine (laws_at.calls A1 c1 l1 0 1000 (q : Int) _ (Kd.C_below HR1.out HB.out) HC1.out EQ.out).mono ?_
 rintro e w6 ⟨rfl, hd⟩
 have hb := hd.below
 have HB : Aside0 (Below w.heap.size w w6) := ⟨below_then HB.out HB.out.size hb⟩
 clear hb hd
 go_wp2_with fail
 refine (spec_SealNonce.calls (p : Int) (q : Int) (strOfNums N) 0 _ N2.out).mono ?_
 rintro e w7 ⟨rfl, hb⟩
 have HB : Aside0 (Below w.heap.size w w7) := ⟨below_then HB.out HB.out.size hb⟩
 clear hb
 go_wp2_with fail
 refine (spec_BytesOf.calls 1000 A0 c0 l0 9 X _ (Kd.C_below HR0.out HB.out) HC0.out EX.out).mono ?_
 rintro e w8 ⟨v, rfl, hR, hb⟩
 have HB : Aside0 (Below w.heap.size w w8) := ⟨below_then HB.out HB.out.size hb⟩
 obtain ⟨A_x, c_x, rfl, hcc, hCC⟩ := Kd.R_reads hR
 have HC_x := Aside0.mk hCC
 have HL_x := Aside0.mk hcc
 clear hb hR hCC hcc
 go_wp2_with fail
 refine (spec_PlainOf.calls 1000 A1 c1 l1 B _ (Kd.C_below HR1.out HB.out) HC1.out EB.out).mono ?_
 rintro e w9 ⟨v, rfl, hR, hb⟩
 have HB : Aside0 (Below w.heap.size w w9) := ⟨below_then HB.out HB.out.size hb⟩
 have HC_x := Aside0.mk (Kd.C_below HC_x.out hb)
 obtain ⟨A_b, c_b, rfl, hcc, hCC⟩ := Kd.R_reads hR
 have HC_b := Aside0.mk hCC
 have HL_b := Aside0.mk hcc
 clear hb hR hCC hcc
 have HX0 := HC_x
 have HA : Aside0 (Below w9.heap.size w9 w9) := ⟨Below.refl _ _⟩
 have HWS : Aside0 (w.heap.size ≤ w9.heap.size) := ⟨HB.out.size⟩
 go_wp2_with fail
 refine (SealBytes_in (strOfNums K) (strOfNums N) A_x c_x X A_b c_b B L 0 _ HC_x.out HL_x.out HC_b.out HL_b.out UX.out UB.out V1.out).mono ?_
 rintro e w10 ⟨v, rfl, hR, hb⟩
 have HB : Aside0 (Below w.heap.size w w10) := ⟨below_then HB.out HB.out.size hb⟩
 have HC_x := Aside0.mk (Kd.C_below HC_x.out hb)
 have HC_b := Aside0.mk (Kd.C_below HC_b.out hb)
 have HA : Aside0 (Below w9.heap.size w9 w10) := ⟨below_then HA.out HA.out.size hb⟩
 have hrow : rowB w10 w9.heap.size v L := hR.resolve_left (fun h => by have h1 := HZ.out.1; rw [h.2] at h1; simp at h1)
 obtain ⟨g, c_s, rfl, hcc⟩ := rowB_form hrow
 have HC_s := Aside0.mk (rowB_C hrow (by have := HZ.out; omega))
 have HL_s := Aside0.mk hcc
 have HRB_s := Aside0.mk hrow
 clear hb hR hcc hrow
 go_wp2_with fail
 refine (spec_SealBytes.calls 300000 (strOfNums K) (strOfNums N) A_x c_x X A_b c_b B L 0 _ HC_x.out HL_x.out HC_b.out HL_b.out V2.out).mono ?_
 rintro e w11 ⟨v, rfl, hR, hb⟩
 have HB : Aside0 (Below w.heap.size w w11) := ⟨below_then HB.out HB.out.size hb⟩
 have HC_x := Aside0.mk (Kd.C_below HC_x.out hb)
 have HC_b := Aside0.mk (Kd.C_below HC_b.out hb)
 have HC_s := Aside0.mk (Kd.C_below HC_s.out hb)
 have HA : Aside0 (Below w9.heap.size w9 w11) := ⟨below_then HA.out HA.out.size hb⟩
 have HRB_s := Aside0.mk (rowB_below HRB_s.out hb)
 obtain ⟨A_t, c_t, rfl, hcc, hCC⟩ := Kd.R_reads hR
 have HC_t := Aside0.mk hCC
 have HL_t := Aside0.mk hcc
 clear hb hR hCC hcc
 go_wp2_with fail
 refine (OpenBytes_in (strOfNums K) (strOfNums N) A_x c_x X (some ⟨g, 0, none⟩) c_s L B 0 _ HC_x.out HL_x.out HC_s.out HL_s.out UX.out UL.out V3.out).mono ?_
 rintro e w12 ⟨v, rfl, hR, hb⟩
 have HB : Aside0 (Below w.heap.size w w12) := ⟨below_then HB.out HB.out.size hb⟩
 have HC_x := Aside0.mk (Kd.C_below HC_x.out hb)
 have HC_b := Aside0.mk (Kd.C_below HC_b.out hb)
 have HC_s := Aside0.mk (Kd.C_below HC_s.out hb)
 have HC_t := Aside0.mk (Kd.C_below HC_t.out hb)
 have HA : Aside0 (Below w9.heap.size w9 w12) := ⟨below_then HA.out HA.out.size hb⟩
 have HRB_s := Aside0.mk (rowB_below HRB_s.out hb)
 obtain ⟨A_y, c_y, rfl, hcc, hCC⟩ := RB_reads hR (by have := HZ.out; omega)
 have HC_y := Aside0.mk hCC
 have HL_y := Aside0.mk hcc
 clear hb hR hCC hcc
 go_wp2_with fail
 refine (impl_SealKeys.calls 300000 (strOfNums K) _ _ 0 _ K1.out).mono ?_
 rintro e w13 ⟨rfl, hb⟩
 have HB : Aside0 (Below w.heap.size w w13) := ⟨below_then HB.out HB.out.size hb⟩
 have HC_x := Aside0.mk (Kd.C_below HC_x.out hb)
 have HC_b := Aside0.mk (Kd.C_below HC_b.out hb)
 have HC_s := Aside0.mk (Kd.C_below HC_s.out hb)
 have HC_t := Aside0.mk (Kd.C_below HC_t.out hb)
 have HC_y := Aside0.mk (Kd.C_below HC_y.out hb)
 have HA : Aside0 (Below w9.heap.size w9 w13) := ⟨below_then HA.out HA.out.size hb⟩
 have HRB_s := Aside0.mk (rowB_below HRB_s.out hb)
 clear hb
 go_wp2_with fail
 refine (spec_SealKeys.calls (strOfNums K) _ _ 0 _ K2.out).mono ?_
 rintro e w14 ⟨rfl, hb⟩
 have HB : Aside0 (Below w.heap.size w w14) := ⟨below_then HB.out HB.out.size hb⟩
 have HC_x := Aside0.mk (Kd.C_below HC_x.out hb)
 have HC_b := Aside0.mk (Kd.C_below HC_b.out hb)
 have HC_s := Aside0.mk (Kd.C_below HC_s.out hb)
 have HC_t := Aside0.mk (Kd.C_below HC_t.out hb)
 have HC_y := Aside0.mk (Kd.C_below HC_y.out hb)
 have HA : Aside0 (Below w9.heap.size w9 w14) := ⟨below_then HA.out HA.out.size hb⟩
 have HRB_s := Aside0.mk (rowB_below HRB_s.out hb)
 clear hb
 have k_s := Kd.C_string (P := Try.prog) (dst := 9) (src := 22) (c := c_s) Try.underlying22 Try.underlying5 Try.underlying9 HC_s.out
 have k_t := Kd.C_string (P := Try.prog) (dst := 9) (src := 22) (c := c_t) Try.underlying22 Try.underlying5 Try.underlying9 HC_t.out
 have k_y := Kd.C_string (P := Try.prog) (dst := 9) (src := 22) (c := c_y) Try.underlying22 Try.underlying5 Try.underlying9 HC_y.out
 have k_b := Kd.C_string (P := Try.prog) (dst := 9) (src := 22) (c := c_b) Try.underlying22 Try.underlying5 Try.underlying9 HC_b.out
 have hsum : wrap64 ((B.length : Int) + 16) = (L.length : Int) := by have h1 := HZ.out; unfold wrap64; omega
 have hsum2 : (B.length : Int) + 16 = (L.length : Int) := by have h1 := HZ.out; clear hsum; omega
 clear hsum2
 go_upto_region 15 with (fail)
 clear k_s k_t k_y k_b hsum
 have HB := Aside0.mk (below_drew1 HB.out)
 have HA := Aside0.mk (below_drew1 HA.out)
 have HRB_s := Aside0.mk (rowB_below HRB_s.out (below_drew (Below.refl w14.heap.size w14)))
 clear HC_x HC_b HC_s HC_t HC_y
 have HKS : Aside0 (∀ w', Below w14.drew.heap.size w14.drew w' → w'.cell? ⟨g, i, none⟩ = some (.int .u8 y)) := ⟨fun w' h => by
   obtain ⟨g2, cap2, e2, _, _, _, hv⟩ := rowB_below HRB_s.out h
   injection e2 with e3
   injection e3 with e3
   injection e3 with e3
   subst e3
   rw [hv i HI.out, HY.out]⟩
 have hi1 : i < L.length := HI.out
 have hi2 : (i : Int) < (L.length : Int) := by have := HI.out; omega
 have hi0 : (0 : Int) ≤ (i : Int) := Int.natCast_nonneg i
 have hm1 : wrap64 (1 + (d : Int)) = m := by rw [HM.out]; have := HD.out; unfold wrap64; omega
 have hm2 : 1 + (d : Int) = m := HM.out.symm
 have hm4 : m % 256 = m := by have := HMU.out; omega
 have hxo : Go.bits .xor .u8 y m = v := HV.out.symm
 refine start_ (n := 14) (S := fun w' => Below w14.drew.heap.size w14.drew w') (ds := [13]) #[false, false, false, false, false, false, false, false, false, false, false, false, false, false] (by kernel_rfl) rfl rfl (Below.refl _ _) (fun hHeld => ?_)
 refine with_tabW fseal_tab15 fseal_bits15 (fun HT_ HW_ => ?_)
 generalize w14.drew = wz at hHeld HB HA HRB_s HKS ⊢
 refine pure_ (i := 0) (N := some 145) (v := ?_) (a' := ?_) #[true, false, false, false, false, false, false, false, false, false, false, false, false, false] rfl rfl (any_of HT_.out (by kernel_rfl)) (fun _ _ _ h => h) (Or.inl ⟨by rfl, ?_⟩) ?_ ?_
 rotate_left
 · intro w'
   go_simp
   with_reducible rfl
 rotate_left
 · simp only [Act.put, sA_, s0_, s1_, i64_w, i32_w]
   rfl
 refine pure_ (i := 1) (N := some 146) (v := ?_) (a' := ?_) #[true, true, false, false, false, false, false, false, false, false, false, false, false, false] rfl rfl (any_of HT_.out (by kernel_rfl)) (fun _ _ _ h => h) (Or.inl ⟨by rfl, ?_⟩) ?_ ?_
 rotate_left
 · intro w'
   go_simp
   with_reducible rfl
 rotate_left
 · simp only [Act.put, sA_, s0_, s1_, i64_w, i32_w]
   rfl
 refine pure_ (i := 2) (N := some 147) (v := ?_) (a' := ?_) #[true, true, true, false, false, false, false, false, false, false, false, false, false, false] rfl rfl (any_of HT_.out (by kernel_rfl)) (fun _ _ _ h => h) (Or.inl ⟨by rfl, ?_⟩) ?_ ?_
 rotate_left
 · intro w'
   go_simp
   with_reducible rfl
 rotate_left
 · simp only [Act.put, sA_, s0_, s1_, i64_w, i32_w]
   rfl
 refine pure_ (i := 3) (N := some 148) (v := ?_) (a' := ?_) #[true, true, true, true, false, false, false, false, false, false, false, false, false, false] rfl rfl (any_of HT_.out (by kernel_rfl)) (fun _ _ _ h => h) (Or.inl ⟨by rfl, ?_⟩) ?_ ?_
 rotate_left
 · intro w'
   go_simp
   with_reducible rfl
 rotate_left
 · simp only [Act.put, sA_, s0_, s1_, i64_w, i32_w]
   rfl
 refine pure_ (i := 7) (N := some 152) (v := ?_) (a' := ?_) #[true, true, true, true, false, false, false, true, false, false, false, false, false, false] rfl rfl (any_of HT_.out (by kernel_rfl)) (fun _ _ _ h => h) (Or.inl ⟨by rfl, ?_⟩) ?_ ?_
 rotate_left
 · intro w'
   go_simp
   with_reducible rfl
 rotate_left
 · simp only [Act.put, sA_, s0_, s1_, i64_w, i32_w]
   rfl
 refine one_ (i := 4) (N := some 149) #[true, true, true, true, true, false, false, true, false, false, false, false, false, false] rfl rfl (one_of HT_.out (by kernel_rfl)) (by decide) (fun K hK => ?_)
 go_simp
 with_reducible refine (laws_at.calls A1 c1 l1 1 (L.length : Int) (i : Int) _ (Kd.C_below HR1.out HB.out) HC1.out EI.out).mono ?_
 rintro e wa ⟨rfl, hd⟩
 have hb4 := hd.below
 clear hd
 have HBa := Aside0.mk (below_then HB.out HB.out.size hb4)
 refine hK.out _ _ (below_then hHeld hHeld.size hb4) (fun hHeld => ?_)
 clear hK K
 refine pure_ (i := 5) (N := some 150) (v := ?_) (a' := ?_) #[true, true, true, true, true, true, false, true, false, false, false, false, false, false] rfl rfl (any_of HT_.out (by kernel_rfl)) (fun _ _ _ h => h) (Or.inl ⟨by rfl, ?_⟩) ?_ ?_
 rotate_left
 · intro w'
   go_simp
   with_reducible rfl
 rotate_left
 · simp only [Act.put, sA_, s0_, s1_, i64_w, i32_w]
   rfl
 refine take_ (i := 6) (N := some 151) (v := ?_) (a' := ?_) #[true, true, true, true, true, true, true, true, false, false, false, false, false, false] rfl rfl (take_ofW HT_.out HW_.out (by kernel_rfl)) (fun _ _ _ h => h) (Or.inl ⟨by rfl, ?_⟩) hHeld ?_ ?_
 rotate_left
 · rintro w' s0
   have ks := HKS.out _ s0
   go_simp
   with_reducible rfl
 rotate_left
 · simp only [Act.put, sA_, s0_, s1_, i64_w, i32_w]
   rfl
 refine one_ (i := 8) (N := some 153) #[true, true, true, true, true, true, true, true, true, false, false, false, false, false] rfl rfl (one_of HT_.out (by kernel_rfl)) (by decide) (fun K hK => ?_)
 go_simp
 with_reducible refine (laws_at.calls A1 c1 l1 2 255 (d : Int) _ (Kd.C_below HR1.out HBa.out) HC1.out ED.out).mono ?_
 rintro e wb ⟨rfl, hd⟩
 have hb8 := hd.below
 clear hd
 refine hK.out _ _ (below_then hHeld hHeld.size hb8) (fun hHeld => ?_)
 clear hK K
 refine pure_ (i := 9) (N := some 154) (v := ?_) (a' := ?_) #[true, true, true, true, true, true, true, true, true, true, false, false, false, false] rfl rfl (any_of HT_.out (by kernel_rfl)) (fun _ _ _ h => h) (Or.inl ⟨by rfl, ?_⟩) ?_ ?_
 rotate_left
 · intro w'
   go_simp
   with_reducible rfl
 rotate_left
 · simp only [Act.put, sA_, s0_, s1_, i64_w, i32_w]
   rfl
 refine pure_ (i := 10) (N := some 155) (v := ?_) (a' := ?_) #[true, true, true, true, true, true, true, true, true, true, true, false, false, false] rfl rfl (any_of HT_.out (by kernel_rfl)) (fun _ _ _ h => h) (Or.inl ⟨by rfl, ?_⟩) ?_ ?_
 rotate_left
 · intro w'
   go_simp
   with_reducible rfl
 rotate_left
 · simp only [Act.put, sA_, s0_, s1_, i64_w, i32_w]
   rfl
 refine pure_ (i := 11) (N := some 156) (v := ?_) (a' := ?_) #[true, true, true, true, true, true, true, true, true, true, true, true, false, false] rfl rfl (any_of HT_.out (by kernel_rfl)) (fun _ _ _ h => h) (Or.inl ⟨by rfl, ?_⟩) ?_ ?_
 rotate_left
 · intro w'
   go_simp
   with_reducible rfl
 rotate_left
 · simp only [Act.put, sA_, s0_, s1_, i64_w, i32_w]
   rfl
 refine pure_ (i := 12) (N := some 157) (v := ?_) (a' := ?_) #[true, true, true, true, true, true, true, true, true, true, true, true, true, false] rfl rfl (any_of HT_.out (by kernel_rfl)) (fun _ _ _ h => h) (Or.inl ⟨by rfl, ?_⟩) ?_ ?_
 rotate_left
 · intro w'
   go_simp
   with_reducible rfl
 rotate_left
 · simp only [Act.put, sA_, s0_, s1_, i64_w, i32_w]
   rfl
 refine last_ (i := 13) (N := none) #[true, true, true, true, true, true, true, true, true, true, true, true, true, true] rfl rfl (one_of HT_.out (by kernel_rfl)) (by decide) (fun K hK => ?_)
 have HSR := rowB_below HRB_s.out hHeld
 obtain ⟨cS, fS⟩ : (∃ x, wb.cell? ⟨g, i, none⟩ = some x) ∧ wb.frozen? ⟨g, i, none⟩ = false := sm_cell HSR i HI.out
 obtain ⟨xS, cS⟩ := cS
 go_simp
 refine hK.out _ _ ?_
 clear hK K
 refine done_ (done_of HT_.out (by kernel_rfl)) ?_
 have HST : Aside0 (Go.bits .xor .u8 y (IntKind.u8.wrap (wrap64 m)) = v) := ⟨by
   clear hm1 hm2 hm4 hxo
   have h1 : wrap64 m = m := by have := HMU.out; unfold wrap64; omega
   have h2 : IntKind.u8.wrap m = m := by have := HMU.out; rw [IntKind.wrap_u8]; omega
   rw [h1, h2, HV.out]⟩
 rw [HST.out]
 clear hm1 hm2 hm4 hxo hi0 hi1 hi2 cS fS HST
 have HS2 : rowB (wb.setCell ⟨g, i, none⟩ (.int .u8 v)) w9.heap.size (.slice (some ⟨g, 0, none⟩) M.length c_s) M := by
   have h := rowB_setL HSR i HI.out v
   rw [HMM.out, List.length_set]
   exact h
 have hg : w9.heap.size ≤ g := sm_base HSR
 have HA : Aside0 (Below w9.heap.size w9 (wb.setCell ⟨g, i, none⟩ (.int .u8 v))) := ⟨(below_then HA.out HA.out.size hHeld).setCell (p := ⟨g, i, none⟩) hg _⟩
 have HB : Aside0 (Below w.heap.size w (wb.setCell ⟨g, i, none⟩ (.int .u8 v))) := ⟨(below_then HB.out HB.out.size hHeld).setCell (p := ⟨g, i, none⟩) (Nat.le_trans HWS.out hg) _⟩
 clear hHeld HSR hg HBa hb4 hb8 HRB_s HKS
 have HMZ : Aside0 (M.length = L.length) := ⟨HZ.out.2.2.2.2.1⟩
 rw [← HMZ.out]
 generalize wb.setCell ⟨g, i, none⟩ (.int .u8 v) = wm at HS2 HA HB ⊢
 have HC_x := Aside0.mk (Kd.C_below HX0.out HA.out)
 have HC_m := Aside0.mk (rowB_C HS2 (by have := HZ.out; omega))
 have HL_m : Aside0 (M.length ≤ c_s) := ⟨by rw [HMZ.out]; exact HL_s.out⟩
 clear HS2
 go_wp2_with fail
 refine (OpenBytes_in (strOfNums K) (strOfNums N) A_x c_x X (some ⟨g, 0, none⟩) c_s M R rc _ HC_x.out HL_x.out HC_m.out HL_m.out UX.out UM.out VX.out).mono ?_
 rintro e w15 ⟨v1, rfl, hR, hb⟩
 have HB : Aside0 (Below w.heap.size w w15) := ⟨below_then HB.out HB.out.size hb⟩
 have HC_x := Aside0.mk (Kd.C_below HC_x.out hb)
 have HC_m := Aside0.mk (Kd.C_below HC_m.out hb)
 obtain ⟨A_z, c_z, rfl, hcc, hCC⟩ := RB_reads hR (by have := HZ.out; omega)
 have HC_z := Aside0.mk hCC
 have HL_z := Aside0.mk hcc
 clear hb hR hCC hcc
 go_wp2_with fail
 refine (spec_OpenBytes.calls 300000 (strOfNums K) (strOfNums N) A_x c_x X (some ⟨g, 0, none⟩) c_s M R rc _ HC_x.out HL_x.out HC_m.out HL_m.out V4.out).mono ?_
 rintro e w16 ⟨v2, rfl, hR, hb⟩
 have HB : Aside0 (Below w.heap.size w w16) := ⟨below_then HB.out HB.out.size hb⟩
 have HC_x := Aside0.mk (Kd.C_below HC_x.out hb)
 have HC_m := Aside0.mk (Kd.C_below HC_m.out hb)
 have HC_z := Aside0.mk (Kd.C_below HC_z.out hb)
 obtain ⟨A_u, c_u, rfl, hcc, hCC⟩ := Kd.R_reads hR
 have HC_u := Aside0.mk hCC
 have HL_u := Aside0.mk hcc
 clear hb hR hCC hcc
 have k_z := Kd.C_string (P := Try.prog) (dst := 9) (src := 22) (c := c_z) Try.underlying22 Try.underlying5 Try.underlying9 HC_z.out
 have k_u := Kd.C_string (P := Try.prog) (dst := 9) (src := 22) (c := c_u) Try.underlying22 Try.underlying5 Try.underlying9 HC_u.out
 go_wp2
 go_ret
 exact ⟨rfl, HB.out⟩
set_option maxRecDepth 100000 in
theorem FnSeal_walk (a0 : Option Addr) (len0 cap0 : Nat) (z0 : List Int) (a1 : Option Addr) (len1 cap1 : Nat) (z1 : List Int) (w : World) (w0 : (a0 = none ∧ len0 = 0 ∧ cap0 = 0 ∧ z0 = []) ∨ ∃ x, a0 = some x ∧ len0 ≤ cap0 ∧ cap0 ≤ maxLen ∧ z0.length = cap0 ∧ (∀ i, i < z0.length → w.cell? (x.add i) = some (.int .u8 (z0.getD i 0))) ∧ ∀ n ∈ z0, (Lit.int .u8 n).wf = true) (y0 : len0 * 1 ≤ 140737488351232) (w1 : (a1 = none ∧ len1 = 0 ∧ cap1 = 0 ∧ z1 = []) ∨ ∃ x, a1 = some x ∧ len1 ≤ cap1 ∧ cap1 ≤ maxLen ∧ z1.length = cap1 ∧ (∀ i, i < z1.length → w.cell? (x.add i) = some (.int .u8 (z1.getD i 0))) ∧ ∀ n ∈ z1, (Lit.int .u8 n).wf = true) (y1 : len1 * 1 ≤ 140737488351232) :
   Calls Try.prog 5 #[.slice a0 len0 cap0, .slice a1 len1 cap1] w fun e w' => e = .returned (.bool true) ∧ Below w.heap.size w w' := by
 obtain ⟨l0, rfl, hr0, hm0, hw0, hc0⟩ := ReadsInt.ofRowC w0
 obtain ⟨l1, rfl, hr1, hm1, hw1, hc1⟩ := ReadsInt.ofRowC w1
 by_cases b0 : 1048576 < l0.length
 · have d0 : decide (1048576 < (l0.length : Int)) = true := decide_eq_true (by omega)
   have d2 : decide (1048576 < l0.length) = true := decide_eq_true b0
   clear hr0 hr1 hc0 hc1 hm0 hm1 hw0 hw1 w0 w1 b0 y0 y1
   go_enter Try.func5, Try.ntmps5
   go_wp2
   go_ret
   exact ⟨rfl, Below.refl _ _⟩
 by_cases b1 : 1048576 < l1.length
 · have d0 : decide (1048576 < (l0.length : Int)) = false := decide_eq_false (by omega)
   have d2 : decide (1048576 < l0.length) = false := decide_eq_false b0
   have d1 : decide (1048576 < (l1.length : Int)) = true := decide_eq_true (by omega)
   have d3 : decide (1048576 < l1.length) = true := decide_eq_true b1
   clear hr0 hr1 hc0 hc1 hm0 hm1 hw0 hw1 w0 w1 b0 b1 y0 y1
   go_enter Try.func5, Try.ntmps5
   go_wp2
   go_ret
   exact ⟨rfl, Below.refl _ _⟩
 exact seal_in _ _ l0 _ _ l1 w (Kd.C_of_reads (d := (0 : Int)) (h1 := fun _ => rfl) hr0) hc0 (Kd.C_of_reads (d := (0 : Int)) (h1 := fun _ => rfl) hr1) hc1 (isU8_of hw0) (isU8_of hw1) (by omega) (by omega) hw0 hw1
end Go.Proofs.Ytlfpogbonmddmaa.Pg
namespace Go.Proofs.YtlfpogbonmddmaaW.PrintWords
open Go.ChangeShapes Go.WideShapes
theorem sized_ints {H : Type} {enc : TypeId × Value → H} {P : Program} {W : World} {base : Nat} {spare : Nat → Bool} {held : Bool} {t e : TypeId} {k : IntKind} {a : Option Addr} {len cap : Nat} {d : DataW H} {ps : List MemPlace} {ts : List TypeId} {ds : List (DataW H)} {j : Nat}
   (hsz : (DataW.weightsEach P ts ds).all (· ≤ reachBytes) = true) (ht : ts[j]? = some t) (hd : ds[j]? = some d) (hu : P.underlying t = some (.slice e)) (he : P.underlying e = some (.int k)) (hc : P.cellsOf e = 1) {B : Nat} (hB : P.bytesOf e = B)
   (h : DataW.Trod enc P W base spare held t (.slice a len cap) d ps) : len * B ≤ 140737488351232 := by
 obtain ⟨fuel, hf⟩ := h
 rcases open_ints hu he hc hf with ⟨hcs, _⟩ | ⟨x, l, c, zs, hcs, _, hl, _, hz, hx, _, _⟩
 · simp [Value.cells] at hcs
   obtain ⟨rfl, rfl, rfl⟩ := hcs
   simp
 · simp [Value.cells] at hcs
   obtain ⟨rfl, rfl, rfl⟩ := hcs
   obtain ⟨hx, _⟩ := Prod.mk.inj hx
   subst hx
   have z := sized_slice hsz ht hd hu
   rw [hB] at z
   have hl2 : len ≤ zs.length := by
     rw [hz]
     split
     · exact hl
     · exact Nat.le_refl _
   have h1 : (lits (H := H) k (zs.take len)).length + (lits (H := H) k (zs.drop len)).length = zs.length := by
     simp [lits]
     omega
   rw [h1] at z
   exact Nat.le_trans (Nat.mul_le_mul_right _ hl2) z
end Go.Proofs.YtlfpogbonmddmaaW.PrintWords

/- Laid by a program of this session: of Pt19 what this law uses. -/
import Derived.Test.YtlfpogbonmddmaaZSlM9
import Derived.Test.YtlfpogbonmddmaaZSlPt3
import Derived.Test.YtlfpogbonmddmaaZSlPt8
import Derived.Test.YtlfpogbonmddmaaZSlPt9
import Derived.Test.YtlfpogbonmddmaaZSlM19
import Derived.Test.YtlfpogbonmddmaaZSlPt1
import Derived.Test.YtlfpogbonmddmaaZSlM23
import Derived.Test.YtlfpogbonmddmaaZSlPt18
namespace Go.Proofs.Ytlfpogbonmddmaa.P
open Go.RowKit Go.Proofs.YtlfpogbonmddmaaW.PrintWords Go.Proofs.YtlfpogbonmddmaaW.PrintLast Go.Proofs.YtlfpogbonmddmaaW.PrintMore
attribute [local go_sem] min2_int min_two
set_option linter.unusedVariables false
set_option linter.unusedSimpArgs false
def laws_szSlot.f (a0_0 : Int) (a0_1 : ByteArray) (a1 : Int) : Option (Int) := if (wrap64 (a1 - (a0_1.size : Int))) < 0 then (some (-1)) else (some (wrap64 (a1 - (a0_1.size : Int))))
set_option maxHeartbeats 8000000 in
set_option maxRecDepth 100000 in
theorem laws_szSlot.calls (a0_0 : Int) (a0_1 : ByteArray) (a1 : Int) (r : Int) (w : World) (h : laws_szSlot.f a0_0 a0_1 a1 = some r) :
    Calls Try.prog 30 #[.agg #[.int .i64 a0_0, .string a0_1], .int .i64 a1] w fun e w' => e = .returned (.int .i64 r) ∧ Below w.heap.size w w' := by
  have hu37 := Try.underlying37
  have HB := Aside0.mk (Below.refl w.heap.size w)
  have H : (if (wrap64 (a1 - (a0_1.size : Int))) < 0 then (some (-1)) else (some (wrap64 (a1 - (a0_1.size : Int))))) = some r := h
  clear h
  by_cases c3 : (wrap64 (a1 - (a0_1.size : Int))) < 0
  · rw [if_pos c3] at H
    have c3b0 : decide ((wrap64 (a1 - (a0_1.size : Int))) < 0) = true := decide_eq_true c3
    clear c3
    obtain rfl := Option.some.inj H
    go_enter Try.func30, Try.ntmps30
    go_wp2_with (first | ((with_reducible refine gate_dst (N := 2) rfl ?_); refine box_event ?hg (N := 2) ?hd (cs := #[.int .i64 a0_0, .string a0_1]) (t := 37) ?hr ?_; (case hd => rfl); (case hg => rfl); (case hr => first | (go_simp; done) | (go_simp; rfl)); intro gb427 hg w4 hbox hb; have n0_ := Aside0.mk (below_step (by repeat (first | (with_reducible first | exact HB.out | apply below_alloc | apply pw_below_drewN | apply below_drew1) | exact HB.out)) hb); have n1_ := Aside0.mk (hbox); have n2_ := Aside0.mk ((by rw [hg]; exact (below_size (by repeat (first | (with_reducible first | exact HB.out | apply below_alloc | apply pw_below_drewN | apply below_drew1) | exact HB.out))) : w.heap.size ≤ gb427)); have n3_ := Aside0.mk ((by rw [hg]; exact (below_size (by repeat (first | (with_reducible first | exact HB.out | apply below_alloc | apply pw_below_drewN | apply below_drew1) | exact HB.out))) : w.heap.size ≤ gb427)); clear HB; have HB := n0_; have BK427 := n1_; have GW427 := n2_; have GE427 := n3_; clear n0_ n1_ n2_ n3_; clear hb hbox hg; have hcz5_0 : w4.cell? ⟨gb427, 0, none⟩ = some (.int .i64 a0_0) := (blk_cell BK427.out 0).trans rfl; have hcz5_1 : w4.cell? ⟨gb427, 1, none⟩ = some (.string a0_1) := (blk_cell BK427.out 1).trans rfl; have hfz5_0 := blk_frozen BK427.out 0; have hfz5_1 := blk_frozen BK427.out 1))
    go_ret
    exact ⟨by first | rfl | (simp [errW_none, errW_some] <;> rfl) | (simp [*, errW_none, errW_some] <;> rfl), by repeat (first | (with_reducible first | exact HB.out | apply below_alloc | apply pw_below_drewN | apply below_drew1 | refine below_set ?_ GE427.out) | exact HB.out)⟩
  · rw [if_neg c3] at H
    have c3b0 : decide ((wrap64 (a1 - (a0_1.size : Int))) < 0) = false := decide_eq_false c3
    clear c3
    obtain rfl := Option.some.inj H
    go_enter Try.func30, Try.ntmps30
    go_wp2_with (first | ((with_reducible refine gate_dst (N := 2) rfl ?_); refine box_event ?hg (N := 2) ?hd (cs := #[.int .i64 a0_0, .string a0_1]) (t := 37) ?hr ?_; (case hd => rfl); (case hg => rfl); (case hr => first | (go_simp; done) | (go_simp; rfl)); intro gb427 hg w6 hbox hb; have n0_ := Aside0.mk (below_step (by repeat (first | (with_reducible first | exact HB.out | apply below_alloc | apply pw_below_drewN | apply below_drew1) | exact HB.out)) hb); have n1_ := Aside0.mk (hbox); have n2_ := Aside0.mk ((by rw [hg]; exact (below_size (by repeat (first | (with_reducible first | exact HB.out | apply below_alloc | apply pw_below_drewN | apply below_drew1) | exact HB.out))) : w.heap.size ≤ gb427)); have n3_ := Aside0.mk ((by rw [hg]; exact (below_size (by repeat (first | (with_reducible first | exact HB.out | apply below_alloc | apply pw_below_drewN | apply below_drew1) | exact HB.out))) : w.heap.size ≤ gb427)); clear HB; have HB := n0_; have BK427 := n1_; have GW427 := n2_; have GE427 := n3_; clear n0_ n1_ n2_ n3_; clear hb hbox hg; have hcz7_0 : w6.cell? ⟨gb427, 0, none⟩ = some (.int .i64 a0_0) := (blk_cell BK427.out 0).trans rfl; have hcz7_1 : w6.cell? ⟨gb427, 1, none⟩ = some (.string a0_1) := (blk_cell BK427.out 1).trans rfl; have hfz7_0 := blk_frozen BK427.out 0; have hfz7_1 := blk_frozen BK427.out 1))
    go_ret
    exact ⟨by first | rfl | (simp [errW_none, errW_some] <;> rfl) | (simp [*, errW_none, errW_some] <;> rfl), by repeat (first | (with_reducible first | exact HB.out | apply below_alloc | apply pw_below_drewN | apply below_drew1 | refine below_set ?_ GE427.out) | exact HB.out)⟩
def spec_SlotOK.f (a0_0 : Int) (a0_1 : ByteArray) : Option (Bool) := (spec_l01In.f a0_0 1 4294967295).bind fun t429 => (if t429 = true then (some (decide ((a0_1.size : Int) ≤ 170))) else (some false))
set_option maxHeartbeats 8000000 in
set_option maxRecDepth 100000 in
theorem spec_SlotOK.calls (a0_0 : Int) (a0_1 : ByteArray) (r : Bool) (w : World) (h : spec_SlotOK.f a0_0 a0_1 = some r) :
    Calls Try.prog 63 #[.agg #[.int .i64 a0_0, .string a0_1]] w fun e w' => e = .returned (.bool r) ∧ Below w.heap.size w w' := by
  have hu40 := Try.underlying40
  have HB := Aside0.mk (Below.refl w.heap.size w)
  have H : ((spec_l01In.f a0_0 1 4294967295).bind fun t429 => (if t429 = true then (some (decide ((a0_1.size : Int) ≤ 170))) else (some false))) = some r := h
  clear h
  replace H := Option.bind_eq_some_iff.mp H
  obtain ⟨t429, A20, H⟩ := H
  replace H : (if t429 = true then (some (decide ((a0_1.size : Int) ≤ 170))) else (some false)) = some r := H
  have A2 := Aside0.mk A20
  clear A20
  by_cases c3 : t429 = true
  · subst c3
    have H1 : (some (decide ((a0_1.size : Int) ≤ 170))) = some r := by rw [if_pos rfl] at H; exact H
    clear H
    have H := H1
    clear H1
    obtain rfl := Option.some.inj H
    go_enter Try.func63, Try.ntmps63
    go_wp2_with (first | ((with_reducible refine gate_dst (N := 1) rfl ?_); (try (refine gate_guard (by rfl) ?_; dsimp only)); refine box_event ?hg (N := 1) ?hd (cs := #[.int .i64 a0_0, .string a0_1]) (t := 40) ?hr ?_; (case hd => rfl); (case hg => rfl); (case hr => first | (go_simp; done) | (go_simp; rfl)); intro gb428 hg w4 hbox hb; have n0_ := Aside0.mk (below_step (by repeat (first | (with_reducible first | exact HB.out | apply below_alloc | apply pw_below_drewN | apply below_drew1) | exact HB.out)) hb); have n1_ := Aside0.mk (hbox); have n2_ := Aside0.mk ((by rw [hg]; exact (below_size (by repeat (first | (with_reducible first | exact HB.out | apply below_alloc | apply pw_below_drewN | apply below_drew1) | exact HB.out))) : w.heap.size ≤ gb428)); have n3_ := Aside0.mk ((by rw [hg]; exact (below_size (by repeat (first | (with_reducible first | exact HB.out | apply below_alloc | apply pw_below_drewN | apply below_drew1) | exact HB.out))) : w.heap.size ≤ gb428)); clear HB; have HB := n0_; have BK428 := n1_; have GW428 := n2_; have GE428 := n3_; clear n0_ n1_ n2_ n3_; clear hb hbox hg; have hcz5_0 : w4.cell? ⟨gb428, 0, none⟩ = some (.int .i64 a0_0) := (blk_cell BK428.out 0).trans rfl; have hcz5_1 : w4.cell? ⟨gb428, 1, none⟩ = some (.string a0_1) := (blk_cell BK428.out 1).trans rfl; have hfz5_0 := blk_frozen BK428.out 0; have hfz5_1 := blk_frozen BK428.out 1) | ((with_reducible refine gate_callee (f := 57) rfl ?_); refine goesL_ (some 5) rfl rfl Try.func57 (by kernel_rfl) rfl #[.int .i64 a0_0, .int .i64 1, .int .i64 4294967295] rfl (by (try simp only [List.map_toArray, List.map_cons, List.map_nil]); first | done | rfl | (simp only [List.length_drop, List.length_take]; rfl)) ?_; (with_reducible refine (spec_l01In.calls a0_0 1 4294967295 true _ A2.out).mono ?_); rintro e w' ⟨rfl, ⟨nd, rfl⟩⟩; refine ⟨_, rfl, ?_⟩))
    go_ret
    exact ⟨by first | rfl | (simp [errW_none, errW_some] <;> rfl) | (simp [*, errW_none, errW_some] <;> rfl), by repeat (first | (with_reducible first | exact HB.out | apply below_alloc | apply pw_below_drewN | apply below_drew1 | refine below_set ?_ GE428.out) | exact HB.out)⟩
  · replace c3 := Bool.eq_false_iff.mpr c3
    subst c3
    have H1 : (some false) = some r := by rw [if_neg (show ¬ (false = true) by decide)] at H; exact H
    clear H
    have H := H1
    clear H1
    obtain rfl := Option.some.inj H
    go_enter Try.func63, Try.ntmps63
    go_wp2_with (first | ((with_reducible refine gate_dst (N := 1) rfl ?_); (try (refine gate_guard (by rfl) ?_; dsimp only)); refine box_event ?hg (N := 1) ?hd (cs := #[.int .i64 a0_0, .string a0_1]) (t := 40) ?hr ?_; (case hd => rfl); (case hg => rfl); (case hr => first | (go_simp; done) | (go_simp; rfl)); intro gb428 hg w6 hbox hb; have n0_ := Aside0.mk (below_step (by repeat (first | (with_reducible first | exact HB.out | apply below_alloc | apply pw_below_drewN | apply below_drew1) | exact HB.out)) hb); have n1_ := Aside0.mk (hbox); have n2_ := Aside0.mk ((by rw [hg]; exact (below_size (by repeat (first | (with_reducible first | exact HB.out | apply below_alloc | apply pw_below_drewN | apply below_drew1) | exact HB.out))) : w.heap.size ≤ gb428)); have n3_ := Aside0.mk ((by rw [hg]; exact (below_size (by repeat (first | (with_reducible first | exact HB.out | apply below_alloc | apply pw_below_drewN | apply below_drew1) | exact HB.out))) : w.heap.size ≤ gb428)); clear HB; have HB := n0_; have BK428 := n1_; have GW428 := n2_; have GE428 := n3_; clear n0_ n1_ n2_ n3_; clear hb hbox hg; have hcz7_0 : w6.cell? ⟨gb428, 0, none⟩ = some (.int .i64 a0_0) := (blk_cell BK428.out 0).trans rfl; have hcz7_1 : w6.cell? ⟨gb428, 1, none⟩ = some (.string a0_1) := (blk_cell BK428.out 1).trans rfl; have hfz7_0 := blk_frozen BK428.out 0; have hfz7_1 := blk_frozen BK428.out 1) | ((with_reducible refine gate_callee (f := 57) rfl ?_); refine goesL_ (some 5) rfl rfl Try.func57 (by kernel_rfl) rfl #[.int .i64 a0_0, .int .i64 1, .int .i64 4294967295] rfl (by (try simp only [List.map_toArray, List.map_cons, List.map_nil]); first | done | rfl | (simp only [List.length_drop, List.length_take]; rfl)) ?_; (with_reducible refine (spec_l01In.calls a0_0 1 4294967295 false _ A2.out).mono ?_); rintro e w' ⟨rfl, ⟨nd, rfl⟩⟩; refine ⟨_, rfl, ?_⟩))
    go_ret
    exact ⟨by first | rfl | (simp [errW_none, errW_some] <;> rfl) | (simp [*, errW_none, errW_some] <;> rfl), by repeat (first | (with_reducible first | exact HB.out | apply below_alloc | apply pw_below_drewN | apply below_drew1 | refine below_set ?_ GE428.out) | exact HB.out)⟩
def spec_l06Bytes.f (a0 : ByteArray) (a1 ep : Int) (dt : ByteArray) : Option (List Int) :=
  (spec_l02Four.f ep).bind fun r4 => (spec_l04Nonce.f a1 ep).bind fun nn => (spec_l04Seal.f 300000 a0 nn [115, 108, 111, 116] (bytesL dt)).bind fun r => if r4.length + r.length ≤ 4000000 ∧ dt.size ≤ 4000000 then some (r4 ++ r) else none
def spec_l06Bytes_T1 : Bool × List (List Nat × List Nat) := (true, [([], []), ([0], [0]), ([1], [1]), ([], []), ([], []), ([], []), ([5], [5]), ([4, 6, 2], [4, 6]), ([], []), ([8], [8]), ([], []), ([10], [10]), ([11], [11]), ([3, 7, 9, 12, 7], [3, 7, 9, 12]), ([2, 13, 13], [2, 13]), ([14, 14, 0, 1, 2, 3, 4, 5, 6, 7, 8, 9, 10, 11, 12, 13, 14], [14])])
def spec_l06Bytes_B1 : List Nat := [0, 1, 3, 0, 0, 0, 32, 119, 0, 256, 0, 1024, 3072, 8191, 16383, 32767]
theorem spec_l06Bytes_tab1 : rtab .any (opsOf Try.f64 1) = spec_l06Bytes_T1 := by kernel_rfl
theorem spec_l06Bytes_bits1 : waitsOk spec_l06Bytes_T1.2 spec_l06Bytes_B1 = true := by kernel_rfl
@[reducible] def l06Act (a0 : ByteArray) (a1 ep : Int) (dt : ByteArray) (gb : Nat) (v9 v14 v15 v16 v19 : Value) : Act := { tmps := #[.string a0, .int .i64 a1, .agg #[.int .i64 ep, .string dt], undef, undef, .pointer (some ⟨gb, 0, none⟩), .slice none 0 0, .pointer (some ⟨gb, 0, none⟩), .int .i64 ep, v9, .string a0, .int .i64 a1, .pointer (some ⟨gb, 0, none⟩), .int .i64 ep, v14, v15, v16, .pointer (some ⟨gb, 1, none⟩), .string dt, v19, undef, undef], defers := [] }
def L06R (w0 w : World) (G : List Nat) (v : Value) (r4 : List Int) : Prop := Kp w G (fun W => Kd.R (Kd.int .u8) 5 W w0.heap.size (fun _ => True) v r4)
def slotL : List Int := [115, 108, 111, 116]
def L06C (w0 w : World) (g8 : Nat) (fr : Nat × Nat) : Prop := w0.heap.size ≤ g8 ∧ w.heap[g8]? = some (.cells (nums .u8 slotL).toArray 5 fr)
def L06B (w0 w : World) (G : List Nat) (v : Value) (dt : ByteArray) : Prop := Kp w G (fun W => rowB W w0.heap.size v (bytesL dt))
theorem l06R_new {w0 w : World} {B : Nat} {v : Value} {l : List Int} {G : List Nat} (h : Kd.R (Kd.int .u8) 5 w B (fun _ => True) v l) (hB : w0.heap.size ≤ B) (hG : ∀ k ∈ G, k < B) : L06R w0 w G v l := by
  intro W hW
  refine Kd.R_lower (base := B) ?_ hB
  have ho := Kd.own_of_R h
  refine Kd.R_of_own ?_ (fun _ _ => trivial)
  obtain ⟨hl, hx | ⟨g, cap, cur, e, hg, hh, h3⟩⟩ := ho
  · exact ⟨hl, .inl hx⟩
  · refine ⟨hl, .inr ⟨g, cap, cur, e, hg, ?_, h3⟩⟩
    rw [← hh]
    exact hW g (blk_lt hh) (fun hm => absurd (hG g hm) (by omega))
theorem l06R_step {w0 w w' : World} {G G' : List Nat} {v : Value} {l : List Int} (h : L06R w0 w G v l) (hs : w.heap.size ≤ w'.heap.size) (hG : ∀ k ∈ G', k ∈ G ∨ w.heap.size ≤ k) (hk : ∀ k, k < w.heap.size → k ∉ G' → w'.heap[k]? = w.heap[k]?) (hG2 : ∀ k ∈ G, k ∈ G') : L06R w0 w' G' v l := Kp.step h hs hG hk hG2
theorem l06B_step {w0 w w' : World} {G G' : List Nat} {v : Value} {l : ByteArray} (h : L06B w0 w G v l) (hs : w.heap.size ≤ w'.heap.size) (hG : ∀ k ∈ G', k ∈ G ∨ w.heap.size ≤ k) (hk : ∀ k, k < w.heap.size → k ∉ G' → w'.heap[k]? = w.heap[k]?) (hG2 : ∀ k ∈ G, k ∈ G') : L06B w0 w' G' v l := Kp.step h hs hG hk hG2
theorem l06B_new {w0 w : World} {B : Nat} {v : Value} {l : ByteArray} {G : List Nat} (h : rowB w B v (bytesL l)) (hB : w0.heap.size ≤ B) (hG : ∀ k ∈ G, k < B) : L06B w0 w G v l := by
  intro W hW
  have h' := rowB_same h (W' := W) (fun k h1 h2 => hW k h2 (fun hm => absurd (hG k hm) (by omega)))
  obtain ⟨g, cap, e, hg, h3⟩ := h'
  exact ⟨g, cap, e, by omega, h3⟩
theorem l06C_step {w0 w w' : World} {g8 : Nat} {fr : Nat × Nat} (h : L06C w0 w g8 fr) (hb : Below w.heap.size w w') : L06C w0 w' g8 fr := ⟨h.1, (hb.block _ (blk_lt h.2)).trans h.2⟩
def l06Mark (w : World) (g : Nat) : World := w.freeze ⟨g, 4, none⟩ 1
theorem l06Mark_heap (w : World) (g : Nat) (c : Array Value) (h : w.heap[g]? = some (.cells c 5 (0, 0))) : (l06Mark w g).heap[g]? = some (.cells c 5 (4, 5)) ∧ (l06Mark w g).heap.size = w.heap.size ∧ (∀ k, k ≠ g → (l06Mark w g).heap[k]? = w.heap[k]?) ∧ (∀ B, B ≤ g → Below B w (l06Mark w g)) := by
  have hg := blk_lt h
  unfold l06Mark World.freeze
  rw [if_neg (by decide)]
  have hk : ∀ (f : Obj → Obj) (k : Nat), k ≠ g → (w.heap.modify g f)[k]? = w.heap[k]? := fun f k hk => by
    rw [Array.getElem?_modify, if_neg (fun e => hk e.symm)]
  refine ⟨?_, by simp, fun k h => hk _ k h, fun B hB => ⟨rfl, rfl, rfl, by simp, fun k hkB => hk _ k (by omega)⟩⟩
  show (w.heap.modify g _)[g]? = _
  rw [Array.getElem?_modify, if_pos rfl, h]
  rfl
theorem l06Conv (w : World) (g : Nat) (c : Array Value) (hc : c.size = 4) (h : w.heap[g]? = some (.cells c 5 (0, 0))) : (convert 22 22 (.slice (some ⟨g, 0, none⟩) 4 4)).run Try.prog w = .ok (.slice (some ⟨g, 0, none⟩) 4 4) (l06Mark w g) := by
  have hsh : w.shape? g = some (5, c.size) := by
    unfold World.shape?
    rw [h]
  rw [hc] at hsh
  simp [convert, run_underlying Try.underlying22, run_underlying Try.underlying5, markStringish, hsh]
  rfl
def l06L (s c d : Nat) : Array Bool := #[true, true, decide (0 < s), true, true, true, true, decide (1 < s), decide (0 < c), decide (1 < c), true, true, decide (0 < d), false, false, false]
def l06rs (s c d : Nat) : List Nat := (if s = 0 then [2] else if s = 1 then [7] else []) ++ ((if c = 0 then [8] else if c = 1 then [9] else []) ++ (if d = 0 then [12] else []))
theorem l06_walk {P : Program} {ops : Array Oper} {Q : Exit → Act → World → Prop} {S : World → Prop} {ds : List Nat} (I : Nat → Nat → Nat → Act → World → Prop) (f0 : Nat)
    (hr : ∀ (s c : Fin 3) (d : Fin 2), s.val + c.val + d.val < 5 → Region.ready .any ops (l06L s c d) = l06rs s c d) (hS : ∀ s c d a w, I s c d a w → S w)
    (E2 : ∀ c d a w, I 0 c d a w → wpOp P ops Q 2 (I 1 c d) a w) (E7 : ∀ c d a w, I 1 c d a w → wpOp P ops Q 7 (I 2 c d) a w)
    (E8 : ∀ s d a w, I s 0 d a w → wpOp P ops Q 8 (I s 1 d) a w) (E9 : ∀ s d a w, I s 1 d a w → wpOp P ops Q 9 (I s 2 d) a w)
    (E12 : ∀ s c a w, I s c 0 a w → wpOp P ops Q 12 (I s c 1) a w) (hF : ∀ a w, I 2 2 1 a w → wpAnyLast P .any ops Q S ds f0 (l06L 2 2 1) a w) :
    ∀ (n s c d : Nat) (a : Act) (w : World), s + c + d + n = 5 → s ≤ 2 → c ≤ 2 → d ≤ 1 → I s c d a w → wpAnyLast P .any ops Q S ds (f0 + n) (l06L s c d) a w := by
  intro n
  induction n with
  | zero =>
    intro s c d a w hn hs hc hd h
    obtain rfl : s = 2 := by omega
    obtain rfl : c = 2 := by omega
    obtain rfl : d = 1 := by omega
    exact hF a w h
  | succ n ih =>
    intro s c d a w hn hs hc hd h
    refine wpAnyLast_all (rs := l06rs s c d) (hr ⟨s, by omega⟩ ⟨c, by omega⟩ ⟨d, by omega⟩ (by show s + c + d < 5; omega)) ?_ (fun i hi => ?_)
    · unfold l06rs
      by_cases h1 : s = 0
      · rw [if_pos h1]; simp
      by_cases h2 : s = 1
      · rw [if_neg h1, if_pos h2]; simp
      by_cases h3 : c = 0
      · rw [if_pos h3]; simp
      by_cases h4 : c = 1
      · rw [if_neg h3, if_pos h4]; simp
      rw [if_pos (show d = 0 by omega)]
      simp
    · unfold l06rs at hi
      rcases List.mem_append.1 hi with hi | hi
      · by_cases h1 : s = 0
        · subst h1
          rw [if_pos rfl] at hi
          obtain rfl : i = 2 := by simpa using hi
          exact wpOp_mono (fun a' w' h' => ⟨fun _ _ => hS _ _ _ _ _ h', ih 1 c d a' w' (by omega) (by omega) hc hd h'⟩) (E2 c d a w h)
        rw [if_neg h1] at hi
        by_cases h2 : s = 1
        · subst h2
          rw [if_pos rfl] at hi
          obtain rfl : i = 7 := by simpa using hi
          exact wpOp_mono (fun a' w' h' => ⟨fun _ _ => hS _ _ _ _ _ h', ih 2 c d a' w' (by omega) (by omega) hc hd h'⟩) (E7 c d a w h)
        rw [if_neg h2] at hi
        cases hi
      rcases List.mem_append.1 hi with hi | hi
      · by_cases h1 : c = 0
        · subst h1
          rw [if_pos rfl] at hi
          obtain rfl : i = 8 := by simpa using hi
          exact wpOp_mono (fun a' w' h' => ⟨fun _ _ => hS _ _ _ _ _ h', ih s 1 d a' w' (by omega) hs (by omega) hd h'⟩) (E8 s d a w h)
        rw [if_neg h1] at hi
        by_cases h2 : c = 1
        · subst h2
          rw [if_pos rfl] at hi
          obtain rfl : i = 9 := by simpa using hi
          exact wpOp_mono (fun a' w' h' => ⟨fun _ _ => hS _ _ _ _ _ h', ih s 2 d a' w' (by omega) hs (by omega) hd h'⟩) (E9 s d a w h)
        rw [if_neg h2] at hi
        cases hi
      · by_cases h1 : d = 0
        · subst h1
          rw [if_pos rfl] at hi
          obtain rfl : i = 12 := by simpa using hi
          exact wpOp_mono (fun a' w' h' => ⟨fun _ _ => hS _ _ _ _ _ h', ih s c 1 a' w' (by omega) hs hc (by omega) h'⟩) (E12 s c a w h)
        rw [if_neg h1] at hi
        cases hi
def L06I (a0 : ByteArray) (a1 ep : Int) (dt nn : ByteArray) (r4 : List Int) (gb : Nat) (w0 : World) (s c d : Nat) (a : Act) (w : World) : Prop :=
  ∃ (v9 v14 v15 v16 v19 : Value) (g8 : Nat) (G : List Nat), a = l06Act a0 a1 ep dt gb v9 v14 v15 v16 v19 ∧ Below w0.heap.size w0 w ∧ (∀ k ∈ G, k < w.heap.size) ∧
    ((c = 0 ∧ G = []) ∨ (0 < c ∧ G = [g8] ∧ v15 = .slice (some ⟨g8, 0, none⟩) 4 4 ∧ L06C w0 w g8 (if c = 1 then (0, 0) else (4, 5)))) ∧
    (0 < s → L06R w0 w G v9 r4) ∧ (1 < s → v14 = .string nn) ∧ (1 < c → v16 = .slice (some ⟨g8, 0, none⟩) 4 4) ∧ (0 < d → L06B w0 w G v19 dt)
set_option maxHeartbeats 8000000 in
set_option maxRecDepth 100000 in
theorem spec_l06Bytes.calls (a0 : ByteArray) (a1 ep : Int) (dt : ByteArray) (r : List Int) (w : World) (h : spec_l06Bytes.f a0 a1 ep dt = some r) :
    Calls Try.prog 64 #[.string a0, .int .i64 a1, .agg #[.int .i64 ep, .string dt]] w fun e w' => ∃ v0_ : Value, e = .returned v0_ ∧ Kd.R (Kd.int .u8) 5 w' w.heap.size (fun _ => True) v0_ r ∧ Below w.heap.size w w' := by
  unfold spec_l06Bytes.f at h
  replace h := Option.bind_eq_some_iff.mp h
  obtain ⟨r4, h2, h⟩ := h
  replace h := Option.bind_eq_some_iff.mp h
  obtain ⟨nn, h7, h⟩ := h
  replace h := Option.bind_eq_some_iff.mp h
  obtain ⟨rr, h13, h⟩ := h
  have H2 : Aside0 (spec_l02Four.f ep = some r4) := ⟨h2⟩
  have H7 : Aside0 (spec_l04Nonce.f a1 ep = some nn) := ⟨h7⟩
  have H13 : Aside0 (spec_l04Seal.f 300000 a0 nn slotL (bytesL dt) = some rr) := ⟨h13⟩
  by_cases hz : r4.length + rr.length ≤ 4000000 ∧ dt.size ≤ 4000000
  · rw [if_pos hz] at h
    obtain rfl : r4 ++ rr = r := by simpa using h
    have HZ := Aside0.mk hz
    have HB := Aside0.mk (Below.refl w.heap.size w)
    clear h h2 h7 h13 hz
    go_enter Try.func64, Try.ntmps64
    go_wp2_with ((with_reducible refine gate_dst (N := 5) rfl ?_); refine box_event ?hg (N := 5) ?hd (cs := #[.int .i64 ep, .string dt]) (t := 40) ?hr ?_; (case hd => rfl); (case hg => rfl); (case hr => first | (go_simp; done) | (go_simp; rfl)); intro gb hg w8 hbox hb; have n0_ := Aside0.mk (below_step HB.out hb); have n1_ := Aside0.mk (hbox); clear HB; have HB := n0_; have BK := n1_; clear n0_ n1_; clear hb hbox hg)
    go_upto_region 1 with (fail)
    have HB := Aside0.mk (below_drew1 HB.out)
    have BK := Aside0.mk (blk_drew BK.out)
    have HKS : Aside0 (∀ w', Below w8.drew.heap.size w8.drew w' → w'.cell? ⟨gb, 0, none⟩ = some (.int .i64 ep) ∧ w'.cell? ⟨gb, 1, none⟩ = some (.string dt)) := ⟨fun w' h => ⟨(blk_cell (blk_below BK.out h) 0).trans rfl, (blk_cell (blk_below BK.out h) 1).trans rfl⟩⟩
    refine start_ (n := 16) (S := fun w' => Below w8.drew.heap.size w8.drew w') (ds := []) #[false, false, false, false, false, false, false, false, false, false, false, false, false, false, false, false] (by kernel_rfl) rfl rfl (Below.refl _ _) (fun hHeld => ?_)
    refine with_tabW spec_l06Bytes_tab1 spec_l06Bytes_bits1 (fun HT_ HW_ => ?_)
    generalize w8.drew = w1 at hHeld HB BK HKS ⊢
    refine pure_ (i := 0) (N := some 7) (v := ?_) (a' := ?_) #[true, false, false, false, false, false, false, false, false, false, false, false, false, false, false, false] rfl rfl (any_of HT_.out (by kernel_rfl)) (fun _ _ _ h => h) (Or.inl ⟨by rfl, ?_⟩) ?_ ?_
    rotate_left
    · intro w'
      go_simp
      with_reducible rfl
    rotate_left
    · simp only [Act.put, List.setIfInBounds_toArray, List.set_cons_zero, List.set_cons_succ, i64_w, i32_w]
      rfl
    refine pure_ (i := 3) (N := some 10) (v := ?_) (a' := ?_) #[true, false, false, true, false, false, false, false, false, false, false, false, false, false, false, false] rfl rfl (any_of HT_.out (by kernel_rfl)) (fun _ _ _ h => h) (Or.inl ⟨by rfl, ?_⟩) ?_ ?_
    rotate_left
    · intro w'
      go_simp
      with_reducible rfl
    rotate_left
    · simp only [Act.put, List.setIfInBounds_toArray, List.set_cons_zero, List.set_cons_succ, i64_w, i32_w]
      rfl
    refine pure_ (i := 4) (N := some 11) (v := ?_) (a' := ?_) #[true, false, false, true, true, false, false, false, false, false, false, false, false, false, false, false] rfl rfl (any_of HT_.out (by kernel_rfl)) (fun _ _ _ h => h) (Or.inl ⟨by rfl, ?_⟩) ?_ ?_
    rotate_left
    · intro w'
      go_simp
      with_reducible rfl
    rotate_left
    · simp only [Act.put, List.setIfInBounds_toArray, List.set_cons_zero, List.set_cons_succ, i64_w, i32_w]
      rfl
    refine pure_ (i := 5) (N := some 12) (v := ?_) (a' := ?_) #[true, false, false, true, true, true, false, false, false, false, false, false, false, false, false, false] rfl rfl (any_of HT_.out (by kernel_rfl)) (fun _ _ _ h => h) (Or.inl ⟨by rfl, ?_⟩) ?_ ?_
    rotate_left
    · intro w'
      go_simp
      with_reducible rfl
    rotate_left
    · simp only [Act.put, List.setIfInBounds_toArray, List.set_cons_zero, List.set_cons_succ, i64_w, i32_w]
      rfl
    refine pure_ (i := 10) (N := some 17) (v := ?_) (a' := ?_) #[true, false, false, true, true, true, false, false, false, false, true, false, false, false, false, false] rfl rfl (any_of HT_.out (by kernel_rfl)) (fun _ _ _ h => h) (Or.inl ⟨by rfl, ?_⟩) ?_ ?_
    rotate_left
    · intro w'
      go_simp
      with_reducible rfl
    rotate_left
    · simp only [Act.put, List.setIfInBounds_toArray, List.set_cons_zero, List.set_cons_succ, i64_w, i32_w]
      rfl
    refine take_ (i := 1) (N := some 8) (v := ?_) (a' := ?_) #[true, true, false, true, true, true, false, false, false, false, true, false, false, false, false, false] rfl rfl (take_ofW HT_.out HW_.out (by kernel_rfl)) (fun _ _ _ h => h) (Or.inl ⟨by rfl, ?_⟩) hHeld ?_ ?_
    rotate_left
    · rintro w' s0
      have ks := HKS.out _ s0
      have ks1 := ks.1
      have ks2 := ks.2
      clear ks
      go_simp
      with_reducible rfl
    rotate_left
    · simp only [Act.put, List.setIfInBounds_toArray, List.set_cons_zero, List.set_cons_succ, i64_w, i32_w]
      rfl
    refine take_ (i := 6) (N := some 13) (v := ?_) (a' := ?_) #[true, true, false, true, true, true, true, false, false, false, true, false, false, false, false, false] rfl rfl (take_ofW HT_.out HW_.out (by kernel_rfl)) (fun _ _ _ h => h) (Or.inl ⟨by rfl, ?_⟩) hHeld ?_ ?_
    rotate_left
    · rintro w' s0
      have ks := HKS.out _ s0
      have ks1 := ks.1
      have ks2 := ks.2
      clear ks
      go_simp
      with_reducible rfl
    rotate_left
    · simp only [Act.put, List.setIfInBounds_toArray, List.set_cons_zero, List.set_cons_succ, i64_w, i32_w]
      rfl
    refine take_ (i := 11) (N := some 18) (v := ?_) (a' := ?_) #[true, true, false, true, true, true, true, false, false, false, true, true, false, false, false, false] rfl rfl (take_ofW HT_.out HW_.out (by kernel_rfl)) (fun _ _ _ h => h) (Or.inl ⟨by rfl, ?_⟩) hHeld ?_ ?_
    rotate_left
    · rintro w' s0
      have ks := HKS.out _ s0
      have ks1 := ks.1
      have ks2 := ks.2
      clear ks
      go_simp
      with_reducible rfl
    rotate_left
    · simp only [Act.put, List.setIfInBounds_toArray, List.set_cons_zero, List.set_cons_succ, i64_w, i32_w]
      rfl
    refine l06_walk (L06I a0 a1 ep dt nn r4 gb w1) 3 (by decide +kernel) ?hS ?E2 ?E7 ?E8 ?E9 ?E12 ?hF 5 0 0 0 _ _ rfl (by decide) (by decide) (by decide) ?hI
    case hS => exact fun s c d a w h => by obtain ⟨v9, v14, v15, v16, v19, g8, G, _, hB, _⟩ := h; exact hB
    case hI => exact ⟨undef, undef, undef, undef, undef, 0, [], rfl, Below.refl _ _, (fun k hk => by cases hk), .inl ⟨rfl, rfl⟩, (fun h => absurd h (by decide)), (fun h => absurd h (by decide)), (fun h => absurd h (by decide)), (fun h => absurd h (by decide))⟩
    case E2 =>
      intro c d a w h
      obtain ⟨v9, v14, v15, v16, v19, g8, G, rfl, hB, hG, h8, h2, h7, h9, h12⟩ := h
      refine wpOp_goes (fid := 86) rfl rfl Try.func86 rfl rfl #[.int .i64 ep] rfl (by kernel_rfl) ?_
      refine (spec_l02Four.calls ep r4 w H2.out).mono ?_
      rintro e w' ⟨v, rfl, hR, hb⟩
      exact ⟨v, rfl, v, v14, v15, v16, v19, g8, G, rfl, below_then hB hB.size hb, fun k hk => Nat.lt_of_lt_of_le (hG k hk) hb.size, h8.imp id (fun ⟨x1, x2, x3, x4⟩ => ⟨x1, x2, x3, l06C_step x4 hb⟩), fun _ => l06R_new hR hB.size hG, fun h => absurd h (by decide), h9, fun h => l06B_step (h12 h) hb.size (fun _ h => .inl h) (fun k h _ => hb.block k h) (fun _ h => h)⟩
    case E7 =>
      intro c d a w h
      obtain ⟨v9, v14, v15, v16, v19, g8, G, rfl, hB, hG, h8, h2, h7, h9, h12⟩ := h
      refine wpOp_goes (fid := 58) rfl rfl Try.func58 rfl rfl #[.int .i64 a1, .int .i64 ep] rfl (by kernel_rfl) ?_
      refine (spec_l04Nonce.calls a1 ep nn w H7.out).mono ?_
      rintro e w' ⟨rfl, hb⟩
      exact ⟨_, rfl, v9, .string nn, v15, v16, v19, g8, G, rfl, below_then hB hB.size hb, fun k hk => Nat.lt_of_lt_of_le (hG k hk) hb.size, h8.imp id (fun ⟨x1, x2, x3, x4⟩ => ⟨x1, x2, x3, l06C_step x4 hb⟩), fun _ => l06R_step (h2 (by decide)) hb.size (fun _ h => .inl h) (fun k h _ => hb.block k h) (fun _ h => h), fun _ => rfl, h9, fun h => l06B_step (h12 h) hb.size (fun _ h => .inl h) (fun k h _ => hb.block k h) (fun _ h => h)⟩
    case E8 =>
      intro s d a w h
      obtain ⟨v9, v14, v15, v16, v19, g8, G, rfl, hB, hG, h8, h2, h7, h9, h12⟩ := h
      obtain rfl : G = [] := h8.elim (fun h => h.2) (fun h => absurd h.1 (by decide))
      refine wpOp_wpK rfl rfl (fun K hK => ?_)
      go_simp
      refine hK _ _ ?_
      have hb := below_alloc (Below.refl w.heap.size w) (Obj.cells (nums .u8 slotL).toArray 5)
      have hk : ∀ k ∈ [w.heap.size], k ∈ ([] : List Nat) ∨ w.heap.size ≤ k := fun k hk => .inr (Nat.le_of_eq (List.mem_singleton.1 hk).symm)
      exact ⟨v9, v14, _, v16, v19, w.heap.size, [w.heap.size], rfl, below_then hB hB.size hb, (fun k hk => by rw [List.mem_singleton.1 hk]; simp), .inr ⟨by decide, rfl, rfl, hB.size, blk_new _ _⟩, fun h => l06R_step (h2 h) hb.size hk (fun k h _ => hb.block k h) (fun _ h => by cases h), h7, fun h => absurd h (by decide), fun h => l06B_step (h12 h) hb.size hk (fun k h _ => hb.block k h) (fun _ h => by cases h)⟩
    case E9 =>
      intro s d a w h
      obtain ⟨v9, v14, v15, v16, v19, g8, G, rfl, hB, hG, h8, h2, h7, h9, h12⟩ := h
      obtain ⟨rfl, rfl, hC⟩ : G = [g8] ∧ v15 = .slice (some ⟨g8, 0, none⟩) 4 4 ∧ L06C w1 w g8 (0, 0) := h8.elim (fun h => absurd h.1 (by decide)) (fun h => h.2)
      have kc := l06Conv w g8 (nums .u8 slotL).toArray rfl hC.2
      obtain ⟨hm1, hm2, hm3, hm4⟩ := l06Mark_heap w g8 _ hC.2
      refine wpOp_wpK rfl rfl (fun K hK => ?_)
      go_simp
      refine hK _ _ ?_
      have hk : ∀ k, k < w.heap.size → k ∉ [g8] → (l06Mark w g8).heap[k]? = w.heap[k]? := fun k _ h => hm3 k (fun e => h (by rw [e]; exact List.mem_singleton.2 rfl))
      exact ⟨v9, v14, _, _, v19, g8, [g8], rfl, hB.trans (hm4 _ hC.1), (fun k hk => by rw [hm2]; exact hG k hk), .inr ⟨by decide, rfl, rfl, hC.1, hm1⟩, fun h => l06R_step (h2 h) (Nat.le_of_eq hm2.symm) (fun _ h => .inl h) hk (fun _ h => h), h7, fun _ => rfl, fun h => l06B_step (h12 h) (Nat.le_of_eq hm2.symm) (fun _ h => .inl h) hk (fun _ h => h)⟩
    case E12 =>
      intro s c a w h
      obtain ⟨v9, v14, v15, v16, v19, g8, G, rfl, hB, hG, h8, h2, h7, h9, h12⟩ := h
      have kc := Lib.run_convert_string_bytes (P := Try.prog) w 9 22 5 dt Try.underlying9 Try.underlying22 Try.underlying5
      have hRB := conv_rowB w w.heap.size 5 dt (Nat.le_refl _)
      have hb := bytes_below (Below.refl w.heap.size w) (Nat.le_refl _) 5 dt
      generalize Lib.bytesWorld w 5 dt = w' at kc hRB hb
      generalize grownCap w dt.size 0 5 = cE at kc hRB
      refine wpOp_wpK rfl rfl (fun K hK => ?_)
      go_simp
      refine hK _ _ ?_
      exact ⟨v9, v14, v15, v16, _, g8, G, rfl, below_then hB hB.size hb, fun k hk => Nat.lt_of_lt_of_le (hG k hk) hb.size, h8.imp id (fun ⟨x1, x2, x3, x4⟩ => ⟨x1, x2, x3, l06C_step x4 hb⟩), fun h => l06R_step (h2 h) hb.size (fun _ h => .inl h) (fun k h _ => hb.block k h) (fun _ h => h), h7, h9, fun _ => l06B_new hRB hB.size hG⟩
    case hF =>
      intro a w3 h
      obtain ⟨v9, v14, v15, v16, v19, g8, G, rfl, hB, hG, h8, h2, h7, h9, h12⟩ := h
      obtain ⟨rfl, rfl, hC⟩ : G = [g8] ∧ v15 = .slice (some ⟨g8, 0, none⟩) 4 4 ∧ L06C w1 w3 g8 (4, 5) := by
        rcases h8 with ⟨h, _⟩ | ⟨_, x2, x3, x4⟩
        · exact absurd h (by decide)
        · exact ⟨x2, x3, x4⟩
      obtain rfl := h7 (by decide)
      obtain rfl := h9 (by decide)
      have hR9 : Kd.R (Kd.int .u8) 5 w3 w1.heap.size (fun _ => True) v9 r4 := Kp.here (h2 (by decide))
      have hrow : rowB w3 w1.heap.size v19 (bytesL dt) := Kp.here (h12 (by decide))
      obtain ⟨g12, c12, rfl, hl12⟩ := rowB_form hrow
      have hdl : (bytesL dt).length ≤ 140737488355328 := by rw [bytesL_length]; have := HZ.out; omega
      have C12 := rowB_C hrow hdl
      have C8 : Kd.C (Kd.int .u8) w3 (some ⟨g8, 0, none⟩) 4 slotL := C_row_int (l := slotL) hC.2 (by decide)
      clear h8 h2 h7 h9 h12 hrow hdl
      refine one_ (i := 13) (N := some 20) #[true, true, true, true, true, true, true, true, true, true, true, true, true, true, false, false] rfl rfl (one_of HT_.out (by kernel_rfl)) (by decide) (fun K hK => ?_)
      go_simp
      have hcall := spec_l04Seal.calls 300000 a0 nn (some ⟨g8, 0, none⟩) 4 slotL (some ⟨g12, 0, none⟩) c12 (bytesL dt) rr w3 C8 (by decide) C12 hl12 H13.out
      rw [show slotL.length = 4 from rfl] at hcall
      with_reducible refine hcall.mono ?_
      clear hcall
      rintro e w4 ⟨v20, rfl, hR20, hb⟩
      have hB4 := below_then hB hB.size hb
      obtain ⟨A20, c20, rfl, hc20, hC20⟩ := Kd.R_reads hR20
      refine hK.out _ _ hB4 (fun hHeld => ?_)
      clear hK K
      refine norm_ (a' := { tmps := #[.string a0, .int .i64 a1, .agg #[.int .i64 ep, .string dt], undef, undef, .pointer (some ⟨gb, 0, none⟩), .slice none 0 0, .pointer (some ⟨gb, 0, none⟩), .int .i64 ep, v9, .string a0, .int .i64 a1, .pointer (some ⟨gb, 0, none⟩), .int .i64 ep, .string nn, .slice (some ⟨g8, 0, none⟩) 4 4, .slice (some ⟨g8, 0, none⟩) 4 4, .pointer (some ⟨gb, 1, none⟩), .string dt, .slice (some ⟨g12, 0, none⟩) (bytesL dt).length c12, .slice A20 rr.length c20, undef], defers := [] }) rfl ?_
      refine one_ (i := 14) (N := some 21) #[true, true, true, true, true, true, true, true, true, true, true, true, true, true, true, false] rfl rfl (one_of HT_.out (by kernel_rfl)) (by decide) (fun K hK => ?_)
      rw [if_pos (show Region.wanted _ _ = true from rfl)]
      have hR4 := Kd.R_below hR9 hb
      refine opWp_append_R rfl (.tmp 9) (.tmp 20) 22 5 rfl Try.underlying22 info5 rr rfl hR4 hB4 hB4.size A20 rr.length c20 rfl hC20 (by have := HZ.out; omega) (r4 ++ rr) rfl ?_
      intro v' w5 hR' hB5 hgr hown
      refine hK.out _ _ hB5 (fun hHeld => ?_)
      clear hK K hgr hown
      refine norm_ (a' := { tmps := #[.string a0, .int .i64 a1, .agg #[.int .i64 ep, .string dt], undef, undef, .pointer (some ⟨gb, 0, none⟩), .slice none 0 0, .pointer (some ⟨gb, 0, none⟩), .int .i64 ep, v9, .string a0, .int .i64 a1, .pointer (some ⟨gb, 0, none⟩), .int .i64 ep, .string nn, .slice (some ⟨g8, 0, none⟩) 4 4, .slice (some ⟨g8, 0, none⟩) 4 4, .pointer (some ⟨gb, 1, none⟩), .string dt, .slice (some ⟨g12, 0, none⟩) (bytesL dt).length c12, .slice A20 rr.length c20, v'], defers := [] }) rfl ?_
      refine pure_ (i := 15) (N := some 6) (v := ?_) (a' := ?_) #[true, true, true, true, true, true, true, true, true, true, true, true, true, true, true, true] rfl rfl (any_of HT_.out (by kernel_rfl)) (fun _ _ _ h => h) (Or.inl ⟨by rfl, ?_⟩) ?_ ?_
      rotate_left
      · intro w'
        go_simp
        with_reducible rfl
      rotate_left
      · simp only [Act.put, List.setIfInBounds_toArray, List.set_cons_zero, List.set_cons_succ, i64_w, i32_w]
        rfl
      refine done_ (done_of HT_.out (by kernel_rfl)) ?_
      have HR := Aside0.mk (Kd.R_lower hR' HB.out.size)
      have HW := Aside0.mk (HB.out.trans (hB5.mono HB.out.size))
      go_wp2
      go_ret
      exact ⟨_, rfl, HR.out, HW.out⟩
  · rw [if_neg hz] at h
    cases h
end Go.Proofs.Ytlfpogbonmddmaa.P

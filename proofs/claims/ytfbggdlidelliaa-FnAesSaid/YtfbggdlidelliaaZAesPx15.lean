/- Laid by a program of this session: of Px15 what this law uses. -/
import Derived.Test.YtfbggdlidelliaaZAesPx0
import Derived.Test.YtfbggdlidelliaaZAesPx1
import Derived.Test.YtfbggdlidelliaaZAesPx2
import Derived.Test.YtfbggdlidelliaaZAesPx3
import Derived.Test.YtfbggdlidelliaaZAesPx7
import Derived.Test.YtfbggdlidelliaaZAesPx8
namespace Go.Proofs.Ytfbggdlidelliaa.P
open Go.RowKit Go.Proofs.YtfbggdlidelliaaW.PrintWords Go.Proofs.YtfbggdlidelliaaW.PrintLast
set_option linter.unusedVariables false
set_option linter.unusedSimpArgs false
def spec_KeySchedule.f (k : Nat) (a0 : ByteArray) : Option (List ByteArray × Int) := if (a0.size : Int) > 65536 then (some ((([] : List ByteArray)), 2)) else ((spec_l01Key.f a0).bind fun t254 => (if t254 = true then ((spec_l01Table.f k).bind fun t255 => ((spec_l01Keys.f a0 t255).bind fun t258 => (some (t258, 0)))) else (some ((([] : List ByteArray)), 1))))
set_option maxHeartbeats 8000000 in
set_option maxRecDepth 100000 in
theorem spec_KeySchedule.calls (k : Nat) (a0 : ByteArray) (r1 : List ByteArray) (r2 : Int) (w : World) (h : spec_KeySchedule.f k a0 = some (r1, r2)) :
    Calls Try.prog 14 #[.string a0] w fun e w' => ∃ v0_ : Value, e = .returned (.tuple #[v0_, .int .i64 r2]) ∧ Kd.R Kd.string 9 w' w.heap.size (fun _ => True) v0_ r1 ∧ Below w.heap.size w w' := by
  have HB := Aside0.mk (Below.refl w.heap.size w)
  have H : (if (a0.size : Int) > 65536 then (some ((([] : List ByteArray)), 2)) else ((spec_l01Key.f a0).bind fun t254 => (if t254 = true then ((spec_l01Table.f k).bind fun t255 => ((spec_l01Keys.f a0 t255).bind fun t258 => (some (t258, 0)))) else (some ((([] : List ByteArray)), 1))))) = some (r1, r2) := h
  clear h
  by_cases c2 : (a0.size : Int) > 65536
  · rw [if_pos c2] at H
    have c2b0 : decide (65536 < (a0.size : Int)) = true := decide_eq_true c2
    have c2b1 : decide (65536 < a0.size) = true := decide_eq_true (by omega)
    clear c2
    obtain ⟨y251, hy251⟩ : ∃ y_ : List ByteArray, y_ = (([] : List ByteArray)) := ⟨_, rfl⟩
    replace H : (some (y251, 2)) = some (r1, r2) := by first | (rw [hy251]; with_reducible exact H) | (have H2_ := (Option.bind_some _ _).symm.trans H; rw [hy251]; with_reducible exact H2_) | (have H2_ := (Option.bind_some _ _).symm.trans H; with_reducible exact H2_) | with_reducible exact H | (rw [hy251]; exact H) | exact H
    have Ny251 := Aside0.mk hy251
    clear hy251
    simp only [Option.some.injEq, Prod.mk.injEq] at H
    obtain ⟨rfl, rfl⟩ := H
    go_enter Try.func14, Try.ntmps14
    go_wp2_with (first | ((with_reducible refine gate_dst (N := 7) rfl ?_); refine Kd.R_lit Kd.string _ 9 ?hg (N := 7) ?hd (xs := ([] : List ByteArray)) (inner := []) (ok := fun _ => True) (okp := fun _ => True) ?hr ?hp (fun _ hk => hk) trivial (Below.refl _ _) (Nat.le_refl _) (by simp) ?_; (case hd => rfl); (case hg => rfl); (case hr => first | (go_simp; done) | (go_simp; rfl)); (case hp => exact (Reps.none _ _)); intro v252 w3 ho4 hb hg_ hnew_; clear hg_ hnew_; (first | rw [← Ny251.out] at ho4 | (simp only [Int.reduceToNat] at ho4; rw [← Ny251.out] at ho4)); have n0_ := Aside0.mk (Kd.R_lower ho4 (below_size (by repeat (first | (with_reducible first | exact HB.out | apply below_alloc | apply pw_below_drewN | apply below_drew1) | exact HB.out)))); have n1_ := Aside0.mk (below_step (by repeat (first | (with_reducible first | exact HB.out | apply below_alloc | apply pw_below_drewN | apply below_drew1) | exact HB.out)) hb); clear HB; have HO253 := n0_; have HB := n1_; clear n0_ n1_; clear hb ho4))
    go_ret2
    exact ⟨_, by first | rfl | (simp [errW_none, errW_some] <;> rfl) | (simp [*, errW_none, errW_some] <;> rfl), by (with_reducible repeat (first | apply Kd.R_alloc | apply Kd.R_drewN | apply Kd.R_drew)); exact HO253.out, by repeat (first | (with_reducible first | exact HB.out | apply below_alloc | apply pw_below_drewN | apply below_drew1) | exact HB.out)⟩
  · rw [if_neg c2] at H
    have c2b0 : decide (65536 < (a0.size : Int)) = false := decide_eq_false c2
    have c2b1 : decide (65536 < a0.size) = false := decide_eq_false (by omega)
    clear c2
    replace H := Option.bind_eq_some_iff.mp H
    obtain ⟨t254, A50, H⟩ := H
    replace H : (if t254 = true then ((spec_l01Table.f k).bind fun t255 => ((spec_l01Keys.f a0 t255).bind fun t258 => (some (t258, 0)))) else (some ((([] : List ByteArray)), 1))) = some (r1, r2) := H
    have A5 := Aside0.mk A50
    clear A50
    by_cases c6 : t254 = true
    · subst c6
      have H1 : ((spec_l01Table.f k).bind fun t255 => ((spec_l01Keys.f a0 t255).bind fun t258 => (some (t258, 0)))) = some (r1, r2) := by rw [if_pos rfl] at H; exact H
      clear H
      have H := H1
      clear H1
      replace H := Option.bind_eq_some_iff.mp H
      obtain ⟨t255, A70, H⟩ := H
      replace H : ((spec_l01Keys.f a0 t255).bind fun t258 => (some (t258, 0))) = some (r1, r2) := H
      have A7 := Aside0.mk A70
      clear A70
      replace H := Option.bind_eq_some_iff.mp H
      obtain ⟨t258, A80, H⟩ := H
      replace H : (some (t258, 0)) = some (r1, r2) := H
      have A8 := Aside0.mk A80
      clear A80
      simp only [Option.some.injEq, Prod.mk.injEq] at H
      obtain ⟨rfl, rfl⟩ := H
      go_enter Try.func14, Try.ntmps14
      go_wp2_with (first | ((with_reducible refine gate_callee (f := 39) rfl ?_); refine goesL_ (some 9) rfl rfl Try.func39 (by kernel_rfl) rfl #[.string a0] rfl (by (try simp only [List.map_toArray, List.map_cons, List.map_nil]); first | done | rfl | (simp only [List.length_drop, List.length_take]; rfl)) ?_; (with_reducible refine (spec_l01Key.calls a0 true _ A5.out).mono ?_); rintro e w' ⟨rfl, ⟨nd, rfl⟩⟩; refine ⟨_, rfl, ?_⟩) | ((with_reducible refine gate_callee (f := 41) rfl ?_); refine goesL_ (some 13) rfl rfl Try.func41 (by kernel_rfl) rfl #[] rfl (by (try simp only [List.map_toArray, List.map_cons, List.map_nil]); first | done | rfl | (simp only [List.length_drop, List.length_take]; rfl)) ?_; (with_reducible refine (spec_l01Table.calls k  t255 _ A7.out).mono ?_); rintro e w9 ⟨v256, rfl, ho0, hb⟩; refine ⟨_, rfl, ?_⟩; have n0_ := Aside0.mk (Kd.R_lower ho0 (below_size (by repeat (first | (with_reducible first | exact HB.out | apply below_alloc | apply pw_below_drewN | apply below_drew1) | exact HB.out)))); have n1_ := Aside0.mk (below_step (by repeat (first | (with_reducible first | exact HB.out | apply below_alloc | apply pw_below_drewN | apply below_drew1) | exact HB.out)) hb); clear HB; have HO257 := n0_; have HB := n1_; clear n0_ n1_; (try clear hb); (try clear hb2); (try clear hk); (try clear hi); (try clear ho0); obtain ⟨Ao10, co10, eo10⟩ := Kd.R_slice HO257.out; subst eo10) | ((with_reducible refine gate_callee (f := 40) rfl ?_); refine goesL_ (some 14) rfl rfl Try.func40 (by kernel_rfl) rfl #[.string a0, .slice Ao10 t255.length co10] rfl (by (try simp only [List.map_toArray, List.map_cons, List.map_nil]); first | done | rfl | (simp only [List.length_drop, List.length_take]; rfl)) ?_; (with_reducible refine (spec_l01Keys.calls a0 _ _ t255 t258 _ ?side1 ?side2 A8.out).mono ?_); (case side1 => repeat (first | exact (Kd.R_reads' HO257.out).2.2 | (with_reducible refine Kd.C_alloc ?_ _) | (with_reducible refine Kd.C_drewN ?_ _) | (with_reducible refine Kd.C_drew ?_))); (case side2 => exact (Kd.R_reads' HO257.out).2.1); rintro e w11 ⟨v259, rfl, ho0, hb⟩; refine ⟨_, rfl, ?_⟩; have n0_ := Aside0.mk (Kd.R_below (by (with_reducible repeat (first | apply Kd.R_alloc | apply Kd.R_drewN | apply Kd.R_drew)); exact HO257.out) hb); have n1_ := Aside0.mk (Kd.R_lower ho0 (below_size (by repeat (first | (with_reducible first | exact HB.out | apply below_alloc | apply pw_below_drewN | apply below_drew1) | exact HB.out)))); have n2_ := Aside0.mk (below_step (by repeat (first | (with_reducible first | exact HB.out | apply below_alloc | apply pw_below_drewN | apply below_drew1) | exact HB.out)) hb); clear HO257; clear HB; have HO257 := n0_; have HO260 := n1_; have HB := n2_; clear n0_ n1_ n2_; (try clear hb); (try clear hb2); (try clear hk); (try clear hi); (try clear ho0)))
      go_ret2
      exact ⟨_, by first | rfl | (simp [errW_none, errW_some] <;> rfl) | (simp [*, errW_none, errW_some] <;> rfl), by (with_reducible repeat (first | apply Kd.R_alloc | apply Kd.R_drewN | apply Kd.R_drew)); exact HO260.out, by repeat (first | (with_reducible first | exact HB.out | apply below_alloc | apply pw_below_drewN | apply below_drew1) | exact HB.out)⟩
    · replace c6 := Bool.eq_false_iff.mpr c6
      subst c6
      have H1 : (some ((([] : List ByteArray)), 1)) = some (r1, r2) := by rw [if_neg (show ¬ (false = true) by decide)] at H; exact H
      clear H
      have H := H1
      clear H1
      obtain ⟨y261, hy261⟩ : ∃ y_ : List ByteArray, y_ = (([] : List ByteArray)) := ⟨_, rfl⟩
      replace H : (some (y261, 1)) = some (r1, r2) := by first | (rw [hy261]; with_reducible exact H) | (have H2_ := (Option.bind_some _ _).symm.trans H; rw [hy261]; with_reducible exact H2_) | (have H2_ := (Option.bind_some _ _).symm.trans H; with_reducible exact H2_) | with_reducible exact H | (rw [hy261]; exact H) | exact H
      have Ny261 := Aside0.mk hy261
      clear hy261
      simp only [Option.some.injEq, Prod.mk.injEq] at H
      obtain ⟨rfl, rfl⟩ := H
      go_enter Try.func14, Try.ntmps14
      go_wp2_with (first | ((with_reducible refine gate_callee (f := 39) rfl ?_); refine goesL_ (some 9) rfl rfl Try.func39 (by kernel_rfl) rfl #[.string a0] rfl (by (try simp only [List.map_toArray, List.map_cons, List.map_nil]); first | done | rfl | (simp only [List.length_drop, List.length_take]; rfl)) ?_; (with_reducible refine (spec_l01Key.calls a0 false _ A5.out).mono ?_); rintro e w' ⟨rfl, ⟨nd, rfl⟩⟩; refine ⟨_, rfl, ?_⟩) | ((with_reducible refine gate_dst (N := 11) rfl ?_); refine Kd.R_lit Kd.string _ 9 ?hg (N := 11) ?hd (xs := ([] : List ByteArray)) (inner := []) (ok := fun _ => True) (okp := fun _ => True) ?hr ?hp (fun _ hk => hk) trivial (Below.refl _ _) (Nat.le_refl _) (by simp) ?_; (case hd => rfl); (case hg => rfl); (case hr => first | (go_simp; done) | (go_simp; rfl)); (case hp => exact (Reps.none _ _)); intro v262 w12 ho13 hb hg_ hnew_; clear hg_ hnew_; (first | rw [← Ny261.out] at ho13 | (simp only [Int.reduceToNat] at ho13; rw [← Ny261.out] at ho13)); have n0_ := Aside0.mk (Kd.R_lower ho13 (below_size (by repeat (first | (with_reducible first | exact HB.out | apply below_alloc | apply pw_below_drewN | apply below_drew1) | exact HB.out)))); have n1_ := Aside0.mk (below_step (by repeat (first | (with_reducible first | exact HB.out | apply below_alloc | apply pw_below_drewN | apply below_drew1) | exact HB.out)) hb); clear HB; have HO263 := n0_; have HB := n1_; clear n0_ n1_; clear hb ho13))
      go_ret2
      exact ⟨_, by first | rfl | (simp [errW_none, errW_some] <;> rfl) | (simp [*, errW_none, errW_some] <;> rfl), by (with_reducible repeat (first | apply Kd.R_alloc | apply Kd.R_drewN | apply Kd.R_drew)); exact HO263.out, by repeat (first | (with_reducible first | exact HB.out | apply below_alloc | apply pw_below_drewN | apply below_drew1) | exact HB.out)⟩
def impl_KeySchedule.f (s0 : ByteArray) : Option (List ByteArray × Int) := if 65536 < s0.size then some ([], 2) else if s0.size = 16 ∨ s0.size = 32 then some ((Aes.keysL (bytesL s0)).map strOfNums, 0) else some ([], 1)
set_option maxHeartbeats 8000000 in
set_option maxRecDepth 100000 in
theorem impl_KeySchedule_in (s0 : ByteArray) (r : List ByteArray) (c : Int) (w0 : World) (h : impl_KeySchedule.f s0 = some (r, c)) :
    Calls Try.prog 15 #[.string s0] w0 fun e w' => ∃ v0_ : Value, e = .returned (.tuple #[v0_, .int .i64 c]) ∧ Kd.R Kd.string 9 w' w0.heap.size (fun _ => True) v0_ r ∧ Below w0.heap.size w0 w' := by
  unfold impl_KeySchedule.f at h
  by_cases hl : 65536 < s0.size
  · rw [if_pos hl] at h
    obtain ⟨rfl, rfl⟩ : ([] : List ByteArray) = r ∧ (2 : Int) = c := by simpa using h
    have HF := Aside0.mk (show impl_isLong_string.f [s0] = some true by simp [impl_isLong_string.f]; omega)
    clear h hl
    go_enter Try.func15, Try.ntmps15
    go_wp2_with fail
    refine (impl_isLong_string.calls _ _ [s0] true _ (C_one_string (g := w0.heap.size) (T := 9) (fr := (0, 0)) (blk_new w0 _)) (Nat.le_refl _) HF.out).mono ?_
    rintro e w' ⟨rfl, hd⟩
    have HBd := Aside0.mk (below_then (below_alloc (Below.refl _ _) _) (by simp) hd.below : Below w0.heap.size w0 w')
    clear hd
    go_wp2
    go_ret2
    exact ⟨_, rfl, Kd.R_nil _ _ _ _ _, HBd.out⟩
  rw [if_neg hl] at h
  have HF := Aside0.mk (show impl_isLong_string.f [s0] = some false by simp [impl_isLong_string.f]; omega)
  by_cases hs : s0.size = 16 ∨ s0.size = 32
  · rw [if_pos hs] at h
    obtain ⟨rfl, rfl⟩ : (Aes.keysL (bytesL s0)).map strOfNums = r ∧ (0 : Int) = c := by simpa using h
    have HK := Aside0.mk (show impl_isKey.f s0 = some true by unfold impl_isKey.f; rcases hs with e | e <;> simp [e])
    obtain ⟨n, hn, hsn⟩ : ∃ n, (n = 4 ∨ n = 8) ∧ s0.size = 4 * n := by rcases hs with e | e; exact ⟨4, .inl rfl, e⟩; exact ⟨8, .inr rfl, e⟩
    obtain ⟨keys, hkeys⟩ : ∃ K, K = Aes.keysL (bytesL s0) := ⟨_, rfl⟩
    have HKL : Aside0 (keys.length = n + 7) := ⟨by rw [hkeys, Aes.keysL_length, bytesL_length, hsn]; omega⟩
    have HKK : Aside0 (Aes.keysOk keys) := ⟨by rw [hkeys]; exact Aes.keysL_ok (u8ok_bytesL s0)⟩
    have HN := Aside0.mk hn
    have HSN := Aside0.mk hsn
    have HKE := Aside0.mk hkeys
    rw [← hkeys]
    clear h hl hs hn hsn hkeys
    go_enter Try.func15, Try.ntmps15
    go_wp2_with fail
    refine (impl_isLong_string.calls _ _ [s0] false _ (C_one_string (g := w0.heap.size) (T := 9) (fr := (0, 0)) (blk_new w0 _)) (Nat.le_refl _) HF.out).mono ?_
    rintro e w' ⟨rfl, hd⟩
    have HBd := Aside0.mk (below_then (below_alloc (Below.refl _ _) _) (by simp) hd.below : Below w0.heap.size w0 w')
    clear hd
    go_wp2_with fail
    refine (impl_isKey.calls s0 true _ HK.out).mono ?_
    rintro e w2 ⟨rfl, ⟨nd, rfl⟩⟩
    go_wp2_with fail
    refine (impl_cipherOf_in s0 n _ HN.out HSN.out).mono ?_
    rintro e w3 ⟨g, rfl, hC, hb3⟩
    rw [← HKE.out] at hC
    have HB3 : Aside0 (Below w0.heap.size w0 w3) := ⟨(pw_below_drewN HBd.out nd).trans (hb3.mono (by have := HBd.out.size; exact this))⟩
    obtain ⟨cs, gk, ck, h1, h2, h3, h4, h5, h6, h7⟩ := hC
    have cK : w3.cell? ⟨g, 512, none⟩ = some (.slice (some ⟨gk, 0, none⟩) keys.length ck) := by rw [blk_cell h4]; exact h5.2.2.2
    have HRG := Aside0.mk h7
    have HCK := Aside0.mk h3
    clear hb3 h1 h2 h3 h4 h5 h6 h7
    go_wp2_with fail
    clear cK
    go_loopw [4, 21] (fun vo vi wr => ∃ i : Nat, vi = .int .i64 (i : Int) ∧ i ≤ keys.length ∧ Aside0 (Kd.R Kd.string 9 wr w3.heap.size (fun _ => True) vo ((keys.take i).map strOfNums)) ∧ Aside0 (Below w3.heap.size w3 wr)) (fun _ v _ => keys.length - (intOf v).toNat)
    case atStart => exact ⟨0, rfl, Nat.zero_le _, ⟨Kd.R_nil _ _ _ _ _⟩, ⟨Below.refl _ _⟩⟩
    case round =>
      obtain ⟨i, rfl, hi, HO, HB⟩ := hrel
      by_cases hlt : i < keys.length
      · have hd : decide (i < keys.length) = true := decide_eq_true hlt
        obtain ⟨F, hF⟩ : ∃ F, F = keys.getD i [] := ⟨_, rfl⟩
        have hFm : F ∈ keys := by rw [hF, List.getD_eq_getElem?_getD, List.getElem?_eq_getElem hlt]; exact List.getElem_mem hlt
        have HFK := Aside0.mk (HKK.out F hFm)
        have hrg : wr.rangeAt gk (i * 16) (nums .u8 F) := fun j v hv => by
          have hc := HRG.out i hlt j v (by rw [← hF]; exact hv)
          exact (HB.out.cell (cell_lt (by rw [hc]; rfl))).trans hc
        have HRF := Aside0.mk hrg
        have HNF : Aside0 ((nums IntKind.u8 F).length = 16) := ⟨by simp [nums, HFK.out.1]⟩
        have HNA : Aside0 ((nums IntKind.u8 F).toArray.size = 16) := ⟨by simp [nums, HFK.out.1]⟩
        have HTK : Aside0 (keys.take (i + 1) = keys.take i ++ [F]) := ⟨by rw [List.take_add_one, hF, List.getD_eq_getElem?_getD, List.getElem?_eq_getElem hlt]; rfl⟩
        have HLT := Aside0.mk hlt
        have i0 : (0 : Int) ≤ (i : Int) := by omega
        have i1 : (i : Int) < (keys.length : Int) := by omega
        clear hF hFm hrg hi
        go_wp2_with (first
          | ((with_reducible refine gate_dst (N := 24) rfl ?_); refine wpList_load_mid (by rfl) 52 (.tmp 23) (by rfl) gk (i * 16) (by rfl) (nums .u8 F) _ HRF.out Try.underlying52 rfl (key_size F HNF.out) ?_)
          | ((with_reducible refine gate_store (t := 52) (p := 6) (v := .tmp 24) rfl ?_); refine wpList_store_row (by rfl) 52 (.tmp 6) (.tmp 24) (by rfl) wr.heap.size (nums .u8 F).toArray (by rfl) (by rfl) 52 _ (blk_new wr _) (by rw [HNA.out]; kernel_rfl) (by rw [HNA.out]; rfl) (nums_one _ _) ?_; show wpList _ _ _ _ _ ((wr.alloc (.cells (nums .u8 (List.replicate 16 0)).toArray 52)).setRow wr.heap.size (nums .u8 F).toArray); obtain ⟨wN, hwN⟩ : ∃ W, W = (wr.alloc (.cells (nums .u8 (List.replicate 16 0)).toArray 52)).setRow wr.heap.size (nums .u8 F).toArray := ⟨_, rfl⟩; have GN : wN.heap[wr.heap.size]? = some (.cells (nums .u8 F).toArray 52 (0, 0)) := (by rw [hwN]; exact setRow_heap _ _ _ _ _ _ (blk_new wr _)); have ks := Kd.C_string (P := Try.prog) (dst := 9) (src := 28) (c := 16) Try.underlying28 Try.underlying5 Try.underlying9 (C_row_int (l := F) GN (by rw [HFK.out.1]; decide)); rw [HFK.out.1] at ks; have HBN := Aside0.mk (show Below w3.heap.size w3 wN by rw [hwN]; exact below_row (below_alloc HB.out _) HB.out.size _); have HBW := Aside0.mk (show Below wr.heap.size wr wN by rw [hwN]; exact below_row (below_alloc (Below.refl _ _) _) (Nat.le_refl _) _); rw [← hwN]; clear hwN GN)
          | ((with_reducible refine gate_builtin (b := .append) (xs := #[.tmp 25, .tmp 28]) rfl ?_); at_builtin; refine Kd.R_append Kd.string (w0 := w3) w3.heap.size rfl (.tmp 25) (.tmp 28) 22 9 (.string ⟨#[]⟩) 16 rfl Try.underlying22 info9 rfl (by decide) (by omega) u4 ((keys.take i).map strOfNums) (strOfNums F) [.string (strOfNums F)] (fun _ => True) (fun _ => False) rfl rfl ?aP (fun _ hk => hk.elim) ?aF ?aO ?aB ?aS ?aL ?_; (case aP => exact rfl); (case aB => exact HBN.out); (case aF => exact (fun _ _ => trivial)); (case aO => exact Kd.R_below HO.out HBW.out); (case aS => exact HBN.out.size); (case aL => have := HLT.out; have := HKL.out; have := HN.out; simp; omega); intro v2 w2 ho2 hb2 hg hat; have HO2 := Aside0.mk ho2; have HB2 := Aside0.mk hb2; clear ho2 hb2 hg hat))
        have hw : wrap64 ((i : Int) + 1) = ((i + 1 : Nat) : Int) := by have := HLT.out; have := HKL.out; have := HN.out; unfold wrap64; omega
        rw [hw]
        clear hw
        go_roundw
        case rel => exact ⟨i + 1, rfl, HLT.out, ⟨by rw [HTK.out, List.map_append]; exact HO2.out⟩, HB2⟩
        case measure => simp [intOf]; have := HLT.out; omega
      · have hd : decide (i < keys.length) = false := decide_eq_false hlt
        have HTK : Aside0 (keys.take i = keys) := ⟨List.take_of_length_le (by omega)⟩
        clear hi hlt
        go_wp2
        go_ret2
        exact ⟨_, rfl, by rw [HTK.out] at HO; exact Kd.R_lower HO.out HB3.out.size, HB3.out.trans (HB.out.mono HB3.out.size)⟩
  · rw [if_neg hs] at h
    obtain ⟨rfl, rfl⟩ : ([] : List ByteArray) = r ∧ (1 : Int) = c := by simpa using h
    have HK := Aside0.mk (show impl_isKey.f s0 = some false by
      unfold impl_isKey.f
      rw [if_neg (by omega)]
      congr 1
      rw [beq_eq_false_iff_ne]; omega)
    clear h hl hs
    go_enter Try.func15, Try.ntmps15
    go_wp2_with fail
    refine (impl_isLong_string.calls _ _ [s0] false _ (C_one_string (g := w0.heap.size) (T := 9) (fr := (0, 0)) (blk_new w0 _)) (Nat.le_refl _) HF.out).mono ?_
    rintro e w' ⟨rfl, hd⟩
    have HBd := Aside0.mk (below_then (below_alloc (Below.refl _ _) _) (by simp) hd.below : Below w0.heap.size w0 w')
    clear hd
    go_wp2_with fail
    refine (impl_isKey.calls s0 false _ HK.out).mono ?_
    rintro e w2 ⟨rfl, ⟨nd, rfl⟩⟩
    go_wp2
    go_ret2
    exact ⟨_, rfl, Kd.R_nil _ _ _ _ _, pw_below_drewN HBd.out nd⟩
theorem impl_KeySchedule.calls (s0 : ByteArray) (r1 : List ByteArray) (r2 : Int) (w : World) (h : impl_KeySchedule.f s0 = some (r1, r2)) :
    Calls Try.prog 15 #[.string s0] w fun e w' => ∃ v0_ : Value, e = .returned (.tuple #[v0_, .int .i64 r2]) ∧ Kd.R Kd.string 9 w' w.heap.size (fun _ => True) v0_ r1 ∧ Below w.heap.size w w' := impl_KeySchedule_in s0 r1 r2 w h
def laws_at.f (l0 : List Int) (a1 : Int) (a2 : Int) : Option (Int) := if a2 ≤ 1 then (some 0) else (if (l0.length : Int) = 0 then (if a2 = 0 then (none) else (some (Int.tmod (wrap64 (a1 * 7)) a2))) else (if 0 ≤ (Int.tmod a1 (l0.length : Int)) then (if (Int.tmod a1 (l0.length : Int)) < (l0.length : Int) then (if 0 ≤ (Int.tmod (wrap64 (a1 + 1)) (l0.length : Int)) then (if (Int.tmod (wrap64 (a1 + 1)) (l0.length : Int)) < (l0.length : Int) then (if a2 = 0 then (none) else (some (Int.tmod (wrap64 ((wrap64 ((wrap64 ((wrap64 (rd l0 (Int.tmod a1 (l0.length : Int)))) * 31)) + (wrap64 (rd l0 (Int.tmod (wrap64 (a1 + 1)) (l0.length : Int)))))) + (wrap64 (Int.tdiv a1 (l0.length : Int))))) a2))) else (none)) else (none)) else (none)) else (none)))
set_option maxHeartbeats 8000000 in
set_option maxRecDepth 100000 in
theorem laws_at.calls (A0 : Option Addr) (c0 : Nat) (l0 : List Int) (a1 : Int) (a2 : Int) (r : Int) (w : World) (hr0 : Kd.C (Kd.int .u8) w A0 l0.length l0) (hc0 : l0.length ≤ c0) (h : laws_at.f l0 a1 a2 = some r) :
    Calls Try.prog 19 #[.slice A0 l0.length c0, .int .i64 a1, .int .i64 a2] w fun e w' => e = .returned (.int .i64 r) ∧ Drawn0 w w' := by
  have HR0 := Aside0.mk hr0
  have HC0 := Aside0.mk hc0
  clear hr0 hc0
  have H : (if a2 ≤ 1 then (some 0) else (if (l0.length : Int) = 0 then (if a2 = 0 then (none) else (some (Int.tmod (wrap64 (a1 * 7)) a2))) else (if 0 ≤ (Int.tmod a1 (l0.length : Int)) then (if (Int.tmod a1 (l0.length : Int)) < (l0.length : Int) then (if 0 ≤ (Int.tmod (wrap64 (a1 + 1)) (l0.length : Int)) then (if (Int.tmod (wrap64 (a1 + 1)) (l0.length : Int)) < (l0.length : Int) then (if a2 = 0 then (none) else (some (Int.tmod (wrap64 ((wrap64 ((wrap64 ((wrap64 (rd l0 (Int.tmod a1 (l0.length : Int)))) * 31)) + (wrap64 (rd l0 (Int.tmod (wrap64 (a1 + 1)) (l0.length : Int)))))) + (wrap64 (Int.tdiv a1 (l0.length : Int))))) a2))) else (none)) else (none)) else (none)) else (none)))) = some r := h
  clear h
  by_cases c4 : a2 ≤ 1
  · rw [if_pos c4] at H
    have c4b0 : decide (a2 ≤ 1) = true := decide_eq_true c4
    clear c4
    obtain rfl := Option.some.inj H
    go_enter Try.func19, Try.ntmps19
    go_wp2
    repeat (go_quiet (fail); try go_wp2)
    go_ret
    exact ⟨by first | rfl | (simp; done) | (simp [*]; done), by repeat (first | exact Drawn0.refl _ | apply Drawn0.step)⟩
  · rw [if_neg c4] at H
    have c4b0 : decide (a2 ≤ 1) = false := decide_eq_false c4
    clear c4
    by_cases c5 : (l0.length : Int) = 0
    · rw [if_pos c5] at H
      have c5b0 : ((l0.length : Int) == 0) = true := beq_iff_eq.mpr c5
      have c5b1 : ((l0.length : Int) != 0) = false := bne_eq_false_iff_eq.mpr c5
      clear c5
      by_cases c6 : a2 = 0
      · rw [if_pos c6] at H
        exact absurd H (by simp)
      · rw [if_neg c6] at H
        have c6b0 : (a2 == 0) = false := beq_eq_false_iff_ne.mpr c6
        have c6b1 : (a2 != 0) = true := bne_iff_ne.mpr c6
        obtain rfl := Option.some.inj H
        go_enter Try.func19, Try.ntmps19
        go_wp2
        repeat (go_quiet (fail); try go_wp2)
        go_ret
        exact ⟨by first | rfl | (simp; done) | (simp [*]; done), by repeat (first | exact Drawn0.refl _ | apply Drawn0.step)⟩
    · rw [if_neg c5] at H
      have c5b0 : ((l0.length : Int) == 0) = false := beq_eq_false_iff_ne.mpr c5
      have c5b1 : ((l0.length : Int) != 0) = true := bne_iff_ne.mpr c5
      have c5b2 : ¬ (l0 = []) := fun h_ => c5 (by rw [h_]; rfl)
      obtain ⟨ji7, hji7⟩ : ∃ j_ : Int, (Int.tmod a1 (l0.length : Int)) = j_ := ⟨_, rfl⟩
      replace H : (if 0 ≤ (ji7) then (if (ji7) < (l0.length : Int) then (if 0 ≤ (Int.tmod (wrap64 (a1 + 1)) (l0.length : Int)) then (if (Int.tmod (wrap64 (a1 + 1)) (l0.length : Int)) < (l0.length : Int) then (if a2 = 0 then (none) else (some (Int.tmod (wrap64 ((wrap64 ((wrap64 ((wrap64 (rd l0 (ji7))) * 31)) + (wrap64 (rd l0 (Int.tmod (wrap64 (a1 + 1)) (l0.length : Int)))))) + (wrap64 (Int.tdiv a1 (l0.length : Int))))) a2))) else (none)) else (none)) else (none)) else (none)) = some r := by first | (rw [hji7] at H; exact H) | (simp only [hji7] at H ⊢; exact H)
      by_cases c8 : 0 ≤ (ji7)
      · rw [if_pos c8] at H
        have c8b0 : decide (0 ≤ (ji7)) = true := decide_eq_true c8
        clear c8
        by_cases c9 : (ji7) < (l0.length : Int)
        · rw [if_pos c9] at H
          have c9b0 : decide ((ji7) < (l0.length : Int)) = true := decide_eq_true c9
          clear c9
          obtain ⟨ji10, hji10⟩ : ∃ j_ : Int, (Int.tmod (wrap64 (a1 + 1)) (l0.length : Int)) = j_ := ⟨_, rfl⟩
          replace H : (if 0 ≤ (ji10) then (if (ji10) < (l0.length : Int) then (if a2 = 0 then (none) else (some (Int.tmod (wrap64 ((wrap64 ((wrap64 ((wrap64 (rd l0 (ji7))) * 31)) + (wrap64 (rd l0 (ji10))))) + (wrap64 (Int.tdiv a1 (l0.length : Int))))) a2))) else (none)) else (none)) = some r := by first | (rw [hji10] at H; exact H) | (simp only [hji10] at H ⊢; exact H)
          by_cases c11 : 0 ≤ (ji10)
          · rw [if_pos c11] at H
            have c11b0 : decide (0 ≤ (ji10)) = true := decide_eq_true c11
            clear c11
            by_cases c12 : (ji10) < (l0.length : Int)
            · rw [if_pos c12] at H
              have c12b0 : decide ((ji10) < (l0.length : Int)) = true := decide_eq_true c12
              clear c12
              by_cases c13 : a2 = 0
              · rw [if_pos c13] at H
                exact absurd H (by simp)
              · rw [if_neg c13] at H
                have c13b0 : (a2 == 0) = false := beq_eq_false_iff_ne.mpr c13
                have c13b1 : (a2 != 0) = true := bne_iff_ne.mpr c13
                obtain rfl := Option.some.inj H
                have p264 : 0 ≤ ((ji7) : Int) := of_decide_eq_true (by first | (with_reducible assumption) | assumption)
                have q264 : (ji7) < (l0.length : Int) := of_decide_eq_true (by first | (with_reducible assumption) | assumption)
                obtain ⟨ad264, e264, hx264_0⟩ := Kd.at_int HR0.out (ji7) p264 q264
                cases e264
                replace p264 := eq_true p264
                replace q264 := eq_true q264
                have p265 : 0 ≤ ((ji10) : Int) := of_decide_eq_true (by first | (with_reducible assumption) | assumption)
                have q265 : (ji10) < (l0.length : Int) := of_decide_eq_true (by first | (with_reducible assumption) | assumption)
                obtain ⟨ad265, e265, hx265_0⟩ := Kd.at_int HR0.out (ji10) p265 q265
                obtain rfl : ad264 = ad265 := (by injection e265)
                replace p265 := eq_true p265
                replace q265 := eq_true q265
                go_enter Try.func19, Try.ntmps19
                go_wp2
                repeat (go_quiet (fail); try go_wp2)
                go_ret
                exact ⟨by first | rfl | (simp; done) | (simp only [← hji7, ← hji10] <;> (first | rfl | simp)) | (simp [*]; done), by repeat (first | exact Drawn0.refl _ | apply Drawn0.step)⟩
            · rw [if_neg c12] at H
              exact absurd H (by simp)
          · rw [if_neg c11] at H
            exact absurd H (by simp)
        · rw [if_neg c9] at H
          exact absurd H (by simp)
      · rw [if_neg c8] at H
        exact absurd H (by simp)
def IsS77 (w0 W : World) (g : Nat) (f0 : List Int) (f1 : Int) (f2 : Int) : Prop := ∃ A0 c0, W.heap[g]? = some (.cells #[.slice A0 f0.length c0, .int .i64 f1, .int .i64 f2] 77 (0, 0)) ∧ w0.heap.size ≤ g ∧ Kd.C (Kd.int .u8) w0 A0 f0.length f0
theorem IsS77.grown {w0 W : World} {g : Nat} {f0 : List Int} {f1 : Int} {f2 : Int} {W1 : World} {row : Option Nat} (h : IsS77 w0 W g f0 f1 f2) (hw : W.grownBy W1 row) (hne : some g ≠ row) : IsS77 w0 W1 g f0 f1 f2 := by
  obtain ⟨A0, c0, hb, hg, hr0⟩ := h
  exact ⟨A0, c0, blk_grown hb hw hne, hg, hr0⟩
theorem IsS77.below {w0 W : World} {g : Nat} {f0 : List Int} {f1 : Int} {f2 : Int} {W1 : World} (h : IsS77 w0 W g f0 f1 f2) (hw : Below W.heap.size W W1) : IsS77 w0 W1 g f0 f1 f2 := h.grown (grown_of_below hw none) (by simp)
theorem IsS77.apart {w0 W : World} {g : Nat} {f0 : List Int} {f1 : Int} {f2 : Int} {α : Type} {d : Kd α} {e : Nat} {base : Nat} {ok : Nat → Prop} {v : Value} {xs : List α} (h : IsS77 w0 W g f0 f1 f2) (ho : d.R e W base ok v xs) (ht : ∀ q, q ∈ e :: d.E → q ≠ 77) : d.R e W base (fun k => ok k ∧ k ≠ g) v xs := by
  obtain ⟨A0, c0, hb, hg, hr0⟩ := h
  exact Kd.R_types ho hb ht
theorem IsS77.own_ne {w0 W : World} {g : Nat} {f0 : List Int} {f1 : Int} {f2 : Int} {α : Type} {d : Kd α} {e : Nat} {base : Nat} {ok : Nat → Prop} {v : Value} {xs : List α} (h : IsS77 w0 W g f0 f1 f2) (ho : d.R e W base ok v xs) (ht : e ≠ 77) : some g ≠ v.ownBlock := by
  obtain ⟨A0, c0, hb, hg, hr0⟩ := h
  exact Kd.R_ne ho hb ht
def spec_l00Source.f (l0 : List Int) : Option (List Int × Int × Int) := some (l0, 0, (l0.length : Int) % 1000)
set_option maxHeartbeats 8000000 in
set_option maxRecDepth 100000 in
theorem spec_l00Source.calls (A0 : Option Addr) (c0 : Nat) (l0 : List Int) (r1 : List Int) (r2 : Int) (r3 : Int) (w0 w : World) (hB : Below w0.heap.size w0 w) (hr0 : Kd.C (Kd.int .u8) w0 A0 l0.length l0) (hc0 : l0.length ≤ c0) (h : spec_l00Source.f l0 = some (r1, r2, r3)) :
    Calls Try.prog 46 #[.slice A0 l0.length c0] w fun e w' => ∃ g_ : Nat, e = .returned (.pointer (some ⟨g_, 0, none⟩)) ∧ IsS77 w0 w' g_ r1 r2 r3 ∧ Below w0.heap.size w0 w' ∧ Below w.heap.size w w' := by
  have hu77 := Try.underlying77
  have HR0 := Aside0.mk hr0
  have HC0 := Aside0.mk hc0
  clear hr0 hc0
  have HBW := Aside0.mk (Below.refl w.heap.size w)
  have HW0 := Aside0.mk hB.size
  have HB := Aside0.mk hB
  clear hB
  have H : (some (l0, 0, (l0.length : Int) % 1000)) = some (r1, r2, r3) := h
  clear h
  simp only [Option.some.injEq, Prod.mk.injEq] at H
  obtain ⟨rfl, rfl, rfl⟩ := H
  go_enter Try.func46, Try.ntmps46
  go_wp2_with (first | ((with_reducible refine gate_dst (N := 8) rfl ?_); refine box_event ?hg (N := 8) ?hd (cs := #[.slice A0 l0.length c0, .int .i64 0, .int .i64 ((l0.length : Int) % 1000)]) (t := 77) ?hr ?_; (case hd => rfl); (case hg => rfl); (case hr => first | (go_simp; done) | (go_simp; rfl)); intro gb266 hg w2 hbox hb; have n0_ := Aside0.mk (below_step HBW.out hb); have n1_ := Aside0.mk (below_step (by repeat (first | (with_reducible first | exact HB.out | apply below_alloc | apply pw_below_drewN | apply below_drew1) | exact HB.out)) hb); have n2_ := Aside0.mk (hbox); have n3_ := Aside0.mk ((by rw [hg]; exact (below_size (by repeat (first | (with_reducible first | exact HBW.out | apply below_alloc | apply pw_below_drewN | apply below_drew1) | exact HBW.out))) : w.heap.size ≤ gb266)); have n4_ := Aside0.mk ((Nat.le_trans HW0.out (by rw [hg]; exact (below_size (by repeat (first | (with_reducible first | exact HBW.out | apply below_alloc | apply pw_below_drewN | apply below_drew1) | exact HBW.out))) : w.heap.size ≤ gb266) : w0.heap.size ≤ gb266)); clear HBW; clear HB; have HBW := n0_; have HB := n1_; have BK266 := n2_; have GW266 := n3_; have GE266 := n4_; clear n0_ n1_ n2_ n3_ n4_; clear hb hbox hg))
  go_ret
  exact ⟨_, rfl, (show IsS77 w0 _ gb266 l0 0 ((l0.length : Int) % 1000) from ⟨_, _, by (with_reducible repeat (first | refine blk_drewN ?_ _ | refine blk_drew ?_ | refine blk_alloc ?_ _)); exact BK266.out, GE266.out, HR0.out⟩), by repeat (first | (with_reducible first | exact HB.out | apply below_alloc | apply pw_below_drewN | apply below_drew1 | refine below_set ?_ GE266.out) | exact HB.out), by repeat (first | (with_reducible first | exact HBW.out | apply below_alloc | apply pw_below_drewN | apply below_drew1 | refine below_set ?_ GW266.out) | exact HBW.out)⟩
def byteSeed (s b : Int) : Int := (s * 31 + b + 7) % 2147483648
def byteNext (s : Int) : Int := (s * 1103515245 + 12345) % 2147483648
theorem byteNext_bd (s : Int) : 0 ≤ byteNext s ∧ byteNext s < 2147483648 := by unfold byteNext; omega
def spec_l00Src_byte.f (l : List Int) (a s : Int) : Option (Int × Int × Int) :=
  if 0 ≤ a ∧ a ≤ 4611686018427387904 ∧ 0 ≤ s ∧ s < 2147483648 ∧ 0 ≤ rd l a ∧ rd l a ≤ 255 then
    if a < (l.length : Int) then some (rd l a, a + 1, byteSeed s (rd l a))
    else if 3000 < a + 1 then some (0, a + 1, s)
    else some (byteNext s / 65536 % 256, a + 1, byteNext s)
  else none
def bytePost (w0 w : World) (g : Nat) (l : List Int) (r a s : Int) (e : Ending) (w' : World) : Prop :=
  e = .returned (.int .i64 r) ∧ IsS77 w0 w' g l a s ∧ Below w0.heap.size w0 w' ∧ KeepBut w w' g none
theorem byte_far {w : World} {g j : Nat} {v : Value} {ad : Addr} {u : Value} (h : w.cell? ad = some u) (hne : ad.block ≠ g) : (w.setCell ⟨g, j, none⟩ v).cell? ad = some u := by
  rw [← h]
  exact World.cell?_of_block (Below.heap_setCell w ⟨g, j, none⟩ v ad.block hne)
theorem byte_add (ad : Addr) (j : Nat) : (ad.add j).block = ad.block := by unfold Addr.add; split <;> rfl
theorem byte_in (g : Nat) (l : List Int) (a s b : Int) (c0 : Nat) (w0 w : World) (ad : Addr) (hb : w.heap[g]? = some (.cells #[.slice (some ad) l.length c0, .int .i64 a, .int .i64 s] 77 (0, 0)))
    (hg : w0.heap.size ≤ g) (hr : Kd.C (Kd.int .u8) w0 (some ad) l.length l) (hB : Below w0.heap.size w0 w)
    (h0 : 0 ≤ a) (h1 : a ≤ 4611686018427387904) (h2 : 0 ≤ s) (h3 : s < 2147483648) (h4 : 0 ≤ b) (h5 : b ≤ 255) (hl : l.length ≤ 9223372036854775807) (h6 : a < (l.length : Int)) (hcell : w.cell? (ad.add a.toNat) = some (.int .u8 b)) (hne : ad.block ≠ g) :
    Calls Try.prog 101 #[.pointer (some ⟨g, 0, none⟩)] w (bytePost w0 w g l b (a + 1) (byteSeed s b)) := by
  have HR := Aside0.mk hr
  have HG := Aside0.mk hg
  have HB := Aside0.mk hB
  have HK := Aside0.mk (KeepBut.refl w g none)
  clear hr hg hB
  have c0_ := blk_cell hb 0
  have c1_ := blk_cell hb 1
  have c2_ := blk_cell hb 2
  have z1_ := blk_frozen hb 1
  have z2_ := blk_frozen hb 2
  simp at c0_ c1_ c2_
  go_enter Try.func101, Try.ntmps101
  go_wp2
  have hb1 := blk_put hb 1 (.int .i64 (a + 1)) rfl
  have hcell1 : (w.setCell ⟨g, 1, none⟩ (.int .i64 (a + 1))).cell? (ad.add a.toNat) = some (.int .u8 b) := byte_far hcell (by rw [byte_add]; exact hne)
  have HK1 := Aside0.mk (HK.out.set_ 1 (.int .i64 (a + 1)))
  have HB1 := Aside0.mk (below_set (j := 1) (v := .int .i64 (a + 1)) HB.out HG.out)
  clear c0_ c1_ c2_ z1_ z2_ hb hcell HK HB
  generalize w.setCell ⟨g, 1, none⟩ (.int .i64 (a + 1)) = w1 at *
  have c0_ := blk_cell hb1 0
  have c1_ := blk_cell hb1 1
  have c2_ := blk_cell hb1 2
  have z1_ := blk_frozen hb1 1
  have z2_ := blk_frozen hb1 2
  simp at c0_ c1_ c2_
  have hle : decide (a + 1 ≤ (l.length : Int)) = true := decide_eq_true (by omega)
  go_quiet (fail)
  go_wp2
  go_region
  go_wp2
  have hb2 := blk_put (blk_drewN hb1 (nq + 1)) 2 (.int .i64 ((s * 31 + b + 7) % 2147483648)) rfl
  have hcell2 : ((w1.drewN (nq + 1)).setCell ⟨g, 2, none⟩ (.int .i64 ((s * 31 + b + 7) % 2147483648))).cell? (ad.add a.toNat) = some (.int .u8 b) := byte_far (w := w1.drewN (nq + 1)) hcell1 (by rw [byte_add]; exact hne)
  have HK2 := Aside0.mk ((keep_drewN HK1.out (nq + 1)).set_ 2 (.int .i64 ((s * 31 + b + 7) % 2147483648)))
  have HB2 := Aside0.mk (below_set (j := 2) (v := .int .i64 ((s * 31 + b + 7) % 2147483648)) (pw_below_drewN HB1.out (nq + 1)) HG.out)
  clear c0_ c1_ c2_ z1_ z2_ hb1 hcell1 HK1 HB1
  generalize (w1.drewN (nq + 1)).setCell ⟨g, 2, none⟩ (.int .i64 ((s * 31 + b + 7) % 2147483648)) = w2 at *
  have c0_ := blk_cell hb2 0
  have c1_ := blk_cell hb2 1
  have c2_ := blk_cell hb2 2
  simp at c0_ c1_ c2_
  go_quiet (fail)
  go_wp2
  go_ret
  exact ⟨rfl, ⟨_, _, blk_drewN hb2 _, HG.out, HR.out⟩, pw_below_drewN HB2.out _, keep_drewN HK2.out _⟩
theorem byte_out (g : Nat) (l : List Int) (a s : Int) (A0 : Option Addr) (c0 : Nat) (w0 w : World) (hb : w.heap[g]? = some (.cells #[.slice A0 l.length c0, .int .i64 a, .int .i64 s] 77 (0, 0)))
    (hg : w0.heap.size ≤ g) (hr : Kd.C (Kd.int .u8) w0 A0 l.length l) (hB : Below w0.heap.size w0 w)
    (h0 : 0 ≤ a) (h1 : a ≤ 4611686018427387904) (h2 : 0 ≤ s) (h3 : s < 2147483648) (h6 : ¬ a < (l.length : Int)) (h7 : 3000 < a + 1) :
    Calls Try.prog 101 #[.pointer (some ⟨g, 0, none⟩)] w (bytePost w0 w g l 0 (a + 1) s) := by
  have HR := Aside0.mk hr
  have HG := Aside0.mk hg
  have HB := Aside0.mk hB
  have HK := Aside0.mk (KeepBut.refl w g none)
  clear hr hg hB
  have c0_ := blk_cell hb 0
  have c1_ := blk_cell hb 1
  have c2_ := blk_cell hb 2
  have z1_ := blk_frozen hb 1
  simp at c0_ c1_ c2_
  go_enter Try.func101, Try.ntmps101
  go_wp2
  have hb1 := blk_put hb 1 (.int .i64 (a + 1)) rfl
  have HK1 := Aside0.mk (HK.out.set_ 1 (.int .i64 (a + 1)))
  have HB1 := Aside0.mk (below_set (j := 1) (v := .int .i64 (a + 1)) HB.out HG.out)
  clear c0_ c1_ c2_ z1_ hb HK HB
  generalize w.setCell ⟨g, 1, none⟩ (.int .i64 (a + 1)) = w1 at *
  have c0_ := blk_cell hb1 0
  have c1_ := blk_cell hb1 1
  have c2_ := blk_cell hb1 2
  simp at c0_ c1_ c2_
  have hle : decide (a + 1 ≤ (l.length : Int)) = false := decide_eq_false (by omega)
  have hbig : decide (3000 < a + 1) = true := decide_eq_true (by omega)
  go_quiet (fail)
  go_wp2
  go_ret
  exact ⟨rfl, ⟨_, _, blk_drewN hb1 _, HG.out, HR.out⟩, pw_below_drewN HB1.out _, keep_drewN HK1.out _⟩
theorem byte_drawn (g : Nat) (l : List Int) (a s : Int) (A0 : Option Addr) (c0 : Nat) (w0 w : World) (hb : w.heap[g]? = some (.cells #[.slice A0 l.length c0, .int .i64 a, .int .i64 s] 77 (0, 0)))
    (hg : w0.heap.size ≤ g) (hr : Kd.C (Kd.int .u8) w0 A0 l.length l) (hB : Below w0.heap.size w0 w)
    (h0 : 0 ≤ a) (h1 : a ≤ 4611686018427387904) (h2 : 0 ≤ s) (h3 : s < 2147483648) (h6 : ¬ a < (l.length : Int)) (h7 : ¬ 3000 < a + 1) :
    Calls Try.prog 101 #[.pointer (some ⟨g, 0, none⟩)] w (bytePost w0 w g l (byteNext s / 65536 % 256) (a + 1) (byteNext s)) := by
  have HR := Aside0.mk hr
  have HG := Aside0.mk hg
  have HB := Aside0.mk hB
  have HK := Aside0.mk (KeepBut.refl w g none)
  clear hr hg hB
  have c0_ := blk_cell hb 0
  have c1_ := blk_cell hb 1
  have c2_ := blk_cell hb 2
  have z1_ := blk_frozen hb 1
  have z2_ := blk_frozen hb 2
  simp at c0_ c1_ c2_
  go_enter Try.func101, Try.ntmps101
  go_wp2
  have hb1 := blk_put hb 1 (.int .i64 (a + 1)) rfl
  have HK1 := Aside0.mk (HK.out.set_ 1 (.int .i64 (a + 1)))
  have HB1 := Aside0.mk (below_set (j := 1) (v := .int .i64 (a + 1)) HB.out HG.out)
  clear c0_ c1_ c2_ z1_ z2_ hb HK HB
  generalize w.setCell ⟨g, 1, none⟩ (.int .i64 (a + 1)) = w1 at *
  have c0_ := blk_cell hb1 0
  have c1_ := blk_cell hb1 1
  have c2_ := blk_cell hb1 2
  have z1_ := blk_frozen hb1 1
  have z2_ := blk_frozen hb1 2
  simp at c0_ c1_ c2_
  have hle : decide (a + 1 ≤ (l.length : Int)) = false := decide_eq_false (by omega)
  have hbig : decide (3000 < a + 1) = false := decide_eq_false (by omega)
  go_quiet (fail)
  have hb2 := blk_put (blk_drewN hb1 nq) 2 (.int .i64 ((s * 1103515245 + 12345) % 2147483648)) rfl
  have HK2 := Aside0.mk ((keep_drewN HK1.out nq).set_ 2 (.int .i64 ((s * 1103515245 + 12345) % 2147483648)))
  have HB2 := Aside0.mk (below_set (j := 2) (v := .int .i64 ((s * 1103515245 + 12345) % 2147483648)) (pw_below_drewN HB1.out nq) HG.out)
  go_wp2
  go_ret
  exact ⟨rfl, ⟨_, _, hb2, HG.out, HR.out⟩, HB2.out, HK2.out⟩
theorem spec_l00Src_byte.calls (g : Nat) (s0_0 : List Int) (s0_1 : Int) (s0_2 : Int) (r1 : Int) (r2 : Int) (r3 : Int) (w0 w : World) (hI : IsS77 w0 w g s0_0 s0_1 s0_2) (hB : Below w0.heap.size w0 w) (h : spec_l00Src_byte.f s0_0 s0_1 s0_2 = some (r1, r2, r3)) :
    Calls Try.prog 101 #[.pointer (some ⟨g, 0, none⟩)] w fun e w' => e = .returned (.int .i64 r1) ∧ IsS77 w0 w' g s0_0 r2 r3 ∧ Below w0.heap.size w0 w' ∧ KeepBut w w' g none := by
  show Calls Try.prog 101 #[.pointer (some ⟨g, 0, none⟩)] w (bytePost w0 w g s0_0 r1 r2 r3)
  unfold spec_l00Src_byte.f at h
  obtain ⟨A0, c0, hb, hg, hr⟩ := hI
  by_cases hc : 0 ≤ s0_1 ∧ s0_1 ≤ 4611686018427387904 ∧ 0 ≤ s0_2 ∧ s0_2 < 2147483648 ∧ 0 ≤ rd s0_0 s0_1 ∧ rd s0_0 s0_1 ≤ 255
  · rw [if_pos hc] at h
    obtain ⟨h0, h1, h2, h3, h4, h5⟩ := hc
    by_cases h6 : s0_1 < (s0_0.length : Int)
    · rw [if_pos h6] at h
      obtain ⟨rfl, rfl, rfl⟩ : rd s0_0 s0_1 = r1 ∧ s0_1 + 1 = r2 ∧ byteSeed s0_2 (rd s0_0 s0_1) = r3 := by simpa using h
      obtain ⟨ad, c, rfl, _, hc, hw⟩ := Kd.C_get hr 0 s0_1 h0 (by omega)
      have hc : c = [.int .u8 (rd s0_0 s0_1)] := hc
      subst hc
      have hcw := hw 0 _ rfl
      have hcw2 : w0.cell? (ad.add s0_1.toNat) = some (.int .u8 (rd s0_0 s0_1)) := by simpa [Kd.int, Kd.scalar] using hcw
      have hlt : ad.block < w0.heap.size := by
        have := World.block_lt_of_cell? w0 _ hcw2
        rwa [byte_add] at this
      exact byte_in g s0_0 s0_1 s0_2 (rd s0_0 s0_1) c0 w0 w ad hb hg hr hB h0 h1 h2 h3 h4 h5 hr.2.1 h6 ((hB.cell (p := ad.add s0_1.toNat) (by rw [byte_add]; exact hlt)).trans hcw2) (by omega)
    · rw [if_neg h6] at h
      by_cases h7 : 3000 < s0_1 + 1
      · rw [if_pos h7] at h
        obtain ⟨rfl, rfl, rfl⟩ : (0 : Int) = r1 ∧ s0_1 + 1 = r2 ∧ s0_2 = r3 := by simpa using h
        exact byte_out g s0_0 s0_1 s0_2 A0 c0 w0 w hb hg hr hB h0 h1 h2 h3 h6 h7
      · rw [if_neg h7] at h
        obtain ⟨rfl, rfl, rfl⟩ : byteNext s0_2 / 65536 % 256 = r1 ∧ s0_1 + 1 = r2 ∧ byteNext s0_2 = r3 := by simpa using h
        exact byte_drawn g s0_0 s0_1 s0_2 A0 c0 w0 w hb hg hr hB h0 h1 h2 h3 h6 h7
  · rw [if_neg hc] at h
    cases h
def spec_l00Src_next.f (s0_0 : List Int) (s0_1 : Int) (s0_2 : Int) (a1 : Int) : Option (Int × Int × Int) := if a1 ≤ 1 then (some (0, s0_1, s0_2)) else (if a1 ≤ 256 then ((spec_l00Src_byte.f s0_0 s0_1 s0_2).bind fun bt267 => (if a1 = 0 then (none) else (some (Int.tmod bt267.1 a1, bt267.2.1, bt267.2.2)))) else ((spec_l00Src_byte.f s0_0 s0_1 s0_2).bind fun bt270 => ((spec_l00Src_byte.f s0_0 bt270.2.1 bt270.2.2).bind fun bt273 => ((spec_l00Src_byte.f s0_0 bt273.2.1 bt273.2.2).bind fun bt276 => (if a1 = 0 then (none) else (some (Int.tmod (wrap64 ((wrap64 ((wrap64 (bt270.1 * 65536)) + (wrap64 (bt273.1 * 256)))) + bt276.1)) a1, bt276.2.1, bt276.2.2)))))))
set_option maxHeartbeats 8000000 in
set_option maxRecDepth 100000 in
theorem spec_l00Src_next.calls (g : Nat) (s0_0 : List Int) (s0_1 : Int) (s0_2 : Int) (a1 : Int) (r1 : Int) (r2 : Int) (r3 : Int) (w0 w : World) (hI : IsS77 w0 w g s0_0 s0_1 s0_2) (hB : Below w0.heap.size w0 w) (h : spec_l00Src_next.f s0_0 s0_1 s0_2 a1 = some (r1, r2, r3)) :
    Calls Try.prog 74 #[.pointer (some ⟨g, 0, none⟩), .int .i64 a1] w fun e w' => e = .returned (.int .i64 r1) ∧ IsS77 w0 w' g s0_0 r2 r3 ∧ Below w0.heap.size w0 w' ∧ KeepBut w w' g none := by
  have HI0 := Aside0.mk hI
  have HK := Aside0.mk (KeepBut.refl w g none)
  have HL := Aside0.mk hB.size
  clear hI
  have HW0 := Aside0.mk hB.size
  have HB := Aside0.mk hB
  clear hB
  have H : (if a1 ≤ 1 then (some (0, s0_1, s0_2)) else (if a1 ≤ 256 then ((spec_l00Src_byte.f s0_0 s0_1 s0_2).bind fun bt267 => (if a1 = 0 then (none) else (some (Int.tmod bt267.1 a1, bt267.2.1, bt267.2.2)))) else ((spec_l00Src_byte.f s0_0 s0_1 s0_2).bind fun bt270 => ((spec_l00Src_byte.f s0_0 bt270.2.1 bt270.2.2).bind fun bt273 => ((spec_l00Src_byte.f s0_0 bt273.2.1 bt273.2.2).bind fun bt276 => (if a1 = 0 then (none) else (some (Int.tmod (wrap64 ((wrap64 ((wrap64 (bt270.1 * 65536)) + (wrap64 (bt273.1 * 256)))) + bt276.1)) a1, bt276.2.1, bt276.2.2)))))))) = some (r1, r2, r3) := h
  clear h
  by_cases c3 : a1 ≤ 1
  · rw [if_pos c3] at H
    have c3b0 : decide (a1 ≤ 1) = true := decide_eq_true c3
    clear c3
    simp only [Option.some.injEq, Prod.mk.injEq] at H
    obtain ⟨rfl, rfl, rfl⟩ := H
    go_enter Try.func74, Try.ntmps74
    go_wp2
    go_ret
    exact ⟨by first | rfl | (simp [errW_none, errW_some] <;> rfl) | (simp [*, errW_none, errW_some] <;> rfl), by repeat (first | (with_reducible first | exact HI0.out | apply IsS77.alloc | apply IsS77.drewN | apply IsS77.drew | apply IsS77.set_1 | apply IsS77.set_2) | exact HI0.out), by repeat (first | (with_reducible first | exact HB.out | apply below_alloc | apply pw_below_drewN | apply below_drew1 | refine below_set ?_ (IsS77.ge HI0.out)) | exact HB.out), by repeat (first | (with_reducible first | exact HK.out | apply KeepBut.set_ | apply keep_drewN | apply keep_drew | apply keep_alloc) | exact HK.out)⟩
  · rw [if_neg c3] at H
    have c3b0 : decide (a1 ≤ 1) = false := decide_eq_false c3
    clear c3
    by_cases c4 : a1 ≤ 256
    · rw [if_pos c4] at H
      have c4b0 : decide (a1 ≤ 256) = true := decide_eq_true c4
      clear c4
      replace H := Option.bind_eq_some_iff.mp H
      obtain ⟨⟨t267, t268, t269⟩, A50, H⟩ := H
      replace H : (if a1 = 0 then (none) else (some (Int.tmod t267 a1, t268, t269))) = some (r1, r2, r3) := H
      have A5 := Aside0.mk A50
      clear A50
      by_cases c6 : a1 = 0
      · rw [if_pos c6] at H
        exact absurd H (by simp)
      · rw [if_neg c6] at H
        have c6b0 : (a1 == 0) = false := beq_eq_false_iff_ne.mpr c6
        have c6b1 : (a1 != 0) = true := bne_iff_ne.mpr c6
        simp only [Option.some.injEq, Prod.mk.injEq] at H
        obtain ⟨rfl, rfl, rfl⟩ := H
        go_enter Try.func74, Try.ntmps74
        go_wp2_with (first | ((with_reducible refine gate_callee (f := 101) rfl ?_); refine goesL_ (some 13) rfl rfl Try.func101 (by kernel_rfl) rfl #[.pointer (some ⟨g, 0, none⟩)] rfl (by (try simp only [List.map_toArray, List.map_cons, List.map_nil]); first | done | rfl | (simp only [List.length_drop, List.length_take]; rfl)) ?_; (with_reducible refine (spec_l00Src_byte.calls g s0_0 s0_1 s0_2 t267 t268 t269 w0 _ ?side1 ?side2 A5.out).mono ?_); (case side1 => repeat (first | (with_reducible first | exact HI0.out | apply IsS77.alloc | apply IsS77.drewN | apply IsS77.drew | apply IsS77.set_1 | apply IsS77.set_2) | exact HI0.out)); (case side2 => repeat (first | (with_reducible first | exact HB.out | apply below_alloc | apply pw_below_drewN | apply below_drew1 | refine below_set ?_ (IsS77.ge HI0.out)) | exact HB.out)); rintro e w7 ⟨rfl, hi, hb, hk⟩; refine ⟨_, rfl, ?_⟩; have n0_ := Aside0.mk (KeepBut.trans (by repeat (first | (with_reducible first | exact HK.out | apply KeepBut.set_ | apply keep_drewN | apply keep_drew | apply keep_alloc) | exact HK.out)) hk (.inl rfl)); have n1_ := Aside0.mk (hb); have n2_ := Aside0.mk (hi); clear HK; clear HB; clear HI0; have HK := n0_; have HB := n1_; have HI0 := n2_; clear n0_ n1_ n2_; (try clear hb); (try clear hb2); (try clear hk); (try clear hi)))
        go_ret
        exact ⟨by first | rfl | (simp [errW_none, errW_some] <;> rfl) | (simp [*, errW_none, errW_some] <;> rfl), by repeat (first | (with_reducible first | exact HI0.out | apply IsS77.alloc | apply IsS77.drewN | apply IsS77.drew | apply IsS77.set_1 | apply IsS77.set_2) | exact HI0.out), by repeat (first | (with_reducible first | exact HB.out | apply below_alloc | apply pw_below_drewN | apply below_drew1 | refine below_set ?_ (IsS77.ge HI0.out)) | exact HB.out), by repeat (first | (with_reducible first | exact HK.out | apply KeepBut.set_ | apply keep_drewN | apply keep_drew | apply keep_alloc) | exact HK.out)⟩
    · rw [if_neg c4] at H
      have c4b0 : decide (a1 ≤ 256) = false := decide_eq_false c4
      clear c4
      replace H := Option.bind_eq_some_iff.mp H
      obtain ⟨⟨t270, t271, t272⟩, A80, H⟩ := H
      replace H : ((spec_l00Src_byte.f s0_0 t271 t272).bind fun bt273 => ((spec_l00Src_byte.f s0_0 bt273.2.1 bt273.2.2).bind fun bt276 => (if a1 = 0 then (none) else (some (Int.tmod (wrap64 ((wrap64 ((wrap64 (t270 * 65536)) + (wrap64 (bt273.1 * 256)))) + bt276.1)) a1, bt276.2.1, bt276.2.2))))) = some (r1, r2, r3) := H
      have A8 := Aside0.mk A80
      clear A80
      replace H := Option.bind_eq_some_iff.mp H
      obtain ⟨⟨t273, t274, t275⟩, A90, H⟩ := H
      replace H : ((spec_l00Src_byte.f s0_0 t274 t275).bind fun bt276 => (if a1 = 0 then (none) else (some (Int.tmod (wrap64 ((wrap64 ((wrap64 (t270 * 65536)) + (wrap64 (t273 * 256)))) + bt276.1)) a1, bt276.2.1, bt276.2.2)))) = some (r1, r2, r3) := H
      have A9 := Aside0.mk A90
      clear A90
      replace H := Option.bind_eq_some_iff.mp H
      obtain ⟨⟨t276, t277, t278⟩, A100, H⟩ := H
      replace H : (if a1 = 0 then (none) else (some (Int.tmod (wrap64 ((wrap64 ((wrap64 (t270 * 65536)) + (wrap64 (t273 * 256)))) + t276)) a1, t277, t278))) = some (r1, r2, r3) := H
      have A10 := Aside0.mk A100
      clear A100
      by_cases c11 : a1 = 0
      · rw [if_pos c11] at H
        exact absurd H (by simp)
      · rw [if_neg c11] at H
        have c11b0 : (a1 == 0) = false := beq_eq_false_iff_ne.mpr c11
        have c11b1 : (a1 != 0) = true := bne_iff_ne.mpr c11
        simp only [Option.some.injEq, Prod.mk.injEq] at H
        obtain ⟨rfl, rfl, rfl⟩ := H
        go_enter Try.func74, Try.ntmps74
        go_wp2_with (first | ((with_reducible refine gate_callee (f := 101) rfl ?_); refine goesL_ (some 17) rfl rfl Try.func101 (by kernel_rfl) rfl #[.pointer (some ⟨g, 0, none⟩)] rfl (by (try simp only [List.map_toArray, List.map_cons, List.map_nil]); first | done | rfl | (simp only [List.length_drop, List.length_take]; rfl)) ?_; (with_reducible refine (spec_l00Src_byte.calls g s0_0 s0_1 s0_2 t270 t271 t272 w0 _ ?side1 ?side2 A8.out).mono ?_); (case side1 => repeat (first | (with_reducible first | exact HI0.out | apply IsS77.alloc | apply IsS77.drewN | apply IsS77.drew | apply IsS77.set_1 | apply IsS77.set_2) | exact HI0.out)); (case side2 => repeat (first | (with_reducible first | exact HB.out | apply below_alloc | apply pw_below_drewN | apply below_drew1 | refine below_set ?_ (IsS77.ge HI0.out)) | exact HB.out)); rintro e w12 ⟨rfl, hi, hb, hk⟩; refine ⟨_, rfl, ?_⟩; have n0_ := Aside0.mk (KeepBut.trans (by repeat (first | (with_reducible first | exact HK.out | apply KeepBut.set_ | apply keep_drewN | apply keep_drew | apply keep_alloc) | exact HK.out)) hk (.inl rfl)); have n1_ := Aside0.mk (hb); have n2_ := Aside0.mk (hi); clear HK; clear HB; clear HI0; have HK := n0_; have HB := n1_; have HI0 := n2_; clear n0_ n1_ n2_; (try clear hb); (try clear hb2); (try clear hk); (try clear hi)) | ((with_reducible refine gate_callee (f := 101) rfl ?_); refine goesL_ (some 19) rfl rfl Try.func101 (by kernel_rfl) rfl #[.pointer (some ⟨g, 0, none⟩)] rfl (by (try simp only [List.map_toArray, List.map_cons, List.map_nil]); first | done | rfl | (simp only [List.length_drop, List.length_take]; rfl)) ?_; (with_reducible refine (spec_l00Src_byte.calls g s0_0 t271 t272 t273 t274 t275 w0 _ ?side1 ?side2 A9.out).mono ?_); (case side1 => repeat (first | (with_reducible first | exact HI0.out | apply IsS77.alloc | apply IsS77.drewN | apply IsS77.drew | apply IsS77.set_1 | apply IsS77.set_2) | exact HI0.out)); (case side2 => repeat (first | (with_reducible first | exact HB.out | apply below_alloc | apply pw_below_drewN | apply below_drew1 | refine below_set ?_ (IsS77.ge HI0.out)) | exact HB.out)); rintro e w13 ⟨rfl, hi, hb, hk⟩; refine ⟨_, rfl, ?_⟩; have n0_ := Aside0.mk (KeepBut.trans (by repeat (first | (with_reducible first | exact HK.out | apply KeepBut.set_ | apply keep_drewN | apply keep_drew | apply keep_alloc) | exact HK.out)) hk (.inl rfl)); have n1_ := Aside0.mk (hb); have n2_ := Aside0.mk (hi); clear HK; clear HB; clear HI0; have HK := n0_; have HB := n1_; have HI0 := n2_; clear n0_ n1_ n2_; (try clear hb); (try clear hb2); (try clear hk); (try clear hi)) | ((with_reducible refine gate_callee (f := 101) rfl ?_); refine goesL_ (some 21) rfl rfl Try.func101 (by kernel_rfl) rfl #[.pointer (some ⟨g, 0, none⟩)] rfl (by (try simp only [List.map_toArray, List.map_cons, List.map_nil]); first | done | rfl | (simp only [List.length_drop, List.length_take]; rfl)) ?_; (with_reducible refine (spec_l00Src_byte.calls g s0_0 t274 t275 t276 t277 t278 w0 _ ?side1 ?side2 A10.out).mono ?_); (case side1 => repeat (first | (with_reducible first | exact HI0.out | apply IsS77.alloc | apply IsS77.drewN | apply IsS77.drew | apply IsS77.set_1 | apply IsS77.set_2) | exact HI0.out)); (case side2 => repeat (first | (with_reducible first | exact HB.out | apply below_alloc | apply pw_below_drewN | apply below_drew1 | refine below_set ?_ (IsS77.ge HI0.out)) | exact HB.out)); rintro e w14 ⟨rfl, hi, hb, hk⟩; refine ⟨_, rfl, ?_⟩; have n0_ := Aside0.mk (KeepBut.trans (by repeat (first | (with_reducible first | exact HK.out | apply KeepBut.set_ | apply keep_drewN | apply keep_drew | apply keep_alloc) | exact HK.out)) hk (.inl rfl)); have n1_ := Aside0.mk (hb); have n2_ := Aside0.mk (hi); clear HK; clear HB; clear HI0; have HK := n0_; have HB := n1_; have HI0 := n2_; clear n0_ n1_ n2_; (try clear hb); (try clear hb2); (try clear hk); (try clear hi)))
        go_ret
        exact ⟨by first | rfl | (simp [errW_none, errW_some] <;> rfl) | (simp [*, errW_none, errW_some] <;> rfl), by repeat (first | (with_reducible first | exact HI0.out | apply IsS77.alloc | apply IsS77.drewN | apply IsS77.drew | apply IsS77.set_1 | apply IsS77.set_2) | exact HI0.out), by repeat (first | (with_reducible first | exact HB.out | apply below_alloc | apply pw_below_drewN | apply below_drew1 | refine below_set ?_ (IsS77.ge HI0.out)) | exact HB.out), by repeat (first | (with_reducible first | exact HK.out | apply KeepBut.set_ | apply keep_drewN | apply keep_drew | apply keep_alloc) | exact HK.out)⟩
def spec_l00Src_blob.l0 : Nat → Int → List Int → Int → List Int → Int → Int → Option (ByteArray × Int × Int)
  | 0, _, _, _, _, _, _ => none
  | k + 1, x1, x5, x6, x1000, x1001, x1002 => if x6 < x1 then ((spec_l00Src_next.f x1000 x1001 x1002 256).bind fun bt282 => (if x5.length < 140737488355328 then (spec_l00Src_blob.l0 k x1 (x5 ++ [(bt282.1) % 256]) (wrap64 (x6 + 1)) x1000 bt282.2.1 bt282.2.2) else (none))) else (some (strOfNums x5, x1001, x1002))
def spec_l00Src_blob.f (k : Nat) (s0_0 : List Int) (s0_1 : Int) (s0_2 : Int) (a1 : Int) : Option (ByteArray × Int × Int) := spec_l00Src_blob.l0 k a1 (([] : List Int)) 0 s0_0 s0_1 s0_2
theorem spec_l00Src_blob.mono_l : ∀ k, (∀ y0 y1 y2 y3 y4 y5, LeO (spec_l00Src_blob.l0 k y0 y1 y2 y3 y4 y5) (spec_l00Src_blob.l0 (k + 1) y0 y1 y2 y3 y4 y5))
  | 0 => fun _ _ _ _ _ _ r h => by simp [spec_l00Src_blob.l0] at h
  | k + 1 => by
    have ih0 := spec_l00Src_blob.mono_l k
    · intro y0 y1 y2 y3 y4 y5
      unfold spec_l00Src_blob.l0
      repeat' first
      | (with_reducible exact ih0 _ _ _ _ _ _)
      | (with_reducible exact LeO.refl _)
      | (with_reducible exact LeO.none _)
      | (with_reducible refine LeO.ite ?_ ?_)
      | (with_reducible refine LeO.bind ?_ (fun _ => ?_))
      | exact ih0 _ _ _ _ _ _
      | exact LeO.none _
      | refine LeO.ite ?_ ?_
      | refine LeO.bind ?_ (fun _ => ?_)
theorem spec_l00Src_blob.mono : ∀ a0 a1 a2 a3 k, LeO (spec_l00Src_blob.f k a0 a1 a2 a3) (spec_l00Src_blob.f (k + 1) a0 a1 a2 a3) := by
  intro a0 a1 a2 a3 k
  have ih0 := spec_l00Src_blob.mono_l k
  unfold spec_l00Src_blob.f
  repeat' first
      | (with_reducible exact ih0 _ _ _ _ _ _)
      | (with_reducible exact LeO.refl _)
      | (with_reducible exact LeO.none _)
      | (with_reducible refine LeO.ite ?_ ?_)
      | (with_reducible refine LeO.bind ?_ (fun _ => ?_))
      | exact ih0 _ _ _ _ _ _
      | exact LeO.none _
      | refine LeO.ite ?_ ?_
      | refine LeO.bind ?_ (fun _ => ?_)
set_option maxHeartbeats 8000000 in
set_option maxRecDepth 100000 in
theorem spec_l00Src_blob.calls (k : Nat) (g : Nat) (s0_0 : List Int) (s0_1 : Int) (s0_2 : Int) (a1 : Int) (r1 : ByteArray) (r2 : Int) (r3 : Int) (w0 w : World) (hI : IsS77 w0 w g s0_0 s0_1 s0_2) (hB : Below w0.heap.size w0 w) (h : spec_l00Src_blob.f k s0_0 s0_1 s0_2 a1 = some (r1, r2, r3)) :
    Calls Try.prog 47 #[.pointer (some ⟨g, 0, none⟩), .int .i64 a1] w fun e w' => e = .returned (.string r1) ∧ IsS77 w0 w' g s0_0 r2 r3 ∧ Below w0.heap.size w0 w' ∧ KeepBut w w' g none := by
  have HI0 := Aside0.mk hI
  have HK := Aside0.mk (KeepBut.refl w g none)
  have HL := Aside0.mk hB.size
  clear hI
  have HW0 := Aside0.mk hB.size
  have HB := Aside0.mk hB
  clear hB
  have H : (spec_l00Src_blob.l0 k a1 (([] : List Int)) 0 s0_0 s0_1 s0_2) = some (r1, r2, r3) := h
  clear h
  obtain ⟨y279, hy279⟩ : ∃ y_ : List Int, y_ = (([] : List Int)) := ⟨_, rfl⟩
  replace H : (spec_l00Src_blob.l0 k a1 y279 0 s0_0 s0_1 s0_2) = some (r1, r2, r3) := by first | (rw [hy279]; with_reducible exact H) | (have H2_ := (Option.bind_some _ _).symm.trans H; rw [hy279]; with_reducible exact H2_) | (have H2_ := (Option.bind_some _ _).symm.trans H; with_reducible exact H2_) | with_reducible exact H | (rw [hy279]; exact H) | exact H
  have Ny279 := Aside0.mk hy279
  clear hy279
  have H' := Aside0.mk H
  clear H
  go_enter Try.func47, Try.ntmps47
  go_wp2_with (first | ((with_reducible refine gate_dst (N := 7) rfl ?_); refine Kd.R_lit (Kd.int .u8) _ 5 ?hg (N := 7) ?hd (xs := ([] : List Int)) (inner := []) (ok := fun _ => True) (okp := fun _ => True) ?hr ?hp (fun _ hk => hk) trivial (Below.refl _ _) (Nat.le_refl _) (by simp) ?_; (case hd => rfl); (case hg => rfl); (case hr => first | (go_simp; done) | (go_simp; rfl)); (case hp => exact (Reps.none _ _)); intro v280 w3 ho4 hb hg_ hnew_; clear hg_ hnew_; (first | rw [← Ny279.out] at ho4 | (simp only [Int.reduceToNat] at ho4; rw [← Ny279.out] at ho4)); have n0_ := Aside0.mk (Kd.R_lower ho4 (keep_size (w := w) (g := g) (row := none) (by repeat (first | (with_reducible first | exact HK.out | apply KeepBut.set_ | apply keep_drewN | apply keep_drew | apply keep_alloc) | exact HK.out)))); have n1_ := Aside0.mk (IsS77.below (by repeat (first | (with_reducible first | exact HI0.out | apply IsS77.alloc | apply IsS77.drewN | apply IsS77.drew | apply IsS77.set_1 | apply IsS77.set_2) | exact HI0.out)) hb); have n2_ := Aside0.mk (KeepBut.trans (by repeat (first | (with_reducible first | exact HK.out | apply KeepBut.set_ | apply keep_drewN | apply keep_drew | apply keep_alloc) | exact HK.out)) (KeepBut.of_below hb g none) (.inl rfl)); have n3_ := Aside0.mk (below_step (by repeat (first | (with_reducible first | exact HB.out | apply below_alloc | apply pw_below_drewN | apply below_drew1 | refine below_set ?_ (IsS77.ge HI0.out)) | exact HB.out)) hb); clear HI0; clear HK; clear HB; have HO281 := n0_; have HI0 := n1_; have HK := n2_; have HB := n3_; clear n0_ n1_ n2_ n3_; clear hb ho4))
  go_loopg [5, 6] k (fun kq v5 v6 w' => ∃ (x5_1 : List Int) (x6_1 : Int) (x1001_1 : Int) (x1002_1 : Int), v6 = .int .i64 x6_1 ∧ Aside0 (spec_l00Src_blob.l0 kq a1 x5_1 x6_1 s0_0 x1001_1 x1002_1 = some (r1, r2, r3)) ∧ Aside0 (kq ≤ k) ∧ Aside0 (Kd.R (Kd.int .u8) 5 w' w.heap.size (fun _ => True) v5 x5_1) ∧ Aside0 (IsS77 w0 w' g s0_0 x1001_1 x1002_1) ∧ Aside0 (KeepBut w w' g none) ∧ Aside0 (Below w0.heap.size w0 w'))
  case atStart => exact ⟨(y279), (0), (s0_1), (s0_2), (by first | rfl | (simp; done) | (simp [*]; done)), H', ⟨Nat.le_refl _⟩, ⟨by (with_reducible repeat (first | apply Kd.R_alloc | apply Kd.R_drewN | apply Kd.R_drew)); exact HO281.out⟩, ⟨by repeat (first | (with_reducible first | exact HI0.out | apply IsS77.alloc | apply IsS77.drewN | apply IsS77.drew | apply IsS77.set_1 | apply IsS77.set_2) | exact HI0.out)⟩, ⟨by repeat (first | (with_reducible first | exact HK.out | apply KeepBut.set_ | apply keep_drewN | apply keep_drew | apply keep_alloc) | exact HK.out)⟩, ⟨by repeat (first | (with_reducible first | exact HB.out | apply below_alloc | apply pw_below_drewN | apply below_drew1 | refine below_set ?_ (IsS77.ge HI0.out)) | exact HB.out)⟩⟩
  case round =>
    clear H'
    try clear p2
    try clear c4
    obtain ⟨x5_1, x6_1, x1001_1, x1002_1, rfl, HA, HK1, HO_5, HI0, HK, HB⟩ := hrel
    cases gk with
    | zero => exact absurd HA.out (by simp [spec_l00Src_blob.l0])
    | succ k1 =>
      have H := HA.out
      clear HA
      simp only [spec_l00Src_blob.l0] at H
      by_cases c5 : x6_1 < a1
      · rw [if_pos c5] at H
        have c5b0 : decide (x6_1 < a1) = true := decide_eq_true c5
        clear c5
        replace H := Option.bind_eq_some_iff.mp H
        obtain ⟨⟨t282, t283, t284⟩, A60, H⟩ := H
        replace H : (if x5_1.length < 140737488355328 then (spec_l00Src_blob.l0 k1 a1 (x5_1 ++ [(t282) % 256]) (wrap64 (x6_1 + 1)) s0_0 t283 t284) else (none)) = some (r1, r2, r3) := H
        have A6 := Aside0.mk A60
        clear A60
        by_cases c7 : x5_1.length < 140737488355328
        · rw [if_pos c7] at H
          have LMc7 := Aside0.mk c7
          clear c7
          obtain ⟨y285, hy285⟩ : ∃ y_ : List Int, y_ = (x5_1 ++ [(t282) % 256]) := ⟨_, rfl⟩
          replace H : (spec_l00Src_blob.l0 k1 a1 y285 (wrap64 (x6_1 + 1)) s0_0 t283 t284) = some (r1, r2, r3) := by first | (rw [hy285]; with_reducible exact H) | (have H2_ := (Option.bind_some _ _).symm.trans H; rw [hy285]; with_reducible exact H2_) | (have H2_ := (Option.bind_some _ _).symm.trans H; with_reducible exact H2_) | with_reducible exact H | (rw [hy285]; exact H) | exact H
          have Ny285 := Aside0.mk hy285
          clear hy285
          have H' := Aside0.mk H
          clear H
          go_wp2_with (first | ((with_reducible refine gate_callee (f := 74) rfl ?_); refine goesL_ (some 15) rfl rfl Try.func74 (by kernel_rfl) rfl #[.pointer (some ⟨g, 0, none⟩), .int .i64 256] rfl (by (try simp only [List.map_toArray, List.map_cons, List.map_nil]); first | done | rfl | (simp only [List.length_drop, List.length_take]; rfl)) ?_; (with_reducible refine (spec_l00Src_next.calls g s0_0 x1001_1 x1002_1 256 t282 t283 t284 w0 _ ?side1 ?side2 A6.out).mono ?_); (case side1 => repeat (first | (with_reducible first | exact HI0.out | apply IsS77.alloc | apply IsS77.drewN | apply IsS77.drew | apply IsS77.set_1 | apply IsS77.set_2) | exact HI0.out)); (case side2 => repeat (first | (with_reducible first | exact HB.out | apply below_alloc | apply pw_below_drewN | apply below_drew1 | refine below_set ?_ (IsS77.ge HI0.out)) | exact HB.out)); rintro e w8 ⟨rfl, hi, hb, hk⟩; refine ⟨_, rfl, ?_⟩; have n0_ := Aside0.mk (Kd.R_mono (Kd.R_keep (IsS77.apart (show IsS77 w0 _ g s0_0 x1001_1 x1002_1 from by repeat (first | (with_reducible first | exact HI0.out | apply IsS77.alloc | apply IsS77.drewN | apply IsS77.drew | apply IsS77.set_1 | apply IsS77.set_2) | exact HI0.out)) (by (with_reducible repeat (first | apply Kd.R_alloc | apply Kd.R_drewN | apply Kd.R_drew)); exact HO_5.out) (by decide)) hk (fun _ h => h.2)) (fun _ h => h.1)); have n1_ := Aside0.mk (KeepBut.trans (by repeat (first | (with_reducible first | exact HK.out | apply KeepBut.set_ | apply keep_drewN | apply keep_drew | apply keep_alloc) | exact HK.out)) hk (.inl rfl)); have n2_ := Aside0.mk (hb); have n3_ := Aside0.mk (hi); clear HO_5; clear HK; clear HB; clear HI0; have HO_5 := n0_; have HK := n1_; have HB := n2_; have HI0 := n3_; clear n0_ n1_ n2_ n3_; (try clear hb); (try clear hb2); (try clear hk); (try clear hi)) | ((with_reducible refine gate_builtin (b := .append) (xs := #[.tmp 13, .tmp 17]) rfl ?_); at_builtin; refine Kd.R_append (Kd.int .u8) w.heap.size rfl (.tmp 13) (.tmp 17) 28 5 (.int .u8 0) 1 rfl Try.underlying28 info5 rfl (by decide) (by omega) u5 x5_1 ((t282) % 256) [.int .u8 ((t282) % 256)] (fun _ => True) (fun _ => False) rfl rfl ?aP (fun _ hk => hk.elim) ?aF ?aO (Below.refl _ _) ?aS ?aL ?_; (case aP => exact rfl); (case aF => exact (fun _ _ => trivial)); (case aO => exact (by (with_reducible repeat (first | apply Kd.R_alloc | apply Kd.R_drewN | apply Kd.R_drew)); exact HO_5.out)); (case aS => exact (keep_size (w := w) (g := g) (row := none) (by repeat (first | (with_reducible first | exact HK.out | apply KeepBut.set_ | apply keep_drewN | apply keep_drew | apply keep_alloc) | exact HK.out)))); (case aL => have := LMc7.out; omega); intro v286 w9 ho hb hg hat; rw [← Ny285.out] at ho; have n0_ := Aside0.mk (IsS77.grown (by repeat (first | (with_reducible first | exact HI0.out | apply IsS77.alloc | apply IsS77.drewN | apply IsS77.drew | apply IsS77.set_1 | apply IsS77.set_2) | exact HI0.out)) hg (IsS77.own_ne HI0.out HO_5.out (by decide))); have n1_ := Aside0.mk (below_weaken (by repeat (first | (with_reducible first | exact HB.out | apply below_alloc | apply pw_below_drewN | apply below_drew1 | refine below_set ?_ (IsS77.ge HI0.out)) | exact HB.out)) HL.out hb); have n2_ := Aside0.mk (KeepBut.trans (by repeat (first | (with_reducible first | exact HK.out | apply KeepBut.set_ | apply keep_drewN | apply keep_drew | apply keep_alloc) | exact HK.out)) (KeepBut.of_grown hg g) (Kd.R_base2 HO_5.out)); have n3_ := Aside0.mk (ho); clear HI0; clear HB; clear HK; clear HO_5; have HI0 := n0_; have HB := n1_; have HK := n2_; have HO287 := n3_; clear n0_ n1_ n2_ n3_; clear ho hb hg hat))
          go_roundg k1
          case measure => have := HK1.out; omega
          case rel => exact ⟨(y285), (wrap64 (x6_1 + 1)), (t283), (t284), (by first | rfl | (simp; done) | (simp [*]; done)), H', ⟨by have := HK1.out; omega⟩, ⟨by (with_reducible repeat (first | apply Kd.R_alloc | apply Kd.R_drewN | apply Kd.R_drew)); exact HO287.out⟩, ⟨by repeat (first | (with_reducible first | exact HI0.out | apply IsS77.alloc | apply IsS77.drewN | apply IsS77.drew | apply IsS77.set_1 | apply IsS77.set_2) | exact HI0.out)⟩, ⟨by repeat (first | (with_reducible first | exact HK.out | apply KeepBut.set_ | apply keep_drewN | apply keep_drew | apply keep_alloc) | exact HK.out)⟩, ⟨by repeat (first | (with_reducible first | exact HB.out | apply below_alloc | apply pw_below_drewN | apply below_drew1 | refine below_set ?_ (IsS77.ge HI0.out)) | exact HB.out)⟩⟩
        · rw [if_neg c7] at H
          exact absurd H (by simp)
      · rw [if_neg c5] at H
        have c5b0 : decide (x6_1 < a1) = false := decide_eq_false c5
        clear c5
        simp only [Option.some.injEq, Prod.mk.injEq] at H
        obtain ⟨rfl, rfl, rfl⟩ := H
        have hcv10 := own_string (P := Try.prog) Try.underlying28 Try.underlying5 Try.underlying9 (Kd.own_of_R HO_5.out)
        go_wp2
        go_ret
        exact ⟨by first | rfl | (simp [errW_none, errW_some] <;> rfl) | (simp [*, errW_none, errW_some] <;> rfl), by repeat (first | (with_reducible first | exact HI0.out | apply IsS77.alloc | apply IsS77.drewN | apply IsS77.drew | apply IsS77.set_1 | apply IsS77.set_2) | exact HI0.out), by repeat (first | (with_reducible first | exact HB.out | apply below_alloc | apply pw_below_drewN | apply below_drew1 | refine below_set ?_ (IsS77.ge HI0.out)) | exact HB.out), by repeat (first | (with_reducible first | exact HK.out | apply KeepBut.set_ | apply keep_drewN | apply keep_drew | apply keep_alloc) | exact HK.out)⟩
def spec_BlobOf.f (k : Nat) (l0 : List Int) (a1 : Int) : Option (ByteArray) := (spec_l00Source.f l0).bind fun bt288 => ((spec_l00Src_blob.f k bt288.1 bt288.2.1 bt288.2.2 a1).bind fun bt292 => (some bt292.1))
theorem spec_BlobOf.mono : ∀ a0 a1 k, LeO (spec_BlobOf.f k a0 a1) (spec_BlobOf.f (k + 1) a0 a1) := by
  intro a0 a1 k
  unfold spec_BlobOf.f
  repeat' first
      | (with_reducible exact spec_l00Src_blob.mono _ _ _ _ _)
      | (with_reducible exact LeO.refl _)
      | (with_reducible exact LeO.none _)
      | (with_reducible refine LeO.ite ?_ ?_)
      | (with_reducible refine LeO.bind ?_ (fun _ => ?_))
      | exact spec_l00Src_blob.mono _ _ _ _ _
      | exact LeO.none _
      | refine LeO.ite ?_ ?_
      | refine LeO.bind ?_ (fun _ => ?_)
set_option maxHeartbeats 8000000 in
set_option maxRecDepth 100000 in
theorem spec_BlobOf.calls (k : Nat) (A0 : Option Addr) (c0 : Nat) (l0 : List Int) (a1 : Int) (r : ByteArray) (w : World) (hr0 : Kd.C (Kd.int .u8) w A0 l0.length l0) (hc0 : l0.length ≤ c0) (h : spec_BlobOf.f k l0 a1 = some r) :
    Calls Try.prog 20 #[.slice A0 l0.length c0, .int .i64 a1] w fun e w' => e = .returned (.string r) ∧ Below w.heap.size w w' := by
  have HR0 := Aside0.mk hr0
  have HC0 := Aside0.mk hc0
  clear hr0 hc0
  have HB := Aside0.mk (Below.refl w.heap.size w)
  have H : ((spec_l00Source.f l0).bind fun bt288 => ((spec_l00Src_blob.f k bt288.1 bt288.2.1 bt288.2.2 a1).bind fun bt292 => (some bt292.1))) = some r := h
  clear h
  replace H := Option.bind_eq_some_iff.mp H
  obtain ⟨⟨t288, t289, t290⟩, A30, H⟩ := H
  replace H : ((spec_l00Src_blob.f k t288 t289 t290 a1).bind fun bt292 => (some bt292.1)) = some r := H
  have A3 := Aside0.mk A30
  clear A30
  replace H := Option.bind_eq_some_iff.mp H
  obtain ⟨⟨t292, t293, t294⟩, A40, H⟩ := H
  replace H : (some t292) = some r := H
  have A4 := Aside0.mk A40
  clear A40
  obtain rfl := Option.some.inj H
  go_enter Try.func20, Try.ntmps20
  go_wp2_with (first | ((with_reducible refine gate_callee (f := 46) rfl ?_); refine goesL_ (some 6) rfl rfl Try.func46 (by kernel_rfl) rfl #[.slice A0 l0.length c0] rfl (by (try simp only [List.map_toArray, List.map_cons, List.map_nil]); first | done | rfl | (simp only [List.length_drop, List.length_take]; rfl)) ?_; (with_reducible refine (spec_l00Source.calls _ _ l0 t288 t289 t290 w _ ?side1 ?side2 ?side3 A3.out).mono ?_); (case side1 => repeat (first | (with_reducible first | exact HB.out | apply below_alloc | apply pw_below_drewN | apply below_drew1) | exact HB.out)); (case side2 => exact HR0.out); (case side3 => exact HC0.out); rintro e w5 ⟨g291, rfl, hi, hb, hb2⟩; refine ⟨_, rfl, ?_⟩; have n0_ := Aside0.mk (hb); have n1_ := Aside0.mk (hi); clear HB; have HB := n0_; have HI291 := n1_; clear n0_ n1_; (try clear hb); (try clear hb2); (try clear hk); (try clear hi)) | ((with_reducible refine gate_callee (f := 47) rfl ?_); refine goesL_ (some 8) rfl rfl Try.func47 (by kernel_rfl) rfl #[.pointer (some ⟨g291, 0, none⟩), .int .i64 a1] rfl (by (try simp only [List.map_toArray, List.map_cons, List.map_nil]); first | done | rfl | (simp only [List.length_drop, List.length_take]; rfl)) ?_; (with_reducible refine (spec_l00Src_blob.calls k g291 t288 t289 t290 a1 t292 t293 t294 w _ ?side1 ?side2 A4.out).mono ?_); (case side1 => repeat (first | (with_reducible first | exact HI291.out | apply IsS77.alloc | apply IsS77.drewN | apply IsS77.drew | apply IsS77.set_1 | apply IsS77.set_2) | exact HI291.out)); (case side2 => repeat (first | (with_reducible first | exact HB.out | apply below_alloc | apply pw_below_drewN | apply below_drew1 | refine below_set ?_ (IsS77.ge HI291.out)) | exact HB.out)); rintro e w6 ⟨rfl, hi, hb, hk⟩; refine ⟨_, rfl, ?_⟩; have n0_ := Aside0.mk (hb); have n1_ := Aside0.mk (hi); clear HB; clear HI291; have HB := n0_; have HI291 := n1_; clear n0_ n1_; (try clear hb); (try clear hb2); (try clear hk); (try clear hi)))
  go_ret
  exact ⟨by first | rfl | (simp [errW_none, errW_some] <;> rfl) | (simp [*, errW_none, errW_some] <;> rfl), by repeat (first | (with_reducible first | exact HB.out | apply below_alloc | apply pw_below_drewN | apply below_drew1 | refine below_set ?_ (IsS77.ge HI291.out)) | exact HB.out)⟩
end Go.Proofs.Ytfbggdlidelliaa.P

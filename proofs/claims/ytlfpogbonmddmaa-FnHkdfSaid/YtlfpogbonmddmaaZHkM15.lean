/- Laid by a program of this session: of Ph6, PatH, Pstr, PsrcH, PbofH, PhmH, PhkH, PhkdfH, PhexbH what this law uses. -/
import Derived.Test.YtlfpogbonmddmaaZHkM9
import Derived.Test.YtlfpogbonmddmaaZHkPh5
import Derived.Test.YtlfpogbonmddmaaZHkPh1
import Derived.Laws.BytesArg
import Derived.Laws.Strings
import Derived.RowKit
import Derived.Test.YtlfpogbonmddmaaZHkPh4
namespace Go.Proofs.Ytlfpogbonmddmaa.P
open Go.RowKit Go.Proofs.YtlfpogbonmddmaaW.PrintWords Go.Proofs.YtlfpogbonmddmaaW.PrintLast Go.Proofs.YtlfpogbonmddmaaW.PrintMore
attribute [local go_sem] min2_int min_two
set_option linter.unusedVariables false
set_option linter.unusedSimpArgs false
def hexDigits : ByteArray := ⟨#[48, 49, 50, 51, 52, 53, 54, 55, 56, 57, 97, 98, 99, 100, 101, 102]⟩
def hexTo (s : ByteArray) : Nat → List Int
  | 0 => []
  | k + 1 => hexTo s k ++ [bt hexDigits (bt s (k : Int) / 16), bt hexDigits (bt s (k : Int) % 16)]
theorem hexTo_length (s : ByteArray) (k : Nat) : (hexTo s k).length = 2 * k := by
  induction k with
  | zero => rfl
  | succ k ih => simp only [hexTo, List.length_append, ih, List.length_cons, List.length_nil]; omega
def impl_HexText.f (a0 : ByteArray) : Option (ByteArray × Int) := if 65536 < a0.size then some ((⟨#[]⟩ : ByteArray), 2) else some (strOfNums (hexTo a0 a0.size), 0)
set_option maxHeartbeats 1000000 in
theorem hex_long (s : ByteArray) (w : World) (h : 65536 < s.size) :
    Calls Try.prog 44 #[.string s] w fun e w' => e = .returned (.tuple #[.string (⟨#[]⟩ : ByteArray), .int .i64 2]) ∧ Below w.heap.size w w' := by
  have HF := Aside0.mk (show impl_isLong_string.f [s] = some true by simp [impl_isLong_string.f]; omega)
  go_enter Try.func44, Try.ntmps44
  go_wp2_with fail
  refine (impl_isLong_string.calls _ _ [s] true _ (C_one_string (g := w.heap.size) (T := 9) (fr := (0, 0)) ?_) (Nat.le_refl _) HF.out).mono ?_
  · exact blk_new w _
  rintro e w' ⟨rfl, hd⟩
  go_wp2
  go_ret2
  exact ⟨rfl, below_then (below_alloc (Below.refl _ _) _) (by simp) hd.below⟩
set_option maxHeartbeats 2000000 in
theorem hex_short (s : ByteArray) (w : World) (h : ¬ 65536 < s.size) :
    Calls Try.prog 44 #[.string s] w fun e w' => e = .returned (.tuple #[.string (strOfNums (hexTo s s.size)), .int .i64 0]) ∧ Below w.heap.size w w' := by
  have HF := Aside0.mk (show impl_isLong_string.f [s] = some false by simp [impl_isLong_string.f]; omega)
  have hs : s.size ≤ 65536 := by omega
  have kc := fun (w : World) (s : ByteArray) => Lib.run_convert_string_bytes (P := Try.prog) w 9 22 5 s Try.underlying9 Try.underlying22 Try.underlying5
  go_enter Try.func44, Try.ntmps44
  go_wp2_with fail
  refine (impl_isLong_string.calls _ _ [s] false _ (C_one_string (g := w.heap.size) (T := 9) (fr := (0, 0)) ?_) (Nat.le_refl _) HF.out).mono ?_
  · exact blk_new w _
  rintro e w' ⟨rfl, hd⟩
  go_wp2
  have HB1 := Aside0.mk (conv_below (B := w.heap.size) w w' 5 s (below_then (below_alloc (Below.refl _ _) _) (by simp) hd.below) (by have := hd.below.size; simp at this; omega))
  have HC := Aside0.mk (conv_cell w' 5 s)
  have hz : (Lib.bytesWorld w' 5 s).heap.size = w'.heap.size + 1 := Lib.bytesWorld_size w' 5 s
  have HZ := Aside0.mk hz
  clear hz hd kc
  generalize Lib.bytesWorld w' 5 s = W1 at *
  generalize grownCap w' s.size 0 5 = cap at *
  generalize w'.heap.size = g at *
  go_loopw [4, 13] (fun v i wr => ∃ k : Nat, k ≤ s.size ∧ i = .int .i64 k ∧ Aside0 (Kd.R (Kd.int .u8) 5 wr W1.heap.size (fun _ => True) v (hexTo s k)) ∧ Aside0 (Below W1.heap.size W1 wr)) (fun _ i _ => s.size - (intOf i).toNat)
  case atStart => exact ⟨0, Nat.zero_le _, rfl, ⟨Kd.R_nil _ _ _ _ _⟩, ⟨Below.refl _ _⟩⟩
  case round =>
    obtain ⟨k, hk, rfl, HR, HBr⟩ := hrel
    by_cases hlt : k < s.size
    · have hcell : wr.cell? ⟨g, k, none⟩ = some (.int .u8 (bt s (k : Int))) := (HBr.out.cell (p := ⟨g, k, none⟩) (by have := HZ.out; show g < _; omega)).trans (HC.out k hlt)
      obtain ⟨b0, b1⟩ := bt_range s (k : Int)
      have i0 : (0 : Int) ≤ (k : Int) := Int.natCast_nonneg k
      have i1 : (k : Int) < (s.size : Int) := by omega
      have hd : decide ((k : Int) < (s.size : Int)) = true := decide_eq_true i1
      have hd2 : decide (k < s.size) = true := decide_eq_true hlt
      obtain ⟨c, hc⟩ : ∃ c, bt s (k : Int) = c := ⟨_, rfl⟩
      rw [hc] at hcell b0 b1
      have HCQ := Aside0.mk hc
      clear hc
      have j0 : (0 : Int) ≤ c / 16 := by omega
      have j1 : c / 16 < 16 := by omega
      have em : Go.bits .and .u8 c 15 = c % 16 := u8_and15 c (by omega) (by omega)
      have l0 : (0 : Int) ≤ Go.bits .and .u8 c 15 := by rw [em]; omega
      have l1 : Go.bits .and .u8 c 15 < 16 := by rw [em]; omega
      have EM := Aside0.mk em
      clear em
      go_wp2
      go_region_law ((refine Kd.R_append_rows_step (Kd.int .u8) (w0 := W1) W1.heap.size (by rfl) (.tmp 17) (.tmp 24) 22 5 (.int .u8 0) 1 (by rfl) Try.underlying22 info5 rfl (by decide) (by decide) u4 (hexTo s k) _ _ _ _ (fun _ => True) (fun _ => False) (by rfl) (by rfl) (by exact Kd.R_alloc (Kd.R_drew HR.out) _) (by exact C_two_int (blk_new _ _)) (fun _ _ h => h) (fun _ h => h.elim) (fun _ _ => trivial) (by exact below_alloc (below_drew1 HBr.out) _) (by have := HBr.out.size; simp; omega) (by have := hexTo_length s k; omega) ?_; intro v1 w1 ho hb hg hat))
      all_goals
        go_wp2
        go_roundw
        case rel =>
          have q1 := bt_at hexDigits (c / 16) (by show (c / 16).toNat < 16; omega)
          have q2 := bt_at hexDigits (Go.bits .and .u8 c 15) (by show (Go.bits .and .u8 c 15).toNat < 16; rw [EM.out]; omega)
          refine ⟨k + 1, by omega, by go_num, ⟨?_⟩, ⟨hb⟩⟩
          simp only [hexTo]
          rw [HCQ.out, ← EM.out, ← q1, ← q2]
          exact ho
        case measure => simp [intOf]; omega
    · have hd : decide ((k : Int) < (s.size : Int)) = false := decide_eq_false (by omega)
      have hd2 : decide (k < s.size) = false := decide_eq_false hlt
      have ek : hexTo s k = hexTo s s.size := by
        obtain rfl : k = s.size := by omega
        rfl
      rw [ek] at HR
      clear ek
      have ks := own_string (P := Try.prog) (dst := 9) Try.underlying22 Try.underlying5 Try.underlying9 (Kd.own_of_R HR.out)
      go_wp2
      go_ret2
      exact ⟨rfl, below_then HB1.out HB1.out.size HBr.out⟩
theorem impl_HexText.calls (a0 : ByteArray) (r1 : ByteArray) (r2 : Int) (w : World) (h : impl_HexText.f a0 = some (r1, r2)) :
    Calls Try.prog 44 #[.string a0] w fun e w' => e = .returned (.tuple #[.string r1, .int .i64 r2]) ∧ Below w.heap.size w w' := by
  unfold impl_HexText.f at h
  by_cases hl : 65536 < a0.size
  · rw [if_pos hl] at h
    obtain ⟨rfl, rfl⟩ : (⟨#[]⟩ : ByteArray) = r1 ∧ (2 : Int) = r2 := by simpa using h
    exact hex_long a0 w hl
  · rw [if_neg hl] at h
    obtain ⟨rfl, rfl⟩ : strOfNums (hexTo a0 a0.size) = r1 ∧ (0 : Int) = r2 := by simpa using h
    exact hex_short a0 w hl
def spec_l03Hex.l0 : Nat → ByteArray → List Int → Int → Option (ByteArray)
  | 0, _, _, _ => none
  | k + 1, x0, x3, x4 => if x4 < (x0.size : Int) then (if 0 ≤ x4 then (if 0 ≤ (IntKind.u8.wrap (Int.tdiv (bt x0 x4) 16)) then (if (IntKind.u8.wrap (Int.tdiv (bt x0 x4) 16)) < 16 then (if 0 ≤ (Int.tmod (bt x0 x4) 16) then (if (Int.tmod (bt x0 x4) 16) < 16 then ((some (([bt (⟨#[48, 49, 50, 51, 52, 53, 54, 55, 56, 57, 97, 98, 99, 100, 101, 102]⟩ : ByteArray) (IntKind.u8.wrap (Int.tdiv (bt x0 x4) 16)), bt (⟨#[48, 49, 50, 51, 52, 53, 54, 55, 56, 57, 97, 98, 99, 100, 101, 102]⟩ : ByteArray) (Int.tmod (bt x0 x4) 16)] : List Int) : List Int)).bind fun y188 => (if x3.length + y188.length < 140737488355328 then (spec_l03Hex.l0 k x0 (x3 ++ y188) (wrap64 (x4 + 1))) else (none))) else (none)) else (none)) else (none)) else (none)) else (none)) else (some (strOfNums x3))
def spec_l03Hex.f (k : Nat) (a0 : ByteArray) : Option (ByteArray) := spec_l03Hex.l0 k a0 (([] : List Int)) 0
def spec_l03Hex.T5 : Bool × List (List Nat × List Nat) := (true, [([], []), ([], []), ([], []), ([1, 2], [1, 2]), ([3], [3]), ([4], [4]), ([], []), ([], []), ([6, 7], [6, 7]), ([8], [8]), ([9], [9]), ([5, 10], [5, 10]), ([0, 11], [0, 11]), ([12, 12, 0, 1, 2, 3, 4, 5, 6, 7, 8, 9, 10, 11, 12], [0, 12])])
def spec_l03Hex.B5 : List Nat := [0, 0, 0, 6, 14, 30, 0, 0, 192, 448, 960, 2046, 4095, 8191]
theorem spec_l03Hex.tab5 : rtab .any (opsOf Try.f75 5) = spec_l03Hex.T5 := by kernel_rfl
theorem spec_l03Hex.bits5 : waitsOk spec_l03Hex.T5.2 spec_l03Hex.B5 = true := by kernel_rfl
set_option maxHeartbeats 8000000 in
set_option maxRecDepth 100000 in
theorem spec_l03Hex.calls (k : Nat) (a0 : ByteArray) (r : ByteArray) (w : World) (h : spec_l03Hex.f k a0 = some r) :
    Calls Try.prog 75 #[.string a0] w fun e w' => e = .returned (.string r) ∧ Below w.heap.size w w' := by
  have HB := Aside0.mk (Below.refl w.heap.size w)
  have H : (spec_l03Hex.l0 k a0 (([] : List Int)) 0) = some r := h
  clear h
  obtain ⟨y185, hy185⟩ : ∃ y_ : List Int, y_ = (([] : List Int)) := ⟨_, rfl⟩
  replace H : (spec_l03Hex.l0 k a0 y185 0) = some r := by first | (rw [hy185]; with_reducible exact H) | (have H2_ := (Option.bind_some _ _).symm.trans H; rw [hy185]; with_reducible exact H2_) | (have H2_ := (Option.bind_some _ _).symm.trans H; with_reducible exact H2_) | with_reducible exact H | (rw [hy185]; exact H) | exact H
  have Ny185 := Aside0.mk hy185
  clear hy185
  have H' := Aside0.mk H
  clear H
  go_enter Try.func75, Try.ntmps75
  go_wp2_with (first | ((with_reducible refine gate_dst (N := 5) rfl ?_); refine Kd.R_lit (Kd.int .u8) _ 5 ?hg (N := 5) ?hd (xs := ([] : List Int)) (inner := []) (ok := fun _ => True) (okp := fun _ => True) ?hr ?hp (fun _ hk => hk) trivial (Below.refl _ _) (Nat.le_refl _) (by simp) ?_; (case hd => rfl); (case hg => rfl); (case hr => first | (go_simp; done) | (go_simp; rfl)); (case hp => exact (Reps.none _ _)); intro v186 w2 ho3 hb hg_ hnew_; clear hg_ hnew_; (first | rw [← Ny185.out] at ho3 | (simp only [Int.reduceToNat] at ho3; rw [← Ny185.out] at ho3)); have n0_ := Aside0.mk (Kd.R_lower ho3 (below_size (by repeat (first | (with_reducible first | exact HB.out | apply below_alloc | apply pw_below_drewN | apply below_drew1) | exact HB.out)))); have n1_ := Aside0.mk (below_step (by repeat (first | (with_reducible first | exact HB.out | apply below_alloc | apply pw_below_drewN | apply below_drew1) | exact HB.out)) hb); clear HB; have HO187 := n0_; have HB := n1_; clear n0_ n1_; clear hb ho3))
  go_loopg [3, 4] k (fun kq v3 v4 w' => ∃ (x3_1 : List Int) (x4_1 : Int), v4 = .int .i64 x4_1 ∧ Aside0 (spec_l03Hex.l0 kq a0 x3_1 x4_1 = some r) ∧ Aside0 (kq ≤ k) ∧ Aside0 (Kd.R (Kd.int .u8) 5 w' w.heap.size (fun _ => True) v3 x3_1) ∧ Aside0 (Below w.heap.size w w'))
  case atStart => exact ⟨(y185), (0), (by first | rfl | (simp; done) | (simp [*]; done)), H', ⟨Nat.le_refl _⟩, ⟨by (with_reducible repeat (first | apply Kd.R_alloc | apply Kd.R_drewN | apply Kd.R_drew)); exact HO187.out⟩, ⟨by repeat (first | (with_reducible first | exact HB.out | apply below_alloc | apply pw_below_drewN | apply below_drew1) | exact HB.out)⟩⟩
  case round =>
    clear H'
    try clear p2
    obtain ⟨x3_1, x4_1, rfl, HA, HK1, HO_3, HB⟩ := hrel
    cases gk with
    | zero => exact absurd HA.out (by simp [spec_l03Hex.l0])
    | succ k1 =>
      have H := HA.out
      clear HA
      simp only [spec_l03Hex.l0] at H
      by_cases c4 : x4_1 < (a0.size : Int)
      · rw [if_pos c4] at H
        have c4b0 : decide (x4_1 < (a0.size : Int)) = true := decide_eq_true c4
        clear c4
        by_cases c5 : 0 ≤ x4_1
        · rw [if_pos c5] at H
          have c5b0 : decide (0 ≤ x4_1) = true := decide_eq_true c5
          clear c5
          obtain ⟨ji7, hji7⟩ : ∃ j_ : Int, (IntKind.u8.wrap (Int.tdiv (bt a0 x4_1) 16)) = j_ := ⟨_, rfl⟩
          replace H : (if 0 ≤ (ji7) then (if (ji7) < 16 then (if 0 ≤ (Int.tmod (bt a0 x4_1) 16) then (if (Int.tmod (bt a0 x4_1) 16) < 16 then ((some (([bt (⟨#[48, 49, 50, 51, 52, 53, 54, 55, 56, 57, 97, 98, 99, 100, 101, 102]⟩ : ByteArray) (ji7), bt (⟨#[48, 49, 50, 51, 52, 53, 54, 55, 56, 57, 97, 98, 99, 100, 101, 102]⟩ : ByteArray) (Int.tmod (bt a0 x4_1) 16)] : List Int) : List Int)).bind fun y188 => (if x3_1.length + y188.length < 140737488355328 then (spec_l03Hex.l0 k1 a0 (x3_1 ++ y188) (wrap64 (x4_1 + 1))) else (none))) else (none)) else (none)) else (none)) else (none)) = some r := by first | (rw [hji7] at H; exact H) | (simp only [hji7] at H ⊢; exact H)
          by_cases c8 : 0 ≤ (ji7)
          · rw [if_pos c8] at H
            have c8b0 : decide (0 ≤ (ji7)) = true := decide_eq_true c8
            clear c8
            by_cases c9 : (ji7) < 16
            · rw [if_pos c9] at H
              have c9b0 : decide ((ji7) < 16) = true := decide_eq_true c9
              clear c9
              obtain ⟨ji12, hji12⟩ : ∃ j_ : Int, (Int.tmod (bt a0 x4_1) 16) = j_ := ⟨_, rfl⟩
              replace H : (if 0 ≤ (ji12) then (if (ji12) < 16 then ((some (([bt (⟨#[48, 49, 50, 51, 52, 53, 54, 55, 56, 57, 97, 98, 99, 100, 101, 102]⟩ : ByteArray) (ji7), bt (⟨#[48, 49, 50, 51, 52, 53, 54, 55, 56, 57, 97, 98, 99, 100, 101, 102]⟩ : ByteArray) (ji12)] : List Int) : List Int)).bind fun y188 => (if x3_1.length + y188.length < 140737488355328 then (spec_l03Hex.l0 k1 a0 (x3_1 ++ y188) (wrap64 (x4_1 + 1))) else (none))) else (none)) else (none)) = some r := by first | (rw [hji12] at H; exact H) | (simp only [hji12] at H ⊢; exact H)
              by_cases c13 : 0 ≤ (ji12)
              · rw [if_pos c13] at H
                have c13b0 : decide (0 ≤ (ji12)) = true := decide_eq_true c13
                clear c13
                by_cases c14 : (ji12) < 16
                · rw [if_pos c14] at H
                  have c14b0 : decide ((ji12) < 16) = true := decide_eq_true c14
                  clear c14
                  obtain ⟨y188, hy188⟩ : ∃ y_ : List Int, y_ = (([bt (⟨#[48, 49, 50, 51, 52, 53, 54, 55, 56, 57, 97, 98, 99, 100, 101, 102]⟩ : ByteArray) (ji7), bt (⟨#[48, 49, 50, 51, 52, 53, 54, 55, 56, 57, 97, 98, 99, 100, 101, 102]⟩ : ByteArray) (ji12)] : List Int)) := ⟨_, rfl⟩
                  replace H : (if x3_1.length + y188.length < 140737488355328 then (spec_l03Hex.l0 k1 a0 (x3_1 ++ y188) (wrap64 (x4_1 + 1))) else (none)) = some r := by first | (rw [hy188]; with_reducible exact H) | (have H2_ := (Option.bind_some _ _).symm.trans H; rw [hy188]; with_reducible exact H2_) | (have H2_ := (Option.bind_some _ _).symm.trans H; with_reducible exact H2_) | with_reducible exact H | (rw [hy188]; exact H) | exact H
                  have Ny188 := Aside0.mk hy188
                  clear hy188
                  by_cases c16 : x3_1.length + y188.length < 140737488355328
                  · rw [if_pos c16] at H
                    have LMc16 := Aside0.mk c16
                    clear c16
                    obtain ⟨y191, hy191⟩ : ∃ y_ : List Int, y_ = (x3_1 ++ y188) := ⟨_, rfl⟩
                    replace H : (spec_l03Hex.l0 k1 a0 y191 (wrap64 (x4_1 + 1))) = some r := by first | (rw [hy191]; with_reducible exact H) | (have H2_ := (Option.bind_some _ _).symm.trans H; rw [hy191]; with_reducible exact H2_) | (have H2_ := (Option.bind_some _ _).symm.trans H; with_reducible exact H2_) | with_reducible exact H | (rw [hy191]; exact H) | exact H
                    have Ny191 := Aside0.mk hy191
                    clear hy191
                    have H' := Aside0.mk H
                    clear H
                    try go_wp2
                    have n0_ := Aside0.mk (Kd.R_drew HO_3.out)
                    have n1_ := Aside0.mk (below_drew1 HB.out)
                    clear HO_3
                    clear HB
                    have HO_3 := n0_
                    have HB := n1_
                    clear n0_ n1_
                    have p6 : 0 ≤ (x4_1 : Int) := of_decide_eq_true (by first | (with_reducible assumption) | assumption)
                    have q6 : x4_1 < (a0.size : Int) := of_decide_eq_true (by first | (with_reducible assumption) | assumption)
                    have hx6 := bt_at a0 x4_1
                    replace p6 := eq_true p6
                    replace q6 := eq_true q6
                    have p10 : 0 ≤ ((ji7) : Int) := of_decide_eq_true (by first | (with_reducible assumption) | assumption)
                    have q10 : (ji7) < (16 : Int) := of_decide_eq_true (by first | (with_reducible assumption) | assumption)
                    have hx10 := bt_at (⟨#[48, 49, 50, 51, 52, 53, 54, 55, 56, 57, 97, 98, 99, 100, 101, 102]⟩ : ByteArray) (ji7)
                    replace p10 := eq_true p10
                    replace q10 := eq_true q10
                    have p11 : 0 ≤ (x4_1 : Int) := of_decide_eq_true (by first | (with_reducible assumption) | assumption)
                    have q11 : x4_1 < (a0.size : Int) := of_decide_eq_true (by first | (with_reducible assumption) | assumption)
                    have hx11 := bt_at a0 x4_1
                    replace p11 := eq_true p11
                    replace q11 := eq_true q11
                    have p15 : 0 ≤ ((ji12) : Int) := of_decide_eq_true (by first | (with_reducible assumption) | assumption)
                    have q15 : (ji12) < (16 : Int) := of_decide_eq_true (by first | (with_reducible assumption) | assumption)
                    have hx15 := bt_at (⟨#[48, 49, 50, 51, 52, 53, 54, 55, 56, 57, 97, 98, 99, 100, 101, 102]⟩ : ByteArray) (ji12)
                    replace p15 := eq_true p15
                    replace q15 := eq_true q15
                    refine start_ (n := 14) (S := fun w' => True) (ds := []) #[false, false, false, false, false, false, false, false, false, false, false, false, false, false] (by kernel_rfl) rfl rfl trivial (fun hHeld => ?_); refine with_tabW spec_l03Hex.tab5 spec_l03Hex.bits5 (fun HT_ HW_ => ?_)
                    generalize wr.drew = w17 at HO_3 HB hHeld ⊢
                    refine pure_ (i := 0) (N := some 12) (v := ?_) (a' := ?_) #[true, false, false, false, false, false, false, false, false, false, false, false, false, false] rfl rfl (any_of HT_.out (by kernel_rfl)) (fun _ _ _ h => h) (Or.inl ⟨by rfl, ?_⟩) ?_ ?_
                    rotate_left
                    · intro w'
                      go_simp
                      with_reducible rfl
                    rotate_left
                    · simp only [Act.put, List.setIfInBounds_toArray, List.set_cons_zero, List.set_cons_succ, i64_w, i32_w]
                      rfl
                    refine pure_ (i := 1) (N := some 13) (v := ?_) (a' := ?_) #[true, true, false, false, false, false, false, false, false, false, false, false, false, false] rfl rfl (any_of HT_.out (by kernel_rfl)) (fun _ _ _ h => h) (Or.inl ⟨by rfl, ?_⟩) ?_ ?_
                    rotate_left
                    · intro w'
                      go_simp
                      with_reducible rfl
                    rotate_left
                    · simp only [Act.put, List.setIfInBounds_toArray, List.set_cons_zero, List.set_cons_succ, i64_w, i32_w]
                      rfl
                    refine pure_ (i := 2) (N := some 14) (v := ?_) (a' := ?_) #[true, true, true, false, false, false, false, false, false, false, false, false, false, false] rfl rfl (any_of HT_.out (by kernel_rfl)) (fun _ _ _ h => h) (Or.inl ⟨by rfl, ?_⟩) ?_ ?_
                    rotate_left
                    · intro w'
                      go_simp
                      with_reducible rfl
                    rotate_left
                    · simp only [Act.put, List.setIfInBounds_toArray, List.set_cons_zero, List.set_cons_succ, i64_w, i32_w]
                      rfl
                    refine pure_ (i := 6) (N := some 18) (v := ?_) (a' := ?_) #[true, true, true, false, false, false, true, false, false, false, false, false, false, false] rfl rfl (any_of HT_.out (by kernel_rfl)) (fun _ _ _ h => h) (Or.inl ⟨by rfl, ?_⟩) ?_ ?_
                    rotate_left
                    · intro w'
                      go_simp
                      with_reducible rfl
                    rotate_left
                    · simp only [Act.put, List.setIfInBounds_toArray, List.set_cons_zero, List.set_cons_succ, i64_w, i32_w]
                      rfl
                    refine pure_ (i := 7) (N := some 19) (v := ?_) (a' := ?_) #[true, true, true, false, false, false, true, true, false, false, false, false, false, false] rfl rfl (any_of HT_.out (by kernel_rfl)) (fun _ _ _ h => h) (Or.inl ⟨by rfl, ?_⟩) ?_ ?_
                    rotate_left
                    · intro w'
                      go_simp
                      with_reducible rfl
                    rotate_left
                    · simp only [Act.put, List.setIfInBounds_toArray, List.set_cons_zero, List.set_cons_succ, i64_w, i32_w]
                      rfl
                    refine take_ (i := 3) (N := some 15) (v := ?_) (a' := ?_) #[true, true, true, true, false, false, true, true, false, false, false, false, false, false] rfl rfl (take_ofW HT_.out HW_.out (by kernel_rfl)) (fun _ _ _ h => h) (Or.inl ⟨by rfl, ?_⟩) hHeld ?_ ?_
                    rotate_left
                    · intro w' _
                      go_simp
                      with_reducible rfl
                    rotate_left
                    · simp only [Act.put, List.setIfInBounds_toArray, List.set_cons_zero, List.set_cons_succ, i64_w, i32_w]
                      rfl
                    refine pure_ (i := 4) (N := some 16) (v := ?_) (a' := ?_) #[true, true, true, true, true, false, true, true, false, false, false, false, false, false] rfl rfl (any_of HT_.out (by kernel_rfl)) (fun _ _ _ h => h) (Or.inl ⟨by rfl, ?_⟩) ?_ ?_
                    rotate_left
                    · intro w'
                      go_simp
                      with_reducible rfl
                    rotate_left
                    · simp only [Act.put, List.setIfInBounds_toArray, List.set_cons_zero, List.set_cons_succ, i64_w, i32_w]
                      rfl
                    refine take_ (i := 5) (N := some 17) (v := ?_) (a' := ?_) #[true, true, true, true, true, true, true, true, false, false, false, false, false, false] rfl rfl (take_ofW HT_.out HW_.out (by kernel_rfl)) (fun _ _ _ h => h) (Or.inl ⟨by rfl, ?_⟩) hHeld ?_ ?_
                    rotate_left
                    · intro w' _
                      go_simp
                      with_reducible rfl
                    rotate_left
                    · simp only [Act.put, List.setIfInBounds_toArray, List.set_cons_zero, List.set_cons_succ, i64_w, i32_w]
                      rfl
                    refine take_ (i := 8) (N := some 20) (v := ?_) (a' := ?_) #[true, true, true, true, true, true, true, true, true, false, false, false, false, false] rfl rfl (take_ofW HT_.out HW_.out (by kernel_rfl)) (fun _ _ _ h => h) (Or.inl ⟨by rfl, ?_⟩) hHeld ?_ ?_
                    rotate_left
                    · intro w' _
                      go_simp
                      with_reducible rfl
                    rotate_left
                    · simp only [Act.put, List.setIfInBounds_toArray, List.set_cons_zero, List.set_cons_succ, i64_w, i32_w]
                      rfl
                    refine pure_ (i := 9) (N := some 21) (v := ?_) (a' := ?_) #[true, true, true, true, true, true, true, true, true, true, false, false, false, false] rfl rfl (any_of HT_.out (by kernel_rfl)) (fun _ _ _ h => h) (Or.inl ⟨by rfl, ?_⟩) ?_ ?_
                    rotate_left
                    · intro w'
                      go_simp
                      with_reducible rfl
                    rotate_left
                    · simp only [Act.put, List.setIfInBounds_toArray, List.set_cons_zero, List.set_cons_succ, i64_w, i32_w]
                      rfl
                    refine take_ (i := 10) (N := some 22) (v := ?_) (a' := ?_) #[true, true, true, true, true, true, true, true, true, true, true, false, false, false] rfl rfl (take_ofW HT_.out HW_.out (by kernel_rfl)) (fun _ _ _ h => h) (Or.inl ⟨by rfl, ?_⟩) hHeld ?_ ?_
                    rotate_left
                    · intro w' _
                      go_simp
                      with_reducible rfl
                    rotate_left
                    · simp only [Act.put, List.setIfInBounds_toArray, List.set_cons_zero, List.set_cons_succ, i64_w, i32_w]
                      rfl
                    refine one_ (i := 11) (N := some 23) #[true, true, true, true, true, true, true, true, true, true, true, true, false, false] rfl rfl (one_of HT_.out (by kernel_rfl)) (by decide) (fun K hK => ?_)
                    refine Kd.R_lit_step (Kd.int .u8) _ 5 ?hg (N := 23) ?hd (xs := ([bt (⟨#[48, 49, 50, 51, 52, 53, 54, 55, 56, 57, 97, 98, 99, 100, 101, 102]⟩ : ByteArray) (ji7), bt (⟨#[48, 49, 50, 51, 52, 53, 54, 55, 56, 57, 97, 98, 99, 100, 101, 102]⟩ : ByteArray) (ji12)] : List Int)) (inner := [.int .u8 (bt (⟨#[48, 49, 50, 51, 52, 53, 54, 55, 56, 57, 97, 98, 99, 100, 101, 102]⟩ : ByteArray) (ji7)), .int .u8 (bt (⟨#[48, 49, 50, 51, 52, 53, 54, 55, 56, 57, 97, 98, 99, 100, 101, 102]⟩ : ByteArray) (ji12))]) (ok := fun _ => True) (okp := fun _ => True) ?hr ?hp (fun _ hk => hk) trivial (Below.refl _ _) (Nat.le_refl _) (by simp) ?_; (case hd => rfl); (case hg => rfl); (case hr => first | (go_simp; done) | (go_simp; rfl)); (case hp => exact (Reps.one (show Kd.M (Kd.int .u8) _ _ _ (bt (⟨#[48, 49, 50, 51, 52, 53, 54, 55, 56, 57, 97, 98, 99, 100, 101, 102]⟩ : ByteArray) (ji7)) [.int .u8 (bt (⟨#[48, 49, 50, 51, 52, 53, 54, 55, 56, 57, 97, 98, 99, 100, 101, 102]⟩ : ByteArray) (ji7))] from rfl) (Reps.one (show Kd.M (Kd.int .u8) _ _ _ (bt (⟨#[48, 49, 50, 51, 52, 53, 54, 55, 56, 57, 97, 98, 99, 100, 101, 102]⟩ : ByteArray) (ji12)) [.int .u8 (bt (⟨#[48, 49, 50, 51, 52, 53, 54, 55, 56, 57, 97, 98, 99, 100, 101, 102]⟩ : ByteArray) (ji12))] from rfl) (Reps.none _ _))))
                    intro v189 w18 ho19 hb hg_ hnew_
                    clear hg_ hnew_
                    (first | rw [← Ny188.out] at ho19 | (simp only [Int.reduceToNat] at ho19; rw [← Ny188.out] at ho19))
                    have n0_ := Aside0.mk (Kd.R_elder' (by (with_reducible repeat (first | apply Kd.R_alloc | apply Kd.R_drewN | apply Kd.R_drew)); exact HO_3.out) (Kd.R_base ho19) hb)
                    have n1_ := Aside0.mk (Kd.R_lower (Kd.R_new' ho19 (Kd.R_lt (by (with_reducible repeat (first | apply Kd.R_alloc | apply Kd.R_drewN | apply Kd.R_drew)); exact HO_3.out))) (below_size (by repeat (first | (with_reducible first | exact HB.out | apply below_alloc | apply pw_below_drewN | apply below_drew1) | exact HB.out))))
                    have n2_ := Aside0.mk (below_step (by repeat (first | (with_reducible first | exact HB.out | apply below_alloc | apply pw_below_drewN | apply below_drew1) | exact HB.out)) hb)
                    clear HO_3
                    clear HB
                    have HO_3 := n0_
                    have HO190 := n1_
                    have HB := n2_
                    clear n0_ n1_ n2_
                    clear hb ho19
                    obtain ⟨Ao21, co21, eo21⟩ := Kd.R_slice HO190.out
                    (first | subst eo21 | (injection eo21 with f1_ f2_ f3_; have f4_ := f1_.symm; have f5_ := f3_.symm; clear f1_ f2_ f3_; subst f4_; subst f5_))
                    refine hK.out _ _ trivial (fun hHeld => ?_)
                    clear hK K
                    refine norm_ (a' := ?_) ?_ ?_
                    rotate_left
                    · show Act.put _ (some 23) _ = _
                      simp only [Act.put, List.setIfInBounds_toArray, List.set_cons_zero, List.set_cons_succ, i64_w, i32_w]
                      rfl
                    refine one_ (i := 12) (N := some 24) #[true, true, true, true, true, true, true, true, true, true, true, true, true, false] rfl rfl (one_of HT_.out (by kernel_rfl)) (by decide) (fun K hK => ?_)
                    refine Kd.R_append_rows_step (Kd.int .u8) (w0 := w) w.heap.size (by rfl) (.tmp 12) (.tmp 23) 22 5 (.int .u8 0) 1 rfl Try.underlying22 info5 rfl (by decide) (by omega) u3 x3_1 y188 _ _ _ (fun k_ => some k_ ≠ (.slice Ao21 y188.length co21 : Value).ownBlock) (fun _ => False) rfl rfl ?aO ?aR (fun _ _ h => h) (fun _ h => h.elim) ?aF ?aB ?aS ?aL ?_
                    (case aR => repeat (first | exact (Kd.R_reads' HO190.out).2.2 | (with_reducible refine Kd.C_alloc ?_ _) | (with_reducible refine Kd.C_drewN ?_ _) | (with_reducible refine Kd.C_drew ?_)))
                    (case aB => exact (by repeat (first | (with_reducible first | exact HB.out | apply below_alloc | apply pw_below_drewN | apply below_drew1) | exact HB.out)))
                    (case aF => exact (fun k_ hk => Kd.fresh' (Kd.R_lt (by (with_reducible repeat (first | apply Kd.R_alloc | apply Kd.R_drewN | apply Kd.R_drew)); exact HO190.out)) k_ hk))
                    (case aO => exact (by (with_reducible repeat (first | apply Kd.R_alloc | apply Kd.R_drewN | apply Kd.R_drew)); exact Kd.R_mono HO_3.out (fun _ hk => hk.2)))
                    (case aS => exact (below_size (by repeat (first | (with_reducible first | exact HB.out | apply below_alloc | apply pw_below_drewN | apply below_drew1) | exact HB.out))))
                    (case aL => have := LMc16.out; omega)
                    intro v192 w20 ho hb hg hat
                    rw [← Ny191.out] at ho
                    have n0_ := Aside0.mk (Kd.R_after (ok := (fun _ => True)) (by (with_reducible repeat (first | apply Kd.R_alloc | apply Kd.R_drewN | apply Kd.R_drew)); exact HO190.out) hg hat)
                    have n1_ := Aside0.mk (hb)
                    have n2_ := Aside0.mk (ho)
                    clear HO190
                    clear HB
                    clear HO_3
                    have HO190 := n0_
                    have HB := n1_
                    have HO193 := n2_
                    clear n0_ n1_ n2_
                    clear ho hb hg hat
                    refine hK.out _ _ trivial (fun hHeld => ?_)
                    clear hK K
                    refine norm_ (a' := ?_) ?_ ?_
                    rotate_left
                    · show Act.put _ (some 24) _ = _
                      simp only [Act.put, List.setIfInBounds_toArray, List.set_cons_zero, List.set_cons_succ, i64_w, i32_w]
                      rfl
                    refine pure_ (i := 13) (N := some 3) (v := ?_) (a' := ?_) #[true, true, true, true, true, true, true, true, true, true, true, true, true, true] rfl rfl (any_of HT_.out (by kernel_rfl)) (fun _ _ _ h => h) (Or.inl ⟨by rfl, ?_⟩) ?_ ?_
                    rotate_left
                    · intro w'
                      go_simp
                      with_reducible rfl
                    rotate_left
                    · simp only [Act.put, List.setIfInBounds_toArray, List.set_cons_zero, List.set_cons_succ, i64_w, i32_w]
                      rfl
                    refine done_ (done_of HT_.out (by kernel_rfl)) ?_
                    try go_wp2
                    go_roundg k1
                    case measure => have := HK1.out; omega
                    case rel => exact ⟨(y191), (wrap64 (x4_1 + 1)), (by first | rfl | (simp; done) | (simp [*]; done)), H', ⟨by have := HK1.out; omega⟩, ⟨by (with_reducible repeat (first | apply Kd.R_alloc | apply Kd.R_drewN | apply Kd.R_drew)); exact Kd.R_mono HO193.out (fun _ hk => trivial)⟩, ⟨by repeat (first | (with_reducible first | exact HB.out | apply below_alloc | apply pw_below_drewN | apply below_drew1) | exact HB.out)⟩⟩
                  · rw [if_neg c16] at H
                    exact absurd H (by simp)
                · rw [if_neg c14] at H
                  exact absurd H (by simp)
              · rw [if_neg c13] at H
                exact absurd H (by simp)
            · rw [if_neg c9] at H
              exact absurd H (by simp)
          · rw [if_neg c8] at H
            exact absurd H (by simp)
        · rw [if_neg c5] at H
          exact absurd H (by simp)
      · rw [if_neg c4] at H
        have c4b0 : decide (x4_1 < (a0.size : Int)) = false := decide_eq_false c4
        clear c4
        obtain rfl := Option.some.inj H
        have hcv22 := own_string (P := Try.prog) Try.underlying22 Try.underlying5 Try.underlying9 (Kd.own_of_R HO_3.out)
        go_wp2
        go_ret
        exact ⟨by first | rfl | (simp [errW_none, errW_some] <;> rfl) | (simp [*, errW_none, errW_some] <;> rfl), by repeat (first | (with_reducible first | exact HB.out | apply below_alloc | apply pw_below_drewN | apply below_drew1) | exact HB.out)⟩
def spec_HexText.f (k : Nat) (a0 : ByteArray) : Option (ByteArray × Int) := if (a0.size : Int) > 65536 then (some ((⟨#[]⟩ : ByteArray), 2)) else ((spec_l03Hex.f k a0).bind fun t194 => (some (t194, 0)))
set_option maxHeartbeats 8000000 in
set_option maxRecDepth 100000 in
theorem spec_HexText.calls (k : Nat) (a0 : ByteArray) (r1 : ByteArray) (r2 : Int) (w : World) (h : spec_HexText.f k a0 = some (r1, r2)) :
    Calls Try.prog 45 #[.string a0] w fun e w' => e = .returned (.tuple #[.string r1, .int .i64 r2]) ∧ Below w.heap.size w w' := by
  have HB := Aside0.mk (Below.refl w.heap.size w)
  have H : (if (a0.size : Int) > 65536 then (some ((⟨#[]⟩ : ByteArray), 2)) else ((spec_l03Hex.f k a0).bind fun t194 => (some (t194, 0)))) = some (r1, r2) := h
  clear h
  by_cases c2 : (a0.size : Int) > 65536
  · rw [if_pos c2] at H
    have c2b0 : decide (65536 < (a0.size : Int)) = true := decide_eq_true c2
    have c2b1 : decide (65536 < a0.size) = true := decide_eq_true (by omega)
    clear c2
    simp only [Option.some.injEq, Prod.mk.injEq] at H
    obtain ⟨rfl, rfl⟩ := H
    go_enter Try.func45, Try.ntmps45
    go_wp2
    go_ret2
    exact ⟨by first | rfl | (simp [errW_none, errW_some] <;> rfl) | (simp [*, errW_none, errW_some] <;> rfl), by repeat (first | (with_reducible first | exact HB.out | apply below_alloc | apply pw_below_drewN | apply below_drew1) | exact HB.out)⟩
  · rw [if_neg c2] at H
    have c2b0 : decide (65536 < (a0.size : Int)) = false := decide_eq_false c2
    have c2b1 : decide (65536 < a0.size) = false := decide_eq_false (by omega)
    clear c2
    replace H := Option.bind_eq_some_iff.mp H
    obtain ⟨t194, A30, H⟩ := H
    replace H : (some (t194, 0)) = some (r1, r2) := H
    have A3 := Aside0.mk A30
    clear A30
    simp only [Option.some.injEq, Prod.mk.injEq] at H
    obtain ⟨rfl, rfl⟩ := H
    go_enter Try.func45, Try.ntmps45
    go_wp2_with (first | ((with_reducible refine gate_callee (f := 75) rfl ?_); refine goesL_ (some 8) rfl rfl Try.func75 (by kernel_rfl) rfl #[.string a0] rfl (by (try simp only [List.map_toArray, List.map_cons, List.map_nil]); first | done | rfl | (simp only [List.length_drop, List.length_take]; rfl)) ?_; (with_reducible refine (spec_l03Hex.calls k a0 t194 _ A3.out).mono ?_); rintro e w4 ⟨rfl, hb⟩; refine ⟨_, rfl, ?_⟩; have n0_ := Aside0.mk (below_step (by repeat (first | (with_reducible first | exact HB.out | apply below_alloc | apply pw_below_drewN | apply below_drew1) | exact HB.out)) hb); clear HB; have HB := n0_; clear n0_; (try clear hb); (try clear hb2); (try clear hk); (try clear hi)))
    go_ret2
    exact ⟨by first | rfl | (simp [errW_none, errW_some] <;> rfl) | (simp [*, errW_none, errW_some] <;> rfl), by repeat (first | (with_reducible first | exact HB.out | apply below_alloc | apply pw_below_drewN | apply below_drew1) | exact HB.out)⟩
end Go.Proofs.Ytlfpogbonmddmaa.P
namespace Go.Proofs.Ytlfpogbonmddmaa.Pg
open Go.RowKit Go.Proofs.Ytlfpogbonmddmaa.P Go.Proofs.YtlfpogbonmddmaaW.PrintWords Go.Proofs.YtlfpogbonmddmaaW.PrintLast Go.Proofs.YtlfpogbonmddmaaW.PrintMore
theorem u8_of {x : Int} (h : (Lit.int .u8 x).wf = true) : 0 ≤ x ∧ x ≤ 255 := by
  simp [Lit.wf, IntKind.min, IntKind.max, IntKind.signed, IntKind.bits] at h
  omega
theorem rd_u8 {l : List Int} (w : ∀ x ∈ l, (Lit.int .u8 x).wf = true) (i : Int) : 0 ≤ rd l i ∧ rd l i ≤ 255 := by
  unfold rd
  rcases Nat.lt_or_ge i.toNat l.length with h | h
  · rw [List.getD_eq_getElem?_getD, List.getElem?_eq_getElem h]
    exact u8_of (w _ (List.getElem_mem h))
  · rw [List.getD_eq_getElem?_getD, List.getElem?_eq_none h]
    exact ⟨by decide, by decide⟩
theorem at_some (l : List Int) (hl : l.length ≤ 1048576) (w : ∀ x ∈ l, (Lit.int .u8 x).wf = true) (i n : Nat) (hi : i < 100000) (hn : 1 < n ∧ n < 100000) : ∃ r : Nat, r < n ∧ laws_at.f l (i : Int) (n : Int) = some (r : Int) := by
  unfold laws_at.f
  have hn2 : ¬ (n : Int) ≤ 1 := by omega
  have hn0 : ¬ (n : Int) = 0 := by omega
  rw [if_neg hn2]
  by_cases h0 : (l.length : Int) = 0
  · rw [if_pos h0, if_neg hn0]
    have e : wrap64 ((i : Int) * 7) = ((i * 7 : Nat) : Int) := by unfold wrap64; omega
    rw [e]
    refine ⟨i * 7 % n, Nat.mod_lt _ (by omega), ?_⟩
    rw [Int.tmod_eq_emod_of_nonneg (Int.natCast_nonneg _)]
    rfl
  · rw [if_neg h0]
    have t1 : Int.tmod (i : Int) (l.length : Int) = ((i % l.length : Nat) : Int) := by
      rw [Int.tmod_eq_emod_of_nonneg (Int.natCast_nonneg _)]; rfl
    have e1 : wrap64 ((i : Int) + 1) = ((i + 1 : Nat) : Int) := by unfold wrap64; omega
    have t2 : Int.tmod ((i + 1 : Nat) : Int) (l.length : Int) = (((i + 1) % l.length : Nat) : Int) := by
      rw [Int.tmod_eq_emod_of_nonneg (Int.natCast_nonneg _)]; rfl
    have d1 : Int.tdiv (i : Int) (l.length : Int) = ((i / l.length : Nat) : Int) := by
      rw [Int.tdiv_eq_ediv_of_nonneg (Int.natCast_nonneg _)]; rfl
    have m1 : i % l.length < l.length := Nat.mod_lt _ (by omega)
    have m2 : (i + 1) % l.length < l.length := Nat.mod_lt _ (by omega)
    have q1 : i / l.length ≤ i := Nat.div_le_self _ _
    rw [e1, t1, t2, d1, if_pos (Int.natCast_nonneg _), if_pos (by omega), if_pos (Int.natCast_nonneg _), if_pos (by omega), if_neg hn0]
    obtain ⟨a0, a1⟩ := rd_u8 w ((i % l.length : Nat) : Int)
    obtain ⟨b0, b1⟩ := rd_u8 w (((i + 1) % l.length : Nat) : Int)
    generalize rd l ((i % l.length : Nat) : Int) = a at a0 a1
    generalize rd l (((i + 1) % l.length : Nat) : Int) = b at b0 b1
    generalize i / l.length = q at q1
    have e : wrap64 ((wrap64 ((wrap64 ((wrap64 a) * 31)) + (wrap64 b))) + (wrap64 (q : Int))) = a * 31 + b + q := by unfold wrap64; omega
    rw [e]
    have hp : 0 ≤ a * 31 + b + q := by omega
    refine ⟨((a * 31 + b + q) % n).toNat, ?_, ?_⟩
    · have := Int.emod_lt_of_pos (a * 31 + b + q) (show (0 : Int) < n by omega)
      have := Int.emod_nonneg (a * 31 + b + q) (show (n : Int) ≠ 0 by omega)
      omega
    · rw [Int.tmod_eq_emod_of_nonneg hp]
      have := Int.emod_nonneg (a * 31 + b + q) (show (n : Int) ≠ 0 by omega)
      rw [Int.toNat_of_nonneg this]
end Go.Proofs.Ytlfpogbonmddmaa.Pg
namespace Go.Proofs.Ytlfpogbonmddmaa.Pg
open Go.RowKit
def isU8 (l : List Int) : Prop := ∀ x ∈ l, 0 ≤ x ∧ x ≤ 255
theorem isU8_of {l : List Int} (w : ∀ x ∈ l, (Lit.int .u8 x).wf = true) : isU8 l := by
  intro x hx
  have h := w x hx
  simp [Lit.wf, IntKind.min, IntKind.max, IntKind.signed, IntKind.bits] at h
  omega
end Go.Proofs.Ytlfpogbonmddmaa.Pg
namespace Go.Proofs.Ytlfpogbonmddmaa.Pg
open Go.RowKit Go.Proofs.Ytlfpogbonmddmaa.P Go.Proofs.YtlfpogbonmddmaaW.PrintWords Go.Proofs.YtlfpogbonmddmaaW.PrintLast Go.Proofs.YtlfpogbonmddmaaW.PrintMore
theorem rd_src {l : List Int} (w : isU8 l) (i : Int) : 0 ≤ rd l i ∧ rd l i ≤ 255 := by
  unfold rd
  rcases Nat.lt_or_ge i.toNat l.length with h | h
  · rw [List.getD_eq_getElem?_getD, List.getElem?_eq_getElem h]
    exact w _ (List.getElem_mem h)
  · rw [List.getD_eq_getElem?_getD, List.getElem?_eq_none h]
    exact ⟨by decide, by decide⟩
theorem byteSeed_bd (s b : Int) : 0 ≤ byteSeed s b ∧ byteSeed s b < 2147483648 := by unfold byteSeed; omega
def At (B a s : Int) : Prop := 0 ≤ a ∧ a ≤ B ∧ 0 ≤ s ∧ s < 2147483648
theorem byte_some {l : List Int} (w : isU8 l) {B a s : Int} (h : At B a s) (hB : B ≤ 1000000000000) : ∃ r a' s', spec_l00Src_byte.f l a s = some (r, a', s') ∧ 0 ≤ r ∧ r ≤ 255 ∧ At (B + 1) a' s' := by
  obtain ⟨h0, h1, h2, h3⟩ := h
  obtain ⟨r0, r1⟩ := rd_src w a
  unfold spec_l00Src_byte.f
  rw [if_pos ⟨h0, by omega, h2, h3, r0, r1⟩]
  split
  · obtain ⟨b0, b1⟩ := byteSeed_bd s (rd l a)
    exact ⟨_, _, _, rfl, r0, r1, by omega, by omega, b0, b1⟩
  · split
    · exact ⟨_, _, _, rfl, by decide, by decide, by omega, by omega, h2, h3⟩
    · obtain ⟨b0, b1⟩ := byteNext_bd s
      exact ⟨_, _, _, rfl, by omega, by omega, by omega, by omega, b0, b1⟩
theorem next_some {l : List Int} (w : isU8 l) {B a s n : Int} (h : At B a s) (hB : B ≤ 100000000000) (hn : 1 ≤ n) : ∃ r a' s', spec_l00Src_next.f l a s n = some (r, a', s') ∧ 0 ≤ r ∧ r < n ∧ At (B + 3) a' s' := by
  unfold spec_l00Src_next.f
  by_cases h1 : n ≤ 1
  · rw [if_pos h1]
    obtain ⟨h0, h2, h3, h4⟩ := h
    exact ⟨_, _, _, rfl, by decide, by omega, h0, by omega, h3, h4⟩
  rw [if_neg h1]
  have hn0 : ¬ n = 0 := by omega
  by_cases h2 : n ≤ 256
  · rw [if_pos h2]
    obtain ⟨r, a', s', e, r0, r1, g0, g1, g2, g3⟩ := byte_some w h (by omega)
    rw [e, Option.bind_some, if_neg hn0]
    refine ⟨Int.tmod r n, a', s', rfl, ?_, ?_, g0, by omega, g2, g3⟩
    · exact Int.tmod_nonneg _ r0
    · exact Int.tmod_lt_of_pos _ (by omega)
  · rw [if_neg h2]
    obtain ⟨x, a1, s1, e1, x0, x1, g1⟩ := byte_some w h (by omega)
    obtain ⟨y, a2, s2, e2, y0, y1, g2⟩ := byte_some w g1 (by omega)
    obtain ⟨z, a3, s3, e3, z0, z1, g30, g31, g32, g33⟩ := byte_some w g2 (by omega)
    rw [e1, Option.bind_some, e2, Option.bind_some, e3, Option.bind_some, if_neg hn0]
    have hw : wrap64 ((wrap64 ((wrap64 (x * 65536)) + (wrap64 (y * 256)))) + z) = x * 65536 + y * 256 + z := by unfold wrap64; omega
    simp only [hw]
    clear hw
    refine ⟨Int.tmod (x * 65536 + y * 256 + z) n, a3, s3, rfl, ?_, ?_, g30, by omega, g32, g33⟩
    · exact Int.tmod_nonneg _ (by omega)
    · exact Int.tmod_lt_of_pos _ (by omega)
theorem isU8_snoc {l : List Int} (w : isU8 l) {x : Int} (h : 0 ≤ x ∧ x ≤ 255) : isU8 (l ++ [x]) := by
  intro y hy
  rcases List.mem_append.1 hy with hy | hy
  · exact w y hy
  · rw [List.mem_singleton.1 hy]; exact h
theorem isU8_nil : isU8 [] := fun x hx => by cases hx
theorem bytes_run {l : List Int} (w : isU8 l) (d : Nat) : ∀ (k : Nat) (acc : List Int) (B a s : Int), d < k → isU8 acc → acc.length + d ≤ 100000 → At B a s → B + 3 * (d : Int) ≤ 100000000000 →
    ∃ r a' s', spec_l00Src_bytes.l0 k acc (d : Int) l a s = some (r, a', s') ∧ isU8 r ∧ r.length = acc.length + d ∧ At (B + 3 * d) a' s' := by
  induction d with
  | zero =>
    intro k acc B a s hk ha hl hA hB
    obtain ⟨k, rfl⟩ : ∃ m, k = m + 1 := ⟨k - 1, by omega⟩
    refine ⟨acc, a, s, ?_, ha, by omega, ?_⟩
    · simp only [spec_l00Src_bytes.l0]; rw [if_neg (by omega)]
    · simpa using hA
  | succ d ih =>
    intro k acc B a s hk ha hl hA hB
    obtain ⟨k, rfl⟩ : ∃ m, k = m + 1 := ⟨k - 1, by omega⟩
    obtain ⟨r, a1, s1, e, r0, r1, hA1⟩ := next_some w (n := 256) hA (by omega) (by decide)
    have hm : r % 256 = r := by omega
    have hw : wrap64 (((d + 1 : Nat) : Int) - 1) = (d : Int) := by unfold wrap64; omega
    obtain ⟨r', a', s', e', u', hl', hA'⟩ := ih k (acc ++ [r]) (B + 3) a1 s1 (by omega) (isU8_snoc ha ⟨r0, by omega⟩) (by simp; omega) hA1 (by omega)
    refine ⟨r', a', s', ?_, u', by simp at hl'; omega, ?_⟩
    · simp only [spec_l00Src_bytes.l0]
      rw [if_pos (by omega), e, Option.bind_some, if_pos (by omega)]
      simp only [hm, hw]
      exact e'
    · have : B + 3 + 3 * (d : Int) = B + 3 * ((d + 1 : Nat) : Int) := by omega
      rw [← this]; exact hA'
theorem bytes_some {l : List Int} (w : isU8 l) {B a s : Int} (h : At B a s) (hB : B ≤ 1000000) (n : Nat) (hn : n ≤ 1000) (k : Nat) (hk : n < k) :
    ∃ r a' s', spec_l00Src_bytes.f k l a s (n : Int) = some (r, a', s') ∧ isU8 r ∧ r.length ≤ n ∧ At (B + 4000) a' s' := by
  unfold spec_l00Src_bytes.f
  have hw : wrap64 ((n : Int) + 1) = (n : Int) + 1 := by unfold wrap64; omega
  rw [hw]
  clear hw
  obtain ⟨r, a1, s1, e, r0, r1, hA1⟩ := next_some w (n := (n : Int) + 1) h (by omega) (by omega)
  rw [e, Option.bind_some]
  obtain ⟨d, rfl⟩ := Int.eq_ofNat_of_zero_le r0
  obtain ⟨r', a', s', e', u', hl', g0, g1, g2, g3⟩ := bytes_run w d k [] (B + 3) a1 s1 (by omega) isU8_nil (by simp; omega) hA1 (by omega)
  exact ⟨r', a', s', e', u', by simp at hl'; omega, g0, by omega, g2, g3⟩
end Go.Proofs.Ytlfpogbonmddmaa.Pg
namespace Go.Proofs.Ytlfpogbonmddmaa.Pg
open Go.RowKit Go.Proofs.Ytlfpogbonmddmaa.P Go.Proofs.YtlfpogbonmddmaaW.PrintWords Go.Proofs.YtlfpogbonmddmaaW.PrintLast Go.Proofs.YtlfpogbonmddmaaW.PrintMore
theorem bytesOf_some {l : List Int} (w : isU8 l) (n : Nat) (hn : n ≤ 1000) : ∃ r, (∀ k, n < k → spec_BytesOf.f k l (n : Int) = some r) ∧ isU8 r ∧ r.length ≤ n := by
  have h0 : At 0 0 ((l.length : Int) % 1000) := ⟨by decide, by decide, by omega, by omega⟩
  obtain ⟨r, a', s', e, u, hl, _⟩ := bytes_some w h0 (by decide) n hn (n + 1) (by omega)
  refine ⟨r, fun k hk => ?_, u, hl⟩
  have : spec_BytesOf.f (n + 1) l (n : Int) = some r := by
    unfold spec_BytesOf.f spec_l00Source.f
    rw [Option.bind_some, e]
    rfl
  exact at_rounds (spec_BytesOf.mono _ _) hk this
end Go.Proofs.Ytlfpogbonmddmaa.Pg
namespace Go.Proofs.Ytlfpogbonmddmaa.Pg
open Go.RowKit Go.Proofs.Ytlfpogbonmddmaa.P Go.Proofs.YtlfpogbonmddmaaW.PrintWords Go.Proofs.YtlfpogbonmddmaaW.PrintLast Go.Proofs.YtlfpogbonmddmaaW.PrintMore
theorem size_strOfNums (l : List Int) : (strOfNums l).size = l.length := by simp [strOfNums, ByteArray.size]
theorem hash_strOfNums (l : List Int) (hu : u8ok l) (hl : l.length ≤ 1099511627776) : impl_hash.f (strOfNums l) = some (strOfNums (Sha.shaL l)) := by
  unfold impl_hash.f
  rw [if_pos (by rw [size_strOfNums]; exact hl), bytesL_str l hu]
theorem masked_strOfNums (l : List Int) (m : Int) (hu : u8ok l) (hl : l.length ≤ 64) : impl_masked.f (strOfNums l) m = some (strOfNums (Sha.maskL l m)) := by
  unfold impl_masked.f
  rw [if_pos (by rw [size_strOfNums]; exact hl), bytesL_str l hu]
theorem hmac_j0 (k : Nat) (key b : List Int) (hu : u8ok key) (hl : key.length ≤ 64) (hb : u8ok b) (hbl : b.length ≤ 1073741824) : impl_hmac.j0 (k + 1) (strOfNums key) (strOfNums b) = some (strOfNums (Sha.shaL (Sha.maskL key 92 ++ Sha.shaL (Sha.maskL key 54 ++ b)))) := by
  have u1 := u8ok_append (u8ok_mask key 54 (by simp) hu) hb
  have u2 := u8ok_append (u8ok_mask key 92 (by simp) hu) (u8ok_shaL (Sha.maskL key 54 ++ b))
  simp only [impl_hmac.j0]
  rw [masked_strOfNums key 92 hu hl, Option.bind_some, masked_strOfNums key 54 hu hl, Option.bind_some, if_pos (by rw [size_strOfNums, size_strOfNums, maskL_length]; omega), strOfNums_append, hash_strOfNums _ u1 (by rw [List.length_append, maskL_length]; omega), Option.bind_some, if_pos (by rw [size_strOfNums, size_strOfNums, maskL_length, shaL_length]; decide), strOfNums_append, hash_strOfNums _ u2 (by rw [List.length_append, maskL_length, shaL_length]; decide), Option.bind_some]
theorem hmac_eq (k : Nat) (key b : List Int) (hu : u8ok key) (hl : key.length ≤ 1073741824) (hb : u8ok b) (hbl : b.length ≤ 1073741824) : impl_hmac.f (k + 1) (strOfNums key) (strOfNums b) = some (strOfNums (Sha.hmacL key b)) := by
  unfold impl_hmac.f Sha.hmacL
  by_cases h : 64 < key.length
  · rw [if_pos (by rw [size_strOfNums]; omega), hash_strOfNums key hu (by omega), Option.bind_some, hmac_j0 k _ b (u8ok_shaL key) (by rw [shaL_length]; omega) hb hbl, Sha.hkey, if_pos h]
  · rw [if_neg (by rw [size_strOfNums]; omega), hmac_j0 k key b hu (by omega) hb hbl, Sha.hkey, if_neg h]
end Go.Proofs.Ytlfpogbonmddmaa.Pg
namespace Go.Proofs.Ytlfpogbonmddmaa.Pg
open Go.RowKit Go.Proofs.Ytlfpogbonmddmaa.P Go.Proofs.YtlfpogbonmddmaaW.PrintWords Go.Proofs.YtlfpogbonmddmaaW.PrintLast Go.Proofs.YtlfpogbonmddmaaW.PrintMore
theorem bo1 (n : Int) (k : Nat) : impl_bytesOf.f (k + 3) n 1 = some (strOfNums [n % 256]) := by
  have w0 : wrap64 (1 - 1) = 0 := by unfold wrap64; omega
  have wm : wrap64 (0 - 1) = -1 := by unfold wrap64; omega
  unfold impl_bytesOf.f
  rw [if_pos (by decide), if_pos (by decide), w0]
  simp only [impl_bytesOf.l0]
  rw [if_pos (by decide), if_pos (by decide), if_pos (by decide), wm, if_neg (by decide)]
  rfl
theorem str_app (a b : List Int) : strOfNums a ++ strOfNums b = strOfNums (a ++ b) := strOfNums_append a b
theorem expand_step (k : Nat) (K info : List Int) (N j : Nat) (hK : u8ok K) (hKl : K.length ≤ 1048576) (hi : u8ok info) (hil : info.length ≤ 1048576) (h : 32 * j < N) (hj : j ≤ 300) :
    impl_expand.l0 (k + 4) (strOfNums K) (strOfNums info) (N : Int) (strOfNums (Sha.exp K info j).1) (strOfNums (Sha.exp K info j).2) ((j + 1 : Nat) : Int)
      = impl_expand.l0 (k + 3) (strOfNums K) (strOfNums info) (N : Int) (strOfNums (Sha.exp K info (j + 1)).1) (strOfNums (Sha.exp K info (j + 1)).2) ((j + 1 + 1 : Nat) : Int) := by
  have e1 := exp_len K info j
  have e2 := exp_last K info j
  have hw : wrap64 (((j + 1 : Nat) : Int) + 1) = ((j + 1 + 1 : Nat) : Int) := by unfold wrap64; omega
  have hone : u8ok [((j + 1 : Nat) : Int) % 256] := fun x hx => by obtain rfl := List.mem_singleton.1 hx; omega
  conv => lhs; simp only [impl_expand.l0]
  rw [if_pos (by rw [size_strOfNums]; omega), if_pos (by rw [size_strOfNums, size_strOfNums]; omega), bo1, Option.bind_some, str_app, if_pos (by rw [size_strOfNums, size_strOfNums, List.length_append]; simp; omega), str_app,
    hmac_eq (k + 2) K _ hK (by omega) (u8ok_append (u8ok_append (exp_u8 K info j).2 hi) hone) (by rw [List.length_append, List.length_append]; simp; omega), Option.bind_some, if_pos (by rw [size_strOfNums, size_strOfNums, hmacL_length]; omega), str_app, hw]
  rfl
theorem expand_end (k : Nat) (K info : List Int) (N j : Nat) (h : N ≤ 32 * j) (hj : j ≤ N + 31) (i : Int) :
    impl_expand.l0 (k + 1) (strOfNums K) (strOfNums info) (N : Int) (strOfNums (Sha.exp K info j).1) (strOfNums (Sha.exp K info j).2) i = some (strOfNums (Sha.expandL K info N)) := by
  have e1 := exp_len K info j
  simp only [impl_expand.l0]
  rw [if_neg (by rw [size_strOfNums]; omega), if_pos (by omega), if_pos (by rw [size_strOfNums]; omega), exp_take K info N j h hj, Int.toNat_natCast, str_extract]
theorem expand_run (d : Nat) : ∀ (k : Nat) (K info : List Int) (N j : Nat), u8ok K → K.length ≤ 1048576 → u8ok info → info.length ≤ 1048576 → N ≤ 32 * (j + d) → j ≤ N + 31 → j + d ≤ 290 →
    impl_expand.l0 (k + d + 4) (strOfNums K) (strOfNums info) (N : Int) (strOfNums (Sha.exp K info j).1) (strOfNums (Sha.exp K info j).2) ((j + 1 : Nat) : Int) = some (strOfNums (Sha.expandL K info N)) := by
  induction d with
  | zero => intro k K info N j hK hKl hi hil h hj _; exact expand_end (k + 3) K info N j h hj _
  | succ d ih =>
    intro k K info N j hK hKl hi hil h hj hd
    by_cases hlt : 32 * j < N
    · rw [show k + (d + 1) + 4 = (k + d + 1) + 4 from by omega, expand_step (k + d + 1) K info N j hK hKl hi hil hlt (by omega), show k + d + 1 + 3 = k + d + 4 from by omega]
      exact ih k K info N (j + 1) hK hKl hi hil (by omega) (by omega) (by omega)
    · exact expand_end (k + (d + 1) + 3) K info N j (by omega) hj _
theorem expand_eq (k : Nat) (K info : List Int) (N : Nat) (hK : u8ok K) (hKl : K.length ≤ 1048576) (hi : u8ok info) (hil : info.length ≤ 1048576) (hN : N ≤ 8160) :
    impl_expand.f (k + 264) (strOfNums K) (strOfNums info) (N : Int) = some (strOfNums (Sha.expandL K info N)) := by
  have h := expand_run 260 k K info N 0 hK hKl hi hil (by omega) (by omega) (by omega)
  exact h
theorem spec_expand_eq (K info : List Int) (N : Nat) (hK : u8ok K) (hKl : K.length ≤ 1048576) (hi : u8ok info) (hil : info.length ≤ 1048576) (hN : N ≤ 8160) :
    spec_l03Expand.f (strOfNums K) info (N : Int) = some (strOfNums (Sha.expandL K info N)) := by
  unfold spec_l03Expand.f
  rw [if_pos (u8b_of hi), if_pos ⟨by rw [size_strOfNums]; exact hKl, hil, by omega, by omega⟩, bytesL_str K hK, Int.toNat_natCast]
end Go.Proofs.Ytlfpogbonmddmaa.Pg
namespace Go.Proofs.Ytlfpogbonmddmaa.Pg
open Go.RowKit Go.Proofs.Ytlfpogbonmddmaa.P Go.Proofs.YtlfpogbonmddmaaW.PrintWords Go.Proofs.YtlfpogbonmddmaaW.PrintLast Go.Proofs.YtlfpogbonmddmaaW.PrintMore
theorem Hkdf_in (k : Nat) (l0 l1 l2 : List Int) (N : Nat) (u0 : u8ok l0) (u1 : u8ok l1) (u2 : u8ok l2) (b0 : l0.length ≤ 65536) (b1 : l1.length ≤ 65536) (b2 : l2.length ≤ 65536) (hN : N ≤ 8160) :
    spec_Hkdf.f (k + 265) l0 l1 l2 (N : Int) = some (strOfNums (Sha.expandL (Sha.hmacL l0 l1) l2 N), 0) ∧ impl_Hkdf.f (k + 265) l0 l1 l2 (N : Int) = some (strOfNums (Sha.expandL (Sha.hmacL l0 l1) l2 N), 0) := by
  have e1 := spec_expand_eq (Sha.hmacL l0 l1) l2 N (u8ok_hmacL _ _) (by rw [hmacL_length]; decide) u2 (by omega) hN
  have e2 := expand_eq (k + 1) (Sha.hmacL l0 l1) l2 N (u8ok_hmacL _ _) (by rw [hmacL_length]; decide) u2 (by omega) hN
  have e3 := hmac_eq (k + 264) l0 l1 u0 (by omega) u1 (by omega)
  unfold spec_Hkdf.f impl_Hkdf.f impl_isLong_byte.f
  simp only [spec_Hkdf.j0]
  unfold spec_l01In.f impl_within.f
  refine ⟨?_, ?_⟩
  · rw [if_neg (by omega), if_neg (by omega), if_neg (by simp; omega), if_pos (by omega), Option.bind_some, if_pos (by simp; omega)]
    unfold spec_l03Hmac.f
    rw [if_pos ⟨u8b_of u0, u8b_of u1⟩, if_pos (by omega), Option.bind_some, e1, Option.bind_some]
  · rw [Option.bind_some, if_neg (by simp; omega), if_pos (by omega), Option.bind_some, if_pos (by simp; omega), e3, Option.bind_some, e2, Option.bind_some]
end Go.Proofs.Ytlfpogbonmddmaa.Pg
namespace Go.Proofs.Ytlfpogbonmddmaa.Pg
open Go.RowKit Go.Proofs.Ytlfpogbonmddmaa.P Go.Proofs.YtlfpogbonmddmaaW.PrintWords Go.Proofs.YtlfpogbonmddmaaW.PrintLast Go.Proofs.YtlfpogbonmddmaaW.PrintMore
theorem suc_int (i : Nat) (hi : i < 9223372036854775807) : wrap64 ((i : Int) + 1) = ((i + 1 : Nat) : Int) := by unfold wrap64; omega
theorem hex_wrap (c : Int) (h0 : 0 ≤ c) (h1 : c ≤ 255) : IntKind.u8.wrap (Int.tdiv c 16) = c / 16 := by
  rw [IntKind.wrap_u8, Int.tdiv_eq_ediv_of_nonneg h0]
  omega
theorem hex_run (s : ByteArray) (hs : s.size ≤ 65536) (d : Nat) : ∀ (k i : Nat), i + d = s.size → d < k → spec_l03Hex.l0 k s (hexTo s i) (i : Int) = some (strOfNums (hexTo s s.size)) := by
  induction d with
  | zero =>
    intro k i hi hk
    obtain ⟨k, rfl⟩ : ∃ m, k = m + 1 := ⟨k - 1, by omega⟩
    obtain rfl : i = s.size := by omega
    simp only [spec_l03Hex.l0]
    rw [if_neg (by omega)]
  | succ d ih =>
    intro k i hi hk
    obtain ⟨k, rfl⟩ : ∃ m, k = m + 1 := ⟨k - 1, by omega⟩
    obtain ⟨b0, b1⟩ := bt_range s (i : Int)
    have hl := hexTo_length s i
    have hn := ih k (i + 1) (by omega) (by omega)
    simp only [hexTo] at hn
    simp only [spec_l03Hex.l0]
    rw [hex_wrap _ b0 b1, Int.tmod_eq_emod_of_nonneg b0, suc_int i (by omega)]
    generalize bt s (i : Int) = c at b0 b1 hn ⊢
    rw [if_pos (by omega), if_pos (by omega), if_pos (by omega), if_pos (by omega), if_pos (by omega), if_pos (by omega), Option.bind_some, if_pos (by simp; omega)]
    exact hn
def hexAns (s : ByteArray) : ByteArray × Int := if 65536 < s.size then ((⟨#[]⟩ : ByteArray), 2) else (strOfNums (hexTo s s.size), 0)
theorem spec_hex (k : Nat) (s : ByteArray) (hk : 65536 < k) : spec_HexText.f k s = some (hexAns s) := by
  unfold spec_HexText.f hexAns
  by_cases h : 65536 < s.size
  · rw [if_pos (by omega), if_pos h]
  · rw [if_neg (by omega), if_neg h]
    unfold spec_l03Hex.f
    have := hex_run s (by omega) s.size k 0 (by omega) (by omega)
    simp only [hexTo] at this
    rw [show ((0 : Nat) : Int) = 0 from rfl] at this
    rw [this]
    rfl
theorem impl_hex (s : ByteArray) : impl_HexText.f s = some (hexAns s) := by
  unfold impl_HexText.f hexAns
  split <;> rfl
end Go.Proofs.Ytlfpogbonmddmaa.Pg

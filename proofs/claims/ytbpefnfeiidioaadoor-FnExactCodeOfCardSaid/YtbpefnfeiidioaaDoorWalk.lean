/- The words of the codes, and the walks of laws.FnExactCodeWord and laws.FnExactCodeOf: for all arguments the program tells what the reference tells, where strings.asciiSpace reads as it was laid. -/
import Derived.Test.YtbpefnfeiidioaaDoorShelf
import Derived.Test.YtbpefnfeiidioaaDoorChecked
import Derived.WalkKit
import Derived.Below
import Derived.WalkSmall
import Derived.Deep.LoopGhost
import Derived.OwnWalk
import Derived.Tactics
namespace Go.Proofs.YtbpefnfeiidioaaDoor
open Go.RowKit
theorem below_alloc {w W : World} (h : Below w.heap.size w W) (o : Obj) : Below w.heap.size w (W.alloc o) := h.alloc h.size o
structure Aside0 (p : Prop) : Prop where
  out : p
def wordsL : List ByteArray := [⟨#[111, 107]⟩, ⟨#[98, 97, 100]⟩, ⟨#[108, 111, 110, 103]⟩, ⟨#[102, 111, 114, 109]⟩, ⟨#[114, 97, 110, 103, 101]⟩, ⟨#[110, 111, 110, 101]⟩, ⟨#[109, 97, 110, 121]⟩, ⟨#[102, 117, 108, 108]⟩, ⟨#[115, 117, 109]⟩, ⟨#[116, 119, 105, 99, 101]⟩, ⟨#[115, 101, 97, 108, 101, 100]⟩, ⟨#[115, 116, 97, 108, 101]⟩, ⟨#[99, 111, 114, 114, 117, 112, 116]⟩, ⟨#[97, 119, 97, 121]⟩, ⟨#[114, 101, 112, 108, 97, 121]⟩, ⟨#[111, 114, 100, 101, 114]⟩, ⟨#[112, 97, 116, 104]⟩, ⟨#[107, 105, 110, 100]⟩, ⟨#[113, 117, 111, 114, 117, 109]⟩, ⟨#[115, 112, 101, 110, 116]⟩]
/-- the block of the words -/
def wordsA : Array Value := (wordsL.map Value.string).toArray
def wordAt (n : Int) : ByteArray := if 0 ≤ n ∧ n < 20 then wordsL.getD n.toNat ByteArray.empty else ⟨#[]⟩
def lineL : List UInt8 := [111, 107, 32, 98, 97, 100, 32, 108, 111, 110, 103, 32, 102, 111, 114, 109, 32, 114, 97, 110, 103, 101, 32, 110, 111, 110, 101, 32, 109, 97, 110, 121, 32, 102, 117, 108, 108, 32, 115, 117, 109, 32, 116, 119, 105, 99, 101, 32, 115, 101, 97, 108, 101, 100, 32, 115, 116, 97, 108, 101, 32, 99, 111, 114, 114, 117, 112, 116, 32, 97, 119, 97, 121, 32, 114, 101, 112, 108, 97, 121, 32, 111, 114, 100, 101, 114, 32, 112, 97, 116, 104, 32, 107, 105, 110, 100, 32, 113, 117, 111, 114, 117, 109, 32, 115, 112, 101, 110, 116]
theorem line_fields : (Lib.fields lineL).map (fun l => Value.string ⟨l.toArray⟩) = wordsL.map Value.string := by kernel_rfl
theorem line_count : (Lib.fields lineL).length = 20 := by kernel_rfl
theorem line_ascii : ∀ (j : Nat) b, lineL[j]? = some b → b.toNat < 128 := by
  have h : lineL.all (fun b => decide (b.toNat < 128)) = true := by decide +kernel
  intro j b hb
  exact of_decide_eq_true (List.all_eq_true.1 h b (List.mem_of_getElem? hb))
set_option maxHeartbeats 4000000 in
set_option maxRecDepth 100000 in
theorem words_walk (w : World) (ht : Lib.TabIs Tryd.prog w "strings.asciiSpace" .u8 Lib.asciiSpaceTab) :
    Calls Tryd.prog 10 #[] w fun e w' => e = .returned (.slice (some ⟨w.heap.size, 0, none⟩) 20 20) ∧ w' = w.alloc (.cells wordsA 9) := by
  have hc := Tryd.strings_Fields ⟨lineL.toArray⟩ w (by decide +kernel) line_ascii ht
  have e1 : (⟨lineL.toArray⟩ : ByteArray).data.toList = lineL := rfl
  rw [e1, line_count, line_fields] at hc
  have HC : Aside0 _ := ⟨hc⟩
  clear hc ht e1
  go_enter Tryd.func10, Tryd.ntmps10
  go_wp2_with (go_at_call 13; refine HC.out.mono ?_; rintro e w' ⟨rfl, rfl⟩)
  go_ret
  exact ⟨rfl, rfl⟩
theorem cell_lt {w : World} {a : Addr} {v : Value} (h : w.cell? a = some v) : a.block < w.heap.size := by
  rcases Nat.lt_or_ge a.block w.heap.size with h' | h'
  · exact h'
  · simp [World.cell?, Array.getElem?_eq_none h'] at h
theorem gTab : Tryd.prog.globalNamed "strings.asciiSpace" = some 0 := by kernel_rfl
theorem tab_below {w w' : World} (h : Lib.TabIs Tryd.prog w "strings.asciiSpace" .u8 Lib.asciiSpaceTab) (hb : Below w.heap.size w w') : Lib.TabIs Tryd.prog w' "strings.asciiSpace" .u8 Lib.asciiSpaceTab :=
  var?_below hb gTab (cell_lt (h.cell gTab 0 (by rw [Lib.asciiSpaceTab_length]; decide))) h
theorem wordAt_in (i : Nat) (hi : i < 20) : wordAt (i : Int) = wordsL.getD i ByteArray.empty := by
  unfold wordAt
  rw [if_pos (by omega)]
  rfl
theorem wordAt_out (n : Int) (hn : n < 0 ∨ 20 ≤ n) : wordAt n = ⟨#[]⟩ := by
  unfold wordAt
  rw [if_neg (by omega)]
theorem words_get (i : Nat) (hi : i < 20) (h : i < (wordsL.map Value.string).length) : (wordsL.map Value.string)[i] = Value.string (wordAt (i : Int)) := by
  rw [List.getElem_map, wordAt_in i hi, List.getD_eq_getElem?_getD, List.getElem?_eq_getElem (show i < wordsL.length from hi)]
  rfl
theorem words_cell (w : World) (i : Nat) (hi : i < 20) : (w.alloc (.cells wordsA 9)).cell? ⟨w.heap.size, i, none⟩ = some (.string (wordAt (i : Int))) := by
  have h1 : (w.alloc (.cells wordsA 9)).cell? ⟨w.heap.size, i, none⟩ = wordsA[i]? := by simp
  rw [h1]
  unfold wordsA
  rw [List.getElem?_toArray, List.getElem?_eq_getElem (show i < (wordsL.map Value.string).length from hi), words_get i hi]
set_option maxHeartbeats 4000000 in
set_option maxRecDepth 100000 in
theorem spec_in (i : Nat) (hi : i < 20) (w : World) :
    Calls Tryd.prog 5 #[.int .i64 (i : Int)] w fun e w' => e = .returned (.string (wordAt i)) ∧ Below w.heap.size w w' := by
  go_enter Tryd.func5, Tryd.ntmps5
  go_wp2
  go_ret
  refine ⟨congrArg Ending.returned (words_get i hi _), below_alloc (Below.refl _ _) _⟩
set_option maxHeartbeats 4000000 in
set_option maxRecDepth 100000 in
theorem spec_out (n : Int) (hn : n < 0 ∨ 20 ≤ n) (w : World) :
    Calls Tryd.prog 5 #[.int .i64 n] w fun e w' => e = .returned (.string ⟨#[]⟩) ∧ Below w.heap.size w w' := by
  go_enter Tryd.func5, Tryd.ntmps5
  go_wp2
  all_goals go_ret
  all_goals exact ⟨rfl, below_alloc (Below.refl _ _) _⟩
theorem spec_walk (n : Int) (w : World) :
    Calls Tryd.prog 5 #[.int .i64 n] w fun e w' => e = .returned (.string (wordAt n)) ∧ Below w.heap.size w w' := by
  by_cases hn : n < 0 ∨ 20 ≤ n
  · rw [wordAt_out n hn]
    exact spec_out n hn w
  · obtain ⟨i, rfl⟩ : ∃ i : Nat, n = (i : Int) := ⟨n.toNat, by omega⟩
    exact spec_in i (by omega) w
set_option maxHeartbeats 4000000 in
theorem isCode_walk (n : Int) (b : Bool) (hb : b = decide (0 ≤ n ∧ n ≤ 19)) (w : World) : Calls Tryd.prog 9 #[.int .i64 n] w fun e w' => e = .returned (.bool b) ∧ w' = w := by
  by_cases h0 : 0 ≤ n
  · have hb1 : decide (n ≤ 19) = b := by rw [hb]; exact decide_eq_decide.2 ⟨fun h => ⟨h0, h⟩, fun h => h.2⟩
    have HB1 : Aside0 _ := ⟨hb1⟩
    clear hb hb1
    go_enter Tryd.func9, Tryd.ntmps9
    go_wp2
    go_ret
    refine ⟨?_, rfl⟩
    rw [← HB1.out]
    rfl
  · have hb1 : b = false := by rw [hb]; exact decide_eq_false (fun h => h0 h.1)
    subst hb1
    have h1 : decide (0 ≤ n) = false := decide_eq_false h0
    clear hb
    go_enter Tryd.func9, Tryd.ntmps9
    go_wp2
    go_ret
    exact ⟨rfl, rfl⟩
set_option maxHeartbeats 4000000 in
set_option maxRecDepth 100000 in
theorem impl_in (i : Nat) (hi : i < 20) (w : World) (ht : Lib.TabIs Tryd.prog w "strings.asciiSpace" .u8 Lib.asciiSpaceTab) :
    Calls Tryd.prog 6 #[.int .i64 (i : Int)] w fun e w' => e = .returned (.string (wordAt i)) ∧ Below w.heap.size w w' := by
  have HW : Aside0 _ := ⟨words_walk w ht⟩
  have hcell := words_cell w i hi
  have HB : Aside0 (Below w.heap.size w (w.alloc (.cells wordsA 9))) := ⟨below_alloc (Below.refl _ _) _⟩
  have hd : decide (0 ≤ (i : Int) ∧ (i : Int) ≤ 19) = true := decide_eq_true (by omega)
  have HI : Aside0 _ := ⟨isCode_walk (i : Int) true hd.symm w⟩
  generalize w.alloc (.cells wordsA 9) = W at HW hcell HB
  clear ht hd
  go_enter Tryd.func6, Tryd.ntmps6
  go_wp2_with (first | (go_at_call 9; refine HI.out.mono ?_; rintro e w1 ⟨rfl, rfl⟩) | (go_at_call 10; refine HW.out.mono ?_; rintro e w2 ⟨rfl, rfl⟩))
  go_ret
  exact ⟨rfl, HB.out⟩
set_option maxHeartbeats 4000000 in
set_option maxRecDepth 100000 in
theorem impl_out (n : Int) (hn : n < 0 ∨ 20 ≤ n) (w : World) :
    Calls Tryd.prog 6 #[.int .i64 n] w fun e w' => e = .returned (.string ⟨#[]⟩) ∧ Below w.heap.size w w' := by
  have hd : decide (0 ≤ n ∧ n ≤ 19) = false := decide_eq_false (by omega)
  have HI : Aside0 _ := ⟨isCode_walk n false hd.symm w⟩
  clear hd
  go_enter Tryd.func6, Tryd.ntmps6
  go_wp2_with (go_at_call 9; refine HI.out.mono ?_; rintro e w1 ⟨rfl, rfl⟩)
  go_ret
  exact ⟨rfl, Below.refl _ _⟩
theorem impl_walk (n : Int) (w : World) (ht : Lib.TabIs Tryd.prog w "strings.asciiSpace" .u8 Lib.asciiSpaceTab) :
    Calls Tryd.prog 6 #[.int .i64 n] w fun e w' => e = .returned (.string (wordAt n)) ∧ Below w.heap.size w w' := by
  by_cases hn : n < 0 ∨ 20 ≤ n
  · rw [wordAt_out n hn]
    exact impl_out n hn w
  · obtain ⟨i, rfl⟩ : ∃ i : Nat, n = (i : Int) := ⟨n.toNat, by omega⟩
    exact impl_in i (by omega) w ht
set_option maxHeartbeats 4000000 in
theorem FnExactCodeWord_walk (n : Int) (w : World) (ht : Lib.TabIs Tryd.prog w "strings.asciiSpace" .u8 Lib.asciiSpaceTab) :
    Calls Tryd.prog 3 #[.int .i64 n] w fun e w' => e = .returned (.bool true) ∧ Below w.heap.size w w' := by
  have HT : Aside0 _ := ⟨ht⟩
  clear ht
  generalize hx : wordAt n = x
  have HX : Aside0 _ := ⟨hx⟩
  clear hx
  go_enter Tryd.func3, Tryd.ntmps3
  go_wp2_with fail
  refine (spec_walk n w).mono ?_
  rintro e w1 ⟨rfl, hb⟩
  have HB : Aside0 _ := ⟨hb⟩
  clear hb
  rw [HX.out]
  go_wp2_with fail
  refine (impl_walk n w1 (tab_below HT.out HB.out)).mono ?_
  rintro e w2 ⟨rfl, hb⟩
  have HB2 : Aside0 (Below w.heap.size w w2) := ⟨HB.out.trans (hb.mono HB.out.size)⟩
  clear hb
  rw [HX.out]
  go_wp2
  go_ret
  exact ⟨rfl, HB2.out⟩
set_option maxHeartbeats 4000000 in
theorem specOf_walk (x : ByteArray) (w : World) : Calls Tryd.prog 7 #[.string x] w fun e w' => e = .returned (.int .i64 (Lib.idxOfS wordsL x)) ∧ Below w.heap.size w w' := by
  go_enter Tryd.func7, Tryd.ntmps7
  go_wp2
  go_loopw [3] (fun v3 wr => ∃ i : Nat, i ≤ 20 ∧ v3 = .int .i64 (i : Int) ∧ Aside0 (Below w.heap.size w wr) ∧ Aside0 (∀ j, j < i → wordsL.getD j ByteArray.empty ≠ x)) (fun v3 _ => 20 - (match v3 with | .int _ n => n.toNat | _ => 0))
  case atStart => exact ⟨0, by decide, rfl, ⟨Below.refl _ _⟩, ⟨fun j hj => absurd hj (by omega)⟩⟩
  case round =>
    obtain ⟨i, hi, rfl, HB, HN⟩ := hrel
    by_cases hlt : i < 20
    · have hd : decide ((i : Int) ≤ 19) = true := decide_eq_true (by omega)
      by_cases he : wordsL.getD i ByteArray.empty = x
      · have HE : Aside0 (Lib.idxOfS wordsL x = (i : Int)) := ⟨by
          have h := Lib.idxFromS_hit x wordsL i 0 hlt he HN.out
          rw [Nat.zero_add] at h
          exact h⟩
        have HX : Aside0 (wordAt (i : Int) = x) := ⟨by rw [wordAt_in i hlt]; exact he⟩
        clear he
        go_wp2_with fail
        refine (spec_walk (i : Int) wr).mono ?_
        rintro e w1 ⟨rfl, hb⟩
        have HB2 : Aside0 (Below w.heap.size w w1) := ⟨HB.out.trans (hb.mono HB.out.size)⟩
        clear hb
        rw [HX.out]
        go_wp2
        go_ret
        exact ⟨by rw [HE.out]; rfl, HB2.out⟩
      · have HX : Aside0 (wordAt (i : Int) ≠ x) := ⟨by rw [wordAt_in i hlt]; exact he⟩
        have HE := Aside0.mk he
        obtain ⟨y, hy⟩ : ∃ y, y = wordAt (i : Int) := ⟨_, rfl⟩
        have HY := Aside0.mk hy
        have hne : (y.toList == x.toList) = false := (Lib.bytes_beq_false_iff y x).2 (by rw [hy]; exact HX.out)
        clear he hy
        go_wp2_with fail
        refine (spec_walk (i : Int) wr).mono ?_
        rintro e w1 ⟨rfl, hb⟩
        have HB2 : Aside0 (Below w.heap.size w w1) := ⟨HB.out.trans (hb.mono HB.out.size)⟩
        clear hb
        rw [← HY.out]
        go_wp2
        refine ⟨⟨i + 1, hlt, rfl, HB2, ⟨fun j hj => ?_⟩⟩, ?_⟩
        · by_cases hji : j < i
          · exact HN.out j hji
          · obtain rfl : j = i := by omega
            exact HE.out
        · show 20 - ((i : Int) + 1).toNat < 20 - (i : Int).toNat
          omega
    · have hd : decide ((i : Int) ≤ 19) = false := decide_eq_false (by omega)
      obtain rfl : i = 20 := by omega
      have HE : Aside0 (Lib.idxOfS wordsL x = -1) := ⟨Lib.idxFromS_miss x wordsL 0 HN.out⟩
      go_wp2
      go_ret
      exact ⟨by rw [HE.out]; rfl, HB.out⟩
set_option maxHeartbeats 4000000 in
theorem implOf_walk (x : ByteArray) (w : World) (ht : Lib.TabIs Tryd.prog w "strings.asciiSpace" .u8 Lib.asciiSpaceTab) : Calls Tryd.prog 8 #[.string x] w fun e w' => e = .returned (.int .i64 (Lib.idxOfS wordsL x)) ∧ Below w.heap.size w w' := by
  have HW : Aside0 _ := ⟨words_walk w ht⟩
  have HI : Aside0 (Calls Tryd.prog 11 #[.slice (some ⟨w.heap.size, 0, none⟩) 20 20, .string x] (w.alloc (.cells wordsA 9)) fun e w' => e = .returned (.int .i64 (Lib.idxOfS wordsL x)) ∧ w' = w.alloc (.cells wordsA 9)) := ⟨by
    have h := Tryd.slices_Index_string w.heap.size 0 20 20 wordsL x (w.alloc (.cells wordsA 9)) (by decide) (by decide) (fun j hj => by rw [Nat.zero_add, words_cell w j hj, wordAt_in j hj])
    exact h⟩
  have HB : Aside0 (Below w.heap.size w (w.alloc (.cells wordsA 9))) := ⟨below_alloc (Below.refl _ _) _⟩
  generalize w.alloc (.cells wordsA 9) = W at HW HI HB
  clear ht
  go_enter Tryd.func8, Tryd.ntmps8
  go_wp2_with (first | (go_at_call 10; refine HW.out.mono ?_; rintro e w2 ⟨rfl, rfl⟩) | (go_at_call 11; refine HI.out.mono ?_; rintro e w1 ⟨rfl, rfl⟩))
  go_ret
  exact ⟨rfl, HB.out⟩
set_option maxHeartbeats 4000000 in
theorem FnExactCodeOf_walk (x : ByteArray) (w : World) (ht : Lib.TabIs Tryd.prog w "strings.asciiSpace" .u8 Lib.asciiSpaceTab) :
    Calls Tryd.prog 4 #[.string x] w fun e w' => e = .returned (.bool true) ∧ Below w.heap.size w w' := by
  have HT : Aside0 _ := ⟨ht⟩
  clear ht
  by_cases hl : 1048576 < x.size
  · have d1 : decide (1048576 < (x.size : Int)) = true := decide_eq_true (by omega)
    have d2 : decide (1048576 < x.size) = true := decide_eq_true hl
    clear hl
    go_enter Tryd.func4, Tryd.ntmps4
    go_wp2
    go_ret
    exact ⟨rfl, Below.refl _ _⟩
  have d1 : decide (1048576 < (x.size : Int)) = false := decide_eq_false (by omega)
  have d2 : decide (1048576 < x.size) = false := decide_eq_false hl
  clear hl
  obtain ⟨k, hk⟩ : ∃ k, k = Lib.idxOfS wordsL x := ⟨_, rfl⟩
  have HK := Aside0.mk hk
  clear hk
  go_enter Tryd.func4, Tryd.ntmps4
  go_wp2_with fail
  refine (specOf_walk x w).mono ?_
  rintro e w1 ⟨rfl, hb⟩
  have HB : Aside0 _ := ⟨hb⟩
  clear hb
  rw [← HK.out]
  go_wp2_with fail
  refine (implOf_walk x w1 (tab_below HT.out HB.out)).mono ?_
  rintro e w2 ⟨rfl, hb⟩
  have HB2 : Aside0 (Below w.heap.size w w2) := ⟨HB.out.trans (hb.mono HB.out.size)⟩
  clear hb
  rw [← HK.out]
  go_wp2
  go_ret
  exact ⟨rfl, HB2.out⟩
end Go.Proofs.YtbpefnfeiidioaaDoor

/- Laid by a program of this session: of Pm17 what this law uses. -/
import Derived.Test.YtfbggdlidelliaaZCdPm0
import Derived.Test.YtfbggdlidelliaaZCdPm11
namespace Go.Proofs.Ytfbggdlidelliaa.P
open Go.RowKit Go.Proofs.YtfbggdlidelliaaW.PrintWords Go.Proofs.YtfbggdlidelliaaW.PrintLast Go.Proofs.YtfbggdlidelliaaW.PrintMore
attribute [local go_sem] min2_int min_two
set_option linter.unusedVariables false
set_option linter.unusedSimpArgs false
theorem isLong_byte_1.calls (A : Option Addr) (n c : Nat) (w : World) : Calls Try.prog 88 #[.slice A n c] w fun e w' => e = .returned (.bool (decide (65536 < (n : Int)))) ∧ w = w' := by
  go_enter Try.func88, Try.ntmps88
  go_wp2
  go_ret
  exact ⟨rfl, rfl⟩
def isLong_byte_idx (l0 : List (List Int)) (w : World) (e : Ending) (w' : World) : Prop :=
  ∃ i : Int, e = .returned (.int .i64 i) ∧ decide (0 ≤ i) = (l0.any fun t => decide (65536 < (t.length : Int))) ∧ w = w'
theorem isLong_byte_at {w : World} {A0 : Option Addr} {l0 : List (List Int)} (hr0 : Kd.C (Kd.slice 5 (Kd.int .u8)) w A0 l0.length l0) (k : Nat) (hk : k < l0.length) :
    ∃ ad A c, A0 = some ad ∧ w.cell? (ad.add k) = some (.slice A l0[k].length c) := by
  obtain ⟨ad, c, rfl, _, ⟨A, cap, hc, _⟩, hw⟩ := Kd.C_get hr0 ([] : List Int) (k : Int) (by omega) (by omega)
  refine ⟨ad, A, cap, rfl, ?_⟩
  subst hc
  have := hw 0 _ rfl
  simpa [Kd.slice, List.getD_eq_getElem?_getD, hk] using this
theorem IndexFunc_byte.calls (A0 : Option Addr) (c0 : Nat) (l0 : List (List Int)) (w : World) (hr0 : Kd.C (Kd.slice 5 (Kd.int .u8)) w A0 l0.length l0) :
    Calls Try.prog 105 #[.slice A0 l0.length c0, .func (.func 88) #[] #[]] w (isLong_byte_idx l0 w) := by
  have HR0 := Aside0.mk hr0
  clear hr0
  have hm : l0.length ≤ 9223372036854775807 := HR0.out.2.1
  go_enter Try.func105, Try.ntmps105
  go_wp2
  go_loop [8] (fun i => ∃ k : Nat, k ≤ l0.length ∧ i = .int .i64 k ∧ Aside0 (∀ j (hj : j < l0.length), j < k → ¬ 65536 < l0[j].length)) (fun i => l0.length - (intOf i).toNat)
  case atStart => exact ⟨0, Nat.zero_le _, rfl, ⟨fun _ _ h => absurd h (by omega)⟩⟩
  case round =>
    obtain ⟨k, hk, rfl, HA⟩ := hrel
    by_cases hlt : k < l0.length
    · obtain ⟨ad, A, c, had, hcell⟩ := isLong_byte_at HR0.out k hlt
      subst had
      by_cases hbig : 65536 < l0[k].length
      · have HF : Aside0 (isLong_byte_idx l0 w (.returned (.int .i64 (k : Int))) w) := ⟨⟨k, rfl, by
          rw [show decide ((0 : Int) ≤ (k : Int)) = true from decide_eq_true (by omega)]
          exact (List.any_eq_true.2 ⟨l0[k], List.getElem_mem hlt, by simp; omega⟩).symm, rfl⟩⟩
        have hd : decide (65536 < (l0[k].length : Int)) = true := decide_eq_true (by omega)
        go_wp2_with (go_at_call 88; refine (isLong_byte_1.calls _ _ _ _).mono ?_; rintro e w' ⟨rfl, rfl⟩)
        go_ret
        exact HF.out
      · have hd : decide (65536 < (l0[k].length : Int)) = false := decide_eq_false (by omega)
        have HA1 : Aside0 (∀ j (hj : j < l0.length), j < k + 1 → ¬ 65536 < l0[j].length) := ⟨fun j hj hjk => by
          rcases Nat.lt_or_ge j k with h | h
          · exact HA.out j hj h
          · obtain rfl : j = k := by omega
            exact hbig⟩
        go_wp2_with (go_at_call 88; refine (isLong_byte_1.calls _ _ _ _).mono ?_; rintro e w' ⟨rfl, rfl⟩)
        go_round
        case rel => exact ⟨k + 1, by omega, by go_num, HA1⟩
        case measure => simp [intOf]; omega
    · have HF : Aside0 (isLong_byte_idx l0 w (.returned (.int .i64 (-1))) w) := ⟨⟨-1, rfl, by
        rw [show decide ((0 : Int) ≤ -1) = false from rfl]
        refine (List.any_eq_false.2 fun x hx => ?_).symm
        obtain ⟨j, hj, rfl⟩ := List.mem_iff_getElem.1 hx
        have := HA.out j hj (by omega)
        simp; omega, rfl⟩⟩
      go_wp2
      go_ret
      exact HF.out
theorem ContainsFunc_byte.calls (A0 : Option Addr) (c0 : Nat) (l0 : List (List Int)) (w : World) (hr0 : Kd.C (Kd.slice 5 (Kd.int .u8)) w A0 l0.length l0) :
    Calls Try.prog 87 #[.slice A0 l0.length c0, .func (.func 88) #[] #[]] w fun e w' => e = .returned (.bool (l0.any fun t => decide (65536 < (t.length : Int)))) ∧ w = w' := by
  go_enter Try.func87, Try.ntmps87
  go_wp2_with (go_at_call 105; refine (IndexFunc_byte.calls _ _ _ _ hr0).mono ?_; rintro e w' ⟨i, rfl, hi, rfl⟩)
  go_ret
  exact ⟨by rw [← hi]; simp, rfl⟩
def impl_isLong_byte.f (l0 : List (List Int)) : Option (Bool) := some (l0.any fun t => decide (65536 < (t.length : Int)))
theorem impl_isLong_byte.calls (A0 : Option Addr) (c0 : Nat) (l0 : List (List Int)) (r : Bool) (w : World) (hr0 : Kd.C (Kd.slice 5 (Kd.int .u8)) w A0 l0.length l0) (hc0 : l0.length ≤ c0) (h : impl_isLong_byte.f l0 = some r) :
    Calls Try.prog 54 #[.slice A0 l0.length c0] w fun e w' => e = .returned (.bool r) ∧ Drawn0 w w' := by
  unfold impl_isLong_byte.f at h
  injection h with h
  have H := Aside0.mk h
  clear h
  go_enter Try.func54, Try.ntmps54
  go_wp2_with (go_at_call 87; refine (ContainsFunc_byte.calls _ _ _ _ hr0).mono ?_; rintro e w' ⟨rfl, rfl⟩)
  go_ret
  exact ⟨by rw [← H.out]; rfl, Drawn0.refl _⟩
theorem C_one_slice {W : World} {g : Nat} {A : Option Addr} {n c : Nat} {xs : List Int} {T : TypeId} {fr : Nat × Nat} (h : W.heap[g]? = some (.cells #[.slice A n c] T fr)) (hn : xs.length = n) (hc : n ≤ c) (hC : Kd.C (Kd.int .u8) W A xs.length xs) :
    Kd.C (Kd.slice 5 (Kd.int .u8)) W (some ⟨g, 0, none⟩) 1 [xs] := by
  subst hn
  refine ⟨rfl, by decide, fun _ => ⟨⟨g, 0, none⟩, rfl, fun j p hj => ?_⟩⟩
  match j, hj with
  | 0, hj =>
    obtain rfl : xs = p := by simpa using hj
    refine ⟨[.slice A xs.length c], rfl, ⟨A, c, rfl, hc, hC⟩, fun i u hu => ?_⟩
    match i, hu with
    | 0, hu =>
      obtain rfl : Value.slice A xs.length c = u := by simpa using hu
      simp [World.cell?, Addr.add, h]
def bytes_Equal.f (l0 : List Int) (l1 : List Int) : Option (Bool) := some ((strOfNums l0).toList == (strOfNums l1).toList)
set_option maxHeartbeats 8000000 in
set_option maxRecDepth 100000 in
theorem bytes_Equal.calls (A0 : Option Addr) (c0 : Nat) (l0 : List Int) (A1 : Option Addr) (c1 : Nat) (l1 : List Int) (r : Bool) (w : World) (hr0 : Kd.C (Kd.int .u8) w A0 l0.length l0) (hc0 : l0.length ≤ c0) (hr1 : Kd.C (Kd.int .u8) w A1 l1.length l1) (hc1 : l1.length ≤ c1) (h : bytes_Equal.f l0 l1 = some r) :
    Calls Try.prog 95 #[.slice A0 l0.length c0, .slice A1 l1.length c1] w fun e w' => e = .returned (.bool r) ∧ Drawn0 w w' := by
  have HR0 := Aside0.mk hr0
  have HC0 := Aside0.mk hc0
  clear hr0 hc0
  have HR1 := Aside0.mk hr1
  have HC1 := Aside0.mk hc1
  clear hr1 hc1
  have H : (some ((strOfNums l0).toList == (strOfNums l1).toList)) = some r := h
  clear h
  obtain rfl := Option.some.inj H
  have hcv3 := Kd.C_string (P := Try.prog) (A := A0) (c := c0) Try.underlying28 Try.underlying5 Try.underlying9 HR0.out
  have hcv4 := Kd.C_string (P := Try.prog) (A := A1) (c := c1) Try.underlying28 Try.underlying5 Try.underlying9 HR1.out
  go_enter Try.func95, Try.ntmps95
  go_wp2
  go_ret
  exact ⟨by first | rfl | (simp; done) | (simp [*]; done), by repeat (first | exact Drawn0.refl _ | apply Drawn0.step)⟩
def unpadPost (l0 : List Int) (w : World) (e : Ending) (w' : World) : Prop :=
  Below w.heap.size w w' ∧ ((unpadL l0 = none ∧ e = .returned (.tuple #[.slice none 0 0, .bool false])) ∨
    ∃ (r : List Int) (A : Option Addr) (c : Nat), unpadL l0 = some r ∧ e = .returned (.tuple #[.slice A r.length c, .bool true]) ∧ r.length ≤ c ∧ Kd.C (Kd.int .u8) w' A r.length r)
set_option maxHeartbeats 4000000 in
set_option maxRecDepth 100000 in
theorem unpadded_short (A0 : Option Addr) (c0 : Nat) (l0 : List Int) (w : World) (h : l0.length = 0) :
    Calls Try.prog 63 #[.slice A0 l0.length c0] w (unpadPost l0 w) := by
  have HB := Aside0.mk (Below.refl w.heap.size w)
  have HN : Aside0 (unpadL l0 = none) := ⟨by unfold unpadL; rw [if_pos h]⟩
  have h0 : ((l0.length : Int) == 0) = true := by rw [h]; rfl
  clear h
  go_enter Try.func63, Try.ntmps63
  go_wp2
  go_ret2
  exact ⟨HB.out, .inl ⟨HN.out, rfl⟩⟩
set_option maxHeartbeats 4000000 in
set_option maxRecDepth 100000 in
theorem unpadded_long (ad : Addr) (c0 : Nat) (l0 : List Int) (q : Nat) (w : World) (hr0 : Kd.C (Kd.int .u8) w (some ad) l0.length l0) (hc0 : l0.length ≤ c0) (hl : l0.length < 140737488355000) (h0 : 0 < l0.length) (hn : rd l0 ((l0.length : Int) - 1) = (q : Int)) (hq : q ≤ 255)
    (hcell : w.cell? (ad.add (l0.length - 1)) = some (.int .u8 (q : Int))) :
    Calls Try.prog 63 #[.slice (some ad) l0.length c0] w (unpadPost l0 w) := by
  have HR0 := Aside0.mk hr0
  have HC0 := Aside0.mk hc0
  have HN : Aside0 (unpadL l0 = if l0.length < q then none else if ((strOfNums (padL (l0.take (l0.length - q)))).toList == (strOfNums l0).toList) = true then some (l0.take (l0.length - q)) else none) := ⟨by
    unfold unpadL
    rw [if_neg (by omega), hn]
    rfl⟩
  have HB := Aside0.mk (Below.refl w.heap.size w)
  have hz : ((l0.length : Int) == 0) = false := beq_eq_false_iff_ne.2 (by omega)
  have e1 : ((l0.length : Int) - 1).toNat = l0.length - 1 := by omega
  by_cases hgt : l0.length < q
  · clear hr0 hn
    have d1 : decide ((q : Int) > (l0.length : Int)) = true := decide_eq_true (by omega)
    have dn : decide (l0.length < q) = true := decide_eq_true hgt
    have HN1 : Aside0 (unpadL l0 = none) := ⟨by rw [HN.out, if_pos hgt]⟩
    go_enter Try.func63, Try.ntmps63
    go_wp2
    go_ret2
    exact ⟨HB.out, .inl ⟨HN1.out, rfl⟩⟩
  · have d1 : decide ((q : Int) > (l0.length : Int)) = false := decide_eq_false (by omega)
    have dn : decide (l0.length < q) = false := decide_eq_false hgt
    obtain ⟨t, ht⟩ : ∃ t, t = l0.take (l0.length - q) := ⟨_, rfl⟩
    have tl : t.length = l0.length - q := by rw [ht, List.length_take]; omega
    have es : ((l0.length : Int) - (q : Int)).toNat = t.length := by omega
    have s0 : (0 : Int) ≤ (l0.length : Int) - (q : Int) := by omega
    have s1 : (l0.length : Int) - (q : Int) ≤ (c0 : Int) := by omega
    have HT : Aside0 (Kd.C (Kd.int .u8) w (some ad) t.length t) := ⟨by
      have := Kd.C_take (m := l0.length - q) hr0 (by omega)
      rw [← ht] at this
      exact this⟩
    have HTC : Aside0 (t.length ≤ c0) := ⟨by omega⟩
    have HP : Aside0 (impl_padded.f t = some (padL t)) := ⟨by unfold impl_padded.f; rw [if_pos (by omega)]⟩
    have HE : Aside0 (bytes_Equal.f (padL t) l0 = some ((strOfNums (padL t)).toList == (strOfNums l0).toList)) := ⟨rfl⟩
    have HN1 : Aside0 (unpadL l0 = if ((strOfNums (padL t)).toList == (strOfNums l0).toList) = true then some t else none) := ⟨by rw [HN.out, if_neg hgt, ← ht]⟩
    generalize ((strOfNums (padL t)).toList == (strOfNums l0).toList) = b at HE HN1
    clear ht hr0 hn hgt hc0
    go_enter Try.func63, Try.ntmps63
    have TL := Aside0.mk tl
    clear tl
    go_wp2_with fail
    (first | rw [← TL.out] | skip)
    refine (impl_padded.calls (some ad) c0 t _ _ HT.out HTC.out HP.out).mono ?_
    rintro e w' ⟨v0, rfl, hR, hb⟩
    obtain ⟨A, c, rfl, hlc, hC⟩ := Kd.R_reads hR
    have HC := Aside0.mk hC
    have HLC := Aside0.mk hlc
    have HB1 := Aside0.mk hb
    have HR1 := Aside0.mk (Kd.C_below HR0.out hb)
    have HT1 := Aside0.mk (Kd.C_below HT.out hb)
    clear hR hb hC hlc
    go_wp2_with fail
    refine (bytes_Equal.calls _ _ _ _ _ _ _ _ HC.out HLC.out HR1.out HC0.out HE.out).mono ?_
    rintro e w2 ⟨rfl, hd⟩
    have HB2 := Aside0.mk (below_then HB1.out HB1.out.size hd.below)
    have HT2 := Aside0.mk (Kd.C_below HT1.out hd.below)
    clear hd
    cases b with
    | true =>
      go_wp2
      go_ret2
      exact ⟨HB2.out, .inr ⟨t, _, _, HN1.out, rfl, HTC.out, HT2.out⟩⟩
    | false =>
      go_wp2
      go_ret2
      exact ⟨HB2.out, .inl ⟨HN1.out, rfl⟩⟩
theorem unpadded_calls (A0 : Option Addr) (c0 : Nat) (l0 : List Int) (w : World) (hr0 : Kd.C (Kd.int .u8) w A0 l0.length l0) (hc0 : l0.length ≤ c0) (hl : l0.length < 140737488355000) (hu : ∀ x ∈ l0, 0 ≤ x ∧ x ≤ 255) :
    Calls Try.prog 63 #[.slice A0 l0.length c0] w (unpadPost l0 w) := by
  rcases Nat.eq_zero_or_pos l0.length with h0 | h0
  · exact unpadded_short A0 c0 l0 w h0
  · obtain ⟨ad, c, rfl, hs, hk, hcell⟩ := Kd.C_get hr0 0 ((l0.length - 1 : Nat) : Int) (by omega) (by omega)
    have e2 : l0.getD (l0.length - 1) 0 = l0[l0.length - 1] := by
      rw [List.getD_eq_getElem?_getD, List.getElem?_eq_getElem (by omega)]; rfl
    rw [Int.toNat_natCast, e2] at hk
    rw [Int.toNat_natCast] at hcell
    obtain ⟨u0, u1⟩ := hu _ (List.getElem_mem (l := l0) (n := l0.length - 1) (by omega))
    have e3 : rd l0 ((l0.length : Int) - 1) = l0[l0.length - 1] := by
      have : (l0.length : Int) - 1 = ((l0.length - 1 : Nat) : Int) := by omega
      rw [this]
      unfold rd
      rw [Int.toNat_natCast]
      exact e2
    have hc : c = [Value.int .u8 l0[l0.length - 1]] := hk
    rw [hc] at hcell
    have h1 := hcell 0 _ rfl
    have h2 : (l0.length - 1) * (Kd.int IntKind.u8).sz + 0 = l0.length - 1 := by show (l0.length - 1) * 1 + 0 = _; omega
    rw [h2] at h1
    refine unpadded_long ad c0 l0 (l0[l0.length - 1]).toNat w hr0 hc0 hl h0 (by rw [e3]; omega) (by omega) ?_
    rw [Int.toNat_of_nonneg u0]
    exact h1
def bytes_Clone.f (l0 : List Int) : Option (List Int) := if l0.length < 140737488355328 then some l0 else none
set_option maxHeartbeats 4000000 in
set_option maxRecDepth 100000 in
theorem bytes_Clone.calls (A0 : Option Addr) (c0 : Nat) (l0 : List Int) (r : List Int) (w : World) (hr0 : Kd.C (Kd.int .u8) w A0 l0.length l0) (hc0 : l0.length ≤ c0) (h : bytes_Clone.f l0 = some r) :
    Calls Try.prog 64 #[.slice A0 l0.length c0] w fun e w' => ∃ v0_ : Value, e = .returned (v0_) ∧ Kd.R (Kd.int .u8) 5 w' w.heap.size (fun _ => True) v0_ r ∧ Below w.heap.size w w' := by
  have HR0 := Aside0.mk hr0
  have HC0 := Aside0.mk hc0
  have HB := Aside0.mk (Below.refl w.heap.size w)
  unfold bytes_Clone.f at h
  by_cases c2 : l0.length < 140737488355328
  · rw [if_pos c2] at h
    injection h with h
    subst h
    have LMc2 := Aside0.mk c2
    clear c2
    have q22 : ∀ (w : World) (a : Option Addr) (n c n' c' : Nat), (binOp .eql 28 (.slice a n c) (.slice none n' c')).run Try.prog w = .ok (.bool a.isNone) w := fun w a n c n' c' => Lib.run_eql_slice_nil w _ _ a n c n' c' Try.underlying28
    cases A0 with
    | none =>
      have h0 : l0 = [] := by
        rcases Nat.eq_zero_or_pos l0.length with e | e
        · exact List.eq_nil_of_length_eq_zero e
        · obtain ⟨ad, e1, _⟩ := hr0.2.2 e
          cases e1
      subst h0
      clear hr0 hc0
      go_enter Try.func64, Try.ntmps64
      go_wp2
      go_ret
      exact ⟨_, rfl, Kd.R_nil _ _ _ _ _, HB.out⟩
    | some ad =>
      clear hr0 hc0
      obtain ⟨y101, hy101⟩ : ∃ y_ : List Int, y_ = (([] : List Int)) := ⟨_, rfl⟩
      have Ny101 := Aside0.mk hy101
      obtain ⟨y104, hy104⟩ : ∃ y_ : List Int, y_ = (y101 ++ l0) := ⟨_, rfl⟩
      have Ny104 := Aside0.mk hy104
      clear hy101 hy104
      go_enter Try.func64, Try.ntmps64
      go_wp2_with (first | ((with_reducible refine gate_dst (N := 5) rfl ?_); refine Kd.R_lit (Kd.int .u8) _ 5 ?hg (N := 5) ?hd (xs := ([] : List Int)) (inner := []) (ok := fun _ => True) (okp := fun _ => True) ?hr ?hp (fun _ hk => hk) trivial (Below.refl _ _) (Nat.le_refl _) (by simp) ?_; (case hd => rfl); (case hg => rfl); (case hr => first | (go_simp; done) | (go_simp; rfl)); (case hp => exact (Reps.none _ _)); intro v102 w3 ho4 hb hg_ hnew_; clear hg_ hnew_; (first | rw [← Ny101.out] at ho4 | (simp only [Int.reduceToNat] at ho4; rw [← Ny101.out] at ho4)); have n0_ := Aside0.mk (Kd.R_lower ho4 (below_size HB.out)); have n1_ := Aside0.mk (below_step HB.out hb); clear HB; have HO103 := n0_; have HB := n1_; clear n0_ n1_; clear hb ho4) | ((with_reducible refine gate_builtin (b := .append) (xs := #[.tmp 5, .tmp 6]) rfl ?_); at_builtin; refine Kd.R_append_rows (Kd.int .u8) (w0 := w) w.heap.size rfl (.tmp 5) (.tmp 6) 28 5 (.int .u8 0) 1 rfl Try.underlying28 info5 rfl (by decide) (by omega) v102 y101 l0 _ _ _ (fun _ => True) (fun _ => False) rfl rfl ?aO ?aR (fun _ _ h => h) (fun _ h => h.elim) ?aF ?aB ?aS ?aL ?_; (case aR => exact (Kd.C_below HR0.out HB.out)); (case aB => exact HB.out); (case aF => exact (fun _ _ => trivial)); (case aO => exact HO103.out); (case aS => exact (below_size HB.out)); (case aL => have := LMc2.out; have e := Ny101.out; subst e; simp; omega); intro v105 w5 ho hb hg hat; rw [← Ny104.out] at ho; have n0_ := Aside0.mk (hb); have n1_ := Aside0.mk (ho); clear HB; clear HO103; have HB := n0_; have HO106 := n1_; clear n0_ n1_; clear ho hb hg hat))
      go_ret
      have e1 := Ny104.out
      have e2 := Ny101.out
      subst e2
      simp only [List.nil_append] at e1
      subst e1
      exact ⟨_, rfl, HO106.out, HB.out⟩
  · rw [if_neg c2] at h
    exact absurd h (by simp)
end Go.Proofs.Ytfbggdlidelliaa.P

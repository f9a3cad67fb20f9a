/- Laid by a program of this session: of Pm11 what this law uses. -/
import Derived.Test.YtfbggdlidelliaaZMoM11
namespace Go.Proofs.Ytfbggdlidelliaa.P
open Go.RowKit Go.Proofs.YtfbggdlidelliaaW.PrintWords Go.Proofs.YtfbggdlidelliaaW.PrintLast Go.Proofs.YtfbggdlidelliaaW.PrintMore
attribute [local go_sem] min2_int min_two
set_option linter.unusedVariables false
set_option linter.unusedSimpArgs false
def KpB (Bs Bn : Nat) (W W' : World) : Prop := ∀ a : Addr, a.block = Bs ∨ a.block = Bn → W'.cell? a = W.cell? a
theorem KpB.refl (Bs Bn : Nat) (W : World) : KpB Bs Bn W W := fun _ _ => rfl
theorem KpB.trans {Bs Bn : Nat} {A B C : World} (h : KpB Bs Bn A B) (k : KpB Bs Bn B C) : KpB Bs Bn A C := fun a ha => (k a ha).trans (h a ha)
theorem KpB.put {Bs Bn b : Nat} (hs : Bs < b) (hn : Bn < b) (W : World) (l : Nat) (o o' : Obj) (hl : b ≤ l) (_ : W.heap[l]? = some o) (_ : o.isCells = false) (_ : o.isWalk = false) : KpB Bs Bn W (W.putObj l o') := fun a ha => by
  have hne : a.block ≠ l := by omega
  exact World.cell?_of_block (World.putObj_heap_other hne)
section
attribute [local go_sem] Oper.semAt_some
set_option maxRecDepth 100000 in
set_option maxHeartbeats 2000000 in
theorem chunk1_in (F : Fence) (n : Nat) (hF : F.fn 89) (hro : F.round = none) (hn : 1 ≤ n) (l Bs Bn : Nat) (ad : Addr) (q m c : Nat) (hq : 0 < q) (hc : q * m ≤ c) (hreach : q * m ≤ 140737488355328) (J Jx : List (Fin m) → World → Prop) (hJd : ∀ s V, J s V → J s V.drew)
    (hY : ∀ pre x W, J pre W → pre.length < m → YieldAt F (n - 1) Try.prog l #[.slice (some (ad.add (q * x.1))) q q] W fun e W' =>
      (e = .returned (.bool true) ∧ J (pre ++ [x]) W' ∧ KpB Bs Bn W W') ∨ (e = .returned (.bool false) ∧ Jx (pre ++ [x]) W'))
    (W : World) (hBs : W.cell? ⟨Bs, 0, none⟩ = some (.slice (some ad) (q * m) c)) (hBn : W.cell? ⟨Bn, 0, none⟩ = some (.int .i64 (q : Int))) (h0 : J [] W) :
    CallsIn F n Try.prog 89 #[.func (.yield l) #[] #[], .pointer (some ⟨Bs, 0, none⟩), .pointer (some ⟨Bn, 0, none⟩)] W fun e W' => (∃ v, e = .returned v) ∧
      ((∃ ys : List (Fin m), ys.map (·.1) = List.range m ∧ J ys W') ∨ (∃ pre : List (Fin m), (∃ k, k ≤ m ∧ pre.map (·.1) = List.range k) ∧ Jx pre W')) := by
  refine callsIn_of_wp Try.func89 rfl hF ?_ hro
  simp only [Try.ntmps89, List.size_toArray, List.length_cons, List.length_nil, Nat.reduceAdd, Nat.reduceSub, Array.replicate_succ, Array.replicate_zero, List.push_toArray, List.append_toArray, List.nil_append, List.cons_append]
  obtain ⟨L, hL⟩ : ∃ L, L = q * m := ⟨_, rfl⟩
  rw [← hL] at hBs hc hreach
  have HL := Aside0.mk hL
  clear hL
  have HBs := Aside0.mk hBs
  have HBn := Aside0.mk hBn
  clear hBs hBn
  gi_wp2
  gi_loopw [4] (fun i wr => ∃ (k j : Nat) (pre : List (Fin m)), k ≤ m ∧ i = .int .i64 (j : Int) ∧ Aside0 (j = q * k) ∧ Aside0 (pre.map (·.1) = List.range k) ∧ J pre wr ∧ Aside0 (KpB Bs Bn W wr)) (fun i _ => L - (intOf i).toNat)
  case atStart => exact ⟨0, 0, [], Nat.zero_le _, rfl, ⟨by simp⟩, ⟨rfl⟩, h0, ⟨KpB.refl _ _ _⟩⟩
  case round =>
    obtain ⟨k, j, pre, hk, rfl, hj, hpre, hJs, hnx⟩ := hrel
    have cS : wr.cell? ⟨Bs, 0, none⟩ = some (.slice (some ad) L c) := (hnx.out _ (.inl rfl)).trans HBs.out
    have cN : wr.cell? ⟨Bn, 0, none⟩ = some (.int .i64 (q : Int)) := (hnx.out _ (.inr rfl)).trans HBn.out
    have j0 : (0 : Int) ≤ (j : Int) := Int.natCast_nonneg j
    have q0 : (0 : Int) < (q : Int) := by omega
    by_cases hlt : k < m
    · have hjq : j + q ≤ L := by
        rw [hj.out, HL.out, ← Nat.mul_succ]
        exact Nat.mul_le_mul_left q hlt
      obtain ⟨fn, tmps, assign, body, hy, hR⟩ := hY pre ⟨k, hlt⟩ wr.drew (hJd _ _ hJs) (by rw [← List.length_map (f := fun x : Fin m => x.1), hpre.out, List.length_range]; exact hlt)
      have hy2 : (Instr.yield l #[.slice (some (ad.add j)) q q]).run Try.prog wr.drew = .ok (.round l fn tmps assign body) wr.drew := by rw [hj.out]; exact hy
      clear hy
      have hd : decide ((j : Int) < (L : Int)) = true := decide_eq_true (by omega)
      have hd2 : decide (j < L) = true := decide_eq_true (by omega)
      gi_wp2
      gi_region
      all_goals gi_wp2
      all_goals
        refine hR.mono ?_
        rintro e W3 (⟨rfl, hJ3, hk3⟩ | ⟨rfl, hJx3⟩)
        · have cN3 : W3.cell? ⟨Bn, 0, none⟩ = some (.int .i64 (q : Int)) := (hk3 _ (.inr rfl)).trans cN
          gi_wp2
          go_roundw
          case rel =>
            refine ⟨k + 1, j + q, pre ++ [⟨k, hlt⟩], by omega, by go_num, ⟨by rw [hj.out, Nat.mul_succ]⟩, ⟨by rw [List.range_succ, List.map_append, hpre.out]; rfl⟩, hJ3, ⟨hnx.out.trans hk3⟩⟩
          case measure => simp [intOf]; omega
        · gi_wp2
          refine bodyPost_ret (results_none rfl _ _ _) rfl ?_
          exact ⟨⟨_, rfl⟩, .inr ⟨_, ⟨k + 1, by omega, by rw [List.range_succ, List.map_append, hpre.out]; rfl⟩, hJx3⟩⟩
    · obtain rfl : k = m := by omega
      have e1 : j = L := by rw [hj.out, HL.out]
      have hd : decide ((j : Int) < (L : Int)) = false := decide_eq_false (by omega)
      have hd2 : decide (j < L) = false := decide_eq_false (by omega)
      clear e1
      gi_wp2
      go_end0
      exact ⟨⟨_, rfl⟩, .inl ⟨_, hpre.out, hJs⟩⟩
set_option maxRecDepth 100000 in
set_option maxHeartbeats 1000000 in
theorem chunk1_nil_in (F : Fence) (n : Nat) (hF : F.fn 89) (hro : F.round = none) (l Bs Bn : Nat) {α : Type} (A0 : Option Addr) (c : Nat) (J : List α → World → Prop) (W : World) (hBs : W.cell? ⟨Bs, 0, none⟩ = some (.slice A0 0 c)) (h0 : J [] W) :
    CallsIn F n Try.prog 89 #[.func (.yield l) #[] #[], .pointer (some ⟨Bs, 0, none⟩), .pointer (some ⟨Bn, 0, none⟩)] W fun e W' => (∃ v, e = .returned v) ∧ J [] W' := by
  refine callsIn_of_wp Try.func89 rfl hF ?_ hro
  simp only [Try.ntmps89, List.size_toArray, List.length_cons, List.length_nil, Nat.reduceAdd, Nat.reduceSub, Array.replicate_succ, Array.replicate_zero, List.push_toArray, List.append_toArray, List.nil_append, List.cons_append]
  have HBs := Aside0.mk hBs
  clear hBs
  gi_wp2
  gi_loopw [4] (fun i wr => i = .int .i64 0 ∧ J [] wr ∧ Aside0 (wr.cell? ⟨Bs, 0, none⟩ = some (.slice A0 0 c))) (fun _ _ => 0)
  case atStart => exact ⟨rfl, h0, HBs⟩
  case round =>
    obtain ⟨rfl, hJs, hcs⟩ := hrel
    have hB := hcs.out
    gi_wp2
    go_end0
    exact ⟨⟨_, rfl⟩, hJs⟩
end
theorem chunk_stops (F : Fence) (n : Nat) (hF : F.fn 89) (hro : F.round = none) (hn : 1 ≤ n) (Bs Bn : Nat) (ad : Addr) (q m c : Nat) (hq : 0 < q) (hc : q * m ≤ c) (hreach : q * m ≤ 140737488355328) (w : World) (hs : Bs < w.heap.size) (hb : Bn < w.heap.size)
    (hBs : w.cell? ⟨Bs, 0, none⟩ = some (.slice (some ad) (q * m) c)) (hBn : w.cell? ⟨Bn, 0, none⟩ = some (.int .i64 (q : Int))) :
    SeqStopsK F n Try.prog 89 #[.pointer (some ⟨Bs, 0, none⟩), .pointer (some ⟨Bn, 0, none⟩)] (fun x : Fin m => #[Value.slice (some (ad.add (q * x.1))) q q]) (KpB Bs Bn) (fun ys => ys.map (·.1) = List.range m) (fun pre => ∃ k, k ≤ m ∧ pre.map (·.1) = List.range k) m w := fun l J Jx W hW hJ _ hY h0 =>
  chunk1_in F n hF hro hn l Bs Bn ad q m c hq hc hreach J Jx (fun s V hV => hJ s V V.drew none hV ⟨rfl, rfl, rfl, Nat.le_refl _, fun _ _ _ => rfl⟩ (fun r e => by cases e)) hY W ((hW.cell (p := ⟨Bs, 0, none⟩) hs).trans hBs) ((hW.cell (p := ⟨Bn, 0, none⟩) hb).trans hBn) h0
theorem chunk_stops_nil (F : Fence) (n : Nat) (hF : F.fn 89) (hro : F.round = none) (Bs Bn : Nat) (A0 : Option Addr) (q c : Nat) (encs : Fin 0 → Array Value) (w : World) (hs : Bs < w.heap.size)
    (hBs : w.cell? ⟨Bs, 0, none⟩ = some (.slice A0 0 c)) :
    SeqStopsK F n Try.prog 89 #[.pointer (some ⟨Bs, 0, none⟩), .pointer (some ⟨Bn, 0, none⟩)] encs (KpB Bs Bn) (fun ys => ys.map (·.1) = List.range 0) (fun pre => ∃ k, k ≤ 0 ∧ pre.map (·.1) = List.range k) 0 w := fun l J Jx W hW hJ _ hY h0 =>
  (chunk1_nil_in F n hF hro l Bs Bn A0 c J W ((hW.cell (p := ⟨Bs, 0, none⟩) hs).trans hBs) h0).mono fun e W' ⟨he, hj⟩ => ⟨he, .inl ⟨_, rfl, hj⟩⟩
theorem chunk_calls (a : Option Addr) (len cap : Nat) (q : Int) (hq : 1 ≤ q) (w : World) :
    Calls Try.prog 56 #[.slice a len cap, .int .i64 q] w fun e w' => e = .returned (.func (.func 89) #[] #[.pointer (some ⟨w.heap.size, 0, none⟩), .pointer (some ⟨w.heap.size + 1, 0, none⟩)]) ∧ w' = (w.alloc (.cells #[.slice a len cap] 28)).alloc (.cells #[.int .i64 q] 3) := by
  have hd : decide (q < 1) = false := decide_eq_false (by omega)
  go_enter Try.func56, Try.ntmps56
  go_wp2
  go_ret
  exact ⟨rfl, rfl⟩
def slices_Clone_byte_byte.f (l0 : List Int) : Option (List Int) := if l0.length < 140737488355328 then some l0 else none
set_option maxHeartbeats 4000000 in
set_option maxRecDepth 100000 in
theorem slices_Clone_byte_byte.calls (A0 : Option Addr) (c0 : Nat) (l0 : List Int) (r : List Int) (w : World) (hr0 : Kd.C (Kd.int .u8) w A0 l0.length l0) (hc0 : l0.length ≤ c0) (h : slices_Clone_byte_byte.f l0 = some r) :
    Calls Try.prog 92 #[.slice A0 l0.length c0] w fun e w' => ∃ v0_ : Value, e = .returned (v0_) ∧ Kd.R (Kd.int .u8) 5 w' w.heap.size (fun _ => True) v0_ r ∧ Below w.heap.size w w' := by
  have HR0 := Aside0.mk hr0
  have HC0 := Aside0.mk hc0
  have HB := Aside0.mk (Below.refl w.heap.size w)
  unfold slices_Clone_byte_byte.f at h
  by_cases c2 : l0.length < 140737488355328
  · rw [if_pos c2] at h
    injection h with h
    subst h
    have LMc2 := Aside0.mk c2
    clear c2
    have q22 : ∀ (w : World) (a : Option Addr) (n c n' c' : Nat), (binOp .eql 28 (.slice a n c) (.slice none n' c')).run Try.prog w = .ok (.bool a.isNone) w := fun w a n c n' c' => Lib.run_eql_slice_nil w _ _ a n c n' c' Try.underlying28
    cases A0 with
    | none =>
      have h0 : l0 = [] := by
        rcases Nat.eq_zero_or_pos l0.length with e | e
        · exact List.eq_nil_of_length_eq_zero e
        · obtain ⟨ad, e1, _⟩ := hr0.2.2 e
          cases e1
      subst h0
      clear hr0 hc0
      go_enter Try.func92, Try.ntmps92
      go_wp2
      go_ret
      exact ⟨_, rfl, Kd.R_nil _ _ _ _ _, HB.out⟩
    | some ad =>
      clear hr0 hc0
      obtain ⟨y101, hy101⟩ : ∃ y_ : List Int, y_ = (([] : List Int)) := ⟨_, rfl⟩
      have Ny101 := Aside0.mk hy101
      obtain ⟨y104, hy104⟩ : ∃ y_ : List Int, y_ = (y101 ++ l0) := ⟨_, rfl⟩
      have Ny104 := Aside0.mk hy104
      clear hy101 hy104
      go_enter Try.func92, Try.ntmps92
      go_wp2_with (first | ((with_reducible refine gate_dst (N := 5) rfl ?_); refine Kd.R_lit (Kd.int .u8) _ 5 ?hg (N := 5) ?hd (xs := ([] : List Int)) (inner := []) (ok := fun _ => True) (okp := fun _ => True) ?hr ?hp (fun _ hk => hk) trivial (Below.refl _ _) (Nat.le_refl _) (by simp) ?_; (case hd => rfl); (case hg => rfl); (case hr => first | (go_simp; done) | (go_simp; rfl)); (case hp => exact (Reps.none _ _)); intro v102 w3 ho4 hb hg_ hnew_; clear hg_ hnew_; (first | rw [← Ny101.out] at ho4 | (simp only [Int.reduceToNat] at ho4; rw [← Ny101.out] at ho4)); have n0_ := Aside0.mk (Kd.R_lower ho4 (below_size HB.out)); have n1_ := Aside0.mk (below_step HB.out hb); clear HB; have HO103 := n0_; have HB := n1_; clear n0_ n1_; clear hb ho4) | ((with_reducible refine gate_builtin (b := .append) (xs := #[.tmp 5, .tmp 6]) rfl ?_); at_builtin; refine Kd.R_append_rows (Kd.int .u8) (w0 := w) w.heap.size rfl (.tmp 5) (.tmp 6) 28 5 (.int .u8 0) 1 rfl Try.underlying28 info5 rfl (by decide) (by omega) v102 y101 l0 _ _ _ (fun _ => True) (fun _ => False) rfl rfl ?aO ?aR (fun _ _ h => h) (fun _ h => h.elim) ?aF ?aB ?aS ?aL ?_; (case aR => exact (Kd.C_below HR0.out HB.out)); (case aB => exact HB.out); (case aF => exact (fun _ _ => trivial)); (case aO => exact HO103.out); (case aS => exact (below_size HB.out)); (case aL => have := LMc2.out; have e := Ny101.out; subst e; simp; omega); intro v105 w5 ho hb hg hat; rw [← Ny104.out] at ho; have n0_ := Aside0.mk (hb); have n1_ := Aside0.mk (ho); clear HB; clear HO103; have HB := n0_; have HO106 := n1_; clear n0_ n1_; clear ho hb hg hat))
      go_ret
      have e1 := Ny104.out
      have e2 := Ny101.out
      subst e2
      simp only [List.nil_append] at e1
      subst e1
      exact ⟨_, rfl, HO106.out, HB.out⟩
  · rw [if_neg c2] at h
    exact absurd h (by simp)
def bits_Mul64.f (a0 : Int) (a1 : Int) : Option (Int × Int) := some (IntKind.u64.wrap ((IntKind.u64.wrap ((IntKind.u64.wrap ((a0 / 4294967296) * (a1 / 4294967296))) + ((IntKind.u64.wrap ((IntKind.u64.wrap ((a0 / 4294967296) * (Go.bits .and .u64 a1 4294967295))) + ((IntKind.u64.wrap ((Go.bits .and .u64 a0 4294967295) * (Go.bits .and .u64 a1 4294967295))) / 4294967296))) / 4294967296))) + ((IntKind.u64.wrap ((Go.bits .and .u64 (IntKind.u64.wrap ((IntKind.u64.wrap ((a0 / 4294967296) * (Go.bits .and .u64 a1 4294967295))) + ((IntKind.u64.wrap ((Go.bits .and .u64 a0 4294967295) * (Go.bits .and .u64 a1 4294967295))) / 4294967296))) 4294967295) + (IntKind.u64.wrap ((Go.bits .and .u64 a0 4294967295) * (a1 / 4294967296))))) / 4294967296)), IntKind.u64.wrap (a0 * a1))
set_option maxHeartbeats 8000000 in
set_option maxRecDepth 100000 in
theorem bits_Mul64.calls (a0 : Int) (a1 : Int) (r1 : Int) (r2 : Int) (w : World) (h : bits_Mul64.f a0 a1 = some (r1, r2)) :
    Calls Try.prog 109 #[.int .u64 a0, .int .u64 a1] w fun e w' => e = .returned (.tuple #[.int .u64 r1, .int .u64 r2]) ∧ Drawn0 w w' := by
  have H : (some (IntKind.u64.wrap ((IntKind.u64.wrap ((IntKind.u64.wrap ((a0 / 4294967296) * (a1 / 4294967296))) + ((IntKind.u64.wrap ((IntKind.u64.wrap ((a0 / 4294967296) * (Go.bits .and .u64 a1 4294967295))) + ((IntKind.u64.wrap ((Go.bits .and .u64 a0 4294967295) * (Go.bits .and .u64 a1 4294967295))) / 4294967296))) / 4294967296))) + ((IntKind.u64.wrap ((Go.bits .and .u64 (IntKind.u64.wrap ((IntKind.u64.wrap ((a0 / 4294967296) * (Go.bits .and .u64 a1 4294967295))) + ((IntKind.u64.wrap ((Go.bits .and .u64 a0 4294967295) * (Go.bits .and .u64 a1 4294967295))) / 4294967296))) 4294967295) + (IntKind.u64.wrap ((Go.bits .and .u64 a0 4294967295) * (a1 / 4294967296))))) / 4294967296)), IntKind.u64.wrap (a0 * a1))) = some (r1, r2) := h
  clear h
  simp only [Option.some.injEq, Prod.mk.injEq] at H
  obtain ⟨rfl, rfl⟩ := H
  go_enter Try.func109, Try.ntmps109
  go_wp2
  go_ret2
  exact ⟨by first | rfl | (simp; done) | (simp [*]; done), by repeat (first | exact Drawn0.refl _ | apply Drawn0.step)⟩
def bits_Mul.f (a0 : Int) (a1 : Int) : Option (Int × Int) := (bits_Mul64.f a0 a1).bind fun bt205 => (some (bt205.1, bt205.2))
set_option maxHeartbeats 8000000 in
set_option maxRecDepth 100000 in
theorem bits_Mul.calls (a0 : Int) (a1 : Int) (r1 : Int) (r2 : Int) (w : World) (h : bits_Mul.f a0 a1 = some (r1, r2)) :
    Calls Try.prog 106 #[.int .u64 a0, .int .u64 a1] w fun e w' => e = .returned (.tuple #[.int .u64 r1, .int .u64 r2]) ∧ Drawn0 w w' := by
  have H : ((bits_Mul64.f a0 a1).bind fun bt205 => (some (bt205.1, bt205.2))) = some (r1, r2) := h
  clear h
  replace H := Option.bind_eq_some_iff.mp H
  obtain ⟨⟨t205, t206⟩, A30, H⟩ := H
  replace H : (some (t205, t206)) = some (r1, r2) := H
  have A3 := Aside0.mk A30
  clear A30
  simp only [Option.some.injEq, Prod.mk.injEq] at H
  obtain ⟨rfl, rfl⟩ := H
  go_enter Try.func106, Try.ntmps106
  go_wp2_with (first | ((with_reducible refine gate_callee (f := 109) rfl ?_); refine goesL_ (some 25) rfl rfl Try.func109 (by kernel_rfl) rfl #[.int .u64 a0, .int .u64 a1] rfl (by (try simp only [List.map_toArray, List.map_cons, List.map_nil]); first | done | rfl | (simp only [List.length_drop, List.length_take]; rfl)) ?_; (with_reducible refine (bits_Mul64.calls a0 a1 t205 t206 _ A3.out).mono ?_); rintro e w' ⟨rfl, ⟨nd, rfl⟩⟩; refine ⟨_, rfl, ?_⟩))
  go_ret2
  exact ⟨by first | rfl | (simp; done) | (simp [*]; done), by repeat (first | exact Drawn0.refl _ | apply Drawn0.step)⟩
theorem noZero_run (n : Nat) (hn : n ≤ 16) (W : World) : ∃ cs : List Value, n ≤ cs.length ∧ (callFunc 107 #[.int .i64 (n : Int)]).run Try.prog W = .ok (.value (.slice (some ⟨W.heap.size, 0, none⟩) n cs.length)) (W.drew.drew.alloc (.cells cs.toArray 5)) := by
  obtain ⟨cs, hrun, hle, _⟩ := Lib.run_makeNoZero (P := Try.prog) W #[3] 28 5 Try.underlying28 n (by omega)
  refine ⟨cs.toList, by simpa using hle, ?_⟩
  rw [run_callFunc_extern Try.func107 (by kernel_rfl) (by kernel_rfl) (by kernel_rfl) (e := Extern.BytealgMakeNoZero.makeNoZero #[3] #[28]) (by kernel_rfl), hrun]
  simp
theorem mul_one_n (n : Nat) (hn : n ≤ 16) : bits_Mul.f 1 (n : Int) = some (0, (n : Int)) := by
  have : ∀ m : Fin 17, bits_Mul.f 1 ((m.val : Nat) : Int) = some (0, ((m.val : Nat) : Int)) := by decide +kernel
  exact this ⟨n, by omega⟩
theorem splice_take (cur : List Value) (p q : Nat) (v : Value) (hp : cur.take p = List.replicate p v) (hl : p + q ≤ cur.length) : (splice cur p (List.replicate q v)).take (p + q) = List.replicate (p + q) v := by
  unfold splice
  rw [hp, ← List.append_assoc, List.replicate_append_replicate, List.take_append_of_le_length (by simp)]
  exact List.take_of_length_le (by simp)
theorem C_filled {W : World} {g n : Nat} {v : Int} {cur : List Value} {T : TypeId} {fr : Nat × Nat} (h : W.heap[g]? = some (.cells cur.toArray T fr)) (hc : cur.take n = List.replicate n (Value.int .u8 v)) (hn : n ≤ 16) :
    Kd.C (Kd.int .u8) W (some ⟨g, 0, none⟩) n (List.replicate n v) := by
  refine ⟨by simp, by omega, fun _ => ⟨⟨g, 0, none⟩, rfl, fun j p hj => ?_⟩⟩
  obtain ⟨hj1, hj2⟩ := List.getElem?_eq_some_iff.1 hj
  have hjn : j < n := by simpa using hj1
  refine ⟨[.int .u8 p], rfl, rfl, fun i u hu => ?_⟩
  match i, hu with
  | 0, hu =>
    obtain rfl : Value.int .u8 p = u := by simpa using hu
    have hv : v = p := by simpa using hj2
    subst hv
    have e : cur[j]? = some (Value.int .u8 v) := by
      have : (cur.take n)[j]? = some (Value.int .u8 v) := by rw [hc]; simp [hjn]
      rwa [List.getElem?_take_of_lt hjn] at this
    show W.cell? ((⟨g, 0, none⟩ : Addr).add (j * 1 + 0)) = _
    rw [Nat.mul_one, Nat.add_zero]
    simp only [Addr.add]
    split
    · have h0 : j = 0 := by assumption
      subst h0
      simp [World.cell?, h, e]
    · simp [World.cell?, h, e]
set_option maxHeartbeats 4000000 in
set_option maxRecDepth 100000 in
theorem bytes_Repeat.calls (ad : Addr) (c0 : Nat) (v : Int) (n : Nat) (w : World) (hc : w.cell? ad = some (.int .u8 v)) (h1 : 1 ≤ n) (hn : n ≤ 16) (hc0 : 1 ≤ c0) :
    Calls Try.prog 93 #[.slice (some ad) 1 c0, .int .i64 (n : Int)] w fun e w' => ∃ (A : Option Addr) (c : Nat), e = .returned (.slice A n c) ∧ n ≤ c ∧ Kd.C (Kd.int .u8) w' A n (List.replicate n v) ∧ Below w.heap.size w w' := by
  have HC := Aside0.mk hc
  have HM := Aside0.mk (mul_one_n n hn)
  have HZ := Aside0.mk (noZero_run n hn)
  clear hc
  have n0 : ((n : Int) == 0) = false := beq_eq_false_iff_ne.2 (by omega)
  have d1 : decide ((n : Int) < 0) = false := decide_eq_false (by omega)
  have d2 : decide ((n : Int) > 8192) = false := decide_eq_false (by omega)
  have d3 : decide ((n : Int) > 9223372036854775807) = false := decide_eq_false (by omega)
  go_enter Try.func93, Try.ntmps93
  go_wp2_with fail
  refine (bits_Mul.calls _ _ _ _ _ HM.out).mono ?_
  rintro e w' ⟨rfl, hdr⟩
  have HB := Aside0.mk hdr.below
  clear hdr
  obtain ⟨cs, hle, hcall⟩ := HZ.out w'
  have hlt : ad.block < w.heap.size := by
    rcases Nat.lt_or_ge ad.block w.heap.size with h | h
    · exact h
    · have := HC.out
      simp [World.cell?, List.getElem?_eq_none, Array.getElem?_eq_none, h] at this
  have HB1 : Aside0 (Below w.heap.size w ((w'.alloc (Obj.cells cs.toArray 5)).drew.drew)) := ⟨below_drew1 (below_drew1 (below_alloc HB.out _))⟩
  have HG : Aside0 (((w'.alloc (Obj.cells cs.toArray 5)).drew.drew).heap[w'.heap.size]? = some (.cells cs.toArray 5 (0, 0))) := ⟨blk_new w' _⟩
  have HC1 : Aside0 (((w'.alloc (Obj.cells cs.toArray 5)).drew.drew).cell? ad = some (.int .u8 v)) := ⟨(HB1.out.cell (p := ad) hlt).trans HC.out⟩
  have HGE : Aside0 (w.heap.size ≤ w'.heap.size) := ⟨HB.out.size⟩
  have HMIN : Aside0 (Nat.min 1 n = 1) := ⟨Nat.min_eq_left h1⟩
  have HPOS : Aside0 (∀ (j : Nat) (u : Value), [Value.int .u8 v][j]? = some u → ((w'.alloc (Obj.cells cs.toArray 5)).drew.drew).cell? (ad.add j) = some u) := ⟨fun j u hj => by
    match j, hj with
    | 0, hj =>
      obtain rfl : Value.int .u8 v = u := by simpa using hj
      simpa [Addr.add] using HC1.out⟩
  have HONE : ∀ q : Nat, ∀ u ∈ List.replicate q (Value.int .u8 v), u.oneCell' = true := fun q u hu => by
    obtain rfl := List.eq_of_mem_replicate hu
    rfl
  have HFIT : Aside0 (0 + [Value.int .u8 v].length ≤ cs.length) := ⟨by simp; omega⟩
  go_wp2_with ((with_reducible refine gate_builtin (b := .copy) (xs := #[.tmp 58, .tmp 59]) rfl ?_); go_loud (refine wpList_copy_splice rfl (.tmp 58) (.tmp 59) 28 28 rfl 5 Try.underlying28 (by kernel_rfl) _ _ _ _ _ _ rfl rfl w'.heap.size 0 cs 5 HG.out [.int .u8 v] HMIN.out.symm (fun _ => ⟨rfl, ad, rfl, HPOS.out⟩) HFIT.out (HONE 1) w.heap.size w HB1.out HGE.out ?_); intro w2 hg2 hb2)
  have HS : Aside0 ((splice cs 0 [Value.int .u8 v]).take 1 = List.replicate 1 (Value.int .u8 v)) := ⟨splice_take cs 0 1 _ (by simp) (by omega)⟩
  have HL : Aside0 ((splice cs 0 [Value.int .u8 v]).length = cs.length) := ⟨length_splice _ _ _ HFIT.out⟩
  have HG2 := Aside0.mk hg2.out
  have HB2 := Aside0.mk hb2
  clear hg2 hb2
  generalize splice cs 0 [Value.int .u8 v] = cur2 at HS HL HG2
  generalize w'.heap.size = g at *
  go_loopw [10] (fun x wr => ∃ (p : Nat) (cur : List Value), 1 ≤ p ∧ p ≤ n ∧ x = .int .i64 (p : Int) ∧ Aside0 (wr.heap[g]? = some (.cells cur.toArray 5 (0, 0))) ∧ Aside0 (cur.take p = List.replicate p (Value.int .u8 v)) ∧ Aside0 (cur.length = cs.length) ∧ Aside0 (Below w.heap.size w wr)) (fun x _ => n - (intOf x).toNat)
  case atStart => exact ⟨1, cur2, Nat.le_refl _, h1, rfl, HG2, HS, HL, HB2⟩
  case round =>
    obtain ⟨p, cur, hp1, hpn, rfl, HGr, HSr, HLr, HBr⟩ := hrel
    by_cases hlt : p < n
    · have hd : decide ((p : Int) < (n : Int)) = true := decide_eq_true (by omega)
      have hm : ¬ ((n : Int) < (p : Int)) := by omega
      obtain ⟨q, hq⟩ : ∃ q, q = Nat.min p (n - p) := ⟨_, rfl⟩
      have hq1 : 1 ≤ q := by rw [hq]; exact Nat.le_min.2 ⟨hp1, by omega⟩
      have hq2 : q ≤ n - p := by rw [hq]; exact Nat.min_le_right _ _
      have HQ : Aside0 ((List.replicate q (Value.int .u8 v)).length = Nat.min p (n - p)) := ⟨by rw [List.length_replicate]; exact hq⟩
      clear hq
      have HFIT2 : Aside0 (p + (List.replicate q (Value.int .u8 v)).length ≤ cur.length) := ⟨by rw [List.length_replicate, HLr.out]; omega⟩
      have HSRC : Aside0 (∀ (j : Nat) (u : Value), (List.replicate q (Value.int .u8 v))[j]? = some u → wr.drew.cell? ((⟨g, 0, none⟩ : Addr).add j) = some u) := ⟨fun j u hj => by
        show wr.cell? ((⟨g, 0, none⟩ : Addr).add j) = some u
        obtain ⟨hj1, hj2⟩ := List.getElem?_eq_some_iff.1 hj
        have hjq : j < q := by simpa using hj1
        have hjp : j < p := by
          have h := HQ.out
          rw [List.length_replicate] at h
          have := Nat.min_le_left p (n - p)
          show j < p
          have h2 : Nat.min p (n - p) ≤ p := this
          omega
        have hu : u = Value.int .u8 v := by simpa using hj2.symm
        subst hu
        have e : cur[j]? = some (Value.int .u8 v) := by
          have h := HSr.out
          have : (cur.take p)[j]? = some (Value.int .u8 v) := by rw [h]; simp [hjp]
          rwa [List.getElem?_take_of_lt hjp] at this
        simp only [Addr.add]
        split
        · have h0 : j = 0 := by assumption
          subst h0
          simp [World.cell?, HGr.out, e]
        · simp [World.cell?, HGr.out, e]⟩
      have HGD : Aside0 (wr.drew.heap[g]? = some (.cells cur.toArray 5 (0, 0))) := ⟨HGr.out⟩
      have HBD : Aside0 (Below w.heap.size w wr.drew) := ⟨below_drew1 HBr.out⟩
      have HGG : Aside0 (w.heap.size ≤ g) := ⟨HGE.out⟩
      have i0 : (0 : Int) ≤ (p : Int) := Int.natCast_nonneg p
      have i1 : (p : Int) ≤ (n : Int) := by omega
      have hne : ¬ n = p := by omega
      have hrun := run_copy_row (P := Try.prog) wr.drew 28 28 3 5 g p (n - p) (n - p) ⟨g, 0, none⟩ p n cur.toArray 5 (List.replicate q (Value.int .u8 v)) Try.underlying28 (by kernel_rfl) HGD.out HQ.out HSRC.out (by simpa using HFIT2.out) (HONE q)
      obtain ⟨w4, hw4⟩ : ∃ w4, w4 = wr.drew.setRow g (cur.toArray.toList.take p ++ List.replicate q (Value.int .u8 v) ++ cur.toArray.toList.drop (p + (List.replicate q (Value.int .u8 v)).length)).toArray := ⟨_, rfl⟩
      have hg4 : Aside0 (w4.heap[g]? = some (.cells (splice cur p (List.replicate q (Value.int .u8 v))).toArray 5 (0, 0))) := ⟨by
        rw [hw4]
        simpa [splice] using setRow_heap wr.drew g _ _ 5 _ HGD.out⟩
      have hb4 : Aside0 (Below w.heap.size w w4) := ⟨by
        rw [hw4]
        exact below_setRow HBD.out HGG.out _⟩
      rw [← hw4, List.length_replicate] at hrun
      replace hrun : (Builtin.copy_ #[28, 28] 3 #[.slice (some ⟨g, p, none⟩) (n - p) (n - p), .slice (some ⟨g, 0, none⟩) p n]).run Try.prog wr.drew = .ok (.int .i64 (q : Int)) w4 := hrun
      clear hw4
      have hs : wrap64 ((p : Int) + (q : Int)) = ((p + q : Nat) : Int) := by unfold wrap64; omega
      go_wp2
      go_region
      all_goals
        go_wp2
        go_roundw
        case rel =>
          refine ⟨p + q, _, by omega, by omega, by go_num, hg4, ⟨splice_take cur p q _ HSr.out (by rw [HLr.out]; omega)⟩, ⟨?_⟩, hb4⟩
          rw [length_splice _ _ _ HFIT2.out]
          exact HLr.out
        case measure => simp [intOf]; omega
    · obtain rfl : p = n := by omega
      have hd : decide ((p : Int) < (p : Int)) = false := decide_eq_false (by omega)
      go_wp2
      go_ret
      exact ⟨_, _, rfl, Nat.le_refl _, C_filled HGr.out HSr.out hn, HBr.out⟩
def impl_padded.f (l0 : List Int) : Option (List Int) := if l0.length < 140737488355000 then some (padL l0) else none
set_option maxHeartbeats 4000000 in
set_option maxRecDepth 100000 in
theorem impl_padded.calls (A0 : Option Addr) (c0 : Nat) (l0 : List Int) (r : List Int) (w : World) (hr0 : Kd.C (Kd.int .u8) w A0 l0.length l0) (hc0 : l0.length ≤ c0) (h : impl_padded.f l0 = some r) :
    Calls Try.prog 60 #[.slice A0 l0.length c0] w fun e w' => ∃ v0_ : Value, e = .returned (v0_) ∧ Kd.R (Kd.int .u8) 5 w' w.heap.size (fun _ => True) v0_ r ∧ Below w.heap.size w w' := by
  have HR0 := Aside0.mk hr0
  have HC0 := Aside0.mk hc0
  clear hr0 hc0
  unfold impl_padded.f at h
  by_cases c2 : l0.length < 140737488355000
  · rw [if_pos c2] at h
    injection h with h
    have HL := Aside0.mk c2
    have HCL : Aside0 (slices_Clone_byte_byte.f l0 = some l0) := ⟨by unfold slices_Clone_byte_byte.f; rw [if_pos (by omega)]⟩
    obtain ⟨m, hm⟩ : ∃ m : Nat, m = 16 - l0.length % 16 := ⟨_, rfl⟩
    have hm1 : 1 ≤ m := by omega
    have hm2 : m ≤ 16 := by omega
    have hmi : 16 - (l0.length : Int) % 16 = (m : Int) := by omega
    have HMI := Aside0.mk hmi
    have HM := Aside0.mk (show padL l0 = l0 ++ List.replicate m (m : Int) by rw [padL, ← hm, hmi])
    clear hm hmi c2
    have HH := Aside0.mk h
    clear h
    go_enter Try.func60, Try.ntmps60
    go_wp2_with fail
    refine (slices_Clone_byte_byte.calls _ _ _ _ _ HR0.out HC0.out HCL.out).mono ?_
    rintro e w' ⟨v0, rfl, hR, hb⟩
    have HR := Aside0.mk hR
    have HB := Aside0.mk hb
    clear hR hb
    go_wp2_with fail
    have hcell : (w'.alloc (Obj.cells #[Value.int IntKind.u8 (16 - (l0.length : Int) % 16)] 5)).cell? ⟨w'.heap.size, 0, none⟩ = some (.int .u8 (m : Int)) := by
      rw [HMI.out]
      have hb := blk_new w' (Obj.cells #[Value.int IntKind.u8 (m : Int)] 5)
      unfold World.cell?
      simp only [hb]
      rfl
    have HR1 := Aside0.mk (Kd.R_alloc HR.out (Obj.cells #[Value.int IntKind.u8 (16 - (l0.length : Int) % 16)] 5))
    have HB1 := Aside0.mk (below_alloc HB.out (Obj.cells #[Value.int IntKind.u8 (16 - (l0.length : Int) % 16)] 5))
    have ecall : Value.int IntKind.i64 (16 - (l0.length : Int) % 16) = Value.int IntKind.i64 (m : Int) := by rw [HMI.out]
    generalize w'.alloc (Obj.cells #[Value.int IntKind.u8 (16 - (l0.length : Int) % 16)] 5) = W1 at *
    generalize w'.heap.size = g at *
    rw [ecall]
    clear ecall
    refine (bytes_Repeat.calls _ _ (m : Int) m _ hcell hm1 hm2 (Nat.le_refl _)).mono ?_
    rintro e w2 ⟨A, c, rfl, hc, hC, hb2⟩
    have HC2 := Aside0.mk hC
    have HR2 := Aside0.mk (Kd.R_below HR1.out hb2)
    have HB2 := Aside0.mk (below_then HB1.out HB1.out.size hb2)
    have HZ2 := Aside0.mk (Nat.le_trans HB1.out.size hb2.size)
    clear hC hb2 HR HB HR1 HB1 hcell
    go_wp2_with ((with_reducible refine gate_builtin (b := .append) (xs := #[.tmp 9, .tmp 14]) rfl ?_); at_builtin; refine Kd.R_append_rows (Kd.int .u8) (w0 := w) w.heap.size rfl (.tmp 9) (.tmp 14) 28 5 (.int .u8 0) 1 rfl Try.underlying28 info5 rfl (by decide) (by omega) v0 l0 (List.replicate m (m : Int)) _ _ _ (fun _ => True) (fun _ => False) rfl rfl ?aO ?aR (fun _ _ h => h) (fun _ h => h.elim) ?aF ?aB ?aS ?aL ?_; (case aR => exact HC2.out); (case aB => exact HB2.out); (case aF => exact (fun _ _ => trivial)); (case aO => exact HR2.out); (case aS => exact HZ2.out); (case aL => have := HL.out; omega); intro v5 w5 ho hb hg hat)
    go_ret
    have e2 := HM.out
    have e3 := HH.out
    rw [e2] at e3
    subst e3
    exact ⟨_, rfl, ho, hb⟩
  · rw [if_neg c2] at h
    exact absurd h (by simp)
end Go.Proofs.Ytfbggdlidelliaa.P

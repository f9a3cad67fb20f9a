/- Laid by a program of this session: of Pe6 what this law uses. -/
import Derived.Test.YtbpefnfeiidioaaZDrM3
import Derived.Test.YtbpefnfeiidioaaZDrPe4
import Derived.Test.YtbpefnfeiidioaaZDrM8
namespace Go.Proofs.Ytbpefnfeiidioaa.P
open Go.RowKit Go.Proofs.YtbpefnfeiidioaaW.PrintWords Go.Proofs.YtbpefnfeiidioaaW.PrintLast Go.Proofs.YtbpefnfeiidioaaW.PrintMore
set_option linter.unusedVariables false
set_option linter.unusedSimpArgs false
def KpD (N : Nat) (W W' : World) : Prop := ∀ a : Addr, a.block < N → W'.cell? a = W.cell? a
theorem KpD.refl (N : Nat) (W : World) : KpD N W W := fun _ _ => rfl
theorem KpD.trans {N : Nat} {A B C : World} (h : KpD N A B) (k : KpD N B C) : KpD N A C := fun a ha => (k a ha).trans (h a ha)
theorem KpD.put {N b : Nat} (hN : N ≤ b) (W : World) (l : Nat) (o o' : Obj) (hl : b ≤ l) (_ : W.heap[l]? = some o) (_ : o.isCells = false) (_ : o.isWalk = false) : KpD N W (W.putObj l o') := fun a ha => by
  have hne : a.block ≠ l := by omega
  exact World.cell?_of_block (World.putObj_heap_other hne)
def bk (xs : List S82) (i : Nat) : S82 := rd_T82 xs ((xs.length - 1 - i : Nat) : Int)
def bkV (xs : List S82) (i : Nat) : Array Value := #[.int .i64 ((xs.length - 1 - i : Nat) : Int), .agg #[.int .i64 (bk xs i).f0, .string (bk xs i).f1]]
section
attribute [local go_sem] Oper.semAt_some
set_option maxRecDepth 100000 in
set_option maxHeartbeats 2000000 in
theorem back1_in (F : Fence) (n : Nat) (hF : F.fn 115) (hro : F.round = none) (hn : 1 ≤ n) (l Bs : Nat) (A : Option Addr) (c N : Nat) (xs : List S82) (hm : xs.length ≤ 9223372036854775807) (hN : Bs < N) (J Jx : List (Fin xs.length) → World → Prop)
    (hY : ∀ pre x W, J pre W → pre.length < xs.length → YieldAt F (n - 1) Try.prog l (bkV xs x.1) W fun e W' =>
      (e = .returned (.bool true) ∧ J (pre ++ [x]) W' ∧ KpD N W W') ∨ (e = .returned (.bool false) ∧ Jx (pre ++ [x]) W'))
    (W : World) (hBs : W.cell? ⟨Bs, 0, none⟩ = some (.slice A xs.length c))
    (hC : ∀ k : Nat, k < xs.length → ∃ ad, A = some ad ∧ ad.block < N ∧ W.cell? (ad.add (k * 2)) = some (.int .i64 (rd_T82 xs (k : Int)).f0) ∧ W.cell? ⟨(ad.add (k * 2)).block, (ad.add (k * 2)).off + 1, none⟩ = some (.string (rd_T82 xs (k : Int)).f1)) (h0 : J [] W) :
    CallsIn F n Try.prog 115 #[.func (.yield l) #[] #[], .pointer (some ⟨Bs, 0, none⟩)] W fun e W' => (∃ v, e = .returned v) ∧
      ((∃ ys : List (Fin xs.length), ys.map (·.1) = List.range xs.length ∧ J ys W') ∨ (∃ pre : List (Fin xs.length), (∃ k, k ≤ xs.length ∧ pre.map (·.1) = List.range k) ∧ Jx pre W')) := by
  refine callsIn_of_wp Try.func115 rfl hF ?_ hro
  simp only [Try.ntmps115, List.size_toArray, List.length_cons, List.length_nil, Nat.reduceAdd, Nat.reduceSub, Array.replicate_succ, Array.replicate_zero, List.push_toArray, List.append_toArray, List.nil_append, List.cons_append]
  have hw : wrap64 ((xs.length : Int) - 1) = (xs.length : Int) - 1 := by unfold wrap64; omega
  have HBs := Aside0.mk hBs
  have HC := Aside0.mk hC
  clear hC
  gi_wp2
  clear hBs
  gi_loopw [3] (fun i wr => ∃ (k : Nat) (pre : List (Fin xs.length)), k ≤ xs.length ∧ i = .int .i64 ((xs.length : Int) - 1 - (k : Int)) ∧ Aside0 (pre.map (·.1) = List.range k) ∧ J pre wr ∧ Aside0 (KpD N W wr)) (fun i _ => (intOf i + 1).toNat)
  case atStart => exact ⟨0, [], Nat.zero_le _, by simp, ⟨rfl⟩, h0, ⟨KpD.refl _ _⟩⟩
  case round =>
    obtain ⟨k, pre, hk, rfl, hpre, hJs, hnx⟩ := hrel
    have cS : wr.cell? ⟨Bs, 0, none⟩ = some (.slice A xs.length c) := (hnx.out _ hN).trans HBs.out
    by_cases hlt : k < xs.length
    · obtain ⟨p, hp⟩ : ∃ p : Nat, p = xs.length - 1 - k := ⟨_, rfl⟩
      have hpi : (xs.length : Int) - 1 - (k : Int) = (p : Int) := by omega
      have hp1 : (p : Int) - 1 = (xs.length : Int) - 1 - ((k + 1 : Nat) : Int) := by omega
      have hpl : p < xs.length := by omega
      have hpb : (p : Int) ≤ 9223372036854775807 := by omega
      rw [hpi]
      clear hpi
      obtain ⟨ad, hA, hab, hc0, hc1⟩ := HC.out p hpl
      have hab2 : (ad.add (p * 2)).block < N := by rw [show (ad.add (p * 2)).block = ad.block by unfold Addr.add; split <;> rfl]; exact hab
      have q0 := (hnx.out (ad.add (p * 2)) hab2).trans hc0
      have q1 := (hnx.out ⟨(ad.add (p * 2)).block, (ad.add (p * 2)).off + 1, none⟩ hab2).trans hc1
      clear hc0 hc1 hab hab2
      obtain ⟨fn, tmps, assign, body, hy, hR⟩ := hY pre ⟨k, hlt⟩ wr hJs (by rw [← List.length_map (f := fun x : Fin xs.length => x.1), hpre.out, List.length_range]; exact hlt)
      obtain ⟨e0, he0⟩ : ∃ e, e = rd_T82 xs (p : Int) := ⟨_, rfl⟩
      have hy2 : (Instr.yield l #[.int .i64 (p : Int), .agg #[.int .i64 e0.f0, .string e0.f1]]).run Try.prog wr = .ok (.round l fn tmps assign body) wr := by rw [he0, hp]; exact hy
      rw [← he0] at q0 q1
      clear hy he0 hp
      subst hA
      have k0 : (0 : Int) ≤ (p : Int) := Int.natCast_nonneg p
      have k1 : (p : Int) < (xs.length : Int) := by omega
      gi_wp2
      all_goals
        refine hR.mono ?_
        rintro e W3 (⟨rfl, hJ3, hk3⟩ | ⟨rfl, hJx3⟩)
        · gi_wp2
          go_roundw
          case rel =>
            refine ⟨k + 1, pre ++ [⟨k, hlt⟩], by omega, by go_num, ⟨by rw [List.range_succ, List.map_append, hpre.out]; rfl⟩, hJ3, ⟨hnx.out.trans hk3⟩⟩
          case measure => simp [intOf]; omega
        · gi_wp2
          refine bodyPost_ret (results_none rfl _ _ _) rfl ?_
          exact ⟨⟨_, rfl⟩, .inr ⟨_, ⟨k + 1, by omega, by rw [List.range_succ, List.map_append, hpre.out]; rfl⟩, hJx3⟩⟩
    · obtain rfl : k = xs.length := by omega
      have e1 : (xs.length : Int) - 1 - (xs.length : Int) = -1 := by omega
      rw [e1]
      clear e1
      gi_wp2
      go_end0
      exact ⟨⟨_, rfl⟩, .inl ⟨_, hpre.out, hJs⟩⟩
end
theorem cell_blk_lt {w : World} {a : Addr} {v : Value} (h : w.cell? a = some v) : a.block < w.heap.size := by
  rcases Nat.lt_or_ge a.block w.heap.size with h1 | h1
  · exact h1
  · have : w.heap[a.block]? = none := Array.getElem?_eq_none h1
    simp [World.cell?, this] at h
theorem back_stops (F : Fence) (n : Nat) (hF : F.fn 115) (hro : F.round = none) (hn : 1 ≤ n) (Bs : Nat) (A : Option Addr) (c : Nat) (xs : List S82) (w : World) (hs : Bs < w.heap.size)
    (hBs : w.cell? ⟨Bs, 0, none⟩ = some (.slice A xs.length c)) (hC : Kd.C k82 w A xs.length xs) :
    SeqStopsK F n Try.prog 115 #[.pointer (some ⟨Bs, 0, none⟩)] (fun x : Fin xs.length => bkV xs x.1) (KpD w.heap.size) (fun ys => ys.map (·.1) = List.range xs.length) (fun pre => ∃ k, k ≤ xs.length ∧ pre.map (·.1) = List.range k) xs.length w := fun l J Jx W hW hJ _ hY h0 =>
  back1_in F n hF hro hn l Bs A c w.heap.size xs hC.2.1 hs J Jx hY W ((hW.cell (p := ⟨Bs, 0, none⟩) hs).trans hBs) (fun k hk => by
    obtain ⟨ad, e, q0, q1⟩ := at_T82 hC (k : Int) (by omega) (by omega)
    rw [Int.toNat_natCast] at q0 q1
    have b1 : (ad.add (k * 2)).block = ad.block := by unfold Addr.add; split <;> rfl
    have b0 := cell_blk_lt q0
    exact ⟨ad, e, by rw [← b1]; exact b0, (hW.cell b0).trans q0, (hW.cell (p := ⟨(ad.add (k * 2)).block, (ad.add (k * 2)).off + 1, none⟩) b0).trans q1⟩) h0
theorem back_calls (a : Option Addr) (len cap : Nat) (w : World) :
    Calls Try.prog 106 #[.slice a len cap] w fun e w' => e = .returned (.func (.func 115) #[] #[.pointer (some ⟨w.heap.size, 0, none⟩)]) ∧ w' = w.alloc (.cells #[.slice a len cap] 41) := by
  go_enter Try.func106, Try.ntmps106
  go_wp2
  go_ret
  exact ⟨rfl, rfl⟩
def seekV (l0 : List ByteArray) (xs : List S82) (x : Int) : Nat → ByteArray
  | 0 => rdOf ByteArray.empty l0 x
  | j + 1 => if (rd_T82 xs (j : Int)).f0 = x then (rd_T82 xs (j : Int)).f1 else seekV l0 xs x j
theorem seek_skip (l0 : List ByteArray) (xs : List S82) (x : Int) : ∀ k, k ≤ xs.length → (∀ i, i < k → (bk xs i).f0 ≠ x) → seekV l0 xs x xs.length = seekV l0 xs x (xs.length - k)
  | 0, _, _ => rfl
  | k + 1, hk, h => by
    rw [seek_skip l0 xs x k (by omega) (fun i hi => h i (by omega))]
    obtain ⟨q, hq⟩ : ∃ q, xs.length - k = q + 1 := ⟨xs.length - k - 1, by omega⟩
    have h1 := h k (by omega)
    unfold bk at h1
    rw [show xs.length - 1 - k = q by omega] at h1
    rw [hq, show xs.length - (k + 1) = q by omega]
    show (if _ then _ else _) = _
    rw [if_neg h1]
theorem seek_hit (l0 : List ByteArray) (xs : List S82) (x : Int) (k : Nat) (hk : k < xs.length) (h : ∀ i, i < k → (bk xs i).f0 ≠ x) (h1 : (bk xs k).f0 = x) : seekV l0 xs x xs.length = (bk xs k).f1 := by
  rw [seek_skip l0 xs x k (by omega) h]
  obtain ⟨q, hq⟩ : ∃ q, xs.length - k = q + 1 := ⟨xs.length - k - 1, by omega⟩
  unfold bk at h1 ⊢
  rw [show xs.length - 1 - k = q by omega] at h1 ⊢
  rw [hq]
  show (if _ then _ else _) = _
  rw [if_pos h1]
theorem rd_string_at {w : World} {A0 : Option Addr} {l0 : List ByteArray} (hr0 : Kd.C Kd.string w A0 l0.length l0) (k : Nat) (hk : k < l0.length) :
    ∃ ad, A0 = some ad ∧ w.cell? (ad.add k) = some (.string l0[k]) := by
  obtain ⟨ad, c, rfl, _, hc, hw⟩ := Kd.C_get hr0 ByteArray.empty (k : Int) (by omega) (by omega)
  refine ⟨ad, rfl, ?_⟩
  have hc : c = [.string (l0.getD (k : Int).toNat ByteArray.empty)] := hc
  subst hc
  have := hw 0 _ rfl
  simpa [Kd.string, Kd.scalar, List.getD_eq_getElem?_getD, hk] using this
def rdI (l1 : List S82) (x : Int) (g : Nat) (w : World) (D : Array Value) (pre : List (Fin l1.length)) (W : World) : Prop :=
  Aside0 (∀ y ∈ pre, (bk l1 y.1).f0 ≠ x) ∧ Aside0 (W.heap[g]? = some (.cells D 43 (0, 0))) ∧ Aside0 (W.heap[g + 1]? = some (.cells #[.int .i64 x] 3 (0, 0))) ∧ Aside0 (W.heap[g + 1 + 1]? = some (.cells #[.string ⟨#[]⟩] 9 (0, 0))) ∧ Aside0 (Below g w W) ∧ Aside0 (g + 3 < W.heap.size)
def rdX (l1 : List S82) (x : Int) (g : Nat) (w : World) (c : Code) (pre : List (Fin l1.length)) (W : World) : Prop :=
  Aside0 (c = .ret ∧ ∃ q y, pre = q ++ [y] ∧ (∀ z ∈ q, (bk l1 z.1).f0 ≠ x) ∧ (bk l1 y.1).f0 = x ∧ W.heap[g + 1 + 1]? = some (.cells #[.string (bk l1 y.1).f1] 9 (0, 0))) ∧ Aside0 (Below g w W)
def rdA (l1 : List S82) (g : Nat) (y : Fin l1.length) (a : Act) (W : World) : Prop :=
  ∃ (b : Nat) (u0 u1 u2 u5 u7 u8 u9 u10 u11 u12 u13 u14 u15 u16 u17 u18 u19 u20 u21 u22 : Value), a = { tmps := #[u0, u1, u2, .pointer (some ⟨g + 1, 0, none⟩), .pointer (some ⟨g + 1 + 1, 0, none⟩), u5, .pointer (some ⟨b, 0, none⟩), u7, u8, u9, u10, u11, u12, u13, u14, u15, u16, u17, u18, u19, u20, u21, u22], defers := [] } ∧ Aside0 (W.heap[b]? = some (.cells #[.int .i64 (bk l1 y.1).f0, .string (bk l1 y.1).f1] 82 (0, 0)))
theorem rdI_own (l1 : List S82) (x : Int) (g : Nat) (w : World) (D : Array Value) (B : Nat) (h0 : g ≤ w.heap.size) (h1 : g ≤ B) : OwnFrom B (rdI l1 x g w D) := fun s W W' row ⟨h1, h2, h3, h4, h5, h6⟩ hg hr =>
  ⟨h1, ⟨(grownBy_keeps_cells hg (fun r e => (hr r e).2) h2.out rfl).trans h2.out⟩, ⟨(grownBy_keeps_cells hg (fun r e => (hr r e).2) h3.out rfl).trans h3.out⟩, ⟨(grownBy_keeps_cells hg (fun r e => (hr r e).2) h4.out rfl).trans h4.out⟩,
    ⟨ownFrom_below (β := Unit) h0 (by assumption) () W W' row h5.out hg hr⟩, ⟨Nat.lt_of_lt_of_le h6.out hg.size⟩⟩
theorem rdX_own (l1 : List S82) (x : Int) (g : Nat) (w : World) (c : Code) (B : Nat) (h0 : g ≤ w.heap.size) (h1 : g ≤ B) : OwnFrom B (rdX l1 x g w c) := fun s W W' row ⟨⟨hc, q, y, e, hq, hy, hh⟩, h5⟩ hg hr =>
  ⟨⟨hc, q, y, e, hq, hy, (grownBy_keeps_cells hg (fun r e => (hr r e).2) hh rfl).trans hh⟩, ⟨ownFrom_below (β := Unit) h0 (by assumption) () W W' row h5.out hg hr⟩⟩
theorem rdA_own (l1 : List S82) (g : Nat) (y : Fin l1.length) (a : Act) (B : Nat) : OwnFrom B (fun (_ : Unit) W => rdA l1 g y a W) := fun s W W' row ⟨b, u0, u1, u2, u5, u7, u8, u9, u10, u11, u12, u13, u14, u15, u16, u17, u18, u19, u20, u21, u22, e, hh⟩ hg hr =>
  ⟨b, u0, u1, u2, u5, u7, u8, u9, u10, u11, u12, u13, u14, u15, u16, u17, u18, u19, u20, u21, u22, e, ⟨(grownBy_keeps_cells hg (fun r e => (hr r e).2) hh.out rfl).trans hh.out⟩⟩
theorem two_set (t : Array Value) (v u : Value) : (#[10, 11].zip #[v, u]).foldl (fun t (x : Tmp × Value) => t.setIfInBounds x.1 x.2) t = (t.setIfInBounds 10 v).setIfInBounds 11 u := by simp
theorem rd_start (l1 : List S82) (x : Int) (w : World) (D : Array Value) (S : Value) : (((((w.alloc (.cells D 43)).alloc (.cells #[.int .i64 x] 3)).alloc (.cells #[.string ⟨#[]⟩] 9)).alloc (.cells #[S] 41)).heap.size = w.heap.size + 4) ∧ rdI l1 x w.heap.size w D [] ((((w.alloc (.cells D 43)).alloc (.cells #[.int .i64 x] 3)).alloc (.cells #[.string ⟨#[]⟩] 9)).alloc (.cells #[S] 41)) ∧ ((((w.alloc (.cells D 43)).alloc (.cells #[.int .i64 x] 3)).alloc (.cells #[.string ⟨#[]⟩] 9)).alloc (.cells #[S] 41)).cell? ⟨w.heap.size + 1 + 1 + 1, 0, none⟩ = some S ∧ Below w.heap.size w ((((w.alloc (.cells D 43)).alloc (.cells #[.int .i64 x] 3)).alloc (.cells #[.string ⟨#[]⟩] 9)).alloc (.cells #[S] 41)) := by
  have B : Below w.heap.size w ((((w.alloc (.cells D 43)).alloc (.cells #[.int .i64 x] 3)).alloc (.cells #[.string ⟨#[]⟩] 9)).alloc (.cells #[S] 41)) := below_alloc (below_alloc (below_alloc (below_alloc (Below.refl _ _) _) _) _) _
  refine ⟨by simp, ⟨⟨fun _ h => by cases h⟩, ⟨?_⟩, ⟨?_⟩, ⟨?_⟩, ⟨B⟩, ⟨by simp⟩⟩, ?_, B⟩
  · exact blk_alloc (blk_alloc (blk_alloc (blk_new w _) _) _) _
  · exact blk_alloc (blk_alloc (blk_new2 w _ _) _) _
  · exact blk_alloc (blk_new3 w _ _ _) _
  · exact blk_cell (blk_new4 w _ _ _ _) 0
set_option maxRecDepth 100000 in
set_option maxHeartbeats 2000000 in
theorem diskRead_in (A0 : Option Addr) (c0 : Nat) (l0 : List ByteArray) (A1 : Option Addr) (c1 : Nat) (l1 : List S82) (A2 : Option Addr) (c2 : Nat) (l2 : List ByteArray) (x : Int) (w : World) (hr0 : Kd.C Kd.string w A0 l0.length l0) (hc0 : l0.length ≤ c0) (hr1 : Kd.C k82 w A1 l1.length l1) (hc1 : l1.length ≤ c1) (hx0 : 0 ≤ x) (hx1 : x < l0.length) :
    Calls Try.prog 82 #[.agg #[.slice A0 l0.length c0, .slice A1 l1.length c1, .slice A2 l2.length c2], .int .i64 x] w fun e w' => e = .returned (.string (seekV l0 l1 x l1.length)) ∧ Below w.heap.size w w' := by
  have HR0 := Aside0.mk hr0
  have HR1 := Aside0.mk hr1
  have HC0 := Aside0.mk hc0
  have HC1 := Aside0.mk hc1
  have HX0 := Aside0.mk hx0
  have HX1 := Aside0.mk hx1
  clear hr0 hr1 hc0 hc1 hx0 hx1
  refine (callsIn_wide (n := 3)).1 ?_
  refine callsIn_of_wp_marks Try.func82 rfl trivial ?_ rfl
  refine wpIn_wide.2 ?_
  simp only [Try.ntmps82, List.size_toArray, List.length_cons, List.length_nil, Nat.reduceAdd, Nat.reduceSub, Array.replicate_succ, Array.replicate_zero, List.push_toArray, List.append_toArray, List.nil_append, List.cons_append]
  go_wp2_with fail
  refine (back_calls _ _ _ _).mono ?_
  rintro e w1 ⟨rfl, rfl⟩
  go_wp2_with fail
  obtain ⟨hz3, I0, hbs, hb3⟩ := rd_start l1 x w #[.slice A0 l0.length c0, .slice A1 l1.length c1, .slice A2 l2.length c2] (.slice A1 l1.length c1)
  generalize hw : (((w.alloc (.cells #[.slice A0 l0.length c0, .slice A1 l1.length c1, .slice A2 l2.length c2] 43)).alloc (.cells #[.int .i64 x] 3)).alloc (.cells #[.string ⟨#[]⟩] 9)).alloc (.cells #[.slice A1 l1.length c1] 41) = w3 at hz3 I0 hbs hb3 ⊢
  clear hw
  have HBB := Aside0.mk hb3
  have HZ3 := Aside0.mk hz3
  have h3 : w.heap.size + 3 < w3.heap.size := by omega
  clear hz3
  have hr1 := Kd.C_below HR1.out hb3
  clear hb3
  refine (wpIn_wide (n := 3)).1 ?_
  refine wpIn_rangeFunc_ownH (F := Fence.wide) (n := 3) (w := w3) (w0 := w3) (gf := 115) (lb := #[.pointer (some ⟨w.heap.size + 1 + 1 + 1, 0, none⟩)]) rfl (by decide) rfl trivial (enters_of Try.func115 (by kernel_rfl) rfl)
    (back_stops Fence.wide 2 trivial rfl (by decide) (w.heap.size + 1 + 1 + 1) A1 c1 l1 w3 (by omega) hbs hr1)
    (fun h k => KpD.trans h k) (KpD.put (Nat.le_refl _)) (Below.refl _ _) (fun _ => rfl)
    (rdI l1 x w.heap.size w #[.slice A0 l0.length c0, .slice A1 l1.length c1, .slice A2 l2.length c2]) (rdX l1 x w.heap.size w) (rdI_own _ _ _ _ _ _ (Nat.le_refl _) (by omega)) (fun c => rdX_own _ _ _ _ _ _ (Nat.le_refl _) (by omega)) I0
    (rdA l1 w.heap.size) (fun y a' => rdA_own _ _ _ _ _) ?assign ?body ?done ?stop
  case assign =>
    intro l pre y W K hI hK
    refine region_round (l := [_, _]) (by kernel_rfl) (by rintro ⟨_, _, h⟩; exact h) ?_
    unfold bkV
    rw [two_set]
    simp only [List.setIfInBounds_toArray, List.set_cons_succ, List.set_cons_zero]
    have HW := Aside0.mk hI.2.2.2.2.2.out
    clear h3
    go_wp2_with fail
    refine hK _ _ (keepsFrom_below (below_alloc (Below.refl _ _) _)) (fun ad ha => (below_alloc (Below.refl W.heap.size W) _).cell (by have := HZ3.out; have := HW.out; omega)) ?_ ?_
    · exact OwnFrom.alloc (B := w3.heap.size) (rdI_own _ _ _ _ _ _ (Nat.le_refl _) (by have := HZ3.out; omega)) _ hI
    · exact ⟨W.heap.size, _, _, _, _, _, _, _, _, _, _, _, _, _, _, _, _, _, _, _, _, rfl, ⟨blk_new W _⟩⟩
  case body =>
    rintro l pre y a' W hl hlo hI ⟨b, u0, u1, u2, u5, u7, u8, u9, u10, u11, u12, u13, u14, u15, u16, u17, u18, u19, u20, u21, u22, rfl, hb⟩ hlen
    obtain ⟨I1, I2, I3, I4, I5, I6⟩ := hI
    clear hl hlo hlen I0 hbs h3 hr1
    have c3 : W.cell? ⟨w.heap.size + 1, 0, none⟩ = some (.int .i64 x) := blk_cell I3.out 0
    have c4 : W.cell? ⟨w.heap.size + 1 + 1, 0, none⟩ = some (.string ⟨#[]⟩) := blk_cell I4.out 0
    have f4 := blk_frozen I4.out 0
    have p0 : W.cell? ⟨b, 0, none⟩ = some (.int .i64 (bk l1 y.1).f0) := blk_cell hb.out 0
    have p1 : W.cell? ⟨b, 1, none⟩ = some (.string (bk l1 y.1).f1) := blk_cell hb.out 1
    obtain ⟨e1, he1⟩ : ∃ e, e = bk l1 y.1 := ⟨_, rfl⟩
    rw [← he1] at p0 p1
    have HE := Aside0.mk he1
    clear he1
    refine wpIn_block ?_
    refine wpIn_seq ?_
    refine region_round (l := [_, _, _, _]) (by kernel_rfl) (by rintro ⟨_, _, h⟩; exact h) ?_
    by_cases hx : e1.f0 = x
    · have hd : (e1.f0 == x) = true := beq_iff_eq.2 hx
      have HX := Aside0.mk hx
      clear hx
      go_wp2_with fail
      refine wpIn_cond_true rfl ?_
      refine wpIn_seq ?_
      refine region_round (l := [_, _, _]) (by kernel_rfl) (by rintro ⟨_, _, h⟩; exact h) ?_
      go_wp2_with fail
      refine wpIn_ret ?_
      refine ⟨⟨by simp, fun k o _ hk ho => ?_⟩, ⟨rfl, pre, y, rfl, I1.out, by rw [← HE.out]; exact HX.out, ?_⟩, ⟨below_set I5.out (by show w.heap.size ≤ w.heap.size + 1 + 1; omega)⟩⟩
      · have hne : k ≠ w.heap.size + 1 + 1 := by
          rintro rfl
          rw [I4.out] at hk
          cases hk
          cases ho
        exact (Below.heap_setCell _ _ _ k hne).trans hk
      · rw [← HE.out]
        exact blk_set I4.out 0 _
    · have hd : (e1.f0 == x) = false := by rw [beq_eq_false_iff_ne]; exact hx
      have HX := Aside0.mk hx
      clear hx
      go_wp2_with fail
      refine wpIn_cond_false rfl ?_
      refine wpIn_skip ?_
      refine ⟨KeepsFrom.refl _ _, KpD.refl _ _, ⟨fun z hz => ?_⟩, I2, I3, I4, I5, I6⟩
      rcases List.mem_append.1 hz with h | h
      · exact I1.out z h
      · obtain rfl : z = y := by simpa using h
        rw [← HE.out]
        exact HX.out
  case done =>
    rintro D xs W hD hxs ⟨I1, I2, I3, I4, I5, I6⟩ hK
    clear I0 hbs hr1
    have hv : seekV l0 l1 x l1.length = rdOf ByteArray.empty l0 x := by
      rw [seek_skip l0 l1 x l1.length (Nat.le_refl _) (fun i hi => ?_), Nat.sub_self]
      · rfl
      · obtain ⟨z, hz, rfl⟩ : ∃ z ∈ xs, z.1 = i := by
          have : i ∈ xs.map (·.1) := by rw [hxs]; exact List.mem_range.2 hi
          exact List.mem_map.1 this
        exact I1.out z hz
    have HV := Aside0.mk hv
    have HK := Aside0.mk hK
    have HD := Aside0.mk hD
    clear hv hxs hK hD I1
    obtain ⟨j, rfl⟩ : ∃ j : Nat, x = (j : Int) := ⟨x.toNat, by have := HX0.out; omega⟩
    have hj : j < l0.length := by have := HX1.out; omega
    obtain ⟨ad, hA, q0⟩ := rd_string_at (Kd.C_below HR0.out I5.out) j hj
    subst hA
    have hrd : rdOf ByteArray.empty l0 (j : Int) = l0[j] := by simp [rdOf, hj]
    have HRD := Aside0.mk hrd
    clear hrd
    obtain ⟨v, hv⟩ : ∃ v, v = l0[j] := ⟨_, rfl⟩
    rw [← hv] at q0 HRD
    clear hv
    have j0 : (0 : Int) ≤ (j : Int) := Int.natCast_nonneg j
    have j1 : (j : Int) < (l0.length : Int) := by omega
    have d0 : W.cell? ⟨w.heap.size, 0, none⟩ = some (.slice (some ad) l0.length c0) := blk_cell I2.out 0
    have c3 : W.cell? ⟨w.heap.size + 1, 0, none⟩ = some (.int .i64 (j : Int)) := blk_cell I3.out 0
    have c4 : W.cell? ⟨w.heap.size + 1 + 1, 0, none⟩ = some (.string ⟨#[]⟩) := blk_cell I4.out 0
    have f4 := blk_frozen I4.out 0
    go_wp2_with fail
    have hD1 : (W.setCell ⟨w.heap.size + 1 + 1, 0, none⟩ (.string v)).heap[D]? = some (.deferred (some [])) := (Below.heap_setCell _ _ _ D (by show D ≠ w.heap.size + 1 + 1; have := HD.out; have := HZ3.out; omega)).trans HK.out
    have q1 : ((W.setCell ⟨w.heap.size + 1 + 1, 0, none⟩ (.string v)).putObj D (.deferred none)).cell? ⟨w.heap.size + 1 + 1, 0, none⟩ = some (.string v) := (World.cell?_of_block (World.putObj_heap_other (by show w.heap.size + 1 + 1 ≠ D; have := HD.out; have := HZ3.out; omega))).trans (blk_cell (blk_set I4.out 0 _) 0)
    have hB1 : Below w.heap.size w ((W.setCell ⟨w.heap.size + 1 + 1, 0, none⟩ (.string v)).putObj D (.deferred none)) := (below_set I5.out (by show w.heap.size ≤ w.heap.size + 1 + 1; omega)).trans (belowK_b (w := w) (Nat.le_refl _) _ D _ _ (by have := HD.out; have := HZ3.out; omega) hD1 rfl rfl)
    refine ⟨by simp, .inl ⟨_, _, rfl, run_takeDeferred hD1, ?_⟩⟩
    refine ⟨.string v, ?_, by rw [HV.out, HRD.out], hB1⟩
    clear d0 c3 c4 f4 q0
    have hres : Try.f82.results = #[.cell 4 9] := by kernel_rfl
    simp only [results, hres]
    go_simp
  case stop =>
    rintro D c pre W hD ⟨k, hk, hpre⟩ ⟨⟨rfl, q, y, rfl, hq, hy, hh⟩, hB⟩ hK
    clear I0 hbs hr1
    refine wpIn_ret ?_
    simp only [Exit.inBlock, Exit.then]
    have hv : seekV l0 l1 x l1.length = (bk l1 y.1).f1 := by
      rw [List.map_append] at hpre
      have hl : k = q.length + 1 := by have := congrArg List.length hpre; simp at this; omega
      subst hl
      rw [List.range_succ] at hpre
      obtain ⟨h1, h2⟩ := List.append_inj' hpre rfl
      have h3 : y.1 = q.length := by simpa using h2
      refine (seek_hit l0 l1 x y.1 y.2 (fun i hi => ?_) hy)
      obtain ⟨z, hz, rfl⟩ : ∃ z ∈ q, z.1 = i := by
        have : i ∈ q.map (·.1) := by rw [h1]; exact List.mem_range.2 (by omega)
        exact List.mem_map.1 this
      exact hq z hz
    have q1 : (W.putObj D (.deferred none)).cell? ⟨w.heap.size + 1 + 1, 0, none⟩ = some (.string (bk l1 y.1).f1) := (World.cell?_of_block (World.putObj_heap_other (by show w.heap.size + 1 + 1 ≠ D; have := HZ3.out; omega))).trans (blk_cell hh 0)
    have hB1 : Below w.heap.size w (W.putObj D (.deferred none)) := hB.out.trans (belowK_b (w := w) (Nat.le_refl _) W D _ _ (by have := HZ3.out; omega) hK rfl rfl)
    refine ⟨by simp, .inl ⟨_, _, rfl, run_takeDeferred hK, ?_⟩⟩
    refine ⟨.string (bk l1 y.1).f1, ?_, by rw [hv], hB1⟩
    obtain ⟨v, hv2⟩ : ∃ v, v = (bk l1 y.1).f1 := ⟨_, rfl⟩
    rw [← hv2] at q1 ⊢
    clear hv hv2
    have hres : Try.f82.results = #[.cell 4 9] := by kernel_rfl
    simp only [results, hres]
    go_simp
def impl_Disk_read.f (l0_0 : List ByteArray) (l0_1 : List S82) (l0_2 : List ByteArray) (a1 : Int) : Option ByteArray :=
  if 0 ≤ a1 then (if a1 < (l0_0.length : Int) then some (seekV l0_0 l0_1 a1 l0_1.length) else none) else none
theorem impl_Disk_read.calls (A0_0 : Option Addr) (c0_0 : Nat) (l0_0 : List ByteArray) (A0_1 : Option Addr) (c0_1 : Nat) (l0_1 : List S82) (A0_2 : Option Addr) (c0_2 : Nat) (l0_2 : List ByteArray) (a1 : Int) (r : ByteArray) (w : World) (hr0_0 : Kd.C Kd.string w A0_0 l0_0.length l0_0) (hc0_0 : l0_0.length ≤ c0_0) (hr0_1 : Kd.C k82 w A0_1 l0_1.length l0_1) (hc0_1 : l0_1.length ≤ c0_1) (hr0_2 : Kd.C Kd.string w A0_2 l0_2.length l0_2) (hc0_2 : l0_2.length ≤ c0_2) (h : impl_Disk_read.f l0_0 l0_1 l0_2 a1 = some r) :
    Calls Try.prog 82 #[.agg #[.slice A0_0 l0_0.length c0_0, .slice A0_1 l0_1.length c0_1, .slice A0_2 l0_2.length c0_2], .int .i64 a1] w fun e w' => e = .returned (.string r) ∧ Below w.heap.size w w' := by
  unfold impl_Disk_read.f at h
  split at h
  · rename_i h0
    split at h
    · rename_i h1
      injection h with h
      subst h
      exact diskRead_in A0_0 c0_0 l0_0 A0_1 c0_1 l0_1 A0_2 c0_2 l0_2 a1 w hr0_0 hc0_0 hr0_1 hc0_1 h0 h1
    · cases h
  · cases h
def impl_DiskRead.f (l0_0 : List ByteArray) (l0_1 : List (S82)) (l0_2 : List ByteArray) (a1 : Int) : Option (ByteArray × Int) := (impl_DiskOK.f l0_0 l0_1 l0_2).bind fun t199 => (if t199 = true then ((impl_Disk_isAt.f l0_0 l0_1 l0_2 a1).bind fun t200 => (if t200 = true then ((impl_Disk_read.f l0_0 l0_1 l0_2 a1).bind fun t201 => (some (t201, 0))) else (some ((⟨#[]⟩ : ByteArray), 4)))) else (some ((⟨#[]⟩ : ByteArray), 1)))
set_option maxHeartbeats 8000000 in
set_option maxRecDepth 100000 in
theorem impl_DiskRead.calls (A0_0 : Option Addr) (c0_0 : Nat) (l0_0 : List ByteArray) (A0_1 : Option Addr) (c0_1 : Nat) (l0_1 : List (S82)) (A0_2 : Option Addr) (c0_2 : Nat) (l0_2 : List ByteArray) (a1 : Int) (r1 : ByteArray) (r2 : Int) (w : World) (hr0_0 : Kd.C Kd.string w A0_0 l0_0.length l0_0) (hc0_0 : l0_0.length ≤ c0_0) (hr0_1 : Kd.C k82 w A0_1 l0_1.length l0_1) (hc0_1 : l0_1.length ≤ c0_1) (hr0_2 : Kd.C Kd.string w A0_2 l0_2.length l0_2) (hc0_2 : l0_2.length ≤ c0_2) (h : impl_DiskRead.f l0_0 l0_1 l0_2 a1 = some (r1, r2)) :
    Calls Try.prog 43 #[.agg #[.slice A0_0 l0_0.length c0_0, .slice A0_1 l0_1.length c0_1, .slice A0_2 l0_2.length c0_2], .int .i64 a1] w fun e w' => e = .returned (.tuple #[.string r1, .int .i64 r2]) ∧ Below w.heap.size w w' := by
  have hu43 := Try.underlying43
  have HR0_0 := Aside0.mk hr0_0
  have HC0_0 := Aside0.mk hc0_0
  clear hr0_0 hc0_0
  have HR0_1 := Aside0.mk hr0_1
  have HC0_1 := Aside0.mk hc0_1
  clear hr0_1 hc0_1
  have HR0_2 := Aside0.mk hr0_2
  have HC0_2 := Aside0.mk hc0_2
  clear hr0_2 hc0_2
  have HB := Aside0.mk (Below.refl w.heap.size w)
  have H : ((impl_DiskOK.f l0_0 l0_1 l0_2).bind fun t199 => (if t199 = true then ((impl_Disk_isAt.f l0_0 l0_1 l0_2 a1).bind fun t200 => (if t200 = true then ((impl_Disk_read.f l0_0 l0_1 l0_2 a1).bind fun t201 => (some (t201, 0))) else (some ((⟨#[]⟩ : ByteArray), 4)))) else (some ((⟨#[]⟩ : ByteArray), 1)))) = some (r1, r2) := h
  clear h
  replace H := Option.bind_eq_some_iff.mp H
  obtain ⟨t199, A30, H⟩ := H
  replace H : (if t199 = true then ((impl_Disk_isAt.f l0_0 l0_1 l0_2 a1).bind fun t200 => (if t200 = true then ((impl_Disk_read.f l0_0 l0_1 l0_2 a1).bind fun t201 => (some (t201, 0))) else (some ((⟨#[]⟩ : ByteArray), 4)))) else (some ((⟨#[]⟩ : ByteArray), 1))) = some (r1, r2) := H
  have A3 := Aside0.mk A30
  clear A30
  by_cases c4 : t199 = true
  · subst c4
    have H1 : ((impl_Disk_isAt.f l0_0 l0_1 l0_2 a1).bind fun t200 => (if t200 = true then ((impl_Disk_read.f l0_0 l0_1 l0_2 a1).bind fun t201 => (some (t201, 0))) else (some ((⟨#[]⟩ : ByteArray), 4)))) = some (r1, r2) := by rw [if_pos rfl] at H; exact H
    clear H
    have H := H1
    clear H1
    replace H := Option.bind_eq_some_iff.mp H
    obtain ⟨t200, A50, H⟩ := H
    replace H : (if t200 = true then ((impl_Disk_read.f l0_0 l0_1 l0_2 a1).bind fun t201 => (some (t201, 0))) else (some ((⟨#[]⟩ : ByteArray), 4))) = some (r1, r2) := H
    have A5 := Aside0.mk A50
    clear A50
    by_cases c6 : t200 = true
    · subst c6
      have H1 : ((impl_Disk_read.f l0_0 l0_1 l0_2 a1).bind fun t201 => (some (t201, 0))) = some (r1, r2) := by rw [if_pos rfl] at H; exact H
      clear H
      have H := H1
      clear H1
      replace H := Option.bind_eq_some_iff.mp H
      obtain ⟨t201, A70, H⟩ := H
      replace H : (some (t201, 0)) = some (r1, r2) := H
      have A7 := Aside0.mk A70
      clear A70
      simp only [Option.some.injEq, Prod.mk.injEq] at H
      obtain ⟨rfl, rfl⟩ := H
      go_enter Try.func43, Try.ntmps43
      go_wp2_with (first | ((with_reducible refine gate_dst (N := 2) rfl ?_); refine box_event ?hg (N := 2) ?hd (cs := #[.slice A0_0 l0_0.length c0_0, .slice A0_1 l0_1.length c0_1, .slice A0_2 l0_2.length c0_2]) (t := 43) ?hr ?_; (case hd => rfl); (case hg => rfl); (case hr => first | (go_simp; done) | (go_simp; rfl)); intro gb198 hg w8 hbox hb; have n0_ := Aside0.mk (below_step (by repeat (first | (with_reducible first | exact HB.out | apply below_alloc | apply pw_below_drewN | apply below_drew1) | exact HB.out)) hb); have n1_ := Aside0.mk (hbox); have n2_ := Aside0.mk ((by rw [hg]; exact (below_size (by repeat (first | (with_reducible first | exact HB.out | apply below_alloc | apply pw_below_drewN | apply below_drew1) | exact HB.out))) : w.heap.size ≤ gb198)); have n3_ := Aside0.mk ((by rw [hg]; exact (below_size (by repeat (first | (with_reducible first | exact HB.out | apply below_alloc | apply pw_below_drewN | apply below_drew1) | exact HB.out))) : w.heap.size ≤ gb198)); clear HB; have HB := n0_; have BK198 := n1_; have GW198 := n2_; have GE198 := n3_; clear n0_ n1_ n2_ n3_; clear hb hbox hg; have hcz9_0 : w8.cell? ⟨gb198, 0, none⟩ = some (.slice A0_0 l0_0.length c0_0) := (blk_cell BK198.out 0).trans rfl; have hcz9_1 : w8.cell? ⟨gb198, 1, none⟩ = some (.slice A0_1 l0_1.length c0_1) := (blk_cell BK198.out 1).trans rfl; have hcz9_2 : w8.cell? ⟨gb198, 2, none⟩ = some (.slice A0_2 l0_2.length c0_2) := (blk_cell BK198.out 2).trans rfl; have hfz9_0 := blk_frozen BK198.out 0; have hfz9_1 := blk_frozen BK198.out 1; have hfz9_2 := blk_frozen BK198.out 2) | ((with_reducible refine gate_callee (f := 41) rfl ?_); refine goesL_ (some 8) rfl rfl Try.func41 (by kernel_rfl) rfl #[.agg #[.slice A0_0 l0_0.length c0_0, .slice A0_1 l0_1.length c0_1, .slice A0_2 l0_2.length c0_2]] rfl (by (try simp only [List.map_toArray, List.map_cons, List.map_nil]); first | done | rfl | (simp only [List.length_drop, List.length_take]; rfl)) ?_; (with_reducible refine (impl_DiskOK.calls _ _ l0_0 _ _ l0_1 _ _ l0_2 true _ ?side1 ?side2 ?side3 ?side4 ?side5 ?side6 A3.out).mono ?_); (case side1 => repeat (first | exact (Kd.C_below HR0_0.out HB.out) | (with_reducible refine Kd.C_alloc ?_ _) | (with_reducible refine Kd.C_drewN ?_ _) | (with_reducible refine Kd.C_drew ?_))); (case side2 => exact HC0_0.out); (case side3 => repeat (first | exact (Kd.C_below HR0_1.out HB.out) | (with_reducible refine Kd.C_alloc ?_ _) | (with_reducible refine Kd.C_drewN ?_ _) | (with_reducible refine Kd.C_drew ?_))); (case side4 => exact HC0_1.out); (case side5 => repeat (first | exact (Kd.C_below HR0_2.out HB.out) | (with_reducible refine Kd.C_alloc ?_ _) | (with_reducible refine Kd.C_drewN ?_ _) | (with_reducible refine Kd.C_drew ?_))); (case side6 => exact HC0_2.out); rintro e w10 ⟨rfl, hb⟩; refine ⟨_, rfl, ?_⟩; have n0_ := Aside0.mk (blk_below (g := gb198) (o := .cells #[.slice A0_0 l0_0.length c0_0, .slice A0_1 l0_1.length c0_1, .slice A0_2 l0_2.length c0_2] 43 (0, 0)) (by (with_reducible repeat (first | refine blk_drewN ?_ _ | refine blk_drew ?_ | refine blk_alloc ?_ _)); exact BK198.out) hb); have n1_ := Aside0.mk (below_step (by repeat (first | (with_reducible first | exact HB.out | apply below_alloc | apply pw_below_drewN | apply below_drew1 | refine below_set ?_ GE198.out) | exact HB.out)) hb); clear BK198; clear HB; have BK198 := n0_; have HB := n1_; clear n0_ n1_; (try clear hb); (try clear hb2); (try clear hk); (try clear hi); have hcz11_0 : w10.cell? ⟨gb198, 0, none⟩ = some (.slice A0_0 l0_0.length c0_0) := (blk_cell BK198.out 0).trans rfl; have hcz11_1 : w10.cell? ⟨gb198, 1, none⟩ = some (.slice A0_1 l0_1.length c0_1) := (blk_cell BK198.out 1).trans rfl; have hcz11_2 : w10.cell? ⟨gb198, 2, none⟩ = some (.slice A0_2 l0_2.length c0_2) := (blk_cell BK198.out 2).trans rfl; have hfz11_0 := blk_frozen BK198.out 0; have hfz11_1 := blk_frozen BK198.out 1; have hfz11_2 := blk_frozen BK198.out 2) | ((with_reducible refine gate_callee (f := 80) rfl ?_); refine goesL_ (some 13) rfl rfl Try.func80 (by kernel_rfl) rfl #[.agg #[.slice A0_0 l0_0.length c0_0, .slice A0_1 l0_1.length c0_1, .slice A0_2 l0_2.length c0_2], .int .i64 a1] rfl (by (try simp only [List.map_toArray, List.map_cons, List.map_nil]); first | done | rfl | (simp only [List.length_drop, List.length_take]; rfl)) ?_; (with_reducible refine (impl_Disk_isAt.calls _ _ l0_0 _ _ l0_1 _ _ l0_2 a1 true _ ?side1 ?side2 ?side3 ?side4 ?side5 ?side6 A5.out).mono ?_); (case side1 => repeat (first | exact (Kd.C_below HR0_0.out HB.out) | (with_reducible refine Kd.C_alloc ?_ _) | (with_reducible refine Kd.C_drewN ?_ _) | (with_reducible refine Kd.C_drew ?_))); (case side2 => exact HC0_0.out); (case side3 => repeat (first | exact (Kd.C_below HR0_1.out HB.out) | (with_reducible refine Kd.C_alloc ?_ _) | (with_reducible refine Kd.C_drewN ?_ _) | (with_reducible refine Kd.C_drew ?_))); (case side4 => exact HC0_1.out); (case side5 => repeat (first | exact (Kd.C_below HR0_2.out HB.out) | (with_reducible refine Kd.C_alloc ?_ _) | (with_reducible refine Kd.C_drewN ?_ _) | (with_reducible refine Kd.C_drew ?_))); (case side6 => exact HC0_2.out); rintro e w12 ⟨rfl, hb⟩; refine ⟨_, rfl, ?_⟩; have n0_ := Aside0.mk (blk_below (g := gb198) (o := .cells #[.slice A0_0 l0_0.length c0_0, .slice A0_1 l0_1.length c0_1, .slice A0_2 l0_2.length c0_2] 43 (0, 0)) (by (with_reducible repeat (first | refine blk_drewN ?_ _ | refine blk_drew ?_ | refine blk_alloc ?_ _)); exact BK198.out) hb); have n1_ := Aside0.mk (below_step (by repeat (first | (with_reducible first | exact HB.out | apply below_alloc | apply pw_below_drewN | apply below_drew1 | refine below_set ?_ GE198.out) | exact HB.out)) hb); clear BK198; clear HB; have BK198 := n0_; have HB := n1_; clear n0_ n1_; (try clear hb); (try clear hb2); (try clear hk); (try clear hi); have hcz13_0 : w12.cell? ⟨gb198, 0, none⟩ = some (.slice A0_0 l0_0.length c0_0) := (blk_cell BK198.out 0).trans rfl; have hcz13_1 : w12.cell? ⟨gb198, 1, none⟩ = some (.slice A0_1 l0_1.length c0_1) := (blk_cell BK198.out 1).trans rfl; have hcz13_2 : w12.cell? ⟨gb198, 2, none⟩ = some (.slice A0_2 l0_2.length c0_2) := (blk_cell BK198.out 2).trans rfl; have hfz13_0 := blk_frozen BK198.out 0; have hfz13_1 := blk_frozen BK198.out 1; have hfz13_2 := blk_frozen BK198.out 2) | ((with_reducible refine gate_callee (f := 82) rfl ?_); refine goesL_ (some 17) rfl rfl Try.func82 (by kernel_rfl) rfl #[.agg #[.slice A0_0 l0_0.length c0_0, .slice A0_1 l0_1.length c0_1, .slice A0_2 l0_2.length c0_2], .int .i64 a1] rfl (by (try simp only [List.map_toArray, List.map_cons, List.map_nil]); first | done | rfl | (simp only [List.length_drop, List.length_take]; rfl)) ?_; (with_reducible refine (impl_Disk_read.calls _ _ l0_0 _ _ l0_1 _ _ l0_2 a1 t201 _ ?side1 ?side2 ?side3 ?side4 ?side5 ?side6 A7.out).mono ?_); (case side1 => repeat (first | exact (Kd.C_below HR0_0.out HB.out) | (with_reducible refine Kd.C_alloc ?_ _) | (with_reducible refine Kd.C_drewN ?_ _) | (with_reducible refine Kd.C_drew ?_))); (case side2 => exact HC0_0.out); (case side3 => repeat (first | exact (Kd.C_below HR0_1.out HB.out) | (with_reducible refine Kd.C_alloc ?_ _) | (with_reducible refine Kd.C_drewN ?_ _) | (with_reducible refine Kd.C_drew ?_))); (case side4 => exact HC0_1.out); (case side5 => repeat (first | exact (Kd.C_below HR0_2.out HB.out) | (with_reducible refine Kd.C_alloc ?_ _) | (with_reducible refine Kd.C_drewN ?_ _) | (with_reducible refine Kd.C_drew ?_))); (case side6 => exact HC0_2.out); rintro e w14 ⟨rfl, hb⟩; refine ⟨_, rfl, ?_⟩; have n0_ := Aside0.mk (blk_below (g := gb198) (o := .cells #[.slice A0_0 l0_0.length c0_0, .slice A0_1 l0_1.length c0_1, .slice A0_2 l0_2.length c0_2] 43 (0, 0)) (by (with_reducible repeat (first | refine blk_drewN ?_ _ | refine blk_drew ?_ | refine blk_alloc ?_ _)); exact BK198.out) hb); have n1_ := Aside0.mk (below_step (by repeat (first | (with_reducible first | exact HB.out | apply below_alloc | apply pw_below_drewN | apply below_drew1 | refine below_set ?_ GE198.out) | exact HB.out)) hb); clear BK198; clear HB; have BK198 := n0_; have HB := n1_; clear n0_ n1_; (try clear hb); (try clear hb2); (try clear hk); (try clear hi)))
      go_ret2
      exact ⟨by first | rfl | (simp [errW_none, errW_some] <;> rfl) | (simp [*, errW_none, errW_some] <;> rfl), by repeat (first | (with_reducible first | exact HB.out | apply below_alloc | apply pw_below_drewN | apply below_drew1 | refine below_set ?_ GE198.out) | exact HB.out)⟩
    · replace c6 := Bool.eq_false_iff.mpr c6
      subst c6
      have H1 : (some ((⟨#[]⟩ : ByteArray), 4)) = some (r1, r2) := by rw [if_neg (show ¬ (false = true) by decide)] at H; exact H
      clear H
      have H := H1
      clear H1
      simp only [Option.some.injEq, Prod.mk.injEq] at H
      obtain ⟨rfl, rfl⟩ := H
      go_enter Try.func43, Try.ntmps43
      go_wp2_with (first | ((with_reducible refine gate_dst (N := 2) rfl ?_); refine box_event ?hg (N := 2) ?hd (cs := #[.slice A0_0 l0_0.length c0_0, .slice A0_1 l0_1.length c0_1, .slice A0_2 l0_2.length c0_2]) (t := 43) ?hr ?_; (case hd => rfl); (case hg => rfl); (case hr => first | (go_simp; done) | (go_simp; rfl)); intro gb198 hg w15 hbox hb; have n0_ := Aside0.mk (below_step (by repeat (first | (with_reducible first | exact HB.out | apply below_alloc | apply pw_below_drewN | apply below_drew1) | exact HB.out)) hb); have n1_ := Aside0.mk (hbox); have n2_ := Aside0.mk ((by rw [hg]; exact (below_size (by repeat (first | (with_reducible first | exact HB.out | apply below_alloc | apply pw_below_drewN | apply below_drew1) | exact HB.out))) : w.heap.size ≤ gb198)); have n3_ := Aside0.mk ((by rw [hg]; exact (below_size (by repeat (first | (with_reducible first | exact HB.out | apply below_alloc | apply pw_below_drewN | apply below_drew1) | exact HB.out))) : w.heap.size ≤ gb198)); clear HB; have HB := n0_; have BK198 := n1_; have GW198 := n2_; have GE198 := n3_; clear n0_ n1_ n2_ n3_; clear hb hbox hg; have hcz16_0 : w15.cell? ⟨gb198, 0, none⟩ = some (.slice A0_0 l0_0.length c0_0) := (blk_cell BK198.out 0).trans rfl; have hcz16_1 : w15.cell? ⟨gb198, 1, none⟩ = some (.slice A0_1 l0_1.length c0_1) := (blk_cell BK198.out 1).trans rfl; have hcz16_2 : w15.cell? ⟨gb198, 2, none⟩ = some (.slice A0_2 l0_2.length c0_2) := (blk_cell BK198.out 2).trans rfl; have hfz16_0 := blk_frozen BK198.out 0; have hfz16_1 := blk_frozen BK198.out 1; have hfz16_2 := blk_frozen BK198.out 2) | ((with_reducible refine gate_callee (f := 41) rfl ?_); refine goesL_ (some 8) rfl rfl Try.func41 (by kernel_rfl) rfl #[.agg #[.slice A0_0 l0_0.length c0_0, .slice A0_1 l0_1.length c0_1, .slice A0_2 l0_2.length c0_2]] rfl (by (try simp only [List.map_toArray, List.map_cons, List.map_nil]); first | done | rfl | (simp only [List.length_drop, List.length_take]; rfl)) ?_; (with_reducible refine (impl_DiskOK.calls _ _ l0_0 _ _ l0_1 _ _ l0_2 true _ ?side1 ?side2 ?side3 ?side4 ?side5 ?side6 A3.out).mono ?_); (case side1 => repeat (first | exact (Kd.C_below HR0_0.out HB.out) | (with_reducible refine Kd.C_alloc ?_ _) | (with_reducible refine Kd.C_drewN ?_ _) | (with_reducible refine Kd.C_drew ?_))); (case side2 => exact HC0_0.out); (case side3 => repeat (first | exact (Kd.C_below HR0_1.out HB.out) | (with_reducible refine Kd.C_alloc ?_ _) | (with_reducible refine Kd.C_drewN ?_ _) | (with_reducible refine Kd.C_drew ?_))); (case side4 => exact HC0_1.out); (case side5 => repeat (first | exact (Kd.C_below HR0_2.out HB.out) | (with_reducible refine Kd.C_alloc ?_ _) | (with_reducible refine Kd.C_drewN ?_ _) | (with_reducible refine Kd.C_drew ?_))); (case side6 => exact HC0_2.out); rintro e w17 ⟨rfl, hb⟩; refine ⟨_, rfl, ?_⟩; have n0_ := Aside0.mk (blk_below (g := gb198) (o := .cells #[.slice A0_0 l0_0.length c0_0, .slice A0_1 l0_1.length c0_1, .slice A0_2 l0_2.length c0_2] 43 (0, 0)) (by (with_reducible repeat (first | refine blk_drewN ?_ _ | refine blk_drew ?_ | refine blk_alloc ?_ _)); exact BK198.out) hb); have n1_ := Aside0.mk (below_step (by repeat (first | (with_reducible first | exact HB.out | apply below_alloc | apply pw_below_drewN | apply below_drew1 | refine below_set ?_ GE198.out) | exact HB.out)) hb); clear BK198; clear HB; have BK198 := n0_; have HB := n1_; clear n0_ n1_; (try clear hb); (try clear hb2); (try clear hk); (try clear hi); have hcz18_0 : w17.cell? ⟨gb198, 0, none⟩ = some (.slice A0_0 l0_0.length c0_0) := (blk_cell BK198.out 0).trans rfl; have hcz18_1 : w17.cell? ⟨gb198, 1, none⟩ = some (.slice A0_1 l0_1.length c0_1) := (blk_cell BK198.out 1).trans rfl; have hcz18_2 : w17.cell? ⟨gb198, 2, none⟩ = some (.slice A0_2 l0_2.length c0_2) := (blk_cell BK198.out 2).trans rfl; have hfz18_0 := blk_frozen BK198.out 0; have hfz18_1 := blk_frozen BK198.out 1; have hfz18_2 := blk_frozen BK198.out 2) | ((with_reducible refine gate_callee (f := 80) rfl ?_); refine goesL_ (some 13) rfl rfl Try.func80 (by kernel_rfl) rfl #[.agg #[.slice A0_0 l0_0.length c0_0, .slice A0_1 l0_1.length c0_1, .slice A0_2 l0_2.length c0_2], .int .i64 a1] rfl (by (try simp only [List.map_toArray, List.map_cons, List.map_nil]); first | done | rfl | (simp only [List.length_drop, List.length_take]; rfl)) ?_; (with_reducible refine (impl_Disk_isAt.calls _ _ l0_0 _ _ l0_1 _ _ l0_2 a1 false _ ?side1 ?side2 ?side3 ?side4 ?side5 ?side6 A5.out).mono ?_); (case side1 => repeat (first | exact (Kd.C_below HR0_0.out HB.out) | (with_reducible refine Kd.C_alloc ?_ _) | (with_reducible refine Kd.C_drewN ?_ _) | (with_reducible refine Kd.C_drew ?_))); (case side2 => exact HC0_0.out); (case side3 => repeat (first | exact (Kd.C_below HR0_1.out HB.out) | (with_reducible refine Kd.C_alloc ?_ _) | (with_reducible refine Kd.C_drewN ?_ _) | (with_reducible refine Kd.C_drew ?_))); (case side4 => exact HC0_1.out); (case side5 => repeat (first | exact (Kd.C_below HR0_2.out HB.out) | (with_reducible refine Kd.C_alloc ?_ _) | (with_reducible refine Kd.C_drewN ?_ _) | (with_reducible refine Kd.C_drew ?_))); (case side6 => exact HC0_2.out); rintro e w19 ⟨rfl, hb⟩; refine ⟨_, rfl, ?_⟩; have n0_ := Aside0.mk (blk_below (g := gb198) (o := .cells #[.slice A0_0 l0_0.length c0_0, .slice A0_1 l0_1.length c0_1, .slice A0_2 l0_2.length c0_2] 43 (0, 0)) (by (with_reducible repeat (first | refine blk_drewN ?_ _ | refine blk_drew ?_ | refine blk_alloc ?_ _)); exact BK198.out) hb); have n1_ := Aside0.mk (below_step (by repeat (first | (with_reducible first | exact HB.out | apply below_alloc | apply pw_below_drewN | apply below_drew1 | refine below_set ?_ GE198.out) | exact HB.out)) hb); clear BK198; clear HB; have BK198 := n0_; have HB := n1_; clear n0_ n1_; (try clear hb); (try clear hb2); (try clear hk); (try clear hi)))
      go_ret2
      exact ⟨by first | rfl | (simp [errW_none, errW_some] <;> rfl) | (simp [*, errW_none, errW_some] <;> rfl), by repeat (first | (with_reducible first | exact HB.out | apply below_alloc | apply pw_below_drewN | apply below_drew1 | refine below_set ?_ GE198.out) | exact HB.out)⟩
  · replace c4 := Bool.eq_false_iff.mpr c4
    subst c4
    have H1 : (some ((⟨#[]⟩ : ByteArray), 1)) = some (r1, r2) := by rw [if_neg (show ¬ (false = true) by decide)] at H; exact H
    clear H
    have H := H1
    clear H1
    simp only [Option.some.injEq, Prod.mk.injEq] at H
    obtain ⟨rfl, rfl⟩ := H
    go_enter Try.func43, Try.ntmps43
    go_wp2_with (first | ((with_reducible refine gate_dst (N := 2) rfl ?_); refine box_event ?hg (N := 2) ?hd (cs := #[.slice A0_0 l0_0.length c0_0, .slice A0_1 l0_1.length c0_1, .slice A0_2 l0_2.length c0_2]) (t := 43) ?hr ?_; (case hd => rfl); (case hg => rfl); (case hr => first | (go_simp; done) | (go_simp; rfl)); intro gb198 hg w20 hbox hb; have n0_ := Aside0.mk (below_step (by repeat (first | (with_reducible first | exact HB.out | apply below_alloc | apply pw_below_drewN | apply below_drew1) | exact HB.out)) hb); have n1_ := Aside0.mk (hbox); have n2_ := Aside0.mk ((by rw [hg]; exact (below_size (by repeat (first | (with_reducible first | exact HB.out | apply below_alloc | apply pw_below_drewN | apply below_drew1) | exact HB.out))) : w.heap.size ≤ gb198)); have n3_ := Aside0.mk ((by rw [hg]; exact (below_size (by repeat (first | (with_reducible first | exact HB.out | apply below_alloc | apply pw_below_drewN | apply below_drew1) | exact HB.out))) : w.heap.size ≤ gb198)); clear HB; have HB := n0_; have BK198 := n1_; have GW198 := n2_; have GE198 := n3_; clear n0_ n1_ n2_ n3_; clear hb hbox hg; have hcz21_0 : w20.cell? ⟨gb198, 0, none⟩ = some (.slice A0_0 l0_0.length c0_0) := (blk_cell BK198.out 0).trans rfl; have hcz21_1 : w20.cell? ⟨gb198, 1, none⟩ = some (.slice A0_1 l0_1.length c0_1) := (blk_cell BK198.out 1).trans rfl; have hcz21_2 : w20.cell? ⟨gb198, 2, none⟩ = some (.slice A0_2 l0_2.length c0_2) := (blk_cell BK198.out 2).trans rfl; have hfz21_0 := blk_frozen BK198.out 0; have hfz21_1 := blk_frozen BK198.out 1; have hfz21_2 := blk_frozen BK198.out 2) | ((with_reducible refine gate_callee (f := 41) rfl ?_); refine goesL_ (some 8) rfl rfl Try.func41 (by kernel_rfl) rfl #[.agg #[.slice A0_0 l0_0.length c0_0, .slice A0_1 l0_1.length c0_1, .slice A0_2 l0_2.length c0_2]] rfl (by (try simp only [List.map_toArray, List.map_cons, List.map_nil]); first | done | rfl | (simp only [List.length_drop, List.length_take]; rfl)) ?_; (with_reducible refine (impl_DiskOK.calls _ _ l0_0 _ _ l0_1 _ _ l0_2 false _ ?side1 ?side2 ?side3 ?side4 ?side5 ?side6 A3.out).mono ?_); (case side1 => repeat (first | exact (Kd.C_below HR0_0.out HB.out) | (with_reducible refine Kd.C_alloc ?_ _) | (with_reducible refine Kd.C_drewN ?_ _) | (with_reducible refine Kd.C_drew ?_))); (case side2 => exact HC0_0.out); (case side3 => repeat (first | exact (Kd.C_below HR0_1.out HB.out) | (with_reducible refine Kd.C_alloc ?_ _) | (with_reducible refine Kd.C_drewN ?_ _) | (with_reducible refine Kd.C_drew ?_))); (case side4 => exact HC0_1.out); (case side5 => repeat (first | exact (Kd.C_below HR0_2.out HB.out) | (with_reducible refine Kd.C_alloc ?_ _) | (with_reducible refine Kd.C_drewN ?_ _) | (with_reducible refine Kd.C_drew ?_))); (case side6 => exact HC0_2.out); rintro e w22 ⟨rfl, hb⟩; refine ⟨_, rfl, ?_⟩; have n0_ := Aside0.mk (blk_below (g := gb198) (o := .cells #[.slice A0_0 l0_0.length c0_0, .slice A0_1 l0_1.length c0_1, .slice A0_2 l0_2.length c0_2] 43 (0, 0)) (by (with_reducible repeat (first | refine blk_drewN ?_ _ | refine blk_drew ?_ | refine blk_alloc ?_ _)); exact BK198.out) hb); have n1_ := Aside0.mk (below_step (by repeat (first | (with_reducible first | exact HB.out | apply below_alloc | apply pw_below_drewN | apply below_drew1 | refine below_set ?_ GE198.out) | exact HB.out)) hb); clear BK198; clear HB; have BK198 := n0_; have HB := n1_; clear n0_ n1_; (try clear hb); (try clear hb2); (try clear hk); (try clear hi)))
    go_ret2
    exact ⟨by first | rfl | (simp [errW_none, errW_some] <;> rfl) | (simp [*, errW_none, errW_some] <;> rfl), by repeat (first | (with_reducible first | exact HB.out | apply below_alloc | apply pw_below_drewN | apply below_drew1 | refine below_set ?_ GE198.out) | exact HB.out)⟩
end Go.Proofs.Ytbpefnfeiidioaa.P

/- Laid by a program of this session: of Aes, Hq, Md, Fm, Pstr, WTab, WRepsOne, WGuard, Pt0 what this law uses. -/
import Derived.Test.YtlfpogbonmddmaaZFsM10
import Derived.Laws.BytesArg
import Derived.Laws.Strings
import Derived.RowKit
import Derived.Test.YtlfpogbonmddmaaZFsWLast
import Derived.Test.YtlfpogbonmddmaaZFsWWords
import Derived.Test.YtlfpogbonmddmaaProg
import Derived.Below
import Derived.Deep.Draws
import Derived.Deep.AppendLies
import Derived.Maps.AppendAt
import Derived.OwnWalk
import Derived.Laws.MakeOwn
import Derived.Laws.OwnMore
import Derived.Deep.OwnRows
import Derived.Tactics
import Derived.Lib.ConvBytes
import Derived.Laws.Slices
import Derived.WalkKit
import Derived.KernelRfl
import Derived.RowKit3
import Derived.Deep.LoopGhost
import Derived.Deep.QuietTactic
import Derived.BigQuiet
import Derived.WideLaws
import Derived.Deep.DeepCutAuto
import Derived.Deep.CutBlock
import Derived.Deep.RegionHeld3
import Derived.Laws.Rows
import Derived.Lib.AppendStr
import Derived.ArgAppend
import Derived.Laws.IdiomCopy
import Derived.OrdersHeld
import Derived.Laws.BitsLemmas
import Derived.Deep.MidRow
import Derived.Great.BuildSlice
import Derived.RegionTactic
import Derived.BigRegion
import Derived.Deep.RegionLaw
import Derived.Lib.SliceRun
import Derived.Lib.MakeNoZero
import Derived.Laws.CopyOwn
import Derived.Lib.SlBytesConst
import Derived.Lib.LazyBuf
import Derived.Test.YtlfpogbonmddmaaZFsWApart
import Derived.Test.YtlfpogbonmddmaaZFsWArr
import Derived.Test.YtlfpogbonmddmaaZFsWZeros
import Derived.Test.YtlfpogbonmddmaaZFsWFoot
import Derived.Test.YtlfpogbonmddmaaZFsWKept
import Derived.Test.YtlfpogbonmddmaaZFsWShare
import Derived.Test.YtlfpogbonmddmaaZFsWN
import Derived.Laws.StructEq
import Derived.Test.YtlfpogbonmddmaaZFsWMore
namespace Go.Proofs.Ytlfpogbonmddmaa.Aes
open Go Go.Proofs.Ytlfpogbonmddmaa.Gf
set_option linter.unusedVariables false
set_option linter.unusedSimpArgs false
def ok (l : List Int) : Prop := ∀ x ∈ l, 0 ≤ x ∧ x ≤ 255
def rotl (x i : Nat) : Nat := (x * 2 ^ i % 256) ||| (x / 2 ^ (8 - i))
def sub (a : Nat) : Nat := let x := inv a; ((((x ^^^ rotl x 1) ^^^ rotl x 2) ^^^ rotl x 3) ^^^ rotl x 4) ^^^ 99
theorem sub_lt : ∀ a, a < 256 → sub a < 256 := by decide +kernel
def unsub (a : Nat) : Nat := ((List.range 256).find? fun b => sub b == a).getD 0
theorem sub_unsub : ∀ a, a < 256 → sub (unsub a) = a := by decide +kernel
theorem unsub_sub : ∀ a, a < 256 → unsub (sub a) = a := by decide +kernel
def subs : List Int := (List.range 256).map fun a => ((sub a : Nat) : Int)
def xr (a b : Int) : Int := Go.bits .xor .u8 a b
def sb (a : Int) : Int := ((sub a.toNat : Nat) : Int)
def ub (a : Int) : Int := ((unsub a.toNat : Nat) : Int)
def by_ (a : Int) : Prop := 0 ≤ a ∧ a ≤ 255
theorem by_nat {a : Int} (h : by_ a) : ∃ n : Nat, n < 256 ∧ a = (n : Int) := ⟨a.toNat, by unfold by_ at h; omega, by unfold by_ at h; omega⟩
theorem nat_by {n : Nat} (h : n < 256) : by_ (n : Int) := ⟨by omega, by omega⟩
theorem xr_nat (a b : Nat) (ha : a < 256) (hb : b < 256) : xr (a : Int) (b : Int) = ((a ^^^ b : Nat) : Int) := xor_u8 a b ha hb
theorem xr_i64 {a b : Int} (ha : by_ a) (hb : by_ b) : Go.bits .xor .i64 a b = xr a b := by
 obtain ⟨x, hx, rfl⟩ := by_nat ha
 obtain ⟨y, hy, rfl⟩ := by_nat hb
 rw [xr_nat x y hx hy, xor_i64 x y (by omega) (by omega)]
theorem xr_by {a b : Int} (ha : by_ a) (hb : by_ b) : by_ (xr a b) := by
 obtain ⟨x, hx, rfl⟩ := by_nat ha
 obtain ⟨y, hy, rfl⟩ := by_nat hb
 rw [xr_nat x y hx hy]
 exact nat_by (xor_lt hx hy)
theorem xr_comm {a b : Int} (ha : by_ a) (hb : by_ b) : xr a b = xr b a := by
 obtain ⟨x, hx, rfl⟩ := by_nat ha
 obtain ⟨y, hy, rfl⟩ := by_nat hb
 rw [xr_nat x y hx hy, xr_nat y x hy hx, Nat.xor_comm]
theorem xr_back {a b : Int} (ha : by_ a) (hb : by_ b) : xr (xr a b) b = a := by
 obtain ⟨x, hx, rfl⟩ := by_nat ha
 obtain ⟨y, hy, rfl⟩ := by_nat hb
 rw [xr_nat x y hx hy, xr_nat _ y (xor_lt hx hy) hy, Nat.xor_assoc, Nat.xor_self, Nat.xor_zero]
theorem sb_by {a : Int} (ha : by_ a) : by_ (sb a) := by
 obtain ⟨x, hx, rfl⟩ := by_nat ha
 exact nat_by (sub_lt _ hx)
theorem subs_length : subs.length = 256 := by simp [subs]
theorem subs_at {a : Int} (ha : by_ a) : subs.getD a.toNat 0 = sb a := by
 obtain ⟨x, hx, rfl⟩ := by_nat ha
 simp [subs, sb, List.getD_eq_getElem?_getD, hx]
def st (f : Nat → Int) : List Int := (List.range 16).map f
theorem st_length (f : Nat → Int) : (st f).length = 16 := by simp [st]
theorem st_at (f : Nat → Int) (j : Nat) (hj : j < 16) : (st f).getD j 0 = f j := by simp [st, List.getD_eq_getElem?_getD, hj]
theorem st_ok (f : Nat → Int) (h : ∀ j, j < 16 → by_ (f j)) : ok (st f) := fun x hx => by
 obtain ⟨j, hj, rfl⟩ := List.mem_map.1 hx
 exact h j (List.mem_range.1 hj)
theorem st_is (l : List Int) (f : Nat → Int) (hl : l.length = 16) (h : ∀ j, j < 16 → l.getD j 0 = f j) : l = st f := by
 apply List.ext_getElem
 · rw [hl, st_length]
 · intro i h1 h2
   have e1 := h i (by omega)
   have e2 := st_at f i (by omega)
   rw [List.getD_eq_getElem?_getD, List.getElem?_eq_getElem h1] at e1
   rw [List.getD_eq_getElem?_getD, List.getElem?_eq_getElem h2] at e2
   exact e1.trans e2.symm
theorem at_by {l : List Int} (h : ok l) (j : Nat) : by_ (l.getD j 0) := by
 rw [List.getD_eq_getElem?_getD]
 cases e : l[j]? with
 | none => exact ⟨by decide, by decide⟩
 | some x => exact h x (List.mem_of_getElem? e)
def xorS (a b : List Int) : List Int := st fun i => xr (a.getD i 0) (b.getD i 0)
def subS (a : List Int) : List Int := st fun i => sb (a.getD i 0)
def shiftS (a : List Int) : List Int := st fun i => a.getD ((i + 4 * (i % 4)) % 16) 0
def colN (a : List Int) (c : Nat) : V4 := ⟨(a.getD (4 * c) 0).toNat, (a.getD (4 * c + 1) 0).toNat, (a.getD (4 * c + 2) 0).toNat, (a.getD (4 * c + 3) 0).toNat⟩
def V4at (u : V4) (i : Nat) : Nat := match i with | 0 => u.a | 1 => u.b | 2 => u.c | _ => u.d
def mixS (f : V4) (a : List Int) : List Int := st fun i => ((V4at (V4.mx f (colN a (i / 4))) (i % 4) : Nat) : Int)
theorem colN_ok {a : List Int} (h : ok a) (c : Nat) : (colN a c).ok := by
 have k : ∀ j, (a.getD j 0).toNat < 256 := fun j => by have := at_by h j; unfold by_ at this; omega
 exact ⟨k _, k _, k _, k _⟩
theorem V4at_lt {u : V4} (hu : u.ok) (i : Nat) : V4at u i < 256 := by
 unfold V4at; split
 · exact hu.1
 · exact hu.2.1
 · exact hu.2.2.1
 · exact hu.2.2.2
theorem xorS_ok {a b : List Int} (ha : ok a) (hb : ok b) : ok (xorS a b) := st_ok _ fun j _ => xr_by (at_by ha j) (at_by hb j)
theorem subS_ok {a : List Int} (ha : ok a) : ok (subS a) := st_ok _ fun j _ => sb_by (at_by ha j)
theorem shiftS_ok {a : List Int} (ha : ok a) : ok (shiftS a) := st_ok _ fun j _ => at_by ha _
theorem mixS_ok (f : V4) {a : List Int} (ha : ok a) : ok (mixS f a) := st_ok _ fun j _ => nat_by (V4at_lt (V4.mx_ok f _ (colN_ok ha _)) _)
theorem xorS_length (a b : List Int) : (xorS a b).length = 16 := st_length _
theorem subS_length (a : List Int) : (subS a).length = 16 := st_length _
theorem shiftS_length (a : List Int) : (shiftS a).length = 16 := st_length _
theorem mixS_length (f : V4) (a : List Int) : (mixS f a).length = 16 := st_length _
def encTo (keys : List (List Int)) (b : List Int) : Nat → List Int
 | 0 => xorS b (keys.getD 0 [])
 | r + 1 => xorS (if r + 1 < keys.length - 1 then mixS mixF (shiftS (subS (encTo keys b r))) else shiftS (subS (encTo keys b r))) (keys.getD (r + 1) [])
def encL (keys : List (List Int)) (b : List Int) : List Int := encTo keys b (keys.length - 1)
def keysOk (keys : List (List Int)) : Prop := ∀ k ∈ keys, k.length = 16 ∧ ok k
theorem key_ok {keys : List (List Int)} (h : keysOk keys) (i : Nat) : ok (keys.getD i []) := by
 rw [List.getD_eq_getElem?_getD]
 cases e : keys[i]? with
 | none => exact fun x hx => by cases hx
 | some x => exact (h x (List.mem_of_getElem? e)).2
theorem encTo_ok {keys : List (List Int)} (h : keysOk keys) {b : List Int} (hb : ok b) (r : Nat) : ok (encTo keys b r) := by
 induction r with
 | zero => exact xorS_ok hb (key_ok h 0)
 | succ r ih =>
   refine xorS_ok ?_ (key_ok h _)
   split
   · exact mixS_ok _ (shiftS_ok (subS_ok ih))
   · exact shiftS_ok (subS_ok ih)
theorem encTo_length (keys : List (List Int)) (b : List Int) (r : Nat) : (encTo keys b r).length = 16 := by
 cases r <;> exact xorS_length _ _
theorem encL_length (keys : List (List Int)) (b : List Int) : (encL keys b).length = 16 := encTo_length _ _ _
theorem encL_ok {keys : List (List Int)} (h : keysOk keys) {b : List Int} (hb : ok b) : ok (encL keys b) := encTo_ok h hb _
def word0 (key : List Int) (i : Nat) : List Int := [key.getD (4 * i) 0, key.getD (4 * i + 1) 0, key.getD (4 * i + 2) 0, key.getD (4 * i + 3) 0]
def xor4 (a b : List Int) : List Int := [xr (a.getD 0 0) (b.getD 0 0), xr (a.getD 1 0) (b.getD 1 0), xr (a.getD 2 0) (b.getD 2 0), xr (a.getD 3 0) (b.getD 3 0)]
def turned (w : List Int) (p : Int) : List Int := [xr (sb (w.getD 1 0)) p, sb (w.getD 2 0), sb (w.getD 3 0), sb (w.getD 0 0)]
def swapped (w : List Int) : List Int := [sb (w.getD 0 0), sb (w.getD 1 0), sb (w.getD 2 0), sb (w.getD 3 0)]
def kw (key : List Int) (n : Nat) : Nat → List (List Int) × Nat
 | 0 => ((List.range n).map (word0 key), 1)
 | j + 1 =>
   let ws := (kw key n j).1
   let p := (kw key n j).2
   let w := ws.getD (n + j - 1) []
   if (n + j) % n = 0 then (ws ++ [xor4 (turned w (p : Int)) (ws.getD j [])], xt p)
   else if n = 8 ∧ (n + j) % n = 4 then (ws ++ [xor4 (swapped w) (ws.getD j [])], p)
   else (ws ++ [xor4 w (ws.getD j [])], p)
theorem kw_length (key : List Int) (n j : Nat) : (kw key n j).1.length = n + j := by
 induction j with
 | zero => simp [kw]
 | succ j ih =>
   simp only [kw]
   split
   · simp [ih]; omega
   · split <;> (simp [ih]; omega)
theorem kw_p (key : List Int) (n j : Nat) : (kw key n j).2 < 256 := by
 induction j with
 | zero => show (1 : Nat) < 256; decide
 | succ j ih =>
   simp only [kw]
   split
   · exact xt_lt _ ih
   · split <;> exact ih
def wordOk (w : List Int) : Prop := w.length = 4 ∧ ok w
theorem four_ok {a b c d : Int} (ha : by_ a) (hb : by_ b) (hc : by_ c) (hd : by_ d) : wordOk [a, b, c, d] := ⟨rfl, fun x hx => by
 simp only [List.mem_cons, List.not_mem_nil, or_false] at hx
 rcases hx with rfl | rfl | rfl | rfl
 · exact ha
 · exact hb
 · exact hc
 · exact hd⟩
theorem word0_ok {key : List Int} (h : ok key) (i : Nat) : wordOk (word0 key i) := four_ok (at_by h _) (at_by h _) (at_by h _) (at_by h _)
theorem xor4_ok {a b : List Int} (ha : ok a) (hb : ok b) : wordOk (xor4 a b) := four_ok (xr_by (at_by ha _) (at_by hb _)) (xr_by (at_by ha _) (at_by hb _)) (xr_by (at_by ha _) (at_by hb _)) (xr_by (at_by ha _) (at_by hb _))
theorem turned_ok {w : List Int} (h : ok w) {p : Nat} (hp : p < 256) : wordOk (turned w (p : Int)) := four_ok (xr_by (sb_by (at_by h _)) (nat_by hp)) (sb_by (at_by h _)) (sb_by (at_by h _)) (sb_by (at_by h _))
theorem swapped_ok {w : List Int} (h : ok w) : wordOk (swapped w) := four_ok (sb_by (at_by h _)) (sb_by (at_by h _)) (sb_by (at_by h _)) (sb_by (at_by h _))
theorem words_at {ws : List (List Int)} (h : ∀ w ∈ ws, wordOk w) (i : Nat) : ok (ws.getD i []) := by
 rw [List.getD_eq_getElem?_getD]
 cases e : ws[i]? with
 | none => exact fun x hx => by cases hx
 | some x => exact (h x (List.mem_of_getElem? e)).2
theorem kw_ok {key : List Int} (h : ok key) (n j : Nat) : ∀ w ∈ (kw key n j).1, wordOk w := by
 induction j with
 | zero =>
   intro w hw
   obtain ⟨i, _, rfl⟩ := List.mem_map.1 hw
   exact word0_ok h i
 | succ j ih =>
   have hw := words_at ih (n + j - 1)
   have hj := words_at ih j
   have hp := kw_p key n j
   intro w
   simp only [kw]
   split
   · intro hm
     rcases List.mem_append.1 hm with h1 | h1
     · exact ih w h1
     · obtain rfl := List.mem_singleton.1 h1
       exact xor4_ok (turned_ok hw hp).2 hj
   · split
     · intro hm
       rcases List.mem_append.1 hm with h1 | h1
       · exact ih w h1
       · obtain rfl := List.mem_singleton.1 h1
         exact xor4_ok (swapped_ok hw).2 hj
     · intro hm
       rcases List.mem_append.1 hm with h1 | h1
       · exact ih w h1
       · obtain rfl := List.mem_singleton.1 h1
         exact xor4_ok hw hj
def fourOf (ws : List (List Int)) (i : Nat) : List Int := ws.getD (4 * i) [] ++ ws.getD (4 * i + 1) [] ++ ws.getD (4 * i + 2) [] ++ ws.getD (4 * i + 3) []
def allWords (key : List Int) : List (List Int) := (kw key (key.length / 4) (3 * (key.length / 4) + 28)).1
def keysL (key : List Int) : List (List Int) := (List.range (key.length / 4 + 7)).map (fourOf (allWords key))
theorem allWords_length (key : List Int) : (allWords key).length = 4 * (key.length / 4 + 7) := by rw [allWords, kw_length]; omega
theorem keysL_length (key : List Int) : (keysL key).length = key.length / 4 + 7 := by simp [keysL]
theorem getD_word {ws : List (List Int)} (h : ∀ w ∈ ws, wordOk w) (i : Nat) (hi : i < ws.length) : wordOk (ws.getD i []) := by
 rw [List.getD_eq_getElem?_getD, List.getElem?_eq_getElem hi]
 exact h _ (List.getElem_mem hi)
theorem ok_append {a b : List Int} (ha : ok a) (hb : ok b) : ok (a ++ b) := fun x hx => (List.mem_append.1 hx).elim (ha x) (hb x)
theorem fourOf_ok {ws : List (List Int)} (h : ∀ w ∈ ws, wordOk w) (i : Nat) (hi : 4 * i + 3 < ws.length) : (fourOf ws i).length = 16 ∧ ok (fourOf ws i) := by
 have h0 := getD_word h (4 * i) (by omega)
 have h1 := getD_word h (4 * i + 1) (by omega)
 have h2 := getD_word h (4 * i + 2) (by omega)
 have h3 := getD_word h (4 * i + 3) (by omega)
 refine ⟨?_, ok_append (ok_append (ok_append h0.2 h1.2) h2.2) h3.2⟩
 unfold fourOf
 rw [List.length_append, List.length_append, List.length_append, h0.1, h1.1, h2.1, h3.1]
theorem keysL_ok {key : List Int} (h : ok key) : keysOk (keysL key) := fun k hk => by
 obtain ⟨i, hi, rfl⟩ := List.mem_map.1 hk
 have := List.mem_range.1 hi
 exact fourOf_ok (kw_ok h _ _) i (by rw [show (kw key (key.length / 4) (3 * (key.length / 4) + 28)).1.length = _ from allWords_length key]; omega)
end Go.Proofs.Ytlfpogbonmddmaa.Aes
namespace Go.Proofs.Ytlfpogbonmddmaa.P
open Go.RowKit Go.Proofs.YtlfpogbonmddmaaW.PrintWords Go.Proofs.YtlfpogbonmddmaaW.PrintLast Go.Proofs.YtlfpogbonmddmaaW.PrintMore
set_option linter.unusedVariables false
set_option linter.unusedSimpArgs false
theorem rowB_cut {W : World} {B g n c : Nat} {l : List Int} (h : rowB W B (.slice (some ⟨g, 0, none⟩) n c) l) (o : Nat) (b : List Int) (ho : o + b.length ≤ l.length) (hm : b.length ≤ 140737488355328) (he : ∀ j, j < b.length → b.getD j 0 = l.getD (o + j) 0) : Kd.C (Kd.int .u8) W (some ⟨g, o, none⟩) b.length b := by
 obtain ⟨g2, cap2, e, hg, hl, hc, hv⟩ := h
 injection e with e1 e2 e3
 injection e1 with e1
 injection e1 with e1
 subst e1
 refine C_cells hm fun j hj => ?_
 rw [he j hj]
 exact (congrArg W.cell? (show (⟨g, o, none⟩ : Addr).add j = ⟨g, o + j, none⟩ by unfold Addr.add; split <;> simp_all)).trans (hv (o + j) (by omega))
theorem cell_keep_at {W W' : World} {g q : Nat} {v : Value} (h : W.cell? ((⟨g, 0, none⟩ : Addr).add q) = some v) (hk : g < W.heap.size → W'.heap[g]? = W.heap[g]?) : W'.cell? ((⟨g, 0, none⟩ : Addr).add q) = some v := by
 rw [add_plain] at h ⊢
 exact (World.cell?_of_block (hk (cell_lt (a := ⟨g, q, none⟩) (by rw [h]; rfl)))).trans h
theorem opWp_append_rowB {P : Program} {W : World} {B : Nat} {w0 : World} {o : Oper} {ac : Act} {K : Act → World → Prop} {Q : Exit → Act → World → Prop} (s x : Operand) (t e : TypeId) (ho : o.op = .call { callee := .builtin .append, args := #[s, x], argTypes := #[t, t] })
   (h1 : P.underlying t = some (.slice e)) (hi : (P.info? e).map (fun i => (i.zero, i.size, i.bytes)) = some (some (.int .u8 0), 1, 1))
   {v : Value} {l : List Int} (r : List Int) (hs : ac.eval s = v) (hv : rowB W B v l) (hb : Below B w0 W) (hB : B ≤ W.heap.size) (ad : Addr) (m c : Nat) (hx : ac.eval x = .slice (some ad) m c) (hm : m = r.length) (hc : ∀ j, j < r.length → W.cell? (ad.add j) = some (.int .u8 (r.getD j 0))) (hfit : l.length + r.length ≤ 140737488355328) (lr : List Int) (hlr : lr = l ++ r)
   (h : ∀ v' w', Aside0 (rowB w' B v' lr) → Aside0 (Below B w0 w') → Aside0 (B ≤ w'.heap.size) → K (ac.put o.dst v') w') : o.wp P ac W K Q := by
 subst hlr
 obtain ⟨i, h2, h3⟩ := Option.map_eq_some_iff.1 hi
 simp only [Prod.mk.injEq] at h3
 obtain ⟨v', w', hr, q1, q2, q3⟩ := run_append_rowB (P := P) t o.type e i h1 h2 h3.1 h3.2.1 h3.2.2 hv hb hB ad m c hm hc hfit
 unfold Oper.wp execOp
 simp only [ho, resolve, invoke, builtin, Sem.run_bind, Sem.run_pure, Result.andThen_ok, List.map_toArray, List.map_cons, List.map_nil, hs, hx, hr]
 exact h v' w' ⟨q1⟩ ⟨q2⟩ ⟨q3⟩
theorem rowB_form' {W : World} {B g n c : Nat} {l : List Int} (h : rowB W B (.slice (some ⟨g, 0, none⟩) n c) l) : n ≤ c := by
 obtain ⟨g, cap, e, _, hl, _⟩ := h
 injection e with e1 e2 e3
 omega
theorem rowB_same {W W' : World} {B : Nat} {v : Value} {l : List Int} (h : rowB W B v l) (hk : ∀ k, B ≤ k → k < W.heap.size → W'.heap[k]? = W.heap[k]?) : rowB W' B v l := by
 obtain ⟨g, cap, e, hg, hl, hc, hv⟩ := h
 refine ⟨g, cap, e, hg, hl, fun j hj => ?_, fun j hj => ?_⟩
 · have hlt := cell_lt (hc j hj).1
   have hb := hk g hg hlt
   have h1 : W'.cell? ⟨g, j, none⟩ = W.cell? ⟨g, j, none⟩ := World.cell?_of_block hb
   have h2 : W'.frozen? ⟨g, j, none⟩ = W.frozen? ⟨g, j, none⟩ := by simp only [World.frozen?, hb]
   exact ⟨by rw [h1]; exact (hc j hj).1, by rw [h2]; exact (hc j hj).2⟩
 · have hlt : g < W.heap.size := cell_lt (a := ⟨g, j, none⟩) (hc j (by omega)).1
   have h1 : W'.cell? ⟨g, j, none⟩ = W.cell? ⟨g, j, none⟩ := World.cell?_of_block (hk g hg hlt)
   rw [h1]; exact hv j hj
theorem rowB_blk {W : World} {B g : Nat} {l : List Int} {T : TypeId} (h : W.heap[g]? = some (.cells (nums .u8 l).toArray T (0, 0))) (hB : B ≤ g) : rowB W B (.slice (some ⟨g, 0, none⟩) l.length l.length) l := by
 refine ⟨g, l.length, rfl, hB, Nat.le_refl _, fun j hj => ⟨?_, blk_frozen h j⟩, fun j hj => ?_⟩
 · rw [blk_cell h j, Array.getElem?_eq_getElem (by simp [nums]; omega)]; rfl
 · rw [blk_cell h j]
   exact nums_at? _ _ _ _ (by rw [List.getD_eq_getElem?_getD, List.getElem?_eq_getElem hj]; rfl)
theorem setCells_other : ∀ (vs : List Value) (o : Nat) (w : World) (g i : Nat), i ≠ g → (w.setCells g o vs).heap[i]? = w.heap[i]?
 | [], _, _, _, _, _ => rfl
 | v :: vs, o, w, g, i, h => by
   show ((w.setCell ⟨g, o, none⟩ v).setCells g (o + 1) vs).heap[i]? = _
   rw [setCells_other vs (o + 1) _ g i h]
   exact Below.heap_setCell w ⟨g, o, none⟩ v i h
theorem run_append_rowB2 {P : Program} {W : World} {B : Nat} (t ty e : TypeId) (i : TypeInfo) (h1 : P.underlying t = some (.slice e)) (h2 : P.info? e = some i) (h3 : i.zero = some (.int .u8 0)) (h4 : i.size = 1) (h5 : i.bytes = 1)
   {g n cap : Nat} {l r : List Int} (hn0 : n = l.length) (hv : rowB W B (.slice (some ⟨g, 0, none⟩) l.length cap) l) (hB : B ≤ W.heap.size) (A : Option Addr) (m c : Nat) (hC : Kd.C (Kd.int .u8) W A m r) (hfit : l.length + r.length ≤ 140737488355328) :
   ∃ v' w', (Builtin.append_ #[t, t] ty #[.slice (some ⟨g, 0, none⟩) n cap, .slice A m c]).run P W = .ok v' w' ∧ rowB w' B v' (l ++ r) ∧ Below B W w' ∧ ∀ k, k < W.heap.size → k ≠ g → w'.heap[k]? = W.heap[k]? := by
 subst hn0
 have hm : m = r.length := hC.1.symm
 cases A with
 | none =>
   have h0 : r = [] := by
     rcases Nat.eq_zero_or_pos m with h | h
     · exact List.eq_nil_of_length_eq_zero (by omega)
     · obtain ⟨ad, e, _⟩ := hC.2.2 h
       cases e
   subst h0
   obtain rfl : m = 0 := by simpa using hm
   exact ⟨_, W, run_append_rowB_none (P := P) t ty e i h1 h2 hv c, by rw [List.append_nil]; exact hv, Below.refl _ _, fun _ _ _ => rfl⟩
 | some a =>
   subst hm
   have hn : ∀ j u, (nums IntKind.u8 r)[j]? = some u → W.cell? (a.add j) = some u := fun j u hj => by
     obtain ⟨hj2, rfl⟩ := nums_getD r j u hj
     exact C_u8_cell hC rfl j hj2
   have hnl : (nums IntKind.u8 r).length = r.length * 1 := by simp [nums]
   have hone : ∀ u ∈ nums IntKind.u8 r, u.oneCell' = true := fun u hu => by
     obtain ⟨x, _, rfl⟩ := List.mem_map.1 hu
     rfl
   have hv2 := hv
   obtain ⟨g2, cap2, e0, hg, hl, hcs, hvs⟩ := hv2
   injection e0 with e1 e2 e3
   injection e1 with e1
   injection e1 with e1
   subst e1 e3
   by_cases hr : l.length + r.length ≤ cap
   · refine ⟨_, _, run_append_room_cells W t ty e i h1 h2 g 0 l.length cap a r.length c (nums .u8 r) (by rw [hnl, h4]) hn hone hr ?_ ?_, ?_, ?_, ?_⟩
     · intro j hj
       simp only [h4, Nat.zero_add, Nat.mul_one]
       exact (hcs _ (by omega)).1
     · intro j hj
       simp only [h4, Nat.zero_add, Nat.mul_one]
       exact (hcs _ (by omega)).2
     · have := rowB_wrote hv hr
       simpa [h4] using this
     · simpa [h4] using below_setCells (Below.refl B W) g hg (nums .u8 r) _
     · exact fun k hk hne => setCells_other _ _ W g k hne
   · obtain ⟨v', w', hrun, r1, r2⟩ := run_append_arg_grows (P := P) W t ty e i (.int .u8 0) 1 1 h1 h2 h3 h4 h5 rfl (by decide) ⟨g, 0, none⟩ l.length cap (nums .u8 l) (by simp [nums]) (fun j u hj => by
         obtain ⟨hj2, rfl⟩ := nums_getD l j u hj
         rw [add_plain]
         simpa using hvs j hj2) a r.length c (nums .u8 r) hnl hn (by omega) (by unfold maxLen; omega) (by omega)
     have e1 : nums IntKind.u8 l ++ nums IntKind.u8 r = nums .u8 (l ++ r) := by simp [nums]
     rw [e1, ← List.length_append] at r1
     refine ⟨v', w', hrun, own_rowB (own_mono r1 hB) ?_, (Below.refl B W).grown r2 hB (fun k hk => by cases hk), fun k hk _ => r2.block k hk (by simp)⟩
     rintro rfl
     obtain ⟨hx, ⟨_, h0⟩ | ⟨g3, cap3, cur3, e3, _⟩⟩ := r1
     · rw [List.length_append] at h0; omega
     · cases e3
theorem wpList_append_rowB2 {P : Program} {W : World} {B : Nat} {ops : Array Oper} {rest : List Oper} {o : Oper} {ac : Act} {Q : Exit → Act → World → Prop} (hgd : o.guard = none) (s x : Operand) (t e : TypeId) (ho : o.op = .call { callee := .builtin .append, args := #[s, x], argTypes := #[t, t] })
   (h1 : P.underlying t = some (.slice e)) (hi : (P.info? e).map (fun i => (i.zero, i.size, i.bytes)) = some (some (.int .u8 0), 1, 1))
   {g n cap : Nat} {l : List Int} (r : List Int) (hs : ac.eval s = .slice (some ⟨g, 0, none⟩) n cap) (hn0 : n = l.length) (hv : rowB W B (.slice (some ⟨g, 0, none⟩) l.length cap) l) (hB : B ≤ W.heap.size) (A : Option Addr) (m c : Nat) (hx : ac.eval x = .slice A m c) (hC : Kd.C (Kd.int .u8) W A m r) (hfit : l.length + r.length ≤ 140737488355328) (lr : List Int) (hlr : lr = l ++ r)
   (h : ∀ v' w', Aside0 (rowB w' B v' lr) → Aside0 (Below B W w') → Aside0 (∀ k, k < W.heap.size → k ≠ g → w'.heap[k]? = W.heap[k]?) → wpList P ops Q rest (ac.put o.dst v') w') : wpList P ops Q (o :: rest) ac W := by
 subst hlr
 obtain ⟨i, h2, h3⟩ := Option.map_eq_some_iff.1 hi
 simp only [Prod.mk.injEq] at h3
 refine wpList_plain hgd fun K hK => ?_
 obtain ⟨v', w', hr, q1, q2, q3⟩ := run_append_rowB2 (P := P) t o.type e i h1 h2 h3.1 h3.2.1 h3.2.2 hn0 hv hB A m c hC hfit
 unfold Oper.wp execOp
 simp only [ho, resolve, invoke, builtin, Sem.run_bind, Sem.run_pure, Result.andThen_ok, List.map_toArray, List.map_cons, List.map_nil, hs, hx, hr]
 exact hK _ _ (h v' w' ⟨q1⟩ ⟨q2⟩ ⟨q3⟩)
theorem rowB_cell {W : World} {B g n c : Nat} {l : List Int} (h : rowB W B (.slice (some ⟨g, 0, none⟩) n c) l) (j : Nat) (hj : j < l.length) : W.cell? ⟨g, j, none⟩ = some (.int .u8 (l.getD j 0)) := by
 obtain ⟨g2, cap2, e, hg, hl, hc, hv⟩ := h
 injection e with e1 e2 e3
 injection e1 with e1
 injection e1 with e1
 subst e1
 exact hv j hj
theorem bytes_below {w W : World} {B : Nat} (h : Below B w W) (hB : B ≤ W.heap.size) (e : TypeId) (s : ByteArray) : Below B w (Lib.bytesWorld W e s) :=
 ⟨h.os, h.tape, h.output, Nat.le_trans h.size (by rw [Lib.bytesWorld_size]; omega), fun i hi => (Lib.bytesWorld_at_old W e s i (by omega)).trans (h.block i hi)⟩
theorem zeros_getD (n j : Nat) : (List.replicate n (0 : Int)).getD j 0 = 0 := by
 rw [List.getD_eq_getElem?_getD, List.getElem?_replicate]
 split <;> rfl
theorem str_size (l : List Int) : (strOfNums l).size = l.length := by simp [strOfNums, ByteArray.size]
theorem str_extract2 (l : List Int) (n m : Nat) : (strOfNums l).extract n m = strOfNums ((l.take m).drop n) := by
 have h : ∀ x y : ByteArray, x.data = y.data → x = y := fun x y e => by cases x; cases y; cases e; rfl
 apply h
 simp [strOfNums, ByteArray.extract, ByteArray.copySlice, List.map_take, List.map_drop, List.drop_take]
theorem str_extract (l : List Int) (n : Nat) : (strOfNums l).extract 0 n = strOfNums (l.take n) := by
 rw [str_extract2, List.drop_zero]
theorem C_row_int {k : IntKind} {W : World} {g : Nat} {l : List Int} {T : TypeId} {fr : Nat × Nat} (h : W.heap[g]? = some (.cells (nums k l).toArray T fr)) (hm : l.length ≤ 140737488355328) : Kd.C (Kd.int k) W (some ⟨g, 0, none⟩) l.length l := by
 refine ⟨rfl, by show l.length ≤ 9223372036854775807; omega, fun _ => ⟨⟨g, 0, none⟩, rfl, fun j p hj => ?_⟩⟩
 refine ⟨[.int k p], rfl, rfl, fun i u hu => ?_⟩
 match i, hu with
 | 0, hu =>
   obtain rfl : Value.int k p = u := by simpa using hu
   rw [add_plain]
   show W.cell? ⟨g, j * 1 + 0, none⟩ = _
   rw [show j * 1 + 0 = j from by omega]
   rw [show W.cell? ⟨g, j, none⟩ = (nums k l).toArray[j]? from by simp [World.cell?, h]]
   exact nums_at? k l j p hj
theorem word0_is (l : List Int) (i : Nat) (h : 4 * i + 4 ≤ l.length) : (l.take (4 * i + 4)).drop (4 * i) = Aes.word0 l i := by
 apply List.ext_getElem
 · simp [Aes.word0]; omega
 · intro j h1 h2
   have hj : j < 4 := by simpa [Aes.word0] using h2
   have e2 : (Aes.word0 l i).getD j 0 = l.getD (4 * i + j) 0 := by
     match j, hj with
     | 0, _ => rfl
     | 1, _ => rfl
     | 2, _ => rfl
     | 3, _ => rfl
   rw [List.getD_eq_getElem?_getD, List.getElem?_eq_getElem h2, List.getD_eq_getElem?_getD, List.getElem?_eq_getElem (by omega)] at e2
   simp only [Option.getD_some] at e2
   rw [e2]
   simp
theorem ext4 (s : ByteArray) (i : Nat) (h : 4 * i + 4 ≤ s.size) : s.extract (4 * i) (4 * i + 4) = strOfNums (Aes.word0 (bytesL s) i) := by
 conv => lhs; rw [← str_bytesL s]
 rw [str_extract2, word0_is _ _ (by rw [bytesL_length]; exact h)]
theorem C_str_cell {w : World} {A : Option Addr} {n : Nat} {l : List ByteArray} (h : Kd.C Kd.string w A n l) (j : Nat) (hj : j < l.length) : ∃ ad, A = some ad ∧ w.cell? (ad.add j) = some (.string (l.getD j ⟨#[]⟩)) := by
 obtain ⟨a2, c, e, hs, hk, hcell⟩ := Kd.C_get h ⟨#[]⟩ (j : Int) (by omega) (by have := h.1; omega)
 rw [Int.toNat_natCast] at hk hcell
 have hc : c = [Value.string (l.getD j ⟨#[]⟩)] := hk
 rw [hc] at hcell
 have h1 := hcell 0 _ rfl
 have h2 : j * (Kd.string).sz + 0 = j := by show j * 1 + 0 = _; omega
 rw [h2] at h1
 exact ⟨a2, e, h1⟩
theorem C_int_cell {k : IntKind} {w : World} {A : Option Addr} {n : Nat} {l : List Int} (h : Kd.C (Kd.int k) w A n l) (j : Nat) (hj : j < l.length) : ∃ ad, A = some ad ∧ w.cell? (ad.add j) = some (.int k (l.getD j 0)) := by
 obtain ⟨a2, c, e, hs, hk, hcell⟩ := Kd.C_get h 0 (j : Int) (by omega) (by have := h.1; omega)
 rw [Int.toNat_natCast] at hk hcell
 have hc : c = [Value.int k (l.getD j 0)] := hk
 rw [hc] at hcell
 have h1 := hcell 0 _ rfl
 have h2 : j * (Kd.int k).sz + 0 = j := by show j * 1 + 0 = _; omega
 rw [h2] at h1
 exact ⟨a2, e, h1⟩
theorem rowB_set {W : World} {B g n c : Nat} {l : List Int} (h : rowB W B (.slice (some ⟨g, 0, none⟩) n c) l) (j : Nat) (hj : j < l.length) (x : Int) : rowB (W.setCell ⟨g, j, none⟩ (.int .u8 x)) B (.slice (some ⟨g, 0, none⟩) n c) (l.set j x) := by
 obtain ⟨g2, cap, e, hg, hl, hc, hv⟩ := h
 injection e with e1 e2 e3
 injection e1 with e1
 injection e1 with e1
 subst e1 e2 e3
 have hs : W.setCell ⟨g, j, none⟩ (.int .u8 x) = W.setCells g j [.int .u8 x] := rfl
 have hin := World.cell?_setCells_in g [Value.int .u8 x] j W (fun i hi => by
   have hi0 : i = 0 := by simpa using hi
   subst hi0
   exact (hc _ (by omega)).1) 0 (by simp)
 have hout : ∀ i, i ≠ j → (W.setCells g j [.int .u8 x]).cell? ⟨g, i, none⟩ = W.cell? ⟨g, i, none⟩ := fun i hi => World.cell?_setCells_out g [Value.int .u8 x] j W ⟨g, i, none⟩ (fun _ _ => by show i < j ∨ j + 1 ≤ i; omega)
 rw [hs]
 refine ⟨g, c, by rw [List.length_set], hg, by rw [List.length_set]; exact hl, fun i hi => ⟨?_, ?_⟩, fun i hi => ?_⟩
 · by_cases h : i = j
   · subst h
     rw [show (⟨g, i, none⟩ : Addr) = ⟨g, i + 0, none⟩ from rfl, hin]; rfl
   · rw [hout i h]; exact (hc i hi).1
 · rw [World.frozen?_setCells]; exact (hc i hi).2
 · rw [List.length_set] at hi
   by_cases h : i = j
   · subst h
     rw [show (⟨g, i, none⟩ : Addr) = ⟨g, i + 0, none⟩ from rfl, hin]
     simp [List.getD_eq_getElem?_getD, hi]
   · rw [hout i h, hv i hi]
     simp [List.getD_eq_getElem?_getD, List.getElem?_set, Ne.symm h]
theorem rowB_free {W : World} {B g n c : Nat} {l : List Int} (h : rowB W B (.slice (some ⟨g, 0, none⟩) n c) l) (j : Nat) (hj : j < l.length) : W.frozen? ⟨g, j, none⟩ = false := by
 obtain ⟨g2, cap2, e, hg, hl, hc, hv⟩ := h
 injection e with e1 e2 e3
 injection e1 with e1
 injection e1 with e1
 subst e1
 exact (hc j (by omega)).2
end Go.Proofs.Ytlfpogbonmddmaa.P
namespace Go.Proofs.Ytlfpogbonmddmaa.Md
open Go Go.Proofs.Ytlfpogbonmddmaa.Aes
set_option linter.unusedVariables false
set_option linter.unusedSimpArgs false
theorem four_by (n : Int) : ok (Sha.four n) := fun x hx => by
 simp only [Sha.four, List.mem_cons, List.not_mem_nil, or_false] at hx
 omega
def ctrB (keys : List (List Int)) (nonce : List Int) (i : Nat) : List Int := encL keys (nonce ++ Sha.four ((i + 1 : Nat) : Int))
def ctrL (keys : List (List Int)) (nonce b : List Int) : List Int := (List.range b.length).map fun j => xr (b.getD j 0) ((ctrB keys nonce (j / 16)).getD (j % 16) 0)
theorem ctrL_length (keys : List (List Int)) (nonce b : List Int) : (ctrL keys nonce b).length = b.length := by simp [ctrL]
theorem ctrL_at (keys : List (List Int)) (nonce b : List Int) (j : Nat) (hj : j < b.length) : (ctrL keys nonce b).getD j 0 = xr (b.getD j 0) ((ctrB keys nonce (j / 16)).getD (j % 16) 0) := by
 simp [ctrL, List.getD_eq_getElem?_getD, hj]
theorem ctrB_ok {keys : List (List Int)} (hk : keysOk keys) {nonce : List Int} (hn : ok nonce) (i : Nat) : ok (ctrB keys nonce i) := encL_ok hk (ok_append hn (four_by _))
theorem ctrB_length (keys : List (List Int)) (nonce : List Int) (i : Nat) : (ctrB keys nonce i).length = 16 := encL_length _ _
theorem ctrL_ok {keys : List (List Int)} (hk : keysOk keys) {nonce b : List Int} (hn : ok nonce) (hb : ok b) : ok (ctrL keys nonce b) := fun x hx => by
 obtain ⟨j, _, rfl⟩ := List.mem_map.1 hx
 exact xr_by (at_by hb j) (at_by (ctrB_ok hk hn _) _)
theorem ctrL_twice {keys : List (List Int)} (hk : keysOk keys) {nonce b : List Int} (hn : ok nonce) (hb : ok b) : ctrL keys nonce (ctrL keys nonce b) = b := by
 apply List.ext_getElem
 · rw [ctrL_length, ctrL_length]
 · intro j h1 h2
   have e := ctrL_at keys nonce (ctrL keys nonce b) j (by rw [ctrL_length]; exact h2)
   rw [ctrL_at keys nonce b j h2, xr_back (at_by hb j) (at_by (ctrB_ok hk hn _) _), List.getD_eq_getElem?_getD, List.getElem?_eq_getElem h1, List.getD_eq_getElem?_getD, List.getElem?_eq_getElem h2] at e
   exact e
end Go.Proofs.Ytlfpogbonmddmaa.Md
namespace Go.Proofs.Ytlfpogbonmddmaa.P
open Go.RowKit Go.Proofs.YtlfpogbonmddmaaW.PrintWords Go.Proofs.YtlfpogbonmddmaaW.PrintLast Go.Proofs.YtlfpogbonmddmaaW.PrintMore
set_option linter.unusedVariables false
set_option linter.unusedSimpArgs false
def colsF (F : List Int → List Int) (b : List Int) : List Int := F (b.take 4) ++ F ((b.drop 4).take 4) ++ F ((b.drop 8).take 4) ++ F ((b.drop 12).take 4)
theorem colsF_length (F : List Int → List Int) (hF : ∀ c, c.length = 4 → (F c).length = 4) (b : List Int) (hb : b.length = 16) : (colsF F b).length = 16 := by
 unfold colsF
 rw [List.length_append, List.length_append, List.length_append, hF _ (by simp; omega), hF _ (by simp; omega), hF _ (by simp; omega), hF _ (by simp; omega)]
theorem colsF_part (F : List Int → List Int) (hF : ∀ c, c.length = 4 → (F c).length = 4) (b : List Int) (hb : b.length = 16) (k j : Nat) (hk : k < 4) (hj : j < 4) : (colsF F b).getD (4 * k + j) 0 = (F ((b.drop (4 * k)).take 4)).getD j 0 := by
 have h0 := hF (b.take 4) (by simp; omega)
 have h1 := hF ((b.drop 4).take 4) (by simp; omega)
 have h2 := hF ((b.drop 8).take 4) (by simp; omega)
 unfold colsF
 simp only [List.getD_eq_getElem?_getD]
 match k, hk with
 | 0, _ => rw [List.getElem?_append_left (by simp; omega), List.getElem?_append_left (by simp; omega), List.getElem?_append_left (by omega)]; simp
 | 1, _ => rw [List.getElem?_append_left (by simp; omega), List.getElem?_append_left (by simp; omega), List.getElem?_append_right (by omega), h0]; congr 3; omega
 | 2, _ => rw [List.getElem?_append_left (by simp; omega), List.getElem?_append_right (by simp; omega), List.length_append, h0, h1]; congr 3; omega
 | 3, _ => rw [List.getElem?_append_right (by simp; omega), List.length_append, List.length_append, h0, h1, h2]; congr 3; omega
def fastL (c : List Int) : List Int := (List.range 4).map fun i => Go.bits .xor .u8 (Go.bits .xor .u8 (c.getD i 0) (Go.bits .xor .u8 (Go.bits .xor .u8 (Go.bits .xor .u8 (c.getD 0 0) (c.getD 1 0)) (c.getD 2 0)) (c.getD 3 0))) ((Gf.xt (Aes.xr (c.getD i 0) (c.getD ((i + 1) % 4) 0)).toNat : Nat) : Int)
theorem fastL_length (c : List Int) : (fastL c).length = 4 := by simp [fastL]
theorem fastL_at (c : List Int) (i : Nat) (hi : i < 4) : (fastL c).getD i 0 = Go.bits .xor .u8 (Go.bits .xor .u8 (c.getD i 0) (Go.bits .xor .u8 (Go.bits .xor .u8 (Go.bits .xor .u8 (c.getD 0 0) (c.getD 1 0)) (c.getD 2 0)) (c.getD 3 0))) ((Gf.xt (Aes.xr (c.getD i 0) (c.getD ((i + 1) % 4) 0)).toNat : Nat) : Int) := by
 simp [fastL, List.getD_eq_getElem?_getD, hi]
theorem gm_123 : ∀ x : Nat, x < 256 → Gf.gm x 1 = x ∧ Gf.gm x 2 = Gf.xt x ∧ Gf.gm x 3 = Gf.xt x ^^^ x := by decide +kernel
theorem fast_part (a b c d A B : Nat) : (a ^^^ (((a ^^^ b) ^^^ c) ^^^ d)) ^^^ (A ^^^ B) = ((A ^^^ (B ^^^ b)) ^^^ c) ^^^ d := by
 apply Nat.eq_of_testBit_eq
 intro i
 simp only [Nat.testBit_xor]
 cases a.testBit i <;> cases b.testBit i <;> cases c.testBit i <;> cases d.testBit i <;> cases A.testBit i <;> cases B.testBit i <;> rfl
theorem fast_sum (a b c d : Nat) : ((a ^^^ b) ^^^ c) ^^^ d = ((b ^^^ c) ^^^ d) ^^^ a := by
 apply Nat.eq_of_testBit_eq
 intro i
 simp only [Nat.testBit_xor]
 cases a.testBit i <;> cases b.testBit i <;> cases c.testBit i <;> cases d.testBit i <;> rfl
theorem fast_val (x0 x1 x2 x3 : Nat) (h0 : x0 < 256) (h1 : x1 < 256) (h2 : x2 < 256) (h3 : x3 < 256) (T : Nat) (hT : T = ((x0 ^^^ x1) ^^^ x2) ^^^ x3) : (x0 ^^^ T) ^^^ Gf.xt (x0 ^^^ x1) = ((Gf.gm x0 2 ^^^ Gf.gm x1 3) ^^^ Gf.gm x2 1) ^^^ Gf.gm x3 1 := by
 rw [hT, (gm_123 x0 h0).2.1, (gm_123 x1 h1).2.2, (gm_123 x2 h2).1, (gm_123 x3 h3).1, Gf.xt_lin x0 x1 h0 h1]
 exact fast_part _ _ _ _ _ _
theorem fast_mix (s : List Int) (hs : s.length = 16) (ho : Aes.ok s) : colsF fastL s = Aes.mixS Gf.mixF s := by
 refine Aes.st_is _ _ (colsF_length fastL (fun c _ => fastL_length c) s hs) fun j hj => ?_
 obtain ⟨k, i, hk, hi, rfl⟩ : ∃ k i, k < 4 ∧ i < 4 ∧ j = 4 * k + i := ⟨j / 4, j % 4, by omega, by omega, by omega⟩
 rw [colsF_part fastL (fun c _ => fastL_length c) s hs k i hk hi, fastL_at _ i hi, show (4 * k + i) / 4 = k from by omega, show (4 * k + i) % 4 = i from by omega]
 have g : ∀ q, q < 4 → ((s.drop (4 * k)).take 4).getD q 0 = s.getD (4 * k + q) 0 := fun q hq => by
   simp only [List.getD_eq_getElem?_getD, List.getElem?_take, List.getElem?_drop, if_pos hq]
 obtain ⟨x0, b0, e0⟩ := Aes.by_nat (Aes.at_by ho (4 * k + 0))
 obtain ⟨x1, b1, e1⟩ := Aes.by_nat (Aes.at_by ho (4 * k + 1))
 obtain ⟨x2, b2, e2⟩ := Aes.by_nat (Aes.at_by ho (4 * k + 2))
 obtain ⟨x3, b3, e3⟩ := Aes.by_nat (Aes.at_by ho (4 * k + 3))
 have hc : Aes.colN s k = ⟨x0, x1, x2, x3⟩ := by
   have e0' := e0; rw [Nat.add_zero] at e0'
   unfold Aes.colN; rw [e0', e1, e2, e3]; rfl
 have hsum : Go.bits .xor .u8 (Go.bits .xor .u8 (Go.bits .xor .u8 (x0 : Int) (x1 : Int)) (x2 : Int)) (x3 : Int) = ((((x0 ^^^ x1) ^^^ x2) ^^^ x3 : Nat) : Int) := by
   rw [Gf.xor_u8 x0 x1 b0 b1, Gf.xor_u8 _ x2 (Gf.xor_lt b0 b1) b2, Gf.xor_u8 _ x3 (Gf.xor_lt (Gf.xor_lt b0 b1) b2) b3]
 rw [hc, g 0 (by decide), g 1 (by decide), g 2 (by decide), g 3 (by decide), e0, e1, e2, e3, hsum]
 have one : ∀ a b c d T : Nat, a < 256 → b < 256 → c < 256 → d < 256 → T < 256 → T = ((a ^^^ b) ^^^ c) ^^^ d →
     Go.bits .xor .u8 (Go.bits .xor .u8 (a : Int) (T : Int)) ((Gf.xt (Aes.xr (a : Int) (b : Int)).toNat : Nat) : Int) = ((((Gf.gm a 2 ^^^ Gf.gm b 3) ^^^ Gf.gm c 1) ^^^ Gf.gm d 1 : Nat) : Int) := fun a b c d T ha hb hcc hd hT h => by
   rw [Aes.xr_nat a b ha hb, Int.toNat_natCast, Gf.xor_u8 a T ha hT, Gf.xor_u8 _ _ (Gf.xor_lt ha hT) (Gf.xt_lt _ (Gf.xor_lt ha hb)), fast_val a b c d ha hb hcc hd T h]
 have hTl := Gf.xor_lt (Gf.xor_lt (Gf.xor_lt b0 b1) b2) b3
 match i, hi with
 | 0, _ => rw [g 0 (by decide), g ((0 + 1) % 4) (by decide), show (0 + 1) % 4 = 1 from rfl, e0, e1]; exact one x0 x1 x2 x3 _ b0 b1 b2 b3 hTl rfl
 | 1, _ => rw [g 1 (by decide), g ((1 + 1) % 4) (by decide), show (1 + 1) % 4 = 2 from rfl, e1, e2]; exact one x1 x2 x3 x0 _ b1 b2 b3 b0 hTl (fast_sum _ _ _ _)
 | 2, _ => rw [g 2 (by decide), g ((2 + 1) % 4) (by decide), show (2 + 1) % 4 = 3 from rfl, e2, e3]; exact one x2 x3 x0 x1 _ b2 b3 b0 b1 hTl (by rw [fast_sum, fast_sum])
 | 3, _ => rw [g 3 (by decide), g ((3 + 1) % 4) (by decide), show (3 + 1) % 4 = 0 from rfl, e3, e0]; exact one x3 x0 x1 x2 _ b3 b0 b1 b2 hTl (by rw [fast_sum, fast_sum, fast_sum])
theorem bt_dataF (s : ByteArray) (j : Nat) (hj : j < s.size) : ((s.data.toList.getD j 0).toNat : Int) = bt s (j : Int) := by
 have h2 : j < s.data.toList.length := by simpa using hj
 simp [bt, hj, List.getD_eq_getElem?_getD]
 rfl
theorem bytesL_getD (s : ByteArray) (j : Nat) (hj : j < s.size) : (bytesL s).getD j 0 = bt s (j : Int) := by
 rw [← bt_dataF s j hj]
 have h2 : j < s.data.toList.length := by simpa using hj
 simp [bytesL, List.getD_eq_getElem?_getD, h2, hj]
end Go.Proofs.Ytlfpogbonmddmaa.P
namespace Go.Proofs.Ytlfpogbonmddmaa.Pg
open Go.RowKit
def isU8 (l : List Int) : Prop := ∀ x ∈ l, 0 ≤ x ∧ x ≤ 255
theorem isU8_of {l : List Int} (w : ∀ x ∈ l, (Lit.int .u8 x).wf = true) : isU8 l := by
 intro x hx
 have h := w x hx
 simp [Lit.wf, IntKind.min, IntKind.max, IntKind.signed, IntKind.bits] at h
 omega
theorem strOfNums_toList (xs : List Int) : (strOfNums xs).toList = xs.map fun n => UInt8.ofNat n.toNat := by
 rw [ByteArray.toList_eq]; rfl
theorem u8_inj {x y : Int} (hx : 0 ≤ x ∧ x ≤ 255) (hy : 0 ≤ y ∧ y ≤ 255) (h : UInt8.ofNat x.toNat = UInt8.ofNat y.toNat) : x = y := by
 have h2 := congrArg UInt8.toNat h
 rw [UInt8.toNat_ofNat', UInt8.toNat_ofNat', Nat.mod_eq_of_lt (by omega), Nat.mod_eq_of_lt (by omega)] at h2
 omega
theorem map_inj (a b : List Int) (ha : isU8 a) (hb : isU8 b) (h : (a.map fun n => UInt8.ofNat n.toNat) = b.map fun n => UInt8.ofNat n.toNat) : a = b := by
 induction a generalizing b with
 | nil => cases b with
   | nil => rfl
   | cons y b => simp at h
 | cons x a ih =>
   cases b with
   | nil => simp at h
   | cons y b =>
     simp only [List.map_cons, List.cons.injEq] at h
     rw [u8_inj (ha x (by simp)) (hb y (by simp)) h.1, ih b (fun z hz => ha z (by simp [hz])) (fun z hz => hb z (by simp [hz])) h.2]
theorem strEq (a b : List Int) (ha : isU8 a) (hb : isU8 b) : ((strOfNums a).toList == (strOfNums b).toList) = (a == b) := by
 rw [strOfNums_toList, strOfNums_toList, Bool.eq_iff_iff, beq_iff_eq, beq_iff_eq]
 exact ⟨map_inj a b ha hb, fun h => by rw [h]⟩
end Go.Proofs.Ytlfpogbonmddmaa.Pg
namespace Go.Proofs.YtlfpogbonmddmaaW.PrintLast
open Go.Proofs.YtlfpogbonmddmaaW.PrintWords (Aside0)
def needsOf (md : Region.Mode) (o : Oper) : List Nat := (o.after.toList.filter (fun e => Region.binds md e)).map (fun e => e.on)
def clashOf (md : Region.Mode) (ops : Array Oper) (i : Nat) (oi : Oper) : List Nat := (List.range ops.size).filter fun j => !(j == i) && match ops[j]? with
 | some oj => !(oj.after.any (fun e => Region.binds md e && e.on == i) || oi.apart ops oj)
 | none => false
def rtab (md : Region.Mode) (ops : Array Oper) : Bool × List (List Nat × List Nat) := (Region.noSelect ops, (List.range ops.size).map fun i => match ops[i]? with
 | some o => (needsOf md o, clashOf md ops i o)
 | none => ([], []))
def readyAt (T : List (List Nat × List Nat)) (l : List Bool) (i : Nat) : Bool := !l.getD i true && match T[i]? with
 | some r => r.1.all (fun j => l.getD j false)
 | none => false
def readyT (T : List (List Nat × List Nat)) (l : List Bool) : List Nat := (List.range T.length).filter (readyAt T l)
def freeT (T : List (List Nat × List Nat)) (l : List Bool) (i : Nat) : Bool := match T[i]? with
 | some r => r.2.all (fun j => l.getD j true)
 | none => false
def closedT (T : List (List Nat × List Nat)) (l : List Bool) : Bool := (List.range T.length).all fun j => !l.getD j false || match T[j]? with
 | some r => r.1.all (fun k => l.getD k false)
 | none => true
def reachT (T : List (List Nat × List Nat)) (i : Nat) : Nat → Nat → Bool
 | 0, _ => false
 | fuel + 1, d => match T[d]? with
   | some r => r.1.any fun j => j == i || reachT T i fuel j
   | none => false
def lastT (T : List (List Nat × List Nat)) (l : List Bool) (ds : List Nat) (i : Nat) : Bool := ds.all fun d => l.getD d true || reachT T i T.length d
section
variable {md : Region.Mode} {ops : Array Oper} {T : Bool × List (List Nat × List Nat)} {l l' li lj lk : Array Bool} {ds : List Nat} {i j k : Nat}
theorem gd (l : Array Bool) (j : Nat) (b : Bool) : l.getD j b = l.toList.getD j b := by simp [Array.getD_eq_getD_getElem?, List.getD_eq_getElem?_getD]
theorem needs_all (o : Oper) (p : Nat → Bool) : o.after.all (fun e => !Region.binds md e || p e.on) = (needsOf md o).all p := by
 unfold needsOf
 rw [← Array.all_toList]
 induction o.after.toList with
 | nil => rfl
 | cons e r ih =>
   rw [List.all_cons, ih, List.filter_cons]
   cases h : Region.binds md e <;> simp
theorem needs_any (o : Oper) (p : Nat → Bool) : o.after.any (fun e => Region.binds md e && p e.on) = (needsOf md o).any p := by
 unfold needsOf
 rw [← Array.any_toList]
 induction o.after.toList with
 | nil => rfl
 | cons e r ih =>
   rw [List.any_cons, ih, List.filter_cons]
   cases h : Region.binds md e <;> simp
theorem rtab_length : (rtab md ops).2.length = ops.size := by simp [rtab]
theorem rtab_some {o : Oper} (h : ops[i]? = some o) : (rtab md ops).2[i]? = some (needsOf md o, clashOf md ops i o) := by
 have hi := (Array.getElem?_eq_some_iff.1 h).1
 unfold rtab
 rw [List.getElem?_map, List.getElem?_range hi, Option.map_some, h]
theorem rtab_none (h : ops[i]? = none) : (rtab md ops).2[i]? = none := by
 have hi : ops.size ≤ i := Array.getElem?_eq_none_iff.1 h
 exact List.getElem?_eq_none (by rw [rtab_length]; exact hi)
theorem readyAt_eq : readyAt (rtab md ops).2 l.toList i = (!l.getD i true && ((ops[i]?).map (·.after.all fun e => !Region.binds md e || l.getD e.on false)).getD false) := by
 unfold readyAt
 rw [gd]
 cases h : ops[i]? with
 | none => rw [rtab_none h]; rfl
 | some o =>
   rw [rtab_some h]
   simp only [Option.map_some, Option.getD_some]
   rw [← needs_all]
   simp only [gd]
theorem ready_eq : Region.ready md ops l = readyT (rtab md ops).2 l.toList := by
 unfold Region.ready readyT
 rw [rtab_length]
 refine List.filter_congr (fun i _ => ?_)
 rw [readyAt_eq]
theorem free_eq : Region.free md ops l i = freeT (rtab md ops).2 l.toList i := by
 unfold Region.free freeT
 cases h : ops[i]? with
 | none => rw [rtab_none h]
 | some oi =>
   rw [rtab_some h]
   simp only [clashOf]
   rw [List.all_filter]
   congr 1
   funext j
   rw [gd]
   cases hj : ops[j]? with
   | none => cases (j == i) <;> cases (l.toList.getD j true) <;> simp
   | some oj =>
     cases (j == i) <;> cases (l.toList.getD j true) <;> cases (oj.after.any (fun e => Region.binds md e && e.on == i) || oi.apart ops oj) <;> simp_all
theorem closed_eq : Region.closedB md ops l = closedT (rtab md ops).2 l.toList := by
 unfold Region.closedB closedT
 rw [rtab_length]
 congr 1
 funext j
 rw [gd]
 cases h : ops[j]? with
 | none => rw [rtab_none h]
 | some o =>
   rw [rtab_some h]
   simp only
   rw [← needs_all]
   simp only [gd]
theorem reach_eq : ∀ (fuel d : Nat), Region.reachB md ops i fuel d = reachT (rtab md ops).2 i fuel d
 | 0, _ => rfl
 | fuel + 1, d => by
   unfold Region.reachB reachT
   cases h : ops[d]? with
   | none => rw [rtab_none h]
   | some o =>
     rw [rtab_some h]
     simp only
     rw [← needs_any]
     congr 1
     funext e
     rw [reach_eq fuel]
theorem last_eq : Region.lastB md ops l ds i = lastT (rtab md ops).2 l.toList ds i := by
 unfold Region.lastB lastT
 rw [rtab_length]
 congr 1
 funext d
 rw [gd, reach_eq]
theorem readyAt_mem (h : readyAt T.2 l.toList i = true) (hT : rtab md ops = T) : (Region.ready md ops l).contains i = true := by
 subst hT
 rw [ready_eq]
 unfold readyT
 rw [List.contains_iff_mem, List.mem_filter, List.mem_range]
 refine ⟨?_, h⟩
 unfold readyAt at h
 rw [Bool.and_eq_true] at h
 cases hq : (rtab md ops).2[i]? with
 | none => rw [hq] at h; simp at h
 | some r => exact (List.getElem?_eq_some_iff.1 hq).1
theorem set_of (h : (l.toList.set i true == l'.toList) = true) : (l.setIfInBounds i true == l') = true := by
 rw [beq_iff_eq] at h ⊢
 apply Array.ext'
 rw [Array.toList_setIfInBounds]
 exact h
def anyT (T : Bool × List (List Nat × List Nat)) (l l' : List Bool) (i : Nat) : Bool := T.1 && freeT T.2 l i && readyAt T.2 l i && (l.set i true == l')
theorem any_of (hT : rtab md ops = T) (h : anyT T l.toList l'.toList i = true) : anyB md ops l l' i = true := by
 simp only [anyT, Bool.and_eq_true] at h
 obtain ⟨⟨⟨h1, h2⟩, h3⟩, h4⟩ := h
 have h5 := readyAt_mem h3 hT
 have h6 := set_of h4
 subst hT
 simp only [anyB, Bool.and_eq_true]
 exact ⟨⟨⟨h1, by rw [free_eq]; exact h2⟩, h5⟩, h6⟩
def takeT (T : Bool × List (List Nat × List Nat)) (ds : List Nat) (l l' : List Bool) (i : Nat) : Bool := T.1 && freeT T.2 l i && readyAt T.2 l i && closedT T.2 l && lastT T.2 l ds i && (l.set i true == l')
theorem take_of (hT : rtab md ops = T) (h : takeT T ds l.toList l'.toList i = true) : takeB md ops ds l l' i = true := by
 simp only [takeT, Bool.and_eq_true] at h
 obtain ⟨⟨⟨⟨⟨h1, h2⟩, h3⟩, h4⟩, h5⟩, h6⟩ := h
 have h7 := readyAt_mem h3 hT
 have h8 := set_of h6
 subst hT
 simp only [takeB, Bool.and_eq_true]
 exact ⟨⟨⟨⟨⟨h1, by rw [free_eq]; exact h2⟩, h7⟩, by rw [closed_eq]; exact h4⟩, by rw [last_eq]; exact h5⟩, h8⟩
theorem one_of (hT : rtab md ops = T) (h : (readyT T.2 l.toList == [i] && l.toList.set i true == l'.toList) = true) : readyB md ops l l' i = true := by
 simp only [Bool.and_eq_true] at h
 obtain ⟨h1, h2⟩ := h
 subst hT
 simp only [readyB, Bool.and_eq_true]
 exact ⟨by rw [ready_eq]; exact h1, set_of h2⟩
theorem two_of (hT : rtab md ops = T) (h : (readyT T.2 l.toList == [i, j] && l.toList.set i true == li.toList && l.toList.set j true == lj.toList) = true) : (Region.ready md ops l == [i, j] && l.setIfInBounds i true == li && l.setIfInBounds j true == lj) = true := by
 simp only [Bool.and_eq_true] at h ⊢
 obtain ⟨⟨h1, h2⟩, h3⟩ := h
 subst hT
 exact ⟨⟨by rw [ready_eq]; exact h1, set_of h2⟩, set_of h3⟩
theorem three_of (hT : rtab md ops = T) (h : (readyT T.2 l.toList == [i, j, k] && l.toList.set i true == li.toList && l.toList.set j true == lj.toList && l.toList.set k true == lk.toList) = true) :
   (Region.ready md ops l == [i, j, k] && l.setIfInBounds i true == li && l.setIfInBounds j true == lj && l.setIfInBounds k true == lk) = true := by
 simp only [Bool.and_eq_true] at h ⊢
 obtain ⟨⟨⟨h1, h2⟩, h3⟩, h4⟩ := h
 subst hT
 exact ⟨⟨⟨by rw [ready_eq]; exact h1, set_of h2⟩, set_of h3⟩, set_of h4⟩
theorem done_of (hT : rtab md ops = T) (h : (readyT T.2 l.toList == []) = true) : (Region.ready md ops l == []) = true := by
 subst hT
 rw [ready_eq]
 exact h
def upM (B : List Nat) (d : Nat) : List Nat → Nat
 | [] => 0
 | n :: r => (2 ^ n ||| (if n < d then B.getD n 0 else 0)) ||| upM B d r
def waitsOk (T : List (List Nat × List Nat)) (B : List Nat) : Bool := (List.range T.length).all fun d => match T[d]? with
 | some r => (B.getD d 0 ||| upM B d r.1) == upM B d r.1
 | none => false
theorem upM_bit {B : List Nat} {d i : Nat} : ∀ {ns : List Nat}, (upM B d ns).testBit i = true → ∃ n ∈ ns, n = i ∨ (n < d ∧ (B.getD n 0).testBit i = true)
 | [], h => by simp [upM] at h
 | n :: r, h => by
   unfold upM at h
   rw [Nat.testBit_or, Nat.testBit_or, Bool.or_eq_true, Bool.or_eq_true] at h
   rcases h with (h | h) | h
   · rw [Nat.testBit_two_pow] at h
     exact ⟨n, List.mem_cons_self, .inl (by simpa using h)⟩
   · by_cases hn : n < d
     · rw [if_pos hn] at h
       exact ⟨n, List.mem_cons_self, .inr ⟨hn, h⟩⟩
     · rw [if_neg hn] at h
       simp at h
   · obtain ⟨m, hm, h2⟩ := upM_bit h
     exact ⟨m, List.mem_cons_of_mem _ hm, h2⟩
theorem reach_bit {T : List (List Nat × List Nat)} {B : List Nat} (hB : waitsOk T B = true) : ∀ (fuel d : Nat), d < fuel → d < T.length → (B.getD d 0).testBit i = true → reachT T i fuel d = true
 | 0, d, h, _, _ => by omega
 | fuel + 1, d, h, hd, hb => by
   have h1 := List.all_eq_true.1 hB d (List.mem_range.2 hd)
   cases hr : T[d]? with
   | none => rw [hr] at h1; simp at h1
   | some r =>
     rw [hr] at h1
     simp only [beq_iff_eq] at h1
     have h2 : (upM B d r.1).testBit i = true := by rw [← h1, Nat.testBit_or, hb, Bool.true_or]
     obtain ⟨n, hn, h3⟩ := upM_bit h2
     unfold reachT
     rw [hr]
     simp only
     rw [List.any_eq_true]
     refine ⟨n, hn, ?_⟩
     rcases h3 with rfl | ⟨h4, h5⟩
     · simp
     · rw [reach_bit hB fuel n (by omega) (by omega) h5, Bool.or_true]
def lastW (T : List (List Nat × List Nat)) (B : List Nat) (l : List Bool) (ds : List Nat) (i : Nat) : Bool := ds.all fun d => l.getD d true || (decide (d < T.length) && (B.getD d 0).testBit i)
def takeW (T : Bool × List (List Nat × List Nat)) (B : List Nat) (ds : List Nat) (l l' : List Bool) (i : Nat) : Bool := T.1 && freeT T.2 l i && readyAt T.2 l i && closedT T.2 l && lastW T.2 B l ds i && (l.set i true == l')
theorem take_ofW {B : List Nat} (hT : rtab md ops = T) (hB : waitsOk T.2 B = true) (h : takeW T B ds l.toList l'.toList i = true) : takeB md ops ds l l' i = true := by
 refine take_of hT ?_
 simp only [takeW, takeT, Bool.and_eq_true] at h ⊢
 obtain ⟨⟨⟨⟨⟨h1, h2⟩, h3⟩, h4⟩, h5⟩, h6⟩ := h
 refine ⟨⟨⟨⟨⟨h1, h2⟩, h3⟩, h4⟩, ?_⟩, h6⟩
 unfold lastW at h5
 unfold lastT
 rw [List.all_eq_true] at h5 ⊢
 intro d hd
 have h7 := h5 d hd
 rw [Bool.or_eq_true, Bool.and_eq_true, decide_eq_true_eq] at h7
 rcases h7 with h7 | ⟨h8, h9⟩
 · rw [h7, Bool.true_or]
 · rw [reach_bit hB _ d h8 h8 h9, Bool.or_true]
theorem with_tabW {P : Program} {Q : Exit → Act → World → Prop} {S : World → Prop} {n : Nat} {a : Act} {w : World} {B : List Nat} (hT : rtab md ops = T) (hB : waitsOk T.2 B = true) (h : Aside0 (rtab md ops = T) → Aside0 (waitsOk T.2 B = true) → wpAnyLast P md ops Q S ds n l a w) : wpAnyLast P md ops Q S ds n l a w := h ⟨hT⟩ ⟨hB⟩
end
def opsIn : Code → Nat → Option (Array Oper)
 | .region id ops _, k => if id == k then some ops else none
 | .seq a b, k => match opsIn a k with
   | some o => some o
   | none => opsIn b k
 | .cond _ a b, k => match opsIn a k with
   | some o => some o
   | none => opsIn b k
 | .block _ c, k => opsIn c k
 | .loop c, k => opsIn c k
 | .scope c, k => opsIn c k
 | .rangeFunc _ _ a b, k => match opsIn a k with
   | some o => some o
   | none => opsIn b k
 | _, _ => none
def opsOf (f : Func) (k : Nat) : Array Oper := ((f.body.bind fun c => opsIn c k)).getD #[]
end Go.Proofs.YtlfpogbonmddmaaW.PrintLast
namespace Go.Proofs.YtlfpogbonmddmaaW.PrintWords
theorem Reps.one {α : Type} {R : α → List Value → Prop} {ps : List α} {cs : List Value} {p : α} {v : Value} (hp : R p [v]) (h : Reps R 1 ps cs) : Reps R 1 (p :: ps) (v :: cs) := by
 refine ⟨by simp [h.1], fun j q hq => ?_⟩
 cases j with
 | zero =>
   simp only [List.getElem?_cons_zero, Option.some.injEq] at hq
   subst hq
   simpa using hp
 | succ j =>
   simp only [List.getElem?_cons_succ] at hq
   have h1 := h.2 j q hq
   simpa [Nat.mul_one] using h1
theorem Reps.front {α : Type} {R : α → List Value → Prop} {size : Nat} {ps : List α} {cs c all : List Value} {p : α} (hp : R p c) (hc : c.length = size) (h : Reps R size ps cs) (ha : c ++ cs = all) : Reps R size (p :: ps) all := by
 subst ha
 refine ⟨by rw [List.length_append, hc, h.1, List.length_cons, Nat.succ_mul, Nat.add_comm], fun j q hq => ?_⟩
 cases j with
 | zero =>
   simp only [List.getElem?_cons_zero, Option.some.injEq] at hq
   subst hq
   rw [Nat.zero_mul, List.drop_zero, List.take_append_of_le_length (by omega), List.take_of_length_le (by omega)]
   exact hp
 | succ j =>
   simp only [List.getElem?_cons_succ] at hq
   have h1 := h.2 j q hq
   rw [Nat.succ_mul, List.drop_append, List.drop_of_length_le (by rw [hc]; exact Nat.le_add_left _ _), List.nil_append, hc, Nat.add_sub_cancel]
   exact h1
theorem Reps.c2 {α : Type} {R : α → List Value → Prop} {ps : List α} {cs : List Value} {p : α} {va vb : Value} (hp : R p [va, vb]) (h : Reps R 2 ps cs) : Reps R 2 (p :: ps) (va :: vb :: cs) := Reps.front hp rfl h rfl
theorem Reps.c3 {α : Type} {R : α → List Value → Prop} {ps : List α} {cs : List Value} {p : α} {va vb vc : Value} (hp : R p [va, vb, vc]) (h : Reps R 3 ps cs) : Reps R 3 (p :: ps) (va :: vb :: vc :: cs) := Reps.front hp rfl h rfl
theorem Reps.c4 {α : Type} {R : α → List Value → Prop} {ps : List α} {cs : List Value} {p : α} {va vb vc vd : Value} (hp : R p [va, vb, vc, vd]) (h : Reps R 4 ps cs) : Reps R 4 (p :: ps) (va :: vb :: vc :: vd :: cs) := Reps.front hp rfl h rfl
theorem Reps.c5 {α : Type} {R : α → List Value → Prop} {ps : List α} {cs : List Value} {p : α} {va vb vc vd ve : Value} (hp : R p [va, vb, vc, vd, ve]) (h : Reps R 5 ps cs) : Reps R 5 (p :: ps) (va :: vb :: vc :: vd :: ve :: cs) := Reps.front hp rfl h rfl
theorem Reps.c6 {α : Type} {R : α → List Value → Prop} {ps : List α} {cs : List Value} {p : α} {va vb vc vd ve vf : Value} (hp : R p [va, vb, vc, vd, ve, vf]) (h : Reps R 6 ps cs) : Reps R 6 (p :: ps) (va :: vb :: vc :: vd :: ve :: vf :: cs) := Reps.front hp rfl h rfl
theorem Reps.c7 {α : Type} {R : α → List Value → Prop} {ps : List α} {cs : List Value} {p : α} {va vb vc vd ve vf vg : Value} (hp : R p [va, vb, vc, vd, ve, vf, vg]) (h : Reps R 7 ps cs) : Reps R 7 (p :: ps) (va :: vb :: vc :: vd :: ve :: vf :: vg :: cs) := Reps.front hp rfl h rfl
theorem Reps.c8 {α : Type} {R : α → List Value → Prop} {ps : List α} {cs : List Value} {p : α} {va vb vc vd ve vf vg vh : Value} (hp : R p [va, vb, vc, vd, ve, vf, vg, vh]) (h : Reps R 8 ps cs) : Reps R 8 (p :: ps) (va :: vb :: vc :: vd :: ve :: vf :: vg :: vh :: cs) := Reps.front hp rfl h rfl
theorem Reps.c9 {α : Type} {R : α → List Value → Prop} {ps : List α} {cs : List Value} {p : α} {va vb vc vd ve vf vg vh vi : Value} (hp : R p [va, vb, vc, vd, ve, vf, vg, vh, vi]) (h : Reps R 9 ps cs) : Reps R 9 (p :: ps) (va :: vb :: vc :: vd :: ve :: vf :: vg :: vh :: vi :: cs) := Reps.front hp rfl h rfl
theorem Reps.c10 {α : Type} {R : α → List Value → Prop} {ps : List α} {cs : List Value} {p : α} {va vb vc vd ve vf vg vh vi vj : Value} (hp : R p [va, vb, vc, vd, ve, vf, vg, vh, vi, vj]) (h : Reps R 10 ps cs) : Reps R 10 (p :: ps) (va :: vb :: vc :: vd :: ve :: vf :: vg :: vh :: vi :: vj :: cs) := Reps.front hp rfl h rfl
end Go.Proofs.YtlfpogbonmddmaaW.PrintWords
namespace Go.Proofs.YtlfpogbonmddmaaW.PrintWords
open Go.RowKit
section
variable {P : Program} {ops : Array Oper} {rest : List Oper} {o : Oper} {a : Act} {Q : Exit → Act → World → Prop} {W : World}
theorem gate_guard (hw : Region.wanted o (yielded ops a.tmps) = true) (h : wpList P ops Q ({ o with guard := none } :: rest) a W) : wpList P ops Q (o :: rest) a W := by
 have h1 : Region.wanted { o with guard := none } (yielded ops a.tmps) = true := rfl
 unfold wpList at h ⊢
 rw [if_pos h1] at h
 rw [if_pos hw]
 exact h
end
end Go.Proofs.YtlfpogbonmddmaaW.PrintWords
namespace Go.Proofs.Ytlfpogbonmddmaa.P
open Go.RowKit Go.Proofs.YtlfpogbonmddmaaW.PrintWords Go.Proofs.YtlfpogbonmddmaaW.PrintLast Go.Proofs.YtlfpogbonmddmaaW.PrintMore
attribute [local go_sem] min2_int min_two
set_option linter.unusedVariables false
set_option linter.unusedSimpArgs false
def errW : Option Int → Value
 | none => .nilIface
 | some c => .iface 0 (.int .i64 c)
theorem errW_none : errW none = .nilIface := rfl
theorem errW_some (c : Int) : errW (some c) = .iface 0 (.int .i64 c) := rfl
theorem info3 : (Try.prog.info? 3).map (fun i => (i.zero, i.size, i.bytes)) = some (some (.int .i64 0), 1, 8) := by kernel_rfl
theorem info5 : (Try.prog.info? 5).map (fun i => (i.zero, i.size, i.bytes)) = some (some (.int .u8 0), 1, 1) := by kernel_rfl
theorem info9 : (Try.prog.info? 9).map (fun i => (i.zero, i.size, i.bytes)) = some (some (.string ⟨#[]⟩), 1, 16) := by kernel_rfl
def arr8 (xs : List Int) : Value := .agg (nums .u8 xs).toArray
theorem nums_at {k : IntKind} {xs : List Int} {j : Nat} (h : j < xs.length) : (nums k xs).toArray[j]? = some (.int k xs[j]) := by
 simp [nums, h]
theorem nums_set (k : IntKind) (xs : List Int) (j : Nat) (v : Int) : (nums k xs).toArray.setIfInBounds j (.int k v) = (nums k (xs.set j v)).toArray := by
 simp [nums, List.map_set]
theorem nums_one (k : IntKind) (xs : List Int) : (nums k xs).toArray.all (·.oneCell') = true :=
 all_oneCell_toArray (fun v hv => by
   obtain ⟨x, _, rfl⟩ := List.mem_map.1 hv
   rfl)
theorem blk_new2 (w : World) (o1 o2 : Obj) : ((w.alloc o1).alloc o2).heap[w.heap.size + 1]? = some o2 := by simpa using blk_new (w.alloc o1) o2
theorem blk_new3 (w : World) (o1 o2 o3 : Obj) : (((w.alloc o1).alloc o2).alloc o3).heap[w.heap.size + 1 + 1]? = some o3 := by simpa using blk_new ((w.alloc o1).alloc o2) o3
theorem blk_new4 (w : World) (o1 o2 o3 o4 : Obj) : ((((w.alloc o1).alloc o2).alloc o3).alloc o4).heap[w.heap.size + 1 + 1 + 1]? = some o4 := by simpa using blk_new (((w.alloc o1).alloc o2).alloc o3) o4
theorem below_row {B : Nat} {w w1 : World} {g : Nat} (h : Below B w w1) (hg : B ≤ g) (cs : Array Value) : Below B w (w1.setRow g cs) :=
 ⟨h.os, h.tape, h.output, by rw [setRow_size]; exact h.size, fun i hi => by rw [setRow_other _ _ _ _ (by omega)]; exact h.block i hi⟩
theorem conv_below {B : Nat} (w0 w : World) (e : TypeId) (s : ByteArray) (h : Below B w0 w) (hB : B ≤ w.heap.size) : Below B w0 (Lib.bytesWorld w e s) :=
 ⟨h.os, h.tape, h.output, Nat.le_trans h.size (by rw [Lib.bytesWorld_size]; omega), fun i hi => (Lib.bytesWorld_at_old w e s i (by omega)).trans (h.block i hi)⟩
theorem C_one_string {W : World} {g : Nat} {s : ByteArray} {T : TypeId} {fr : Nat × Nat} (h : W.heap[g]? = some (.cells #[.string s] T fr)) : Kd.C Kd.string W (some ⟨g, 0, none⟩) 1 [s] := by
 refine ⟨rfl, by decide, fun _ => ⟨⟨g, 0, none⟩, rfl, fun j p hj => ?_⟩⟩
 match j, hj with
 | 0, hj =>
   obtain rfl : s = p := by simpa using hj
   refine ⟨[.string s], rfl, rfl, fun i u hu => ?_⟩
   match i, hu with
   | 0, hu =>
     obtain rfl : Value.string s = u := by simpa using hu
     rw [add_plain]
     simpa using cell_of_row W g 0 _ _ _ h
theorem C_two_string {W : World} {g : Nat} {s t : ByteArray} {T : TypeId} {fr : Nat × Nat} (h : W.heap[g]? = some (.cells #[.string s, .string t] T fr)) : Kd.C Kd.string W (some ⟨g, 0, none⟩) 2 [s, t] := by
 refine ⟨rfl, by decide, fun _ => ⟨⟨g, 0, none⟩, rfl, fun j p hj => ?_⟩⟩
 match j, hj with
 | 0, hj =>
   obtain rfl : s = p := by simpa using hj
   refine ⟨[.string s], rfl, rfl, fun i u hu => ?_⟩
   match i, hu with
   | 0, hu =>
     obtain rfl : Value.string s = u := by simpa using hu
     rw [add_plain]
     simpa using cell_of_row W g 0 _ _ _ h
 | 1, hj =>
   obtain rfl : t = p := by simpa using hj
   refine ⟨[.string t], rfl, rfl, fun i u hu => ?_⟩
   match i, hu with
   | 0, hu =>
     obtain rfl : Value.string t = u := by simpa using hu
     rw [add_plain]
     show W.cell? ⟨g, 1, none⟩ = _
     simpa using cell_of_row W g 1 _ _ _ h
end Go.Proofs.Ytlfpogbonmddmaa.P

/- Laid by a program of this session: of Gf, Sha, Hp, Rf, Vec what this law uses. -/
import Derived.Laws.BitsLemmas
import Derived.IntWalk
import Derived.RowKit
import Derived.Test.YtlfpogbonmddmaaZFsWWords
import Derived.Test.YtlfpogbonmddmaaZFsWLast
import Derived.Test.YtlfpogbonmddmaaZFsWMore
import Derived.Laws.Tables
import Derived.Laws.Rows
import Derived.KernelRfl
import Derived.ArgAppend
import Derived.Lib.AppendStr
import Derived.Lib.ConvBytes
import Derived.Lib.BufferWrite
import Derived.Lib.SlBuf
import Derived.RangeFuncNested
import Derived.RangeFuncBound
import Derived.RangeFuncCalls
import Derived.RangeFuncLeaves
import Derived.RangeFuncBox
import Derived.Shelf.Abstract
import Derived.WalkKit
import Derived.OwnWalkIn
import Derived.TacticsInMore
import Derived.LoopNIn
import Derived.LoopIn
import Derived.StillTail
import Derived.StillTactics
namespace Go.Proofs.Ytlfpogbonmddmaa.Gf
theorem wrap_small (k : IntKind) (n : Nat) (h : n < 2 ^ (k.bits - 1)) : k.wrap (n : Int) = n := by
 have hlt : ((n : Nat) : Int) < 2 ^ (k.bits - 1) := by exact_mod_cast h
 have hp : (2 : Int) ^ (k.bits - 1) ≤ 2 ^ k.bits := by
   have : (2 : Nat) ^ (k.bits - 1) ≤ 2 ^ k.bits := Nat.pow_le_pow_right (by decide) (Nat.sub_le _ _)
   exact_mod_cast this
 have hm : (n : Int) % 2 ^ k.bits = n := Int.emod_eq_of_lt (Int.natCast_nonneg _) (Int.lt_of_lt_of_le hlt hp)
 simp only [IntKind.wrap, hm]
 rw [if_neg]
 simp only [Bool.and_eq_true, decide_eq_true_eq, not_and]
 intro _
 omega
theorem wrap_u (k : IntKind) (hk : k.signed = false) (n : Nat) (h : n < 2 ^ k.bits) : k.wrap (n : Int) = n := by
 have hlt : ((n : Nat) : Int) < 2 ^ k.bits := by exact_mod_cast h
 have hm : (n : Int) % 2 ^ k.bits = n := Int.emod_eq_of_lt (Int.natCast_nonneg _) hlt
 simp only [IntKind.wrap, hm, hk, Bool.false_and]
 rfl
theorem bits_u (k : IntKind) (hk : k.signed = false) (a b : Nat) (ha : a < 2 ^ k.bits) (hb : b < 2 ^ k.bits) :
   bits .xor k a b = ((a ^^^ b : Nat) : Int) ∧ bits .and k a b = ((a &&& b : Nat) : Int) ∧ bits .or k a b = ((a ||| b : Nat) : Int) := by
 have ha' : a % 2 ^ k.bits = a := Nat.mod_eq_of_lt ha
 have hb' : b % 2 ^ k.bits = b := Nat.mod_eq_of_lt hb
 refine ⟨?_, ?_, ?_⟩
 · simp only [bits, BitVec.ofInt_natCast, BitVec.toNat_xor, BitVec.toNat_ofNat, ha', hb']
   exact wrap_u k hk _ (Nat.xor_lt_two_pow ha hb)
 · simp only [bits, BitVec.ofInt_natCast, BitVec.toNat_and, BitVec.toNat_ofNat, ha', hb']
   exact wrap_u k hk _ (Nat.and_lt_two_pow _ hb)
 · simp only [bits, BitVec.ofInt_natCast, BitVec.toNat_or, BitVec.toNat_ofNat, ha', hb']
   exact wrap_u k hk _ (Nat.or_lt_two_pow ha hb)
theorem bits_s (k : IntKind) (a b : Nat) (ha : a < 2 ^ (k.bits - 1)) (hb : b < 2 ^ (k.bits - 1)) :
   bits .xor k a b = ((a ^^^ b : Nat) : Int) ∧ bits .and k a b = ((a &&& b : Nat) : Int) ∧ bits .or k a b = ((a ||| b : Nat) : Int) := by
 have hp : (2 : Nat) ^ (k.bits - 1) ≤ 2 ^ k.bits := Nat.pow_le_pow_right (by decide) (Nat.sub_le _ _)
 have ha' : a % 2 ^ k.bits = a := Nat.mod_eq_of_lt (Nat.lt_of_lt_of_le ha hp)
 have hb' : b % 2 ^ k.bits = b := Nat.mod_eq_of_lt (Nat.lt_of_lt_of_le hb hp)
 refine ⟨?_, ?_, ?_⟩
 · simp only [bits, BitVec.ofInt_natCast, BitVec.toNat_xor, BitVec.toNat_ofNat, ha', hb']
   exact wrap_small k _ (Nat.xor_lt_two_pow ha hb)
 · simp only [bits, BitVec.ofInt_natCast, BitVec.toNat_and, BitVec.toNat_ofNat, ha', hb']
   exact wrap_small k _ (Nat.and_lt_two_pow _ hb)
 · simp only [bits, BitVec.ofInt_natCast, BitVec.toNat_or, BitVec.toNat_ofNat, ha', hb']
   exact wrap_small k _ (Nat.or_lt_two_pow ha hb)
theorem xor_i64 (a b : Nat) (ha : a < 9223372036854775808) (hb : b < 9223372036854775808) : bits .xor .i64 a b = ((a ^^^ b : Nat) : Int) := (bits_s .i64 a b ha hb).1
theorem xor_u8 (a b : Nat) (ha : a < 256) (hb : b < 256) : bits .xor .u8 a b = ((a ^^^ b : Nat) : Int) := (bits_u .u8 rfl a b ha hb).1
theorem or_u32 (a b : Nat) (ha : a < 4294967296) (hb : b < 4294967296) : bits .or .u32 a b = ((a ||| b : Nat) : Int) := (bits_u .u32 rfl a b ha hb).2.2
def xt (x : Nat) : Nat := if x * 2 > 255 then x * 2 ^^^ 283 else x * 2
theorem xt_lt : ∀ x, x < 256 → xt x < 256 := by decide +kernel
theorem xor_lt {a b : Nat} (ha : a < 256) (hb : b < 256) : a ^^^ b < 256 := Nat.xor_lt_two_pow (n := 8) ha hb
def mulc : Nat → Nat → Nat → Nat → Nat
 | 0, _, p, _ => p
 | n + 1, b, p, x => mulc n (b / 2) (if b % 2 = 1 then p ^^^ x else p) (xt x)
def gm (a b : Nat) : Nat := mulc 8 b 0 a
theorem mulc_lt (n b p x : Nat) (hp : p < 256) (hx : x < 256) : mulc n b p x < 256 := by
 induction n generalizing b p x with
 | zero => exact hp
 | succ n ih =>
   refine ih _ _ _ ?_ (xt_lt x hx)
   split
   · exact xor_lt hp hx
   · exact hp
theorem gm_lt {a b : Nat} (ha : a < 256) : gm a b < 256 := mulc_lt 8 b 0 a (by decide) ha
def Lin (f : Nat → Nat) : Prop := ∀ x y, x < 256 → y < 256 → f (x ^^^ y) = f x ^^^ f y
theorem xor4 (a b c d : Nat) : (a ^^^ b) ^^^ (c ^^^ d) = (a ^^^ c) ^^^ (b ^^^ d) := by
 rw [Nat.xor_assoc, Nat.xor_assoc, ← Nat.xor_assoc b c d, Nat.xor_comm b c, Nat.xor_assoc c b d]
theorem xt_lin : Lin xt := by
 intro x y hx hy
 have : ∀ x, x < 256 → ∀ y, y < 256 → xt (x ^^^ y) = xt x ^^^ xt y := by decide +kernel
 exact this x hx y hy
theorem Lin.xor {f g : Nat → Nat} (hf : Lin f) (hg : Lin g) : Lin fun x => f x ^^^ g x := fun x y hx hy => by
 show f (x ^^^ y) ^^^ g (x ^^^ y) = _
 rw [hf x y hx hy, hg x y hx hy, xor4]
def inv (a : Nat) : Nat :=
 let r := fun (s : Nat × Nat) => let x := gm s.2 s.2; (gm s.1 x, x)
 (r (r (r (r (r (r (r (1, a)))))))).1
end Go.Proofs.Ytlfpogbonmddmaa.Gf
set_option linter.unusedVariables false
namespace Go.Proofs.Ytlfpogbonmddmaa.Sha
def rr (x : Int) (n : Nat) : Int := Go.bits .or .u32 (x / 2 ^ n) (IntKind.u32.wrap (x * 2 ^ (32 - n)))
theorem rr_mod (x : Int) (n : Nat) : rr x n = Go.bits .or .u32 (x / 2 ^ n) ((x * 2 ^ (32 - n)) % 4294967296) := by
 unfold rr
 congr 1
def w32 (x : Int) : Int := x % 4294967296
def sg0 (x : Int) : Int := Go.bits .xor .u32 (Go.bits .xor .u32 (rr x 7) (rr x 18)) (x / 8)
def sg1 (x : Int) : Int := Go.bits .xor .u32 (Go.bits .xor .u32 (rr x 17) (rr x 19)) (x / 1024)
def ep1 (x : Int) : Int := Go.bits .xor .u32 (Go.bits .xor .u32 (rr x 6) (rr x 11)) (rr x 25)
def ep0 (x : Int) : Int := Go.bits .xor .u32 (Go.bits .xor .u32 (rr x 2) (rr x 13)) (rr x 22)
def cho (e f g : Int) : Int := Go.bits .xor .u32 (Go.bits .and .u32 e f) (Go.bits .and .u32 (Go.bits .xor .u32 IntKind.u32.max e) g)
def maj (a b c : Int) : Int := Go.bits .xor .u32 (Go.bits .xor .u32 (Go.bits .and .u32 a b) (Go.bits .and .u32 a c)) (Go.bits .and .u32 b c)
structure V8 where
 (a b c d e f g h : Int)
def V8.l (v : V8) : List Int := [v.a, v.b, v.c, v.d, v.e, v.f, v.g, v.h]
def pOf (v : V8) (k w : Int) : Int := w32 (v.h + ep1 v.e + cho v.e v.f v.g + k + w)
def qOf (v : V8) : Int := w32 (ep0 v.a + maj v.a v.b v.c)
def step (v : V8) (k w : Int) : V8 := ⟨w32 (pOf v k w + qOf v), v.a, v.b, v.c, w32 (v.d + pOf v k w), v.e, v.f, v.g⟩
theorem step_l (xa xb xc xd xe xf xg xh k w : Int) : (step ⟨xa, xb, xc, xd, xe, xf, xg, xh⟩ k w).l = [(xh + ep1 xe + cho xe xf xg + k + w + (ep0 xa + maj xa xb xc)) % 4294967296, xa, xb, xc, (xd + (xh + ep1 xe + cho xe xf xg + k + w)) % 4294967296, xe, xf, xg] := by
 simp only [step, V8.l, pOf, qOf, w32, List.cons.injEq, and_true, true_and]
 omega
def rnd (k w : List Int) (v : V8) : Nat → V8
 | 0 => v
 | i + 1 => step (rnd k w v i) (k.getD i 0) (w.getD i 0)
def V8.add (u v : V8) : V8 := ⟨w32 (u.a + v.a), w32 (u.b + v.b), w32 (u.c + v.c), w32 (u.d + v.d), w32 (u.e + v.e), w32 (u.f + v.f), w32 (u.g + v.g), w32 (u.h + v.h)⟩
def turn (k w : List Int) (v : V8) : V8 := v.add (rnd k w v 64)
def pw (b : List Int) (i : Nat) : Nat → Int
 | 0 => 0
 | k + 1 => Go.bits .or .u32 ((pw b i k * 256) % 4294967296) (b.getD (4 * i + k) 0 % 4294967296)
def wordAt (b ws : List Int) (i : Nat) : Int :=
 if i < 16 then pw b i 4 else w32 (ws.getD (i - 16) 0 + sg0 (ws.getD (i - 15) 0) + ws.getD (i - 7) 0 + sg1 (ws.getD (i - 2) 0))
def sched (b : List Int) : Nat → List Int
 | 0 => []
 | i + 1 => sched b i ++ [wordAt b (sched b i) i]
theorem sched_length (b : List Int) (i : Nat) : (sched b i).length = i := by
 induction i with
 | zero => rfl
 | succ i ih => simp [sched, ih]
def K : List Int := [1116352408, 1899447441, 3049323471, 3921009573, 961987163, 1508970993, 2453635748, 2870763221, 3624381080, 310598401, 607225278, 1426881987, 1925078388, 2162078206, 2614888103, 3248222580, 3835390401, 4022224774, 264347078, 604807628, 770255983, 1249150122, 1555081692, 1996064986, 2554220882, 2821834349, 2952996808, 3210313671, 3336571891, 3584528711, 113926993, 338241895, 666307205, 773529912, 1294757372, 1396182291, 1695183700, 1986661051, 2177026350, 2456956037, 2730485921, 2820302411, 3259730800, 3345764771, 3516065817, 3600352804, 4094571909, 275423344, 430227734, 506948616, 659060556, 883997877, 958139571, 1322822218, 1537002063, 1747873779, 1955562222, 2024104815, 2227730452, 2361852424, 2428436474, 2756734187, 3204031479, 3329325298]
def H0 : V8 := ⟨1779033703, 3144134277, 1013904242, 2773480762, 1359893119, 2600822924, 528734635, 1541459225⟩
def be8 (n : Int) : List Int := [n / 72057594037927936 % 256, n / 281474976710656 % 256, n / 1099511627776 % 256, n / 4294967296 % 256, n / 16777216 % 256, n / 65536 % 256, n / 256 % 256, n % 256]
def fillTo (l : List Int) : List Int := l ++ 128 :: List.replicate ((119 - l.length % 64) % 64) 0
def full (l : List Int) : List Int := fillTo l ++ be8 (8 * (l.length : Int))
def chunk (l : List Int) (j : Nat) : List Int := (l.drop (64 * j)).take 64
def fold (l : List Int) : Nat → V8
 | 0 => H0
 | j + 1 => turn K (sched (chunk l j) 64) (fold l j)
def foldl (l : List Int) (js : List Nat) : V8 := js.foldl (fun v j => turn K (sched (chunk l j) 64) v) H0
theorem foldl_snoc (l : List Int) (js : List Nat) (j : Nat) : foldl l (js ++ [j]) = turn K (sched (chunk l j) 64) (foldl l js) := by simp [foldl]
theorem foldl_range (l : List Int) (m : Nat) : foldl l (List.range m) = fold l m := by
 induction m with
 | zero => rfl
 | succ m ih => rw [List.range_succ, foldl_snoc, ih]; rfl
def four (n : Int) : List Int := [n / 16777216 % 256, n / 65536 % 256, n / 256 % 256, n % 256]
def shaL (l : List Int) : List Int := (fold (full l) ((full l).length / 64)).l.flatMap four
theorem chunk_length (l : List Int) (j : Nat) (h : 64 * j + 64 ≤ l.length) : (chunk l j).length = 64 := by simp [chunk]; omega
theorem chunk_at (l : List Int) (j i : Nat) (h : 64 * j + 64 ≤ l.length) (hi : i < 64) : (chunk l j).getD i 0 = l.getD (64 * j + i) 0 := by
 simp [chunk, List.getD_eq_getElem?_getD, List.getElem?_take_of_lt hi]
theorem four_wrap (n : Int) : four (Go.RowKit.wrap64 n) = four n := by
 simp only [four, List.cons.injEq, and_true]
 unfold Go.RowKit.wrap64
 omega
def outTo (u : V8) (i : Nat) : List Int := (u.l.take i).flatMap four
theorem outTo_succ (u : V8) (i : Nat) (hi : i < 8) : outTo u (i + 1) = outTo u i ++ four (u.l.getD i 0) := by
 match i, hi with
 | 0, _ => rfl
 | 1, _ => rfl
 | 2, _ => rfl
 | 3, _ => rfl
 | 4, _ => rfl
 | 5, _ => rfl
 | 6, _ => rfl
 | 7, _ => rfl
theorem outTo_length (u : V8) (i : Nat) (hi : i ≤ 8) : (outTo u i).length = 4 * i := by
 match i, hi with
 | 0, _ => rfl
 | 1, _ => rfl
 | 2, _ => rfl
 | 3, _ => rfl
 | 4, _ => rfl
 | 5, _ => rfl
 | 6, _ => rfl
 | 7, _ => rfl
 | 8, _ => rfl
def maskL (key : List Int) (m : Int) : List Int := (List.range 64).map fun i => Go.bits .xor .u8 (key.getD i 0) m
def hkey (key : List Int) : List Int := if 64 < key.length then shaL key else key
def hmacL (key b : List Int) : List Int := shaL (maskL (hkey key) 92 ++ shaL (maskL (hkey key) 54 ++ b))
def exp (key info : List Int) : Nat → List Int × List Int
 | 0 => ([], [])
 | i + 1 => let last := hmacL key ((exp key info i).2 ++ info ++ [((i + 1 : Nat) : Int) % 256]); ((exp key info i).1 ++ last, last)
def expandL (key info : List Int) (n : Nat) : List Int := ((exp key info (n + 31)).1).take n
end Go.Proofs.Ytlfpogbonmddmaa.Sha
namespace Go.Proofs.Ytlfpogbonmddmaa.P
open Go.RowKit Go.Proofs.YtlfpogbonmddmaaW.PrintWords Go.Proofs.YtlfpogbonmddmaaW.PrintLast Go.Proofs.YtlfpogbonmddmaaW.PrintMore
set_option linter.unusedVariables false
set_option linter.unusedSimpArgs false
def arr32 (xs : List Int) : Value := .agg (nums .u32 xs).toArray
theorem blk_new5 (w : World) (o1 o2 o3 o4 o5 : Obj) : (((((w.alloc o1).alloc o2).alloc o3).alloc o4).alloc o5).heap[w.heap.size + 1 + 1 + 1 + 1]? = some o5 := by simpa using blk_new ((((w.alloc o1).alloc o2).alloc o3).alloc o4) o5
theorem nums_at? (k : IntKind) (xs : List Int) (j : Nat) (x : Int) (h : xs[j]? = some x) : (nums k xs).toArray[j]? = some (.int k x) := by simp [nums, h]
theorem upd_set (l : List Int) (x y : Int) (r : List Int) (i : Nat) (h : l.length = i) : (l ++ x :: r).set i y = l ++ y :: r := by
 subst h; simp
theorem upd_at (l : List Int) (x : Int) (r : List Int) (i : Nat) (h : l.length = i) : (l ++ x :: r)[i]? = some x := by
 subst h; simp
theorem upd_old (l : List Int) (r : List Int) (j : Nat) (h : j < l.length) : (l ++ r)[j]? = some (l.getD j 0) := by
 rw [List.getElem?_append_left h, List.getD_eq_getElem?_getD, List.getElem?_eq_getElem h]; rfl
theorem C_u8_cell {w : World} {ad : Addr} {n : Nat} {l : List Int} (h : Kd.C (Kd.int .u8) w (some ad) n l) (hn : n = l.length) (j : Nat) (hj : j < l.length) : w.cell? (ad.add j) = some (.int .u8 (l.getD j 0)) := by
 subst hn
 obtain ⟨a2, c, e, hs, hk, hcell⟩ := Kd.C_get h 0 (j : Int) (by omega) (by omega)
 obtain rfl : ad = a2 := by injection e
 rw [Int.toNat_natCast] at hk hcell
 have hc : c = [Value.int .u8 (l.getD j 0)] := hk
 rw [hc] at hcell
 have h1 := hcell 0 _ rfl
 have h2 : j * (Kd.int IntKind.u8).sz + 0 = j := by show j * 1 + 0 = _; omega
 rw [h2] at h1
 exact h1
theorem wpList_build_is {P : Program} {ops : Array Oper} {rest : List Oper} {o : Oper} {a : Act} {w : World} {Q : Exit → Act → World → Prop} (hg : o.guard = none) (t : TypeId) (parts : Array (Nat × Operand)) (ho : o.op = .build t parts) (cs : Array Value)
   (hb : P.built t (parts.map fun (i, x) => (i, a.eval x)).toList = some cs)
   (h : wpList P ops Q rest (a.put o.dst (.agg cs)) w) : wpList P ops Q (o :: rest) a w :=
 wpList_build hg t parts ho (by rw [hb]; rfl) (by rw [hb]; exact h)
theorem strOfNums_append (a b : List Int) : strOfNums a ++ strOfNums b = strOfNums (a ++ b) := by
 have h : ∀ x y : ByteArray, x.data = y.data → x = y := fun x y e => by cases x; cases y; cases e; rfl
 apply h
 simp [strOfNums]
def bytesL (s : ByteArray) : List Int := s.data.toList.map fun b => (b.toNat : Int)
theorem str_bytesL (s : ByteArray) : strOfNums (bytesL s) = s := by
 have h : ∀ x y : ByteArray, x.data = y.data → x = y := fun x y e => by cases x; cases y; cases e; rfl
 apply h
 apply Array.toList_inj.1
 simp [strOfNums, bytesL, List.map_map, Function.comp_def]
theorem bytesL_str (l : List Int) (h : ∀ x ∈ l, 0 ≤ x ∧ x ≤ 255) : bytesL (strOfNums l) = l := by
 unfold bytesL strOfNums
 simp only [List.map_map]
 conv => rhs; rw [← List.map_id l]
 refine List.map_congr_left fun x hx => ?_
 obtain ⟨h0, h1⟩ := h x hx
 simp only [Function.comp_apply, id_eq, UInt8.toNat_ofNat']
 omega
theorem upd_zero (l : List Int) (i : Nat) (hi : i < 64) : l ++ List.replicate (64 - i) 0 = l ++ (0 : Int) :: List.replicate (63 - i) 0 := by
 rw [show 64 - i = (63 - i) + 1 from by omega, List.replicate_succ]
theorem upd_next (b : List Int) (i : Nat) (hi : i < 64) : Sha.sched b i ++ Sha.wordAt b (Sha.sched b i) i :: List.replicate (63 - i) 0 = Sha.sched b (i + 1) ++ List.replicate (64 - (i + 1)) 0 := by
 rw [show 64 - (i + 1) = 63 - i from by omega]
 simp [Sha.sched]
theorem td_at (A B : List Int) (h : A.length = B.length) (j : Nat) (hj : j < A.length) : (A.take j ++ B.drop j)[j]? = some (B.getD j 0) := by
 rw [List.getElem?_append_right (by simp; omega), List.length_take, Nat.min_eq_left (Nat.le_of_lt hj), Nat.sub_self, List.getElem?_drop, List.getD_eq_getElem?_getD, List.getElem?_eq_getElem (show j + 0 < B.length by omega)]
 simp [List.getElem?_eq_getElem (show j < B.length by omega)]
theorem td_set (A B : List Int) (h : A.length = B.length) (j : Nat) (hj : j < A.length) : (A.take j ++ B.drop j).set j (A.getD j 0) = A.take (j + 1) ++ B.drop (j + 1) := by
 apply List.ext_getElem
 · simp; omega
 · intro i h1 h2
   have hi : i < A.length := by simp at h2; omega
   rcases Nat.lt_trichotomy i j with e | e | e
   · rw [List.getElem_set_ne (by omega), List.getElem_append_left (by simp; omega), List.getElem_append_left (by simp; omega)]
     simp
   · subst e
     rw [List.getElem_set_self, List.getElem_append_left (by simp; omega)]
     simp [List.getD_eq_getElem?_getD, hi]
   · rw [List.getElem_set_ne (by omega), List.getElem_append_right (by simp; omega), List.getElem_append_right (by simp; omega)]
     simp only [List.getElem_drop]
     congr 1
     simp; omega
theorem run_make_nums {P : Program} {k : IntKind} {t e : TypeId} {m : Nat} (ht : P.underlying t = some (.slice e)) (he : (P.info? e).map (fun i => (i.zero, i.size, i.bytes)) = some (some (.int k 0), 1, 1) ∨ (P.info? e).map (fun i => (i.zero, i.size, i.bytes)) = some (some (.int k 0), 1, 4) ∨ (P.info? e).map (fun i => (i.zero, i.size, i.bytes)) = some (some (.int k 0), 1, 8)) (hm : m ≤ 4096) (W : World) :
   (Instr.makeSlice t (.int .i64 (m : Int)) (.int .i64 (m : Int))).run P W = .ok (.slice (some ⟨W.heap.size, 0, none⟩) m m) (W.alloc (.cells (nums k (List.replicate m 0)).toArray e)) := by
 have key : ∀ by_ : Nat, by_ ≤ 8 → (P.info? e).map (fun i => (i.zero, i.size, i.bytes)) = some (some (.int k 0), 1, by_) → (Instr.makeSlice t (.int .i64 (m : Int)) (.int .i64 (m : Int))).run P W = .ok (.slice (some ⟨W.heap.size, 0, none⟩) m m) (W.alloc (.cells (nums k (List.replicate m 0)).toArray e)) := fun by_ hby h => by
   obtain ⟨i, hi, h3⟩ := Option.map_eq_some_iff.1 h
   simp only [Prod.mk.injEq] at h3
   have hb' : (i.bytes : Int) * (m : Int) ≤ 281474976710656 := by
     have : i.bytes * m ≤ 8 * 4096 := Nat.mul_le_mul (by omega) hm
     have h4 : ((i.bytes * m : Nat) : Int) ≤ 281474976710656 := by omega
     rwa [Int.natCast_mul] at h4
   have hr := run_make (P := P) W t e i (.int k 0) ht hi h3.1 .i64 .i64 (m : Int) (m : Int) (by omega) (Int.le_refl _) hb' (by omega)
   simp only [Int.toNat_natCast] at hr
   rw [hr]
   congr 4
   apply Array.ext'
   rw [h3.2.1, Nat.mul_one]
   show (madeCells #[Value.int k 0] m).toList = _
   rw [toList_madeCells_one]
   simp [nums]
 rcases he with h | h | h
 · exact key 1 (by decide) h
 · exact key 4 (by decide) h
 · exact key 8 (by decide) h
def addTo (u v : Sha.V8) (i : Nat) : List Int := ((u.add v).l.take i) ++ (u.l.drop i)
theorem addTo_set (u v : Sha.V8) (i : Nat) (hi : i < 8) : (addTo u v i).set i (Sha.w32 (u.l.getD i 0 + v.l.getD i 0)) = addTo u v (i + 1) := by
 match i, hi with
 | 0, _ => rfl
 | 1, _ => rfl
 | 2, _ => rfl
 | 3, _ => rfl
 | 4, _ => rfl
 | 5, _ => rfl
 | 6, _ => rfl
 | 7, _ => rfl
theorem addTo_at (u v : Sha.V8) (i : Nat) (hi : i < 8) : (addTo u v i)[i]? = some (u.l.getD i 0) := by
 match i, hi with
 | 0, _ => rfl
 | 1, _ => rfl
 | 2, _ => rfl
 | 3, _ => rfl
 | 4, _ => rfl
 | 5, _ => rfl
 | 6, _ => rfl
 | 7, _ => rfl
theorem V8l_at (v : Sha.V8) (i : Nat) (hi : i < 8) : v.l[i]? = some (v.l.getD i 0) := by
 rw [List.getD_eq_getElem?_getD, List.getElem?_eq_getElem (show i < v.l.length from hi)]; rfl
def sliceLen : Value → Nat
 | .slice _ n _ => n
 | _ => 0
def rowB (W : World) (B : Nat) (v : Value) (l : List Int) : Prop :=
 ∃ g cap, v = .slice (some ⟨g, 0, none⟩) l.length cap ∧ B ≤ g ∧ l.length ≤ cap ∧ (∀ j, j < cap → (W.cell? ⟨g, j, none⟩).isSome = true ∧ W.frozen? ⟨g, j, none⟩ = false) ∧ ∀ j, j < l.length → W.cell? ⟨g, j, none⟩ = some (.int .u8 (l.getD j 0))
theorem cell_lt {W : World} {a : Addr} (h : (W.cell? a).isSome = true) : a.block < W.heap.size := by
 rcases Nat.lt_or_ge a.block W.heap.size with h1 | h1
 · exact h1
 · simp [World.cell?, Array.getElem?_eq_none h1] at h
theorem rowB_below {W W' : World} {B : Nat} {v : Value} {l : List Int} (h : rowB W B v l) (hb : Below W.heap.size W W') : rowB W' B v l := by
 obtain ⟨g, cap, e, hg, hl, hc, hv⟩ := h
 refine ⟨g, cap, e, hg, hl, fun j hj => ?_, fun j hj => ?_⟩
 · have hlt := cell_lt (hc j hj).1
   exact ⟨by rw [hb.cell (p := ⟨g, j, none⟩) hlt]; exact (hc j hj).1, by rw [hb.frozen (p := ⟨g, j, none⟩) hlt]; exact (hc j hj).2⟩
 · have hlt : (⟨g, j, none⟩ : Addr).block < W.heap.size := cell_lt (hc j (by omega)).1
   exact (hb.cell hlt).trans (hv j hj)
theorem rowB_C {W : World} {B g cap : Nat} {l : List Int} (h : rowB W B (.slice (some ⟨g, 0, none⟩) l.length cap) l) (hm : l.length ≤ 140737488355328) : Kd.C (Kd.int .u8) W (some ⟨g, 0, none⟩) l.length l := by
 obtain ⟨g2, cap2, e, hg, hl, hc, hv⟩ := h
 injection e with e1 e2 e3
 injection e1 with e1
 injection e1 with e1
 subst e1
 refine ⟨rfl, by show l.length ≤ 9223372036854775807; omega, fun _ => ⟨⟨g, 0, none⟩, rfl, fun j p hj => ?_⟩⟩
 obtain ⟨hj2, e4⟩ := List.getElem?_eq_some_iff.1 hj
 have hd : l.getD j 0 = p := by rw [List.getD_eq_getElem?_getD, hj]; rfl
 refine ⟨[.int .u8 p], rfl, rfl, fun i u hu => ?_⟩
 match i, hu with
 | 0, hu =>
   obtain rfl : Value.int .u8 p = u := by simpa using hu
   rw [add_plain]
   have := hv j hj2
   rw [hd] at this
   show W.cell? ⟨g, j * 1 + 0, none⟩ = _
   simpa using this
theorem rowB_form {W : World} {B : Nat} {v : Value} {l : List Int} (h : rowB W B v l) : ∃ g cap, v = .slice (some ⟨g, 0, none⟩) l.length cap ∧ l.length ≤ cap := by
 obtain ⟨g, cap, e, _, hl, _⟩ := h
 exact ⟨g, cap, e, hl⟩
theorem own_mono {W : World} {B B' : Nat} {e : TypeId} {size n : Nat} {v : Value} {xs : List Value} (h : W.ownsRow B' e size v n xs) (hB : B ≤ B') : W.ownsRow B e size v n xs := by
 obtain ⟨hl, h | ⟨g, cap, cur, e1, e2, rest⟩⟩ := h
 · exact ⟨hl, .inl h⟩
 · exact ⟨hl, .inr ⟨g, cap, cur, e1, Nat.le_trans hB e2, rest⟩⟩
theorem own_rowB {W : World} {B : Nat} {v : Value} {l : List Int} {e : TypeId} (h : W.ownsRow B e 1 v l.length (nums .u8 l)) (hne : v ≠ .slice none 0 0) : rowB W B v l := by
 obtain ⟨hl, ⟨e1, _⟩ | ⟨g, cap, cur, rfl, hB, hh, hc, hm, hs, ht⟩⟩ := h
 · exact absurd e1 hne
 · refine ⟨g, cap, rfl, hB, hc, fun j hj => ⟨?_, blk_frozen hh j⟩, fun j hj => ?_⟩
   · rw [blk_cell hh j, Array.getElem?_eq_getElem (by omega)]; rfl
   · rw [blk_cell hh j]
     have h1 : (cur.toList.take (l.length * 1))[j]? = (nums .u8 l)[j]? := by rw [ht]
     rw [List.getElem?_take_of_lt (by omega)] at h1
     rw [← Array.getElem?_toList, h1]
     simp [nums, hj]
theorem bytesL_length (s : ByteArray) : (bytesL s).length = s.size := by simp [bytesL]
theorem strCells_nums (s : ByteArray) : Lib.strCells s = nums .u8 (bytesL s) := by simp [Lib.strCells, nums, bytesL]
theorem conv_rowB (W : World) (B : Nat) (e : TypeId) (s : ByteArray) (hB : B ≤ W.heap.size) : rowB (Lib.bytesWorld W e s) B (.slice (some ⟨W.heap.size, 0, none⟩) s.size (grownCap W s.size 0 e)) (bytesL s) := by
 have hsz : (Lib.bytesCells W e s).size = grownCap W s.size 0 e := by
   have := grownCap_ge W s.size 0 e
   simp [Lib.bytesCells]; omega
 refine ⟨W.heap.size, grownCap W s.size 0 e, by rw [bytesL_length], hB, by rw [bytesL_length]; exact grownCap_ge W s.size 0 e, fun j hj => ?_, fun j hj => ?_⟩
 · have h1 := Lib.bytesWorld_at_new W e s
   refine ⟨?_, ?_⟩
   · simp [World.cell?, h1]; omega
   · simp [World.frozen?, h1]; omega
 · rw [bytesL_length] at hj
   rw [Lib.bytesWorld_cell W e s j hj]
   simp [bytesL, hj]
theorem nums_getD {k : IntKind} (l : List Int) (j : Nat) (u : Value) (h : (nums k l)[j]? = some u) : j < l.length ∧ u = .int k (l.getD j 0) := by
 simp only [nums, List.getElem?_map, Option.map_eq_some_iff] at h
 obtain ⟨x, hx, rfl⟩ := h
 obtain ⟨hj, rfl⟩ := List.getElem?_eq_some_iff.1 hx
 exact ⟨hj, by rw [List.getD_eq_getElem?_getD, hx]; rfl⟩
theorem rowB_wrote {W : World} {B g cap : Nat} {l r : List Int} (h : rowB W B (.slice (some ⟨g, 0, none⟩) l.length cap) l) (hroom : l.length + r.length ≤ cap) :
   rowB (W.setCells g l.length (nums .u8 r)) B (.slice (some ⟨g, 0, none⟩) (l ++ r).length cap) (l ++ r) := by
 obtain ⟨g2, cap2, e, hg, hl, hc, hv⟩ := h
 injection e with e1 e2 e3
 injection e1 with e1
 injection e1 with e1
 subst e1 e3
 have hin := World.cell?_setCells_in g (nums .u8 r) l.length W (fun j hj => (hc _ (by simp [nums] at hj; omega)).1)
 have hlen : (nums IntKind.u8 r).length = r.length := by simp [nums]
 have key : ∀ j, j < l.length → (W.setCells g l.length (nums .u8 r)).cell? ⟨g, j, none⟩ = W.cell? ⟨g, j, none⟩ := fun j hj => World.cell?_setCells_out g _ _ W _ (fun _ _ => .inl hj)
 have key2 : ∀ j, l.length ≤ j → j < l.length + r.length → (W.setCells g l.length (nums .u8 r)).cell? ⟨g, j, none⟩ = some (.int .u8 (r.getD (j - l.length) 0)) := fun j h1 h2 => by
   have h3 := hin (j - l.length) (by omega)
   rw [show l.length + (j - l.length) = j from by omega] at h3
   rw [h3]
   simp [nums, List.getD_eq_getElem?_getD, List.getElem?_eq_getElem (show j - l.length < r.length from by omega)]
 refine ⟨g, cap, rfl, hg, by rw [List.length_append]; exact hroom, fun j hj => ⟨?_, ?_⟩, fun j hj => ?_⟩
 · rcases Nat.lt_or_ge j l.length with h1 | h1
   · rw [key j h1]; exact (hc j hj).1
   · rcases Nat.lt_or_ge j (l.length + r.length) with h2 | h2
     · rw [key2 j h1 h2]; rfl
     · rw [World.cell?_setCells_out g _ _ W _ (fun _ _ => .inr (by rw [hlen]; exact h2))]; exact (hc j hj).1
 · rw [World.frozen?_setCells]; exact (hc j hj).2
 · rw [List.length_append] at hj
   rcases Nat.lt_or_ge j l.length with h1 | h1
   · rw [key j h1, hv j h1]; simp [List.getD_eq_getElem?_getD, List.getElem?_append_left h1]
   · rw [key2 j h1 hj]; simp [List.getD_eq_getElem?_getD, List.getElem?_append_right h1]
theorem below_setCells {B : Nat} {w W : World} (h : Below B w W) (g : Nat) (hg : B ≤ g) : ∀ (vs : List Value) (o : Nat), Below B w (W.setCells g o vs)
 | [], _ => h
 | v :: r, o => below_setCells (h.setCell (p := ⟨g, o, none⟩) hg v) g hg r (o + 1)
theorem run_append_rowB {P : Program} {W : World} {B : Nat} {w0 : World} (t ty e : TypeId) (i : TypeInfo) (h1 : P.underlying t = some (.slice e)) (h2 : P.info? e = some i) (h3 : i.zero = some (.int .u8 0)) (h4 : i.size = 1) (h5 : i.bytes = 1)
   {v : Value} {l r : List Int} (hv : rowB W B v l) (hb : Below B w0 W) (hB : B ≤ W.heap.size) (a : Addr) (m c : Nat) (hm : m = r.length) (hc : ∀ j, j < r.length → W.cell? (a.add j) = some (.int .u8 (r.getD j 0))) (hfit : l.length + r.length ≤ 140737488355328) :
   ∃ v' w', (Builtin.append_ #[t, t] ty #[v, .slice (some a) m c]).run P W = .ok v' w' ∧ rowB w' B v' (l ++ r) ∧ Below B w0 w' ∧ B ≤ w'.heap.size := by
 subst hm
 have hn : ∀ j u, (nums IntKind.u8 r)[j]? = some u → W.cell? (a.add j) = some u := fun j u hj => by
   obtain ⟨hj2, rfl⟩ := nums_getD r j u hj
   exact hc j hj2
 have hnl : (nums IntKind.u8 r).length = r.length * 1 := by simp [nums]
 have hone : ∀ u ∈ nums IntKind.u8 r, u.oneCell' = true := fun u hu => by
   obtain ⟨x, _, rfl⟩ := List.mem_map.1 hu
   rfl
 have hv2 := hv
 obtain ⟨g, cap, rfl, hg, hl, hcs, hvs⟩ := hv2
 by_cases hr : l.length + r.length ≤ cap
 · refine ⟨_, _, run_append_room_cells W t ty e i h1 h2 g 0 l.length cap a r.length c (nums .u8 r) (by rw [hnl, h4]) hn hone hr ?_ ?_, ?_, ?_, ?_⟩
   · intro j hj
     simp only [h4, Nat.zero_add, Nat.mul_one]
     exact (hcs _ (by omega)).1
   · intro j hj
     simp only [h4, Nat.zero_add, Nat.mul_one]
     exact (hcs _ (by omega)).2
   · have := rowB_wrote hv hr
     simpa [h4] using this
   · simpa [h4] using below_setCells hb g hg (nums .u8 r) _
   · have := (below_setCells (Below.refl B W) g hg (nums .u8 r) (0 + l.length * i.size)).size
     omega
 · obtain ⟨v', w', hrun, r1, r2⟩ := run_append_arg_grows (P := P) W t ty e i (.int .u8 0) 1 1 h1 h2 h3 h4 h5 rfl (by decide) ⟨g, 0, none⟩ l.length cap (nums .u8 l) (by simp [nums]) (fun j u hj => by
       obtain ⟨hj2, rfl⟩ := nums_getD l j u hj
       rw [add_plain]
       simpa using hvs j hj2) a r.length c (nums .u8 r) hnl hn (by omega) (by unfold maxLen; omega) (by omega)
   have e1 : nums IntKind.u8 l ++ nums IntKind.u8 r = nums .u8 (l ++ r) := by simp [nums]
   rw [e1, ← List.length_append] at r1
   refine ⟨v', w', hrun, own_rowB (own_mono r1 hB) ?_, hb.grown r2 hB (fun k hk => by cases hk), Nat.le_trans hB r2.size⟩
   rintro rfl
   obtain ⟨hx, ⟨_, h0⟩ | ⟨g3, cap3, cur3, e3, _⟩⟩ := r1
   · rw [List.length_append] at h0; omega
   · cases e3
theorem wpList_append_rowB {P : Program} {W : World} {B : Nat} {w0 : World} {ops : Array Oper} {rest : List Oper} {o : Oper} {ac : Act} {Q : Exit → Act → World → Prop} (hgd : o.guard = none) (s x : Operand) (t e : TypeId) (ho : o.op = .call { callee := .builtin .append, args := #[s, x], argTypes := #[t, t] })
   (h1 : P.underlying t = some (.slice e)) (hi : (P.info? e).map (fun i => (i.zero, i.size, i.bytes)) = some (some (.int .u8 0), 1, 1))
   {v : Value} {l : List Int} (r : List Int) (hs : ac.eval s = v) (hv : rowB W B v l) (hb : Below B w0 W) (hB : B ≤ W.heap.size) (ad : Addr) (m c : Nat) (hx : ac.eval x = .slice (some ad) m c) (hm : m = r.length) (hc : ∀ j, j < r.length → W.cell? (ad.add j) = some (.int .u8 (r.getD j 0))) (hfit : l.length + r.length ≤ 140737488355328) (lr : List Int) (hlr : lr = l ++ r)
   (h : ∀ v' w', Aside0 (rowB w' B v' lr) → Aside0 (Below B w0 w') → Aside0 (B ≤ w'.heap.size) → wpList P ops Q rest (ac.put o.dst v') w') : wpList P ops Q (o :: rest) ac W := by
 subst hlr
 obtain ⟨i, h2, h3⟩ := Option.map_eq_some_iff.1 hi
 simp only [Prod.mk.injEq] at h3
 refine wpList_plain hgd fun K hK => ?_
 obtain ⟨v', w', hr, q1, q2, q3⟩ := run_append_rowB (P := P) t o.type e i h1 h2 h3.1 h3.2.1 h3.2.2 hv hb hB ad m c hm hc hfit
 unfold Oper.wp execOp
 simp only [ho, resolve, invoke, builtin, Sem.run_bind, Sem.run_pure, Result.andThen_ok, List.map_toArray, List.map_cons, List.map_nil, hs, hx, hr]
 exact hK _ _ (h v' w' ⟨q1⟩ ⟨q2⟩ ⟨q3⟩)
theorem run_append_rowB_string {P : Program} {W : World} {B : Nat} {w0 : World} (t u ty e : TypeId) (i : TypeInfo) (h1 : P.underlying t = some (.slice e)) (hu : P.underlying u = some .string) (h2 : P.info? e = some i) (h3 : i.zero = some (.int .u8 0)) (h4 : i.size = 1) (h5 : i.bytes = 1)
   {v : Value} {l : List Int} (s : ByteArray) (hv : rowB W B v l) (hb : Below B w0 W) (hB : B ≤ W.heap.size) (hfit : l.length + s.size ≤ 140737488355328) :
   ∃ v' w', (Builtin.append_ #[t, u] ty #[v, .string s]).run P W = .ok v' w' ∧ rowB w' B v' (l ++ bytesL s) ∧ Below B w0 w' ∧ B ≤ w'.heap.size := by
 have hv2 := hv
 obtain ⟨g, cap, rfl, hg, hl, hcs, hvs⟩ := hv2
 have hbl := bytesL_length s
 by_cases hr : l.length + s.size ≤ cap
 · have hf := Lib.run_firstCells_string (P := P) W 1 s
   have hst := run_storeCells_cells (P := P) g l.length (Lib.strCells s) 0 W (fun j hj => (hcs _ (by rw [Lib.strCells_length] at hj; omega)).1) (fun j hj => (hcs _ (by rw [Lib.strCells_length] at hj; omega)).2) (Lib.strCells_oneCell s)
   simp only [Nat.add_zero] at hst
   refine ⟨.slice (some ⟨g, 0, none⟩) (l.length + s.size) cap, W.setCells g l.length (Lib.strCells s), ?_, ?_, below_setCells hb g hg _ _, ?_⟩
   · simp [Builtin.append_, run_underlying h1, run_underlying hu, sizeOf, typeInfo, h2, h4, Builtin.lenOf, hr, hf, Addr.add_lit, hst]
   · have := rowB_wrote (r := bytesL s) hv (by omega)
     rw [strCells_nums]
     rw [List.length_append, hbl] at this
     exact this
   · have := (below_setCells (Below.refl B W) g hg (Lib.strCells s) l.length).size
     omega
 · have hr2 := Lib.run_append_grow_string (P := P) W t u ty e i (.int .u8 0) h1 hu h2 h3 ⟨g, 0, none⟩ l.length cap (nums .u8 l) (by simp [nums, h4]) (fun j u hj => by
       obtain ⟨hj2, rfl⟩ := nums_getD l j u hj
       rw [add_plain]
       simpa using hvs j hj2) s (by omega) (by omega) (growslice_fits (by omega) (by rw [h5]; omega))
   have hge := grownCap_ge W (l.length + s.size) cap e
   refine ⟨_, _, hr2, ?_, ?_, ?_⟩
   · have hh := heap_alloc_new W.drew (.cells ((nums IntKind.u8 l).toArray ++ (Lib.strCells s).toArray ++ Builtin.zeroCells (Value.int IntKind.u8 0).cells (grownCap W (l.length + s.size) cap e - (l.length + s.size))) e)
     have hsize : ((nums IntKind.u8 l).toArray ++ (Lib.strCells s).toArray ++ Builtin.zeroCells (Value.int IntKind.u8 0).cells (grownCap W (l.length + s.size) cap e - (l.length + s.size))).size = grownCap W (l.length + s.size) cap e := by
       have e1 : (Builtin.zeroCells (Value.int IntKind.u8 0).cells (grownCap W (l.length + s.size) cap e - (l.length + s.size))).size = grownCap W (l.length + s.size) cap e - (l.length + s.size) := by
         rw [size_zeroCells]; show _ * 1 = _; omega
       rw [Array.size_append, Array.size_append, e1]
       simp [nums, Lib.strCells_length]
       omega
     have e2 : (l ++ bytesL s).length = l.length + s.size := by rw [List.length_append, hbl]
     refine ⟨W.heap.size, grownCap W (l.length + s.size) cap e, by rw [e2], hB, by rw [e2]; exact hge, fun j hj => ⟨?_, blk_frozen hh j⟩, fun j hj => ?_⟩
     · have := blk_cell hh j
       rw [show W.drew.heap.size = W.heap.size from rfl] at this
       rw [this, Array.getElem?_eq_getElem (by rw [hsize]; exact hj)]; rfl
     · have := blk_cell hh j
       rw [show W.drew.heap.size = W.heap.size from rfl] at this
       rw [this, strCells_nums, Array.getElem?_append_left (by simp [nums, hbl]; rw [e2] at hj; omega)]
       rw [List.append_toArray]
       have e3 : nums IntKind.u8 l ++ nums IntKind.u8 (bytesL s) = nums .u8 (l ++ bytesL s) := by simp [nums]
       rw [e3]
       exact nums_at? _ _ _ _ (by rw [List.getD_eq_getElem?_getD, List.getElem?_eq_getElem hj]; rfl)
   · exact (hb.drew).alloc hB _
   · simp; omega
theorem wpList_append_rowB_string {P : Program} {W : World} {B : Nat} {w0 : World} {ops : Array Oper} {rest : List Oper} {o : Oper} {ac : Act} {Q : Exit → Act → World → Prop} (hgd : o.guard = none) (s x : Operand) (t u e : TypeId) (ho : o.op = .call { callee := .builtin .append, args := #[s, x], argTypes := #[t, u] })
   (h1 : P.underlying t = some (.slice e)) (hu : P.underlying u = some .string) (hi : (P.info? e).map (fun i => (i.zero, i.size, i.bytes)) = some (some (.int .u8 0), 1, 1))
   {v : Value} {l : List Int} (st : ByteArray) (hs : ac.eval s = v) (hv : rowB W B v l) (hb : Below B w0 W) (hB : B ≤ W.heap.size) (hx : ac.eval x = .string st) (hfit : l.length + st.size ≤ 140737488355328) (lr : List Int) (hlr : lr = l ++ bytesL st)
   (h : ∀ v' w', Aside0 (rowB w' B v' lr) → Aside0 (Below B w0 w') → Aside0 (B ≤ w'.heap.size) → wpList P ops Q rest (ac.put o.dst v') w') : wpList P ops Q (o :: rest) ac W := by
 subst hlr
 obtain ⟨i, h2, h3⟩ := Option.map_eq_some_iff.1 hi
 simp only [Prod.mk.injEq] at h3
 refine wpList_plain hgd fun K hK => ?_
 obtain ⟨v', w', hr, q1, q2, q3⟩ := run_append_rowB_string (P := P) t u o.type e i h1 hu h2 h3.1 h3.2.1 h3.2.2 st hv hb hB hfit
 unfold Oper.wp execOp
 simp only [ho, resolve, invoke, builtin, Sem.run_bind, Sem.run_pure, Result.andThen_ok, List.map_toArray, List.map_cons, List.map_nil, hs, hx, hr]
 exact hK _ _ (h v' w' ⟨q1⟩ ⟨q2⟩ ⟨q3⟩)
theorem C_cells {W : World} {ad : Addr} {b : List Int} (hm : b.length ≤ 140737488355328) (h : ∀ j, j < b.length → W.cell? (ad.add j) = some (.int .u8 (b.getD j 0))) : Kd.C (Kd.int .u8) W (some ad) b.length b := by
 refine ⟨rfl, by show b.length ≤ 9223372036854775807; omega, fun _ => ⟨ad, rfl, fun j p hj => ?_⟩⟩
 obtain ⟨hj2, e4⟩ := List.getElem?_eq_some_iff.1 hj
 have hd : b.getD j 0 = p := by rw [List.getD_eq_getElem?_getD, hj]; rfl
 refine ⟨[.int .u8 p], rfl, rfl, fun i u hu => ?_⟩
 match i, hu with
 | 0, hu =>
   obtain rfl : Value.int .u8 p = u := by simpa using hu
   have h1 := h j hj2
   rw [hd] at h1
   have h2 : j * (Kd.int IntKind.u8).sz + 0 = j := by show j * 1 + 0 = _; omega
   rw [h2]
   exact h1
theorem C_cut {W : World} {ad : Addr} {n : Nat} {l b : List Int} (h : Kd.C (Kd.int .u8) W (some ad) n l) (hn : n = l.length) (hm : b.length ≤ 140737488355328) (o : Nat) (hb : o + b.length ≤ l.length) (he : ∀ j, j < b.length → b.getD j 0 = l.getD (o + j) 0) : Kd.C (Kd.int .u8) W (some (ad.add o)) b.length b :=
 C_cells hm fun j hj => by
   rw [add_add, he j hj]
   exact C_u8_cell h hn (o + j) (by omega)
theorem run_index_aggK {P : Program} {k : IntKind} {T E : TypeId} {xs : List Int} {n : Nat} (hT : P.underlying T = some (.array n E)) (hu : P.underlying E = some (.int k)) (hE : (P.info? E).map (·.size) = some 1) (i : Nat) (hk : i < n) (hl : xs.length = n) (w : World) :
   (Instr.index T (.agg (nums k xs).toArray) (.int .i64 (i : Int))).run P w = .ok (.int k (xs.getD i 0)) w := by
 cases hq : P.info? E with
 | none => simp [hq] at hE
 | some inf =>
   have hs : inf.size = 1 := by simpa [hq] using hE
   have hk2 : i < xs.length := by omega
   simp [Instr.index, asIntOf, Sem.run_bind, run_underlying hT, run_underlying hu, sizeOf, typeInfo, hq, hs, part, isAgg, hk, nums, hk2, List.getD_eq_getElem?_getD]
theorem blk_newB (w : World) (o1 o2 : Obj) : ((w.alloc o1).alloc o2).heap[w.heap.size + 1]? = some o2 := by simpa using blk_new (w.alloc o1) o2
theorem box_one (V : World) (v : Value) (T : TypeId) (o : Obj) (n : Nat) (hn : n = V.heap.size) : ((V.alloc (.cells #[v] T)).alloc o).cell? ⟨n, 0, none⟩ = some v := by
 subst hn
 exact (blk_cell (cs := #[v]) (t := T) (blk_alloc (blk_new V (.cells #[v] T)) o) 0)
theorem box_two (V : World) (v : Value) (T : TypeId) (o : Obj) (n : Nat) (hn : n = V.heap.size + 1) : ((V.alloc o).alloc (.cells #[v] T)).cell? ⟨n, 0, none⟩ = some v := by
 subst hn
 exact (blk_cell (cs := #[v]) (t := T) (blk_newB V o (.cells #[v] T)) 0)
theorem cell_alloc_keep {W : World} {a : Addr} {v : Value} (h : W.cell? a = some v) (o : Obj) : (W.alloc o).cell? a = some v := by
 rw [World.cell?_of_block (Below.heap_alloc W o a.block (cell_lt (by rw [h]; rfl)))]; exact h
theorem cell_lit1 (w : World) (v : Int) (T : TypeId) (k : IntKind) : ∀ j, j < [v].length → (w.alloc (.cells #[.int k v] T)).cell? ((⟨w.heap.size, 0, none⟩ : Addr).add j) = some (.int k ([v].getD j 0)) := fun j hj => by
 obtain rfl : j = 0 := by simpa using hj
 rw [add_plain]
 exact blk_cell (blk_new w (.cells #[.int k v] T)) 0
theorem K_length : Sha.K.length = 64 := rfl
theorem cell_lit4 (w : World) (a b c d : Int) (T : TypeId) (k : IntKind) : ∀ j, j < [a, b, c, d].length → (w.alloc (.cells #[.int k a, .int k b, .int k c, .int k d] T)).cell? ((⟨w.heap.size, 0, none⟩ : Addr).add j) = some (.int k ([a, b, c, d].getD j 0)) := fun j hj => by
 rw [add_plain]
 match j, hj with
 | 0, _ => exact blk_cell (blk_new w (.cells #[.int k a, .int k b, .int k c, .int k d] T)) 0
 | 1, _ => exact blk_cell (blk_new w (.cells #[.int k a, .int k b, .int k c, .int k d] T)) 1
 | 2, _ => exact blk_cell (blk_new w (.cells #[.int k a, .int k b, .int k c, .int k d] T)) 2
 | 3, _ => exact blk_cell (blk_new w (.cells #[.int k a, .int k b, .int k c, .int k d] T)) 3
def u8ok (l : List Int) : Prop := ∀ x ∈ l, 0 ≤ x ∧ x ≤ 255
def u8b (l : List Int) : Bool := l.all fun x => decide (0 ≤ x ∧ x ≤ 255)
theorem u8b_ok {l : List Int} (h : u8b l = true) : u8ok l := fun x hx => of_decide_eq_true (List.all_eq_true.1 h x hx)
theorem u8b_of {l : List Int} (h : u8ok l) : u8b l = true := List.all_eq_true.2 fun x hx => decide_eq_true (h x hx)
theorem u8ok_bytesL (s : ByteArray) : u8ok (bytesL s) := fun x hx => by
 obtain ⟨b, _, rfl⟩ := List.mem_map.1 hx
 have := b.toNat_lt
 omega
theorem u8ok_append {a b : List Int} (ha : u8ok a) (hb : u8ok b) : u8ok (a ++ b) := fun x hx => by
 rcases List.mem_append.1 hx with h | h
 · exact ha x h
 · exact hb x h
theorem rowB_empty (W : World) (B g c : Nat) (hB : B ≤ g) (hc : c = 0) : rowB W B (.slice (some ⟨g, 0, none⟩) 0 c) [] := by
 subst hc
 exact ⟨g, 0, rfl, hB, Nat.le_refl _, fun j hj => absurd hj (by omega), fun j hj => absurd hj (by simp)⟩
theorem run_append_rowB_none {P : Program} {W : World} {B : Nat} (t ty e : TypeId) (i : TypeInfo) (h1 : P.underlying t = some (.slice e)) (h2 : P.info? e = some i) {v : Value} {l : List Int} (hv : rowB W B v l) (c : Nat) :
   (Builtin.append_ #[t, t] ty #[v, .slice none 0 c]).run P W = .ok v W := by
 obtain ⟨g, cap, rfl, hg, hl, _⟩ := hv
 simp [Builtin.append_, run_underlying h1, sizeOf, typeInfo, h2, Builtin.lenOf, hl, Builtin.firstCells, storeCells]
theorem wpList_append_rowB_C {P : Program} {W : World} {B : Nat} {w0 : World} {ops : Array Oper} {rest : List Oper} {o : Oper} {ac : Act} {Q : Exit → Act → World → Prop} (hgd : o.guard = none) (s x : Operand) (t e : TypeId) (ho : o.op = .call { callee := .builtin .append, args := #[s, x], argTypes := #[t, t] })
   (h1 : P.underlying t = some (.slice e)) (hi : (P.info? e).map (fun i => (i.zero, i.size, i.bytes)) = some (some (.int .u8 0), 1, 1))
   {v : Value} {l : List Int} (r : List Int) (hs : ac.eval s = v) (hv : rowB W B v l) (hb : Below B w0 W) (hB : B ≤ W.heap.size) (A : Option Addr) (m c : Nat) (hx : ac.eval x = .slice A m c) (hC : Kd.C (Kd.int .u8) W A m r) (hfit : l.length + r.length ≤ 140737488355328) (lr : List Int) (hlr : lr = l ++ r)
   (h : ∀ v' w', Aside0 (rowB w' B v' lr) → Aside0 (Below B w0 w') → Aside0 (B ≤ w'.heap.size) → wpList P ops Q rest (ac.put o.dst v') w') : wpList P ops Q (o :: rest) ac W := by
 have hm : m = r.length := hC.1.symm
 cases A with
 | some ad => exact wpList_append_rowB hgd s x t e ho h1 hi r hs hv hb hB ad m c hx hm (fun j hj => C_u8_cell hC hm j hj) hfit lr hlr h
 | none =>
   have h0 : r = [] := by
     rcases Nat.eq_zero_or_pos m with h | h
     · exact List.eq_nil_of_length_eq_zero (by omega)
     · obtain ⟨ad, e, _⟩ := hC.2.2 h
       cases e
   subst h0
   obtain rfl : m = 0 := by simpa using hm
   subst hlr
   obtain ⟨i, h2, h3⟩ := Option.map_eq_some_iff.1 hi
   refine wpList_plain hgd fun K hK => ?_
   have hr := run_append_rowB_none (P := P) t o.type e i h1 h2 hv c
   unfold Oper.wp execOp
   simp only [ho, resolve, invoke, builtin, Sem.run_bind, Sem.run_pure, Result.andThen_ok, List.map_toArray, List.map_cons, List.map_nil, hs, hx, hr]
   exact hK _ _ (h v W ⟨by rw [List.append_nil]; exact hv⟩ ⟨hb⟩ ⟨hB⟩)
theorem wpList_append_fresh {P : Program} {k : IntKind} {W : World} {ops : Array Oper} {rest : List Oper} {o : Oper} {ac : Act} {Q : Exit → Act → World → Prop} (hgd : o.guard = none) (s x : Operand) (t e : TypeId) (ho : o.op = .call { callee := .builtin .append, args := #[s, x], argTypes := #[t, t] })
   (h1 : P.underlying t = some (.slice e)) (by_ : Nat) (hi : (P.info? e).map (fun i => (i.zero, i.size, i.bytes)) = some (some (.int k 0), 1, by_)) (hby : by_ ≤ 8)
   (r : List Int) (g : Nat) (hs : ac.eval s = .slice (some ⟨g, 0, none⟩) 0 0) (ad : Addr) (m c : Nat) (hx : ac.eval x = .slice (some ad) m c) (hm : m = r.length) (hc : ∀ j, j < r.length → W.cell? (ad.add j) = some (.int k (r.getD j 0))) (h0 : 0 < r.length) (hl : r.length ≤ 4096)
   (h : ∀ g' c' w', Aside0 (W.heap.size ≤ g') → m ≤ c' → Aside0 (∀ j, j < r.length → w'.cell? ⟨g', j, none⟩ = some (.int k (r.getD j 0))) → Aside0 (Below W.heap.size W w') → wpList P ops Q rest (ac.put o.dst (.slice (some ⟨g', 0, none⟩) m c')) w') : wpList P ops Q (o :: rest) ac W := by
 subst hm
 obtain ⟨i, h2, h3⟩ := Option.map_eq_some_iff.1 hi
 simp only [Prod.mk.injEq] at h3
 have hn : ∀ j u, (nums k r)[j]? = some u → W.cell? (ad.add j) = some u := fun j u hj => by
   obtain ⟨hj2, rfl⟩ := nums_getD r j u hj
   exact hc j hj2
 refine wpList_plain hgd fun K hK => ?_
 have hmb : r.length * by_ ≤ 4096 * 8 := Nat.mul_le_mul hl hby
 obtain ⟨v', w', hr, ho2, hg⟩ := run_append_arg_grows (P := P) W t o.type e i (.int k 0) 1 by_ h1 h2 h3.1 h3.2.1 h3.2.2 rfl (by decide) ⟨g, 0, none⟩ 0 0 [] rfl (fun j u hj => by simp at hj) ad r.length c (nums k r) (by simp [nums]) hn (by omega) (by unfold maxLen; omega) (by simp only [Nat.zero_add]; omega)
 simp only [Nat.zero_add, List.nil_append] at ho2
 obtain ⟨hl2, ⟨_, e0⟩ | ⟨g', cap, cur, rfl, hB, hh, hc2, hm2, hs2, ht⟩⟩ := ho2
 · omega
 · unfold Oper.wp execOp
   simp only [ho, resolve, invoke, builtin, Sem.run_bind, Sem.run_pure, Result.andThen_ok, List.map_toArray, List.map_cons, List.map_nil, hs, hx, hr]
   refine hK _ _ (h g' cap w' ⟨hB⟩ hc2 ⟨fun j hj => ?_⟩ ⟨⟨hg.os, hg.tape, hg.output, hg.size, fun q hq => hg.block q hq (by simp)⟩⟩)
   rw [blk_cell hh j]
   have q1 : (cur.toList.take (r.length * 1))[j]? = (nums k r)[j]? := by rw [ht]
   rw [List.getElem?_take_of_lt (by omega)] at q1
   rw [← Array.getElem?_toList, q1]
   simp [nums, hj]
end Go.Proofs.Ytlfpogbonmddmaa.P
namespace Go.Proofs.Ytlfpogbonmddmaa.P
open Go.RowKit Go.Shelf Go.Proofs.YtlfpogbonmddmaaW.PrintWords Go.Proofs.YtlfpogbonmddmaaW.PrintLast Go.Proofs.YtlfpogbonmddmaaW.PrintMore
set_option linter.unusedVariables false
set_option linter.unusedSimpArgs false
section
variable {P : Program} {ops : Array Oper} {Q : Exit → Act → World → Prop} {a : Act} {w : World} {o : Oper} {l n : Nat}
theorem rowsIn_round {row : String} {args : Array Value} {R : Value → World → Prop} (h : Rows P row args w R) : RowsIn (Fence.wide.inRound l) n P row args w R :=
 fun c cs _ => let ⟨v, w', r, s⟩ := h c cs; ⟨v, w', r, stepsIn_wide.2 s⟩
theorem opIn_round {K : Act → World → Prop} (hd : ∀ c, o.op ≠ .defer c) (h : o.wp P a w K Q) : o.wpIn (Fence.wide.inRound l) n P a w K Q := by
 refine ⟨fun _ _ => trivial, ?_⟩
 rw [Oper.semAt_eq _ _ _ hd]
 unfold Oper.wp at h
 generalize (execOp a.eval o).run P w = r at *
 cases r with
 | ok x w' =>
   cases x <;> simp only [Oper.upon] at h <;> simp only [Oper.uponIn] <;>
     first
       | exact h
       | exact ⟨fun e => (by cases e), CallsIn.inRound l (callsIn_wide.2 h)⟩
       | exact ⟨fun e => (by cases e), rowsIn_round h⟩
       | exact h.elim
 | halt x w' => cases x <;> simp only [Oper.upon] at h <;> simp only [Oper.uponIn] <;> first | exact h | exact h.elim
theorem opsIn_round (hd : ∀ o ∈ ops, ∀ c, o.op ≠ .defer c) (hl : ¬ LetsOut Q) : ∀ (is : List Nat) (a : Act) (w : World), wpOps P ops Q is a w → wpOpsIn (Fence.wide.inRound l) n P ops Q is a w
 | [], _, _, h => h
 | i :: is, a, w, h => by
   rw [wpOps_cons] at h
   rw [wpOpsIn_cons]
   unfold wpOp at h
   unfold wpOpIn
   cases ho : ops[i]? with
   | none =>
     simp only [ho] at h ⊢
     exact opsIn_round hd hl is _ _ h
   | some o =>
     simp only [ho] at h ⊢
     split at h
     · rename_i hw
       rw [if_pos hw]
       refine opIn_round (hd o (Array.mem_of_getElem? ho)) ?_
       exact Oper.wp_mono (fun a w => opsIn_round hd hl is a w) (h.resolve_right fun x => hl x.2)
     · rename_i hw
       rw [if_neg hw]
       exact ⟨fun _ _ => trivial, opsIn_round hd hl is _ _ h⟩
theorem noDefer_of {l : List Oper} (h : (l.all fun o => match o.op with | .defer _ => false | _ => true) = true) : ∀ o ∈ l.toArray, ∀ c, o.op ≠ .defer c := fun o ho c e => by
 have := List.all_eq_true.1 h o (by simpa using ho)
 rw [e] at this
 cases this
theorem region_round {id : Nat} {l : List Oper} {lp : Nat} (hd : (l.all fun o => match o.op with | .defer _ => false | _ => true) = true) (hl : ¬ LetsOut Q) (h : wpList P l.toArray Q l a w) : (Code.region id l.toArray false).wpIn (Fence.wide.inRound lp) n P Q a w := by
 refine wpIn_region (opsIn_round (noDefer_of hd) hl _ _ _ ?_)
 rw [List.range_eq_range', show l.toArray.size = l.length by simp, wpOps_eq_wpList l 0 (by simp)]
 exact h
theorem region_round_any {id : Nat} {l : List Oper} {lp : Nat} (hd : (l.all fun o => match o.op with | .defer _ => false | _ => true) = true) (hl : ¬ LetsOut Q) (hm : P.follows .mixedOrders = true)
   (h : wpAny P .any l.toArray Q l.toArray.size (Array.replicate l.toArray.size false) a { w with drawn := w.drawn + 1 }) : (Code.region id l.toArray true).wpIn (Fence.wide.inRound lp) n P Q a w :=
 wpIn_region_draw fun t => by
   simp only [Region.schedule, hm, Bool.true_or, if_true]
   exact opsIn_round (noDefer_of hd) hl _ _ _ (wpAny_sound l.toArray.size t _ a _ h)
theorem still_load_row {Qs : Act → Prop} {rest : List Oper} (hgd : o.guard = none) (ty : TypeId) (x : Operand) (ho : o.op = .load ty x)
   (g : Nat) (hx : a.eval x = .pointer (some ⟨g, 0, none⟩)) (t : TypeId) (cs : Array Value) (fr : Nat × Nat) (d : TypeDesc) (hg : w.heap[g]? = some (.cells cs t fr))
   (hu : P.underlying ty = some d) (hd : (match d with | .struct _ | .array _ _ => true | _ => false) = true) (hi : (P.info? ty).map (·.size) = some cs.size)
   (h : wpStill P ops w Qs rest (a.put o.dst (.agg cs))) : wpStill P ops w Qs (o :: rest) a :=
 wpStill_step fun K hK => by
   simp only [Region.wanted, hgd, if_true]
   unfold Oper.still execOp
   simp only [ho, hx, Instr.loadAt, Instr.sureAddr, Sem.run_bind, Sem.run_pure, Result.andThen_ok, run_loadVar_row w g t ty cs fr d hg hu hd hi]
   exact ⟨rfl, hK _ h⟩
end
section
variable {P : Program} {ops : Array Oper} {Q : Exit → Act → World → Prop} {md : Region.Mode} {S : World → Prop} {N : Nat}
def wpAnyN (P : Program) (md : Region.Mode) (ops : Array Oper) (Q : Exit → Act → World → Prop) (S : World → Prop) (N : Nat) : Nat → Array Bool → Act → World → Prop
 | 0, listed, a, w => Region.ready md ops listed = [] ∧ Q .normal a w
 | fuel + 1, listed, a, w =>
   (Region.ready md ops listed = [] → Q .normal a w) ∧
   ∀ i ∈ Region.ready md ops listed, wpOp P ops Q i (fun a' w' => (i ≠ N → S w') ∧ wpAnyN P md ops Q S N fuel (listed.setIfInBounds i true) a' w') a w
theorem wpAny_of_N : ∀ (fuel : Nat) (listed : Array Bool) (a : Act) (w : World), wpAnyN P md ops Q S N fuel listed a w → wpAny P md ops Q fuel listed a w
 | 0, _, _, _, h => h
 | fuel + 1, _, _, _, h => ⟨h.1, fun i hi => wpOp_mono (fun a' w' h' => wpAny_of_N fuel _ a' w' h'.2) (h.2 i hi)⟩
def lastWaits (md : Region.Mode) (ops : Array Oper) (N i : Nat) : Bool := (ops[N]?).any fun o => o.after.any fun e => Region.binds md e && e.on == i
theorem listed_false {listed : Array Bool} {i : Nat} (h0 : listed.getD i true = false) (h1 : listed.getD i false = true) : False := by
 rcases Nat.lt_or_ge i listed.size with h' | h'
 · simp [h'] at h0 h1; rw [h0] at h1; cases h1
 · simp [Array.getElem?_eq_none h'] at h1
theorem ready_ne_last {listed : Array Bool} {i j : Nat} (hN : lastWaits md ops N i = true) (hi : i ∈ Region.ready md ops listed) (hj : j ∈ Region.ready md ops listed) : j ≠ N := by
 rintro rfl
 obtain ⟨_, oj, hoj, hall⟩ := mem_ready.1 hj
 unfold lastWaits at hN
 rw [hoj] at hN
 simp only [Option.any_some, Array.any_eq_true, Bool.and_eq_true, beq_iff_eq] at hN
 obtain ⟨k, hk, hb, he⟩ := hN
 have h1 := hall _ (Array.getElem_mem hk) hb
 rw [he] at h1
 exact listed_false (mem_ready.1 hi).1 h1
theorem wpAnyN_first {i : Nat} {oi : Oper} {v : Value} (hi : ops[i]? = some oi) (hsel : ∀ (j : Nat) (o : Oper) cs b, ops[j]? = some o → o.op ≠ .select cs b)
   (hN : lastWaits md ops N i = true) (hQ : ∀ c a w, Q (.panic c) (a.put oi.dst v) w → Q (.panic c) a w) :
   ∀ (fuel : Nat) (listed : Array Bool) (a : Act) (w : World),
     (∀ j oj, ops[j]? = some oj → j ≠ i → listed.getD j true = false → (∀ e ∈ oj.after, Region.binds md e = true → e.on ≠ i) → oi.apart ops oj = true) →
     i ∈ Region.ready md ops listed → YieldsIf P ops S oi v a → S w →
     wpAnyN P md ops Q S N fuel (listed.setIfInBounds i true) (a.put oi.dst v) w → wpAnyN P md ops Q S N (fuel + 1) listed a w := by
 intro fuel
 induction fuel with
 | zero =>
   intro listed a w _ hr hy hS H
   refine ⟨fun h => (by rw [h] at hr; cases hr), fun j hj => ?_⟩
   by_cases hji : j = i
   · subst hji; exact hy.wpOp hi hS ⟨fun _ => hS, H⟩
   · have := ready_mono hj hji
     rw [H.1] at this
     cases this
 | succ fuel ih =>
   intro listed a w hfree hr hy hS H
   refine ⟨fun h => (by rw [h] at hr; cases hr), fun j hj => ?_⟩
   by_cases hji : j = i
   · subst hji; exact hy.wpOp hi hS ⟨fun _ => hS, H⟩
   · have hjN := ready_ne_last hN hr hj
     obtain ⟨hjun, oj, hoj, hall⟩ := mem_ready.1 hj
     have hnot : ∀ e ∈ oj.after, Region.binds md e = true → e.on ≠ i := fun e he hb heq => by
       have h1 := hall e he hb
       rw [heq] at h1
       exact listed_false (mem_ready.1 hr).1 h1
     have h2 := wpOp_putIf hoj (hfree j oj hoj hji hjun hnot) (fun cs b => hsel i oi cs b hi) (fun cs b => hsel j oj cs b hoj) hQ hy (H.2 j (ready_mono hj hji))
     refine wpOp_mono (fun a' w' h3 => ⟨h3.2.1, ih (listed.setIfInBounds j true) a' w' (fun k ok hk hki hun hno => ?_) (ready_mono hr (Ne.symm hji)) h3.1 (h3.2.1 hjN) ?_⟩) h2
     · refine hfree k ok hk hki ?_ hno
       by_cases hjk : j = k
       · subst hjk; exact hjun
       · rw [getD_set_ne true hjk] at hun; exact hun
     · rw [Array.setIfInBounds_comm _ _ hji]
       exact h3.2.2
theorem wpAnyN_take {i : Nat} {oi : Oper} {v : Value} {fuel : Nat} {listed : Array Bool} {a : Act} {w : World} (hi : ops[i]? = some oi)
   (hs : Region.noSelect ops = true) (hf : Region.free md ops listed i = true) (hr : (Region.ready md ops listed).contains i = true) (hN : lastWaits md ops N i = true)
   (hQ : ∀ c a w, Q (.panic c) (a.put oi.dst v) w → Q (.panic c) a w) (hy : YieldsIf P ops S oi v a) (hS : S w)
   (h : wpAnyN P md ops Q S N fuel (listed.setIfInBounds i true) (a.put oi.dst v) w) : wpAnyN P md ops Q S N (fuel + 1) listed a w :=
 wpAnyN_first hi (Region.noSelect_spec hs) hN hQ fuel listed a w (Region.free_spec hi hf) (by simpa using hr) hy hS h
theorem wpAnyN_one {i : Nat} {o : Oper} {fuel : Nat} {listed : Array Bool} {a : Act} {w : World} (hr : Region.ready md ops listed = [i]) (ho : ops[i]? = some o) (hg : o.guard = none)
   (h : ∀ K : Act → World → Prop, (∀ a' w', (i ≠ N → S w') → wpAnyN P md ops Q S N fuel (listed.setIfInBounds i true) a' w' → K a' w') → o.wp P a w K Q) : wpAnyN P md ops Q S N (fuel + 1) listed a w := by
 refine ⟨fun h0 => (by rw [hr] at h0; cases h0), fun j hj => ?_⟩
 rw [hr] at hj
 obtain rfl : j = i := by simpa using hj
 unfold wpOp
 simp only [ho, Region.wanted, hg, if_true]
 exact .inl (h _ fun a' w' h1 h2 => ⟨h1, h2⟩)
theorem wpAnyN_done {listed : Array Bool} {a : Act} {w : World} (hr : Region.ready md ops listed = []) (h : Q .normal a w) : ∀ fuel, wpAnyN P md ops Q S N fuel listed a w
 | 0 => ⟨hr, h⟩
 | _ + 1 => ⟨fun _ => h, by rw [hr]; simp⟩
theorem yields_load_row {o : Oper} {a : Act} (hgd : o.guard = none) (ty : TypeId) (x : Operand) (ho : o.op = .load ty x)
   (g : Nat) (hx : a.eval x = .pointer (some ⟨g, 0, none⟩)) (t : TypeId) (cs : Array Value) (fr : Nat × Nat) (d : TypeDesc) (hg : ∀ w, S w → w.heap[g]? = some (.cells cs t fr))
   (hu : P.underlying ty = some d) (hd : (match d with | .struct _ | .array _ _ => true | _ => false) = true) (hi : (P.info? ty).map (·.size) = some cs.size) : YieldsIf P ops S o (.agg cs) a :=
 .inl ⟨by simp [Region.wanted, hgd], fun w hS => by
   unfold execOp
   simp only [ho, hx, Instr.loadAt, Instr.sureAddr, Sem.run_bind, Sem.run_pure, Result.andThen_ok, run_loadVar_row w g t ty cs fr d (hg w hS) hu hd hi]⟩
theorem yields_move {o : Oper} {a : Act} (hgd : o.guard = none) (x : Operand) (ho : o.op = .move x) : YieldsIf P ops S o (a.eval x) a :=
 .inl ⟨by simp [Region.wanted, hgd], fun w _ => by
   unfold execOp
   simp only [ho, Sem.run_pure]⟩
end
theorem ownFrom_blk {β : Type} (B g : Nat) (T : TypeId) (cs : β → Array Value) : OwnFrom B (fun s W => Aside0 (W.heap[g]? = some (.cells (cs s) T (0, 0)))) := fun s _ _ _ hs hg hr =>
 ⟨(grownBy_keeps_cells hg (fun r e => (hr r e).2) hs.out rfl).trans hs.out⟩
theorem ownFrom_belowA {β : Type} {n₀ B : Nat} {w₀ : World} (hn : n₀ ≤ w₀.heap.size) (hB : n₀ ≤ B) : OwnFrom B (fun (_ : β) W => Aside0 (Below n₀ w₀ W)) :=
 fun s W W' row hs hg hr => ⟨ownFrom_below (β := β) hn hB s W W' row hs.out hg hr⟩
theorem keepsFrom_below {B : Nat} {W W' : World} (h : Below W.heap.size W W') : KeepsFrom B W W' :=
 ⟨h.size, fun k o _ hk _ => (h.block k (Array.getElem?_eq_some_iff.1 hk).1).trans hk⟩
theorem keepsFrom_row {B g : Nat} {W : World} {old cs : Array Value} {T : TypeId} {fr : Nat × Nat} (h : W.heap[g]? = some (.cells old T fr)) : KeepsFrom B W (W.setRow g cs) :=
 ⟨by rw [setRow_size]; exact Nat.le_refl _, fun k o _ hk ho => by
   have hne : k ≠ g := by
     rintro rfl
     rw [h] at hk
     cases hk
     cases ho
   rw [setRow_other _ _ _ _ hne]; exact hk⟩
theorem keepsFrom_drew (B : Nat) (W : World) : KeepsFrom B W W.drew := ⟨Nat.le_refl _, fun _ _ _ h _ => h⟩
theorem ownFrom_size {β : Type} (B k : Nat) : OwnFrom B (fun (_ : β) W => Aside0 (k < W.heap.size)) := fun _ _ _ _ hs hg _ => ⟨Nat.lt_of_lt_of_le hs.out hg.size⟩
theorem wp_cuts {P : Program} {α : Type} {g : Operand} {id : Nat} {p d : Tmp} {o : Oper} {body : Code} {Q : Exit → Act → World → Prop} {a : Act} {w : World}
   (ho : o.op = .assign (.tmp p)) (hgd : o.guard = none) (hdst : o.dst = some d) (hp : p < a.tmps.size)
   {gf : Nat} {lb : Array Value} (hg : a.eval g = .func (.func gf) #[] lb) (eg : ∀ args w, (callFunc gf args).run P w = .ok (.enter gf args) w)
   {enc : α → Value} {Kp : World → World → Prop} {S Sp : List α → Prop} {N : Nat} (hseq : SeqStopsK Fence.wide 2 P gf lb (fun x => #[enc x]) Kp S Sp N w)
   (hKt : ∀ {A B C : World}, Kp A B → Kp B C → Kp A C) (hKb : ∀ (W : World) (l : Nat) (o o' : Obj), w.heap.size ≤ l → W.heap[l]? = some o → o.isCells = false → o.isWalk = false → Kp W (W.putObj l o'))
   (I : List α → World → Prop) (hI : OwnFrom w.heap.size I) (h0 : I [] w)
   (hbody : ∀ (l : Nat) (pre : List α) (x : α) (W : World), I pre W → pre.length < N → body.wpIn (Fence.wide.inRound l) 1 P (ownPostG w.heap.size Kp I (fun _ _ _ => False) (pre ++ [x]) W) { tmps := (a.tmps.setIfInBounds p (enc x)).setIfInBounds d (enc x), defers := [] } W)
   (hdone : ∀ (D : Nat) (xs : List α) (W : World), w.heap.size ≤ D → S xs → I xs W → W.heap[D]? = some (.deferred (some [])) → Q .normal { a with defers := { target := .collected D, args := #[] } :: a.defers } W) :
   (Code.rangeFunc g #[p] (Code.region id #[o] false) body).wp P Q a w := by
 refine (wpIn_wide (n := 3)).1 ?_
 refine wpIn_rangeFunc_ownG (F := Fence.wide) (n := 3) rfl (by decide) hg trivial eg hseq (fun h k => hKt h k) hKb (Below.refl _ _) (fun _ => rfl) I (fun _ _ _ => False) hI (fun _ _ _ _ _ hs _ _ => hs) h0
   (fun x => { tmps := (a.tmps.setIfInBounds p (enc x)).setIfInBounds d (enc x), defers := [] }) ?_ hbody hdone (fun _ _ _ _ _ _ h _ => h.elim)
 intro l x W K hK
 refine region_round (l := [o]) ?_ ?_ ?_
 · simp [ho]
 · rintro ⟨_, _, h⟩
   exact h
 · refine wpList_plain hgd fun K' hK' => ?_
   unfold Oper.wp execOp
   simp only [ho, Sem.run_pure, Oper.upon]
   refine hK' _ _ (wpList_nil ?_)
   have e : ∀ (t : Array Value) (v : Value), (#[p].zip #[v]).foldl (fun t (x : Tmp × Value) => t.setIfInBounds x.1 x.2) t = t.setIfInBounds p v := fun t v => by simp
   have e2 : (({ tmps := a.tmps.setIfInBounds p (enc x), defers := [] } : Act).put o.dst (({ tmps := a.tmps.setIfInBounds p (enc x), defers := [] } : Act).eval (.tmp p))) = { tmps := (a.tmps.setIfInBounds p (enc x)).setIfInBounds d (enc x), defers := [] } := by
     simp [Act.put, Act.eval, hdst, hp]
   have e3 := e a.tmps (enc x)
   simp only [e3, e2]
   exact hK
end Go.Proofs.Ytlfpogbonmddmaa.P
namespace Go.Proofs.Ytlfpogbonmddmaa.Gf
structure V4 where
 a : Nat
 b : Nat
 c : Nat
 d : Nat
deriving DecidableEq
def V4.ok (u : V4) : Prop := u.a < 256 ∧ u.b < 256 ∧ u.c < 256 ∧ u.d < 256
def V4.x (u v : V4) : V4 := ⟨u.a ^^^ v.a, u.b ^^^ v.b, u.c ^^^ v.c, u.d ^^^ v.d⟩
def V4.mx (f : V4) (u : V4) : V4 :=
 ⟨((gm u.a f.a ^^^ gm u.b f.b) ^^^ gm u.c f.c) ^^^ gm u.d f.d, ((gm u.b f.a ^^^ gm u.c f.b) ^^^ gm u.d f.c) ^^^ gm u.a f.d,
  ((gm u.c f.a ^^^ gm u.d f.b) ^^^ gm u.a f.c) ^^^ gm u.b f.d, ((gm u.d f.a ^^^ gm u.a f.b) ^^^ gm u.b f.c) ^^^ gm u.c f.d⟩
theorem V4.mx_ok (f u : V4) (hu : u.ok) : (V4.mx f u).ok :=
 ⟨xor_lt (xor_lt (xor_lt (gm_lt hu.1) (gm_lt hu.2.1)) (gm_lt hu.2.2.1)) (gm_lt hu.2.2.2), xor_lt (xor_lt (xor_lt (gm_lt hu.2.1) (gm_lt hu.2.2.1)) (gm_lt hu.2.2.2)) (gm_lt hu.1),
  xor_lt (xor_lt (xor_lt (gm_lt hu.2.2.1) (gm_lt hu.2.2.2)) (gm_lt hu.1)) (gm_lt hu.2.1), xor_lt (xor_lt (xor_lt (gm_lt hu.2.2.2) (gm_lt hu.1)) (gm_lt hu.2.1)) (gm_lt hu.2.2.1)⟩
def mixF : V4 := ⟨2, 3, 1, 1⟩
end Go.Proofs.Ytlfpogbonmddmaa.Gf

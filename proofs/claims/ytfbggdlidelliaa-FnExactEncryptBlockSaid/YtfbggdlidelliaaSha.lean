/- Plain words on the hash over lists of numbers: the words of a block, a round, the blocks of a text (no program in sight). -/
import Derived.Laws.BitsLemmas
import Derived.IntWalk
import Derived.RowKit
import Derived.Test.YtfbggdlidelliaaGf
set_option linter.unusedVariables false
namespace Go.Proofs.Ytfbggdlidelliaa.Sha
/-- a word turned right by n bits -/
def rr (x : Int) (n : Nat) : Int := Go.bits .or .u32 (x / 2 ^ n) (IntKind.u32.wrap (x * 2 ^ (32 - n)))
theorem rr_mod (x : Int) (n : Nat) : rr x n = Go.bits .or .u32 (x / 2 ^ n) ((x * 2 ^ (32 - n)) % 4294967296) := by
  unfold rr
  congr 1
def w32 (x : Int) : Int := x % 4294967296
def sg0 (x : Int) : Int := Go.bits .xor .u32 (Go.bits .xor .u32 (rr x 7) (rr x 18)) (x / 8)
def sg1 (x : Int) : Int := Go.bits .xor .u32 (Go.bits .xor .u32 (rr x 17) (rr x 19)) (x / 1024)
def ep1 (x : Int) : Int := Go.bits .xor .u32 (Go.bits .xor .u32 (rr x 6) (rr x 11)) (rr x 25)
def ep0 (x : Int) : Int := Go.bits .xor .u32 (Go.bits .xor .u32 (rr x 2) (rr x 13)) (rr x 22)
def cho (e f g : Int) : Int := Go.bits .xor .u32 (Go.bits .and .u32 e f) (Go.bits .and .u32 (Go.bits .xor .u32 IntKind.u32.max e) g)
def maj (a b c : Int) : Int := Go.bits .xor .u32 (Go.bits .xor .u32 (Go.bits .and .u32 a b) (Go.bits .and .u32 a c)) (Go.bits .and .u32 b c)
/-- eight words behind a round -/
structure V8 where
  (a b c d e f g h : Int)
def V8.l (v : V8) : List Int := [v.a, v.b, v.c, v.d, v.e, v.f, v.g, v.h]
def pOf (v : V8) (k w : Int) : Int := w32 (v.h + ep1 v.e + cho v.e v.f v.g + k + w)
def qOf (v : V8) : Int := w32 (ep0 v.a + maj v.a v.b v.c)
def step (v : V8) (k w : Int) : V8 := ⟨w32 (pOf v k w + qOf v), v.a, v.b, v.c, w32 (v.d + pOf v k w), v.e, v.f, v.g⟩
theorem step_l (xa xb xc xd xe xf xg xh k w : Int) : (step ⟨xa, xb, xc, xd, xe, xf, xg, xh⟩ k w).l = [(xh + ep1 xe + cho xe xf xg + k + w + (ep0 xa + maj xa xb xc)) % 4294967296, xa, xb, xc, (xd + (xh + ep1 xe + cho xe xf xg + k + w)) % 4294967296, xe, xf, xg] := by
  simp only [step, V8.l, pOf, qOf, w32, List.cons.injEq, and_true, true_and]
  omega
def rnd (k w : List Int) (v : V8) : Nat → V8
  | 0 => v
  | i + 1 => step (rnd k w v i) (k.getD i 0) (w.getD i 0)
def V8.add (u v : V8) : V8 := ⟨w32 (u.a + v.a), w32 (u.b + v.b), w32 (u.c + v.c), w32 (u.d + v.d), w32 (u.e + v.e), w32 (u.f + v.f), w32 (u.g + v.g), w32 (u.h + v.h)⟩
def turn (k w : List Int) (v : V8) : V8 := v.add (rnd k w v 64)
/-- the i-th word of a block, the words ahead of it known -/
def pw (b : List Int) (i : Nat) : Nat → Int
  | 0 => 0
  | k + 1 => Go.bits .or .u32 ((pw b i k * 256) % 4294967296) (b.getD (4 * i + k) 0 % 4294967296)
def wordAt (b ws : List Int) (i : Nat) : Int :=
  if i < 16 then pw b i 4 else w32 (ws.getD (i - 16) 0 + sg0 (ws.getD (i - 15) 0) + ws.getD (i - 7) 0 + sg1 (ws.getD (i - 2) 0))
def sched (b : List Int) : Nat → List Int
  | 0 => []
  | i + 1 => sched b i ++ [wordAt b (sched b i) i]
theorem sched_length (b : List Int) (i : Nat) : (sched b i).length = i := by
  induction i with
  | zero => rfl
  | succ i ih => simp [sched, ih]
def K : List Int := [1116352408, 1899447441, 3049323471, 3921009573, 961987163, 1508970993, 2453635748, 2870763221, 3624381080, 310598401, 607225278, 1426881987, 1925078388, 2162078206, 2614888103, 3248222580, 3835390401, 4022224774, 264347078, 604807628, 770255983, 1249150122, 1555081692, 1996064986, 2554220882, 2821834349, 2952996808, 3210313671, 3336571891, 3584528711, 113926993, 338241895, 666307205, 773529912, 1294757372, 1396182291, 1695183700, 1986661051, 2177026350, 2456956037, 2730485921, 2820302411, 3259730800, 3345764771, 3516065817, 3600352804, 4094571909, 275423344, 430227734, 506948616, 659060556, 883997877, 958139571, 1322822218, 1537002063, 1747873779, 1955562222, 2024104815, 2227730452, 2361852424, 2428436474, 2756734187, 3204031479, 3329325298]
def H0 : V8 := ⟨1779033703, 3144134277, 1013904242, 2773480762, 1359893119, 2600822924, 528734635, 1541459225⟩
def be8 (n : Int) : List Int := [n / 72057594037927936 % 256, n / 281474976710656 % 256, n / 1099511627776 % 256, n / 4294967296 % 256, n / 16777216 % 256, n / 65536 % 256, n / 256 % 256, n % 256]
/-- a text filled up to whole blocks -/
def fillTo (l : List Int) : List Int := l ++ 128 :: List.replicate ((119 - l.length % 64) % 64) 0
def full (l : List Int) : List Int := fillTo l ++ be8 (8 * (l.length : Int))
def chunk (l : List Int) (j : Nat) : List Int := (l.drop (64 * j)).take 64
def fold (l : List Int) : Nat → V8
  | 0 => H0
  | j + 1 => turn K (sched (chunk l j) 64) (fold l j)
def foldl (l : List Int) (js : List Nat) : V8 := js.foldl (fun v j => turn K (sched (chunk l j) 64) v) H0
theorem foldl_snoc (l : List Int) (js : List Nat) (j : Nat) : foldl l (js ++ [j]) = turn K (sched (chunk l j) 64) (foldl l js) := by simp [foldl]
theorem foldl_range (l : List Int) (m : Nat) : foldl l (List.range m) = fold l m := by
  induction m with
  | zero => rfl
  | succ m ih => rw [List.range_succ, foldl_snoc, ih]; rfl
def four (n : Int) : List Int := [n / 16777216 % 256, n / 65536 % 256, n / 256 % 256, n % 256]
/-- the hash of a text, as numbers -/
def shaL (l : List Int) : List Int := (fold (full l) ((full l).length / 64)).l.flatMap four
theorem chunk_length (l : List Int) (j : Nat) (h : 64 * j + 64 ≤ l.length) : (chunk l j).length = 64 := by simp [chunk]; omega
theorem chunk_at (l : List Int) (j i : Nat) (h : 64 * j + 64 ≤ l.length) (hi : i < 64) : (chunk l j).getD i 0 = l.getD (64 * j + i) 0 := by
  simp [chunk, List.getD_eq_getElem?_getD, List.getElem?_take_of_lt hi]
theorem four_wrap (n : Int) : four (Go.RowKit.wrap64 n) = four n := by
  simp only [four, List.cons.injEq, and_true]
  unfold Go.RowKit.wrap64
  omega
/-- the bytes of the first i words -/
def outTo (u : V8) (i : Nat) : List Int := (u.l.take i).flatMap four
theorem outTo_succ (u : V8) (i : Nat) (hi : i < 8) : outTo u (i + 1) = outTo u i ++ four (u.l.getD i 0) := by
  match i, hi with
  | 0, _ => rfl
  | 1, _ => rfl
  | 2, _ => rfl
  | 3, _ => rfl
  | 4, _ => rfl
  | 5, _ => rfl
  | 6, _ => rfl
  | 7, _ => rfl
theorem outTo_length (u : V8) (i : Nat) (hi : i ≤ 8) : (outTo u i).length = 4 * i := by
  match i, hi with
  | 0, _ => rfl
  | 1, _ => rfl
  | 2, _ => rfl
  | 3, _ => rfl
  | 4, _ => rfl
  | 5, _ => rfl
  | 6, _ => rfl
  | 7, _ => rfl
  | 8, _ => rfl
/-- a key of 64 bytes, exclusive-ored with a byte -/
def maskL (key : List Int) (m : Int) : List Int := (List.range 64).map fun i => Go.bits .xor .u8 (key.getD i 0) m
def hkey (key : List Int) : List Int := if 64 < key.length then shaL key else key
def hmacL (key b : List Int) : List Int := shaL (maskL (hkey key) 92 ++ shaL (maskL (hkey key) 54 ++ b))
/-- what has been drawn out of a key, and the last block -/
def exp (key info : List Int) : Nat → List Int × List Int
  | 0 => ([], [])
  | i + 1 => let last := hmacL key ((exp key info i).2 ++ info ++ [((i + 1 : Nat) : Int) % 256]); ((exp key info i).1 ++ last, last)
def expandL (key info : List Int) (n : Nat) : List Int := ((exp key info (n + 31)).1).take n
end Go.Proofs.Ytfbggdlidelliaa.Sha

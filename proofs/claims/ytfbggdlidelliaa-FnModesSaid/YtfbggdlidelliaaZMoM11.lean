/- Laid by a program of this session: of Md, Rg, Rh, Fm, Pstr, Rj, Rk, WTab, WRepsOne, WGuard, Pm0, Pm1 what this law uses. -/
import Derived.Test.YtfbggdlidelliaaZMoM10
import Derived.Deep.MidRow
import Derived.Laws.BytesArg
import Derived.Laws.Strings
import Derived.RowKit
import Derived.Lib.AppendStr
import Derived.Great.BuildSlice
import Derived.Test.YtfbggdlidelliaaZMoWLast
import Derived.Test.YtfbggdlidelliaaZMoWWords
import Derived.Test.YtfbggdlidelliaaProg
import Derived.Below
import Derived.Deep.Draws
import Derived.Deep.AppendLies
import Derived.Maps.AppendAt
import Derived.OwnWalk
import Derived.Laws.MakeOwn
import Derived.Laws.OwnMore
import Derived.Deep.OwnRows
import Derived.Tactics
import Derived.Lib.ConvBytes
import Derived.Laws.Slices
import Derived.WalkKit
import Derived.KernelRfl
import Derived.RowKit3
import Derived.Deep.LoopGhost
import Derived.Deep.QuietTactic
import Derived.BigQuiet
import Derived.WideLaws
import Derived.Deep.DeepCutAuto
import Derived.Deep.CutBlock
import Derived.Deep.RegionHeld3
import Derived.Laws.Rows
import Derived.ArgAppend
import Derived.Laws.IdiomCopy
import Derived.OrdersHeld
import Derived.Laws.BitsLemmas
import Derived.RegionTactic
import Derived.BigRegion
import Derived.Deep.RegionLaw
import Derived.Lib.SliceRun
import Derived.Lib.MakeNoZero
import Derived.Laws.CopyOwn
import Derived.Lib.SlBytesConst
import Derived.Lib.LazyBuf
import Derived.Test.YtfbggdlidelliaaZMoWApart
import Derived.Test.YtfbggdlidelliaaZMoWArr
import Derived.Test.YtfbggdlidelliaaZMoWZeros
import Derived.Test.YtfbggdlidelliaaZMoWFoot
import Derived.Test.YtfbggdlidelliaaZMoWKept
import Derived.Test.YtfbggdlidelliaaZMoWShare
import Derived.Test.YtfbggdlidelliaaZMoWN
import Derived.Laws.StructEq
import Derived.Test.YtfbggdlidelliaaZMoWMore
namespace Go.Proofs.Ytfbggdlidelliaa.Md
open Go Go.Proofs.Ytfbggdlidelliaa.Aes
set_option linter.unusedVariables false
set_option linter.unusedSimpArgs false
def blk (l : List Int) (i : Nat) : List Int := (l.drop (16 * i)).take 16
theorem blk_length (l : List Int) (i : Nat) (h : 16 * i + 16 ≤ l.length) : (blk l i).length = 16 := by simp [blk]; omega
theorem blk_ok {l : List Int} (h : ok l) (i : Nat) : ok (blk l i) := fun x hx => h x (List.mem_of_mem_drop (List.mem_of_mem_take hx))
theorem blk_at (l : List Int) (i j : Nat) (hj : j < 16) : (blk l i).getD j 0 = l.getD (16 * i + j) 0 := by
  simp only [blk, List.getD_eq_getElem?_getD]
  rw [List.getElem?_take_of_lt hj, List.getElem?_drop]
theorem take_blk (l : List Int) (i : Nat) : l.take (16 * (i + 1)) = l.take (16 * i) ++ blk l i := by
  rw [show 16 * (i + 1) = 16 * i + 16 from by omega, List.take_add]
  rfl
theorem blk_append (a b : List Int) (i : Nat) (h : 16 * i + 16 ≤ a.length) : blk (a ++ b) i = blk a i := by
  unfold blk
  rw [List.drop_append_of_le_length (by omega), List.take_append_of_le_length (by simp; omega)]
theorem blk_take (l : List Int) (n i : Nat) (h : 16 * i + 16 ≤ n) : blk (l.take n) i = blk l i := by
  unfold blk
  rw [List.drop_take, List.take_take, Nat.min_eq_left (by omega)]
theorem blk_last (a c : List Int) (i : Nat) (h : a.length = 16 * i) (hc : c.length = 16) : blk (a ++ c) i = c := by
  unfold blk
  rw [← h, List.drop_left, ← hc, List.take_length]
theorem four_by (n : Int) : ok (Sha.four n) := fun x hx => by
  simp only [Sha.four, List.mem_cons, List.not_mem_nil, or_false] at hx
  omega
def ctrB (keys : List (List Int)) (nonce : List Int) (i : Nat) : List Int := encL keys (nonce ++ Sha.four ((i + 1 : Nat) : Int))
def ctrL (keys : List (List Int)) (nonce b : List Int) : List Int := (List.range b.length).map fun j => xr (b.getD j 0) ((ctrB keys nonce (j / 16)).getD (j % 16) 0)
theorem ctrL_length (keys : List (List Int)) (nonce b : List Int) : (ctrL keys nonce b).length = b.length := by simp [ctrL]
theorem ctrL_at (keys : List (List Int)) (nonce b : List Int) (j : Nat) (hj : j < b.length) : (ctrL keys nonce b).getD j 0 = xr (b.getD j 0) ((ctrB keys nonce (j / 16)).getD (j % 16) 0) := by
  simp [ctrL, List.getD_eq_getElem?_getD, hj]
theorem ctrB_ok {keys : List (List Int)} (hk : keysOk keys) {nonce : List Int} (hn : ok nonce) (i : Nat) : ok (ctrB keys nonce i) := encL_ok hk (ok_append hn (four_by _))
theorem ctrB_length (keys : List (List Int)) (nonce : List Int) (i : Nat) : (ctrB keys nonce i).length = 16 := encL_length _ _
theorem ctrL_ok {keys : List (List Int)} (hk : keysOk keys) {nonce b : List Int} (hn : ok nonce) (hb : ok b) : ok (ctrL keys nonce b) := fun x hx => by
  obtain ⟨j, _, rfl⟩ := List.mem_map.1 hx
  exact xr_by (at_by hb j) (at_by (ctrB_ok hk hn _) _)
theorem ctrL_twice {keys : List (List Int)} (hk : keysOk keys) {nonce b : List Int} (hn : ok nonce) (hb : ok b) : ctrL keys nonce (ctrL keys nonce b) = b := by
  apply List.ext_getElem
  · rw [ctrL_length, ctrL_length]
  · intro j h1 h2
    have e := ctrL_at keys nonce (ctrL keys nonce b) j (by rw [ctrL_length]; exact h2)
    rw [ctrL_at keys nonce b j h2, xr_back (at_by hb j) (at_by (ctrB_ok hk hn _) _), List.getD_eq_getElem?_getD, List.getElem?_eq_getElem h1, List.getD_eq_getElem?_getD, List.getElem?_eq_getElem h2] at e
    exact e
def cbcTo (keys : List (List Int)) (first p : List Int) : Nat → List Int × List Int
  | 0 => ([], first)
  | i + 1 => ((cbcTo keys first p i).1 ++ encL keys (xorS (cbcTo keys first p i).2 (blk p i)), encL keys (xorS (cbcTo keys first p i).2 (blk p i)))
def cbcL (keys : List (List Int)) (first p : List Int) : List Int := (cbcTo keys first p (p.length / 16)).1
def uncTo (keys : List (List Int)) (first b : List Int) : Nat → List Int × List Int
  | 0 => ([], first)
  | i + 1 => ((uncTo keys first b i).1 ++ xorS (uncTo keys first b i).2 (decL keys (blk b i)), blk b i)
def uncL (keys : List (List Int)) (first b : List Int) : List Int := (uncTo keys first b (b.length / 16)).1
theorem cbcTo_length (keys : List (List Int)) (first p : List Int) (i : Nat) : (cbcTo keys first p i).1.length = 16 * i := by
  induction i with
  | zero => rfl
  | succ i ih => simp only [cbcTo]; rw [List.length_append, ih, encL_length]; omega
theorem uncTo_length (keys : List (List Int)) (first p : List Int) (i : Nat) : (uncTo keys first p i).1.length = 16 * i := by
  induction i with
  | zero => rfl
  | succ i ih => simp only [uncTo]; rw [List.length_append, ih, xorS_length]; omega
theorem cbcTo_ok {keys : List (List Int)} (hk : keysOk keys) {first p : List Int} (hf : ok first) (hp : ok p) (i : Nat) : ok (cbcTo keys first p i).1 ∧ ok (cbcTo keys first p i).2 := by
  induction i with
  | zero => exact ⟨fun x hx => (by cases hx), hf⟩
  | succ i ih =>
    have h := encL_ok hk (xorS_ok ih.2 (blk_ok hp i))
    exact ⟨ok_append ih.1 h, h⟩
theorem uncTo_ok {keys : List (List Int)} (hk : keysOk keys) {first b : List Int} (hf : ok first) (hb : ok b) (i : Nat) : ok (uncTo keys first b i).1 ∧ ok (uncTo keys first b i).2 := by
  induction i with
  | zero => exact ⟨fun x hx => (by cases hx), hf⟩
  | succ i ih => exact ⟨ok_append ih.1 (xorS_ok ih.2 (decL_ok hk (blk_ok hb i))), blk_ok hb i⟩
theorem cbcTo_last (keys : List (List Int)) {first p : List Int} (hf : first.length = 16) (i : Nat) : (cbcTo keys first p i).2.length = 16 := by
  cases i with
  | zero => exact hf
  | succ i => exact encL_length _ _
theorem cbcTo_more (keys : List (List Int)) (first p : List Int) (i d : Nat) : ∃ r, (cbcTo keys first p (i + d)).1 = (cbcTo keys first p i).1 ++ r := by
  induction d with
  | zero => exact ⟨[], (List.append_nil _).symm⟩
  | succ d ih =>
    obtain ⟨r, hr⟩ := ih
    refine ⟨r ++ encL keys (xorS (cbcTo keys first p (i + d)).2 (blk p (i + d))), ?_⟩
    rw [← List.append_assoc, ← hr]
    rfl
theorem cbcTo_blk (keys : List (List Int)) (first p : List Int) (m i : Nat) (h : i < m) : blk (cbcTo keys first p m).1 i = (cbcTo keys first p (i + 1)).2 := by
  obtain ⟨r, hr⟩ := cbcTo_more keys first p (i + 1) (m - (i + 1))
  rw [show i + 1 + (m - (i + 1)) = m from by omega] at hr
  rw [hr, blk_append _ _ _ (by rw [cbcTo_length]; omega)]
  exact blk_last _ _ i (cbcTo_length keys first p i) (encL_length _ _)
theorem uncTo_cbc {keys : List (List Int)} (hk : keysOk keys) {first p : List Int} (hf : ok first) (hfl : first.length = 16) (hp : ok p) (m : Nat) (hm : 16 * m ≤ p.length) (i : Nat) (hi : i ≤ m) :
    uncTo keys first (cbcTo keys first p m).1 i = (p.take (16 * i), (cbcTo keys first p i).2) := by
  induction i with
  | zero => rfl
  | succ i ih =>
    have e := ih (by omega)
    have hb := cbcTo_blk keys first p m i (by omega)
    have hbl := blk_length p i (by omega)
    have ho := cbcTo_ok hk hf hp i
    have hx := xorS_ok ho.2 (blk_ok hp i)
    show ((uncTo keys first (cbcTo keys first p m).1 i).1 ++ xorS (uncTo keys first (cbcTo keys first p m).1 i).2 (decL keys (blk (cbcTo keys first p m).1 i)), blk (cbcTo keys first p m).1 i) = _
    rw [e, hb, take_blk]
    show (p.take (16 * i) ++ xorS (cbcTo keys first p i).2 (decL keys (encL keys (xorS (cbcTo keys first p i).2 (blk p i)))), _) = _
    rw [dec_enc hk (xorS_length _ _) hx]
    congr 2
    refine (st_is _ _ hbl fun j hj => ?_).symm
    have h1 := at_by ho.2 j
    have h2 := at_by (blk_ok hp i) j
    rw [xorS, st_at _ j hj, xr_comm h1 h2, xr_comm h1 (xr_by h2 h1), xr_back h2 h1]
theorem uncL_cbc {keys : List (List Int)} (hk : keysOk keys) {first p : List Int} (hf : ok first) (hfl : first.length = 16) (hp : ok p) (hm : p.length % 16 = 0) : uncL keys first (cbcL keys first p) = p := by
  unfold uncL cbcL
  rw [cbcTo_length, Nat.mul_div_cancel_left _ (by decide), uncTo_cbc hk hf hfl hp (p.length / 16) (by omega) _ (Nat.le_refl _)]
  exact List.take_of_length_le (by omega)
theorem cbcTo_same (keys : List (List Int)) (first p q : List Int) (m : Nat) (h : ∀ i, i < m → blk p i = blk q i) : cbcTo keys first p m = cbcTo keys first q m := by
  induction m with
  | zero => rfl
  | succ m ih => simp only [cbcTo]; rw [ih fun i hi => h i (by omega), h m (by omega)]
theorem cbcL_first (keys : List (List Int)) (first p q : List Int) (m : Nat) (hp : 16 * m ≤ p.length) (hq : 16 * m ≤ q.length) (h : p.take (16 * m) = q.take (16 * m)) : (cbcL keys first p).take (16 * m) = (cbcL keys first q).take (16 * m) := by
  have hs : ∀ i, i < m → blk p i = blk q i := fun i hi => by rw [← blk_take p (16 * m) i (by omega), h, blk_take q (16 * m) i (by omega)]
  have key : ∀ l : List Int, 16 * m ≤ l.length → (cbcL keys first l).take (16 * m) = (cbcTo keys first l m).1 := fun l hl => by
    obtain ⟨r, hr⟩ := cbcTo_more keys first l m (l.length / 16 - m)
    rw [show m + (l.length / 16 - m) = l.length / 16 from by omega] at hr
    unfold cbcL
    rw [hr, ← cbcTo_length keys first l m, List.take_left]
  rw [key p hp, key q hq, cbcTo_same keys first p q m hs]
end Go.Proofs.Ytfbggdlidelliaa.Md
namespace Go.Proofs.Ytfbggdlidelliaa.P
open Go.RowKit Go.Proofs.YtfbggdlidelliaaW.PrintWords Go.Proofs.YtfbggdlidelliaaW.PrintLast Go.Proofs.YtfbggdlidelliaaW.PrintMore
set_option linter.unusedVariables false
theorem w64s (x : Int) (h : -1000000 ≤ x) (h2 : x ≤ 1000000000) : wrap64 x = x := by unfold wrap64; omega
section
variable {P : Program} {ops : Array Oper} {S : World → Prop}
theorem run_loadVar_any (w : World) (a : Addr) (ty : TypeId) (cs : List Value) (d : TypeDesc) (hc : ∀ j v, cs[j]? = some v → w.cell? (a.add j) = some v)
    (hu : P.underlying ty = some d) (hd : d.isRow = true) (hi : (P.info? ty).map (·.size) = some cs.length) : (loadVar ty a).run P w = .ok (.agg cs.toArray) w := by
  have hl : (loadCells a cs.length).run P w = .ok cs.toArray w := run_loadCells_list (P := P) w a cs hc
  cases hq : P.info? ty with
  | none => simp [hq] at hi
  | some i =>
    have hs : i.size = cs.length := by simpa [hq] using hi
    have hagg : (isAgg ty).run P w = .ok true w := by
      unfold isAgg
      rw [Sem.run_bind, run_underlying hu w]
      cases d <;> simp_all
    simp [loadVar, Sem.run_bind, hagg, sizeOf, typeInfo, hq, hs, hl]
theorem yields_load_any {o : Oper} {a : Act} (hgd : o.guard = none) (ty : TypeId) (x : Operand) (ho : o.op = .load ty x)
    (ad : Addr) (hx : a.eval x = .pointer (some ad)) (cs : List Value) (d : TypeDesc) (hS : ∀ w, S w → ∀ j v, cs[j]? = some v → w.cell? (ad.add j) = some v)
    (hu : P.underlying ty = some d) (hd : d.isRow = true) (hi : (P.info? ty).map (·.size) = some cs.length) : YieldsIf P ops S o (.agg cs.toArray) a :=
  .inl ⟨by simp [Region.wanted, hgd], fun w hw => by
    unfold execOp
    simp only [ho, hx, Instr.loadAt, Instr.sureAddr, Sem.run_bind, Sem.run_pure, Result.andThen_ok, run_loadVar_any w ad ty cs d (hS w hw) hu hd hi]⟩
theorem yields_arrayAt {o : Oper} {a : Act} (hgd : o.guard = none) (t : TypeId) (x : Operand) (ho : o.op = .sliceToArrayPointer t x) (A : Option Addr) (len c m : Nat) {e : TypeId} (hx : a.eval x = .slice A len c) (hu : P.underlying t = some (.array m e)) (hm : m ≤ len) : YieldsIf P ops S o (.pointer A) a :=
  .inl ⟨by simp [Region.wanted, hgd], fun w hw => by
    unfold execOp
    simp only [ho, hx, Instr.arrayAt, Sem.run_bind, run_underlying hu, Result.andThen_ok, Sem.run_pure, if_neg (show ¬ len < m by omega)]⟩
end
theorem C_nums {w : World} {ad : Addr} {n : Nat} {l : List Int} (h : Kd.C (Kd.int .u8) w (some ad) n l) (hn : n = l.length) (i : Nat) (hi : 16 * i + 16 ≤ l.length) : ∀ j v, (nums .u8 (Md.blk l i))[j]? = some v → w.cell? ((ad.add (16 * i)).add j) = some v := fun j v hv => by
  obtain ⟨hj, rfl⟩ := nums_getD _ j v hv
  rw [Md.blk_length l i hi] at hj
  rw [add_add, C_u8_cell h hn (16 * i + j) (by omega), Md.blk_at l i j hj]
end Go.Proofs.Ytfbggdlidelliaa.P
namespace Go.Proofs.Ytfbggdlidelliaa.P
open Go.RowKit Go.Proofs.YtfbggdlidelliaaW.PrintWords Go.Proofs.YtfbggdlidelliaaW.PrintLast Go.Proofs.YtfbggdlidelliaaW.PrintMore
set_option linter.unusedVariables false
theorem rowB_str {W : World} {B g n c : Nat} {l : List Int} (h : rowB W B (.slice (some ⟨g, 0, none⟩) n c) l) (hn : n = l.length) (hm : l.length ≤ 140737488355328) : Kd.C (Kd.int .u8) W (some ⟨g, 0, none⟩) l.length l := by
  subst hn
  exact rowB_C h hm
end Go.Proofs.Ytfbggdlidelliaa.P
namespace Go.Proofs.Ytfbggdlidelliaa.P
open Go.RowKit Go.Proofs.YtfbggdlidelliaaW.PrintWords Go.Proofs.YtfbggdlidelliaaW.PrintLast Go.Proofs.YtfbggdlidelliaaW.PrintMore
set_option linter.unusedVariables false
set_option linter.unusedSimpArgs false
def colsF (F : List Int → List Int) (b : List Int) : List Int := F (b.take 4) ++ F ((b.drop 4).take 4) ++ F ((b.drop 8).take 4) ++ F ((b.drop 12).take 4)
theorem colsF_length (F : List Int → List Int) (hF : ∀ c, c.length = 4 → (F c).length = 4) (b : List Int) (hb : b.length = 16) : (colsF F b).length = 16 := by
  unfold colsF
  rw [List.length_append, List.length_append, List.length_append, hF _ (by simp; omega), hF _ (by simp; omega), hF _ (by simp; omega), hF _ (by simp; omega)]
theorem colsF_part (F : List Int → List Int) (hF : ∀ c, c.length = 4 → (F c).length = 4) (b : List Int) (hb : b.length = 16) (k j : Nat) (hk : k < 4) (hj : j < 4) : (colsF F b).getD (4 * k + j) 0 = (F ((b.drop (4 * k)).take 4)).getD j 0 := by
  have h0 := hF (b.take 4) (by simp; omega)
  have h1 := hF ((b.drop 4).take 4) (by simp; omega)
  have h2 := hF ((b.drop 8).take 4) (by simp; omega)
  unfold colsF
  simp only [List.getD_eq_getElem?_getD]
  match k, hk with
  | 0, _ => rw [List.getElem?_append_left (by simp; omega), List.getElem?_append_left (by simp; omega), List.getElem?_append_left (by omega)]; simp
  | 1, _ => rw [List.getElem?_append_left (by simp; omega), List.getElem?_append_left (by simp; omega), List.getElem?_append_right (by omega), h0]; congr 3; omega
  | 2, _ => rw [List.getElem?_append_left (by simp; omega), List.getElem?_append_right (by simp; omega), List.length_append, h0, h1]; congr 3; omega
  | 3, _ => rw [List.getElem?_append_right (by simp; omega), List.length_append, List.length_append, h0, h1, h2]; congr 3; omega
def fastL (c : List Int) : List Int := (List.range 4).map fun i => Go.bits .xor .u8 (Go.bits .xor .u8 (c.getD i 0) (Go.bits .xor .u8 (Go.bits .xor .u8 (Go.bits .xor .u8 (c.getD 0 0) (c.getD 1 0)) (c.getD 2 0)) (c.getD 3 0))) ((Gf.xt (Aes.xr (c.getD i 0) (c.getD ((i + 1) % 4) 0)).toNat : Nat) : Int)
theorem fastL_length (c : List Int) : (fastL c).length = 4 := by simp [fastL]
theorem fastL_at (c : List Int) (i : Nat) (hi : i < 4) : (fastL c).getD i 0 = Go.bits .xor .u8 (Go.bits .xor .u8 (c.getD i 0) (Go.bits .xor .u8 (Go.bits .xor .u8 (Go.bits .xor .u8 (c.getD 0 0) (c.getD 1 0)) (c.getD 2 0)) (c.getD 3 0))) ((Gf.xt (Aes.xr (c.getD i 0) (c.getD ((i + 1) % 4) 0)).toNat : Nat) : Int) := by
  simp [fastL, List.getD_eq_getElem?_getD, hi]
theorem gm_123 : ∀ x : Nat, x < 256 → Gf.gm x 1 = x ∧ Gf.gm x 2 = Gf.xt x ∧ Gf.gm x 3 = Gf.xt x ^^^ x := by decide +kernel
theorem fast_part (a b c d A B : Nat) : (a ^^^ (((a ^^^ b) ^^^ c) ^^^ d)) ^^^ (A ^^^ B) = ((A ^^^ (B ^^^ b)) ^^^ c) ^^^ d := by
  apply Nat.eq_of_testBit_eq
  intro i
  simp only [Nat.testBit_xor]
  cases a.testBit i <;> cases b.testBit i <;> cases c.testBit i <;> cases d.testBit i <;> cases A.testBit i <;> cases B.testBit i <;> rfl
theorem fast_sum (a b c d : Nat) : ((a ^^^ b) ^^^ c) ^^^ d = ((b ^^^ c) ^^^ d) ^^^ a := by
  apply Nat.eq_of_testBit_eq
  intro i
  simp only [Nat.testBit_xor]
  cases a.testBit i <;> cases b.testBit i <;> cases c.testBit i <;> cases d.testBit i <;> rfl
theorem fast_val (x0 x1 x2 x3 : Nat) (h0 : x0 < 256) (h1 : x1 < 256) (h2 : x2 < 256) (h3 : x3 < 256) (T : Nat) (hT : T = ((x0 ^^^ x1) ^^^ x2) ^^^ x3) : (x0 ^^^ T) ^^^ Gf.xt (x0 ^^^ x1) = ((Gf.gm x0 2 ^^^ Gf.gm x1 3) ^^^ Gf.gm x2 1) ^^^ Gf.gm x3 1 := by
  rw [hT, (gm_123 x0 h0).2.1, (gm_123 x1 h1).2.2, (gm_123 x2 h2).1, (gm_123 x3 h3).1, Gf.xt_lin x0 x1 h0 h1]
  exact fast_part _ _ _ _ _ _
theorem fast_mix (s : List Int) (hs : s.length = 16) (ho : Aes.ok s) : colsF fastL s = Aes.mixS Gf.mixF s := by
  refine Aes.st_is _ _ (colsF_length fastL (fun c _ => fastL_length c) s hs) fun j hj => ?_
  obtain ⟨k, i, hk, hi, rfl⟩ : ∃ k i, k < 4 ∧ i < 4 ∧ j = 4 * k + i := ⟨j / 4, j % 4, by omega, by omega, by omega⟩
  rw [colsF_part fastL (fun c _ => fastL_length c) s hs k i hk hi, fastL_at _ i hi, show (4 * k + i) / 4 = k from by omega, show (4 * k + i) % 4 = i from by omega]
  have g : ∀ q, q < 4 → ((s.drop (4 * k)).take 4).getD q 0 = s.getD (4 * k + q) 0 := fun q hq => by
    simp only [List.getD_eq_getElem?_getD, List.getElem?_take, List.getElem?_drop, if_pos hq]
  obtain ⟨x0, b0, e0⟩ := Aes.by_nat (Aes.at_by ho (4 * k + 0))
  obtain ⟨x1, b1, e1⟩ := Aes.by_nat (Aes.at_by ho (4 * k + 1))
  obtain ⟨x2, b2, e2⟩ := Aes.by_nat (Aes.at_by ho (4 * k + 2))
  obtain ⟨x3, b3, e3⟩ := Aes.by_nat (Aes.at_by ho (4 * k + 3))
  have hc : Aes.colN s k = ⟨x0, x1, x2, x3⟩ := by
    have e0' := e0; rw [Nat.add_zero] at e0'
    unfold Aes.colN; rw [e0', e1, e2, e3]; rfl
  have hsum : Go.bits .xor .u8 (Go.bits .xor .u8 (Go.bits .xor .u8 (x0 : Int) (x1 : Int)) (x2 : Int)) (x3 : Int) = ((((x0 ^^^ x1) ^^^ x2) ^^^ x3 : Nat) : Int) := by
    rw [Gf.xor_u8 x0 x1 b0 b1, Gf.xor_u8 _ x2 (Gf.xor_lt b0 b1) b2, Gf.xor_u8 _ x3 (Gf.xor_lt (Gf.xor_lt b0 b1) b2) b3]
  rw [hc, g 0 (by decide), g 1 (by decide), g 2 (by decide), g 3 (by decide), e0, e1, e2, e3, hsum]
  have one : ∀ a b c d T : Nat, a < 256 → b < 256 → c < 256 → d < 256 → T < 256 → T = ((a ^^^ b) ^^^ c) ^^^ d →
      Go.bits .xor .u8 (Go.bits .xor .u8 (a : Int) (T : Int)) ((Gf.xt (Aes.xr (a : Int) (b : Int)).toNat : Nat) : Int) = ((((Gf.gm a 2 ^^^ Gf.gm b 3) ^^^ Gf.gm c 1) ^^^ Gf.gm d 1 : Nat) : Int) := fun a b c d T ha hb hcc hd hT h => by
    rw [Aes.xr_nat a b ha hb, Int.toNat_natCast, Gf.xor_u8 a T ha hT, Gf.xor_u8 _ _ (Gf.xor_lt ha hT) (Gf.xt_lt _ (Gf.xor_lt ha hb)), fast_val a b c d ha hb hcc hd T h]
  have hTl := Gf.xor_lt (Gf.xor_lt (Gf.xor_lt b0 b1) b2) b3
  match i, hi with
  | 0, _ => rw [g 0 (by decide), g ((0 + 1) % 4) (by decide), show (0 + 1) % 4 = 1 from rfl, e0, e1]; exact one x0 x1 x2 x3 _ b0 b1 b2 b3 hTl rfl
  | 1, _ => rw [g 1 (by decide), g ((1 + 1) % 4) (by decide), show (1 + 1) % 4 = 2 from rfl, e1, e2]; exact one x1 x2 x3 x0 _ b1 b2 b3 b0 hTl (fast_sum _ _ _ _)
  | 2, _ => rw [g 2 (by decide), g ((2 + 1) % 4) (by decide), show (2 + 1) % 4 = 3 from rfl, e2, e3]; exact one x2 x3 x0 x1 _ b2 b3 b0 b1 hTl (by rw [fast_sum, fast_sum])
  | 3, _ => rw [g 3 (by decide), g ((3 + 1) % 4) (by decide), show (3 + 1) % 4 = 0 from rfl, e3, e0]; exact one x3 x0 x1 x2 _ b3 b0 b1 b2 hTl (by rw [fast_sum, fast_sum, fast_sum])
theorem bt_dataF (s : ByteArray) (j : Nat) (hj : j < s.size) : ((s.data.toList.getD j 0).toNat : Int) = bt s (j : Int) := by
  have h2 : j < s.data.toList.length := by simpa using hj
  simp [bt, hj, List.getD_eq_getElem?_getD]
  rfl
theorem bytesL_getD (s : ByteArray) (j : Nat) (hj : j < s.size) : (bytesL s).getD j 0 = bt s (j : Int) := by
  rw [← bt_dataF s j hj]
  have h2 : j < s.data.toList.length := by simpa using hj
  simp [bytesL, List.getD_eq_getElem?_getD, h2, hj]
end Go.Proofs.Ytfbggdlidelliaa.P
namespace Go.Proofs.Ytfbggdlidelliaa.Pg
open Go.RowKit
def isU8 (l : List Int) : Prop := ∀ x ∈ l, 0 ≤ x ∧ x ≤ 255
theorem isU8_of {l : List Int} (w : ∀ x ∈ l, (Lit.int .u8 x).wf = true) : isU8 l := by
  intro x hx
  have h := w x hx
  simp [Lit.wf, IntKind.min, IntKind.max, IntKind.signed, IntKind.bits] at h
  omega
end Go.Proofs.Ytfbggdlidelliaa.Pg
namespace Go.Proofs.Ytfbggdlidelliaa.P
open Go.RowKit Go.Proofs.YtfbggdlidelliaaW.PrintWords Go.Proofs.YtfbggdlidelliaaW.PrintLast Go.Proofs.YtfbggdlidelliaaW.PrintMore
set_option linter.unusedVariables false
def padL (l : List Int) : List Int := l ++ List.replicate (16 - l.length % 16) (16 - (l.length : Int) % 16)
def unpadL (l : List Int) : Option (List Int) :=
  if l.length = 0 then none else if l.length < (rd l ((l.length : Int) - 1)).toNat then none
  else if ((strOfNums (padL (l.take (l.length - (rd l ((l.length : Int) - 1)).toNat)))).toList == (strOfNums l).toList) = true then some (l.take (l.length - (rd l ((l.length : Int) - 1)).toNat)) else none
theorem suc_natW (i : Nat) (hi : i < 9223372036854775807) : wrap64 ((i : Int) + 1) = ((i + 1 : Nat) : Int) := by unfold wrap64; omega
theorem rd_natW (l : List Int) (i : Nat) (h : i < l.length) : rd l (i : Int) = l[i] := by
  simp [rd, h]
theorem padL_len (l : List Int) : (padL l).length = l.length + (16 - l.length % 16) := by simp [padL]
theorem padL_u8 {l : List Int} (h : Pg.isU8 l) : Pg.isU8 (padL l) := by
  intro x hx
  rcases List.mem_append.1 hx with h1 | h1
  · exact h x h1
  · have := List.eq_of_mem_replicate h1
    omega
theorem padL_size (l : List Int) : (padL l).length = 16 * (l.length / 16 + 1) := by simp [padL]; omega
theorem padL_ok {l : List Int} (h : Aes.ok l) : Aes.ok (padL l) := by
  intro x hx
  rcases List.mem_append.1 hx with h1 | h1
  · exact h x h1
  · have := List.eq_of_mem_replicate h1
    omega
theorem wpList_append_R_string {P : Program} {W : World} {B : Nat} {w0 : World} {ops : Array Oper} {rest : List Oper} {o : Oper} {ac : Act} {Q : Exit → Act → World → Prop} (hgd : o.guard = none) (s x : Operand) (t u e : TypeId) (ho : o.op = .call { callee := .builtin .append, args := #[s, x], argTypes := #[t, u] })
    (h1 : P.underlying t = some (.slice e)) (hu : P.underlying u = some .string) (hi : (P.info? e).map (fun i => (i.zero, i.size, i.bytes)) = some (some (.int .u8 0), 1, 1))
    {v : Value} {l : List Int} (st : ByteArray) (hs : ac.eval s = v) (hv : Kd.R (Kd.int .u8) e W B (fun _ => True) v l) (hb : Below B w0 W) (hB : B ≤ W.heap.size) (hx : ac.eval x = .string st) (hfit : l.length + st.size ≤ 140737488355328) (lr : List Int) (hlr : lr = l ++ bytesL st)
    (h : ∀ v' w', Aside0 (Kd.R (Kd.int .u8) e w' B (fun _ => True) v' lr) → Aside0 (Below B w0 w') → Aside0 (B ≤ w'.heap.size) → wpList P ops Q rest (ac.put o.dst v') w') : wpList P ops Q (o :: rest) ac W := by
  subst hlr
  obtain ⟨i, h2, h3⟩ := Option.map_eq_some_iff.1 hi
  simp only [Prod.mk.injEq] at h3
  refine Lib.wpList_append_own_string W hgd s x t u ho B e i h1 hu h2 h3.1 h3.2.1 h3.2.2 v l.length (nums .u8 l) hs (Kd.own_of_R hv) st hx (Nat.le_trans hfit (by decide)) hfit hB fun v' w' k1 k2 k3 => ?_
  refine h v' w' ⟨Kd.R_of_own ?_ (fun _ _ => trivial)⟩ ⟨hb.grown k2 hB (fun k hk => own_base (Kd.own_of_R hv) k hk)⟩ ⟨Nat.le_trans hB k2.size⟩
  rw [List.length_append, bytesL_length]
  rw [strCells_nums] at k1
  have e3 : encs (Value.int .u8) (l ++ bytesL st) = nums IntKind.u8 l ++ nums IntKind.u8 (bytesL st) := by simp [nums, encs]
  rw [e3]
  exact k1
theorem opWp_append_R {P : Program} {W : World} {B : Nat} {w0 : World} {o : Oper} {ac : Act} {K : Act → World → Prop} {Q : Exit → Act → World → Prop} (hgd : o.guard = none) (s x : Operand) (t e : TypeId) (ho : o.op = .call { callee := .builtin .append, args := #[s, x], argTypes := #[t, t] })
    (h1 : P.underlying t = some (.slice e)) (hi : (P.info? e).map (fun i => (i.zero, i.size, i.bytes)) = some (some (.int .u8 0), 1, 1))
    {v : Value} {l : List Int} (r : List Int) (hs : ac.eval s = v) (hv : Kd.R (Kd.int .u8) e W B (fun _ => True) v l) (hb : Below B w0 W) (hB : B ≤ W.heap.size) (A : Option Addr) (m c : Nat) (hx : ac.eval x = .slice A m c) (hC : Kd.C (Kd.int .u8) W A m r) (hfit : l.length + m ≤ 140737488355328) (lr : List Int) (hlr : lr = l ++ r)
    (h : ∀ v' w', Kd.R (Kd.int .u8) e w' B (fun _ => True) v' lr → Below B w0 w' → W.grownBy w' v.ownBlock → (v'.ownBlock = v.ownBlock ∨ ∃ b, v'.ownBlock = some b ∧ W.heap.size ≤ b) → K (ac.put o.dst v') w') : o.wp P ac W K Q := by
  subst hlr
  have hw : Region.wanted o (yielded #[] ac.tmps) = true := by simp [Region.wanted, hgd]
  have q := Kd.R_append_rows_step (Q := Q) (Kc := K) (ops := #[]) (Kd.int .u8) (Rr := (Kd.int .u8).K W) (w0 := w0) B hw s x t e (.int .u8 0) 1 ho h1 hi rfl (by decide) (by decide) v l r A m c (fun _ => True) (fun _ => False) hs hx hv hC (fun _ _ h => h) (fun _ hk => hk.elim) (fun _ _ => trivial) hb hB (by omega) h
  rw [if_pos hw] at q
  exact q
end Go.Proofs.Ytfbggdlidelliaa.P
namespace Go.Proofs.Ytfbggdlidelliaa.P
open Go.RowKit Go.Proofs.YtfbggdlidelliaaW.PrintWords Go.Proofs.YtfbggdlidelliaaW.PrintLast Go.Proofs.YtfbggdlidelliaaW.PrintMore
set_option linter.unusedVariables false
section
variable {P : Program} {ops : Array Oper} {Q : Exit → Act → World → Prop} {md : Region.Mode}
theorem ready_waits {L : Array Bool} {i : Nat} (h : i ∈ Region.ready md ops L) (j : Nat) (hw : lastWaits md ops i j = true) : L.getD j false = true := by
  obtain ⟨_, o, ho, hall⟩ := mem_ready.1 h
  unfold lastWaits at hw
  rw [ho] at hw
  simp only [Option.any_some, Array.any_eq_true, Bool.and_eq_true, beq_iff_eq] at hw
  obtain ⟨q, hq, hb, he⟩ := hw
  have := hall o.after[q] (Array.getElem_mem hq) hb
  rwa [he] at this
def eldersOk (md : Region.Mode) (ops : Array Oper) : Bool := (List.range ops.size).all fun i => (ops[i]?).any fun o => o.after.all fun e => !Region.binds md e || decide (e.on < i)
theorem done_all {L : Array Bool} (hL : L.size = ops.size) (he : eldersOk md ops = true) (hr : Region.ready md ops L = []) : ∀ i, i < ops.size → L.getD i false = true := by
  intro i
  induction i using Nat.strongRecOn with
  | ind i ih =>
    intro hi
    cases hb : L.getD i false with
    | true => rfl
    | false =>
      exfalso
      have h1 := (List.all_eq_true.1 he) i (List.mem_range.2 hi)
      rw [Array.getElem?_eq_getElem hi, Option.any_some, Array.all_eq_true] at h1
      have hm : i ∈ Region.ready md ops L := by
        refine mem_ready.2 ⟨?_, ops[i], Array.getElem?_eq_getElem hi, ?_⟩
        · simp only [Array.getD, hL, hi, dif_pos] at hb ⊢
          exact hb
        · intro e hem hbe
          obtain ⟨q, hq, rfl⟩ := Array.mem_iff_getElem.1 hem
          have h2 := h1 q hq
          simp only [hbe, Bool.not_true, Bool.false_or, decide_eq_true_eq] at h2
          exact ih _ h2 (by omega)
      rw [hr] at hm
      cases hm
theorem wpAny_inv (I : Array Bool → Act → World → Prop) (he : eldersOk md ops = true)
    (hdone : ∀ L a w, I L a w → L.size = ops.size → (∀ i, i < ops.size → L.getD i false = true) → Q .normal a w)
    (hstep : ∀ L a w i, I L a w → L.size = ops.size → i ∈ Region.ready md ops L → i < ops.size → wpOp P ops Q i (fun a' w' => I (L.setIfInBounds i true) a' w') a w) :
    ∀ (fuel : Nat) (L : Array Bool) (a : Act) (w : World), L.size = ops.size → L.toList.count false ≤ fuel → I L a w → wpAny P md ops Q fuel L a w
  | 0, L, a, w, hL, hc, h => by
    have hall : ∀ i, i < ops.size → L.getD i false = true := fun i hi => by
      have h0 : L.toList.count false = 0 := by omega
      rw [List.count_eq_zero] at h0
      have hiL : i < L.size := by omega
      simp only [Array.getD, hiL, dif_pos]
      cases hb : L[i] with
      | true => exact hb
      | false => exact absurd (by rw [← hb]; exact Array.getElem_mem_toList hiL) h0
    refine ⟨?_, hdone L a w h hL hall⟩
    refine List.eq_nil_iff_forall_not_mem.2 fun i hi => ?_
    obtain ⟨h1, o, ho, _⟩ := mem_ready.1 hi
    have hlt : i < ops.size := (Array.getElem?_eq_some_iff.1 ho).1
    have h2 := hall i hlt
    have hiL : i < L.size := by omega
    simp only [Array.getD, hiL, dif_pos] at h1 h2
    rw [h1] at h2
    cases h2
  | fuel + 1, L, a, w, hL, hc, h => by
    refine ⟨fun hr => hdone L a w h hL (done_all hL he hr), fun i hi => ?_⟩
    obtain ⟨h1, o, ho, _⟩ := mem_ready.1 hi
    have hlt : i < ops.size := (Array.getElem?_eq_some_iff.1 ho).1
    have hiL : i < L.size := by omega
    refine wpOp_mono (fun a' w' h' => wpAny_inv I he hdone hstep fuel _ a' w' (by rw [Array.size_setIfInBounds]; exact hL) ?_ h') (hstep L a w i h hL hi hlt)
    simp only [Array.getD, hiL, dif_pos] at h1
    have hlen : i < L.toList.length := by simpa using hiL
    rw [Array.toList_setIfInBounds, List.count_set hlen]
    have h3 : L.toList[i] = false := by simpa using h1
    have h4 : 0 < L.toList.count false := List.count_pos_iff.2 (by rw [← h3]; exact List.getElem_mem hlen)
    rw [h3]
    simp only [beq_self_eq_true, if_true]
    have h5 : (if (true == false) = true then 1 else 0) = 0 := rfl
    omega
def Kp (w : World) (G : List Nat) (A : World → Prop) : Prop := ∀ W', (∀ k, k < w.heap.size → k ∉ G → W'.heap[k]? = w.heap[k]?) → A W'
theorem Kp.step {w w' : World} {G G' : List Nat} {A : World → Prop} (h : Kp w G A) (hs : w.heap.size ≤ w'.heap.size) (hG : ∀ k ∈ G', k ∈ G ∨ w.heap.size ≤ k) (hk : ∀ k, k < w.heap.size → k ∉ G' → w'.heap[k]? = w.heap[k]?) (hG2 : ∀ k ∈ G, k ∈ G') : Kp w' G' A := fun W' hW => by
  refine h W' fun k h1 h2 => ?_
  have hm : k ∉ G' := fun hm => (hG k hm).elim h2 (by omega)
  exact (hW k (Nat.lt_of_lt_of_le h1 hs) hm).trans (hk k h1 hm)
theorem Kp.here {w : World} {G : List Nat} {A : World → Prop} (h : Kp w G A) : A w := h w fun _ _ _ => rfl
theorem wpOp_wpK {i : Nat} {o : Oper} {a : Act} {w : World} {K0 : Act → World → Prop} (ho : ops[i]? = some o) (hg : o.guard = none) (h : ∀ K : Act → World → Prop, (∀ a' w', K0 a' w' → K a' w') → o.wp P a w K Q) : wpOp P ops Q i K0 a w := by
  unfold wpOp
  simp only [ho, Region.wanted, hg, if_true]
  exact .inl (h K0 fun _ _ h => h)
theorem wpOp_val {i : Nat} {o : Oper} {a : Act} {w w1 : World} {v : Value} {K0 : Act → World → Prop} (ho : ops[i]? = some o) (hg : o.guard = none) (hrun : (execOp a.eval o).run P w = .ok (.value v) w1) (h : K0 (a.put o.dst v) w1) : wpOp P ops Q i K0 a w := by
  refine wpOp_wpK ho hg fun K hK => ?_
  unfold Oper.wp
  rw [hrun]
  exact hK _ _ h
theorem set_bits (L : Array Bool) (i : Nat) (hi : i < L.size) : (fun j => (L.setIfInBounds i true).getD j false) = fun j => if j = i then true else L.getD j false := by
  funext j
  rw [Array.getD_eq_getD_getElem?, Array.getD_eq_getD_getElem?, Array.getElem?_setIfInBounds]
  by_cases h : i = j
  · subst h
    simp [hi]
  · rw [if_neg h, if_neg (fun e => h e.symm)]
theorem load_mid_wp {o : Oper} {a : Act} {w : World} (ty : TypeId) (x : Operand) (ho : o.op = .load ty x) (b off : Nat) (hx : a.eval x = .pointer (some ⟨b, off, none⟩)) (cs : List Value) (d : TypeDesc) (hR : w.rangeAt b off cs)
    (hu : P.underlying ty = some d) (hd : d.isRow = true) (hi : (P.info? ty).map (·.size) = some cs.length) : (execOp a.eval o).run P w = .ok (.value (.agg cs.toArray)) w := by
  unfold execOp
  simp only [ho, hx, Instr.loadAt, Instr.sureAddr, Sem.run_bind, Sem.run_pure, Result.andThen_ok, run_loadVar_mid w b off ty cs d hR hu hd hi]
theorem wpOp_goes {i : Nat} {o : Oper} {a : Act} {w : World} {K0 : Act → World → Prop} {fid : FuncId} {fn : Func} {aa : Array Operand} {ts : Array TypeId} (ho : ops[i]? = some o) (hg : o.guard = none) (hf : P.funcs[fid]? = some fn) (hname : (fn.name == "runtime.NumGoroutine") = false) (hb : fn.body.isSome = true) (args : Array Value)
    (hop : o.op = .call { callee := .value (.func fid), args := aa, argTypes := ts }) (hargs : aa.map a.eval = args)
    (h : Calls P fid args w fun e w' => ∃ v, e = .returned v ∧ K0 (a.put o.dst v) w') : wpOp P ops Q i K0 a w := by
  refine wpOp_wpK ho hg fun K hK => ?_
  have hw : Region.wanted o (yielded #[] a.tmps) = true := by simp [Region.wanted, hg]
  have q := goes_ (ops := #[]) (Q := Q) (K := K) (N := o.dst) hf hname hb args hw rfl hop hargs (h.mono fun e w' ⟨v, e1, h1⟩ => ⟨v, e1, hK _ _ h1⟩)
  rw [if_pos hw] at q
  exact q
theorem wp_store_one {o : Oper} {a : Act} {w : World} {K : Act → World → Prop} (ty : TypeId) (x y : Operand) (ho : o.op = .store ty x y)
    (g : Nat) (v : Value) (hx : a.eval x = .pointer (some ⟨g, 0, none⟩)) (hy : a.eval y = v) (t : TypeId) (old : Value) (hg : w.heap[g]? = some (.cells #[old] t (0, 0))) (hi : (P.info? ty).map (·.size) = some 1) (h1 : v.oneCell' = true)
    (h : K (a.put o.dst undef) (w.setRow g #[v])) : o.wp P a w K Q := by
  unfold Oper.wp execOp
  simp only [ho, hx, hy, Instr.storeAt, Instr.sureAddr, Sem.run_bind, Sem.run_pure, Result.andThen_ok, run_storeVar_one w g t ty old v hg hi h1]
  exact h
end
end Go.Proofs.Ytfbggdlidelliaa.P
namespace Go.Proofs.YtfbggdlidelliaaW.PrintLast
open Go.Proofs.YtfbggdlidelliaaW.PrintWords (Aside0)
def needsOf (md : Region.Mode) (o : Oper) : List Nat := (o.after.toList.filter (fun e => Region.binds md e)).map (fun e => e.on)
def clashOf (md : Region.Mode) (ops : Array Oper) (i : Nat) (oi : Oper) : List Nat := (List.range ops.size).filter fun j => !(j == i) && match ops[j]? with
  | some oj => !(oj.after.any (fun e => Region.binds md e && e.on == i) || oi.apart ops oj)
  | none => false
def rtab (md : Region.Mode) (ops : Array Oper) : Bool × List (List Nat × List Nat) := (Region.noSelect ops, (List.range ops.size).map fun i => match ops[i]? with
  | some o => (needsOf md o, clashOf md ops i o)
  | none => ([], []))
def readyAt (T : List (List Nat × List Nat)) (l : List Bool) (i : Nat) : Bool := !l.getD i true && match T[i]? with
  | some r => r.1.all (fun j => l.getD j false)
  | none => false
def readyT (T : List (List Nat × List Nat)) (l : List Bool) : List Nat := (List.range T.length).filter (readyAt T l)
def freeT (T : List (List Nat × List Nat)) (l : List Bool) (i : Nat) : Bool := match T[i]? with
  | some r => r.2.all (fun j => l.getD j true)
  | none => false
def closedT (T : List (List Nat × List Nat)) (l : List Bool) : Bool := (List.range T.length).all fun j => !l.getD j false || match T[j]? with
  | some r => r.1.all (fun k => l.getD k false)
  | none => true
def reachT (T : List (List Nat × List Nat)) (i : Nat) : Nat → Nat → Bool
  | 0, _ => false
  | fuel + 1, d => match T[d]? with
    | some r => r.1.any fun j => j == i || reachT T i fuel j
    | none => false
def lastT (T : List (List Nat × List Nat)) (l : List Bool) (ds : List Nat) (i : Nat) : Bool := ds.all fun d => l.getD d true || reachT T i T.length d
section
variable {md : Region.Mode} {ops : Array Oper} {T : Bool × List (List Nat × List Nat)} {l l' li lj lk : Array Bool} {ds : List Nat} {i j k : Nat}
theorem gd (l : Array Bool) (j : Nat) (b : Bool) : l.getD j b = l.toList.getD j b := by simp [Array.getD_eq_getD_getElem?, List.getD_eq_getElem?_getD]
theorem needs_all (o : Oper) (p : Nat → Bool) : o.after.all (fun e => !Region.binds md e || p e.on) = (needsOf md o).all p := by
  unfold needsOf
  rw [← Array.all_toList]
  induction o.after.toList with
  | nil => rfl
  | cons e r ih =>
    rw [List.all_cons, ih, List.filter_cons]
    cases h : Region.binds md e <;> simp
theorem needs_any (o : Oper) (p : Nat → Bool) : o.after.any (fun e => Region.binds md e && p e.on) = (needsOf md o).any p := by
  unfold needsOf
  rw [← Array.any_toList]
  induction o.after.toList with
  | nil => rfl
  | cons e r ih =>
    rw [List.any_cons, ih, List.filter_cons]
    cases h : Region.binds md e <;> simp
theorem rtab_length : (rtab md ops).2.length = ops.size := by simp [rtab]
theorem rtab_some {o : Oper} (h : ops[i]? = some o) : (rtab md ops).2[i]? = some (needsOf md o, clashOf md ops i o) := by
  have hi := (Array.getElem?_eq_some_iff.1 h).1
  unfold rtab
  rw [List.getElem?_map, List.getElem?_range hi, Option.map_some, h]
theorem rtab_none (h : ops[i]? = none) : (rtab md ops).2[i]? = none := by
  have hi : ops.size ≤ i := Array.getElem?_eq_none_iff.1 h
  exact List.getElem?_eq_none (by rw [rtab_length]; exact hi)
theorem readyAt_eq : readyAt (rtab md ops).2 l.toList i = (!l.getD i true && ((ops[i]?).map (·.after.all fun e => !Region.binds md e || l.getD e.on false)).getD false) := by
  unfold readyAt
  rw [gd]
  cases h : ops[i]? with
  | none => rw [rtab_none h]; rfl
  | some o =>
    rw [rtab_some h]
    simp only [Option.map_some, Option.getD_some]
    rw [← needs_all]
    simp only [gd]
theorem ready_eq : Region.ready md ops l = readyT (rtab md ops).2 l.toList := by
  unfold Region.ready readyT
  rw [rtab_length]
  refine List.filter_congr (fun i _ => ?_)
  rw [readyAt_eq]
theorem free_eq : Region.free md ops l i = freeT (rtab md ops).2 l.toList i := by
  unfold Region.free freeT
  cases h : ops[i]? with
  | none => rw [rtab_none h]
  | some oi =>
    rw [rtab_some h]
    simp only [clashOf]
    rw [List.all_filter]
    congr 1
    funext j
    rw [gd]
    cases hj : ops[j]? with
    | none => cases (j == i) <;> cases (l.toList.getD j true) <;> simp
    | some oj =>
      cases (j == i) <;> cases (l.toList.getD j true) <;> cases (oj.after.any (fun e => Region.binds md e && e.on == i) || oi.apart ops oj) <;> simp_all
theorem closed_eq : Region.closedB md ops l = closedT (rtab md ops).2 l.toList := by
  unfold Region.closedB closedT
  rw [rtab_length]
  congr 1
  funext j
  rw [gd]
  cases h : ops[j]? with
  | none => rw [rtab_none h]
  | some o =>
    rw [rtab_some h]
    simp only
    rw [← needs_all]
    simp only [gd]
theorem reach_eq : ∀ (fuel d : Nat), Region.reachB md ops i fuel d = reachT (rtab md ops).2 i fuel d
  | 0, _ => rfl
  | fuel + 1, d => by
    unfold Region.reachB reachT
    cases h : ops[d]? with
    | none => rw [rtab_none h]
    | some o =>
      rw [rtab_some h]
      simp only
      rw [← needs_any]
      congr 1
      funext e
      rw [reach_eq fuel]
theorem last_eq : Region.lastB md ops l ds i = lastT (rtab md ops).2 l.toList ds i := by
  unfold Region.lastB lastT
  rw [rtab_length]
  congr 1
  funext d
  rw [gd, reach_eq]
theorem readyAt_mem (h : readyAt T.2 l.toList i = true) (hT : rtab md ops = T) : (Region.ready md ops l).contains i = true := by
  subst hT
  rw [ready_eq]
  unfold readyT
  rw [List.contains_iff_mem, List.mem_filter, List.mem_range]
  refine ⟨?_, h⟩
  unfold readyAt at h
  rw [Bool.and_eq_true] at h
  cases hq : (rtab md ops).2[i]? with
  | none => rw [hq] at h; simp at h
  | some r => exact (List.getElem?_eq_some_iff.1 hq).1
theorem set_of (h : (l.toList.set i true == l'.toList) = true) : (l.setIfInBounds i true == l') = true := by
  rw [beq_iff_eq] at h ⊢
  apply Array.ext'
  rw [Array.toList_setIfInBounds]
  exact h
def anyT (T : Bool × List (List Nat × List Nat)) (l l' : List Bool) (i : Nat) : Bool := T.1 && freeT T.2 l i && readyAt T.2 l i && (l.set i true == l')
theorem any_of (hT : rtab md ops = T) (h : anyT T l.toList l'.toList i = true) : anyB md ops l l' i = true := by
  simp only [anyT, Bool.and_eq_true] at h
  obtain ⟨⟨⟨h1, h2⟩, h3⟩, h4⟩ := h
  have h5 := readyAt_mem h3 hT
  have h6 := set_of h4
  subst hT
  simp only [anyB, Bool.and_eq_true]
  exact ⟨⟨⟨h1, by rw [free_eq]; exact h2⟩, h5⟩, h6⟩
def takeT (T : Bool × List (List Nat × List Nat)) (ds : List Nat) (l l' : List Bool) (i : Nat) : Bool := T.1 && freeT T.2 l i && readyAt T.2 l i && closedT T.2 l && lastT T.2 l ds i && (l.set i true == l')
theorem take_of (hT : rtab md ops = T) (h : takeT T ds l.toList l'.toList i = true) : takeB md ops ds l l' i = true := by
  simp only [takeT, Bool.and_eq_true] at h
  obtain ⟨⟨⟨⟨⟨h1, h2⟩, h3⟩, h4⟩, h5⟩, h6⟩ := h
  have h7 := readyAt_mem h3 hT
  have h8 := set_of h6
  subst hT
  simp only [takeB, Bool.and_eq_true]
  exact ⟨⟨⟨⟨⟨h1, by rw [free_eq]; exact h2⟩, h7⟩, by rw [closed_eq]; exact h4⟩, by rw [last_eq]; exact h5⟩, h8⟩
theorem one_of (hT : rtab md ops = T) (h : (readyT T.2 l.toList == [i] && l.toList.set i true == l'.toList) = true) : readyB md ops l l' i = true := by
  simp only [Bool.and_eq_true] at h
  obtain ⟨h1, h2⟩ := h
  subst hT
  simp only [readyB, Bool.and_eq_true]
  exact ⟨by rw [ready_eq]; exact h1, set_of h2⟩
theorem two_of (hT : rtab md ops = T) (h : (readyT T.2 l.toList == [i, j] && l.toList.set i true == li.toList && l.toList.set j true == lj.toList) = true) : (Region.ready md ops l == [i, j] && l.setIfInBounds i true == li && l.setIfInBounds j true == lj) = true := by
  simp only [Bool.and_eq_true] at h ⊢
  obtain ⟨⟨h1, h2⟩, h3⟩ := h
  subst hT
  exact ⟨⟨by rw [ready_eq]; exact h1, set_of h2⟩, set_of h3⟩
theorem done_of (hT : rtab md ops = T) (h : (readyT T.2 l.toList == []) = true) : (Region.ready md ops l == []) = true := by
  subst hT
  rw [ready_eq]
  exact h
def upM (B : List Nat) (d : Nat) : List Nat → Nat
  | [] => 0
  | n :: r => (2 ^ n ||| (if n < d then B.getD n 0 else 0)) ||| upM B d r
def waitsOk (T : List (List Nat × List Nat)) (B : List Nat) : Bool := (List.range T.length).all fun d => match T[d]? with
  | some r => (B.getD d 0 ||| upM B d r.1) == upM B d r.1
  | none => false
theorem upM_bit {B : List Nat} {d i : Nat} : ∀ {ns : List Nat}, (upM B d ns).testBit i = true → ∃ n ∈ ns, n = i ∨ (n < d ∧ (B.getD n 0).testBit i = true)
  | [], h => by simp [upM] at h
  | n :: r, h => by
    unfold upM at h
    rw [Nat.testBit_or, Nat.testBit_or, Bool.or_eq_true, Bool.or_eq_true] at h
    rcases h with (h | h) | h
    · rw [Nat.testBit_two_pow] at h
      exact ⟨n, List.mem_cons_self, .inl (by simpa using h)⟩
    · by_cases hn : n < d
      · rw [if_pos hn] at h
        exact ⟨n, List.mem_cons_self, .inr ⟨hn, h⟩⟩
      · rw [if_neg hn] at h
        simp at h
    · obtain ⟨m, hm, h2⟩ := upM_bit h
      exact ⟨m, List.mem_cons_of_mem _ hm, h2⟩
theorem reach_bit {T : List (List Nat × List Nat)} {B : List Nat} (hB : waitsOk T B = true) : ∀ (fuel d : Nat), d < fuel → d < T.length → (B.getD d 0).testBit i = true → reachT T i fuel d = true
  | 0, d, h, _, _ => by omega
  | fuel + 1, d, h, hd, hb => by
    have h1 := List.all_eq_true.1 hB d (List.mem_range.2 hd)
    cases hr : T[d]? with
    | none => rw [hr] at h1; simp at h1
    | some r =>
      rw [hr] at h1
      simp only [beq_iff_eq] at h1
      have h2 : (upM B d r.1).testBit i = true := by rw [← h1, Nat.testBit_or, hb, Bool.true_or]
      obtain ⟨n, hn, h3⟩ := upM_bit h2
      unfold reachT
      rw [hr]
      simp only
      rw [List.any_eq_true]
      refine ⟨n, hn, ?_⟩
      rcases h3 with rfl | ⟨h4, h5⟩
      · simp
      · rw [reach_bit hB fuel n (by omega) (by omega) h5, Bool.or_true]
def lastW (T : List (List Nat × List Nat)) (B : List Nat) (l : List Bool) (ds : List Nat) (i : Nat) : Bool := ds.all fun d => l.getD d true || (decide (d < T.length) && (B.getD d 0).testBit i)
def takeW (T : Bool × List (List Nat × List Nat)) (B : List Nat) (ds : List Nat) (l l' : List Bool) (i : Nat) : Bool := T.1 && freeT T.2 l i && readyAt T.2 l i && closedT T.2 l && lastW T.2 B l ds i && (l.set i true == l')
theorem take_ofW {B : List Nat} (hT : rtab md ops = T) (hB : waitsOk T.2 B = true) (h : takeW T B ds l.toList l'.toList i = true) : takeB md ops ds l l' i = true := by
  refine take_of hT ?_
  simp only [takeW, takeT, Bool.and_eq_true] at h ⊢
  obtain ⟨⟨⟨⟨⟨h1, h2⟩, h3⟩, h4⟩, h5⟩, h6⟩ := h
  refine ⟨⟨⟨⟨⟨h1, h2⟩, h3⟩, h4⟩, ?_⟩, h6⟩
  unfold lastW at h5
  unfold lastT
  rw [List.all_eq_true] at h5 ⊢
  intro d hd
  have h7 := h5 d hd
  rw [Bool.or_eq_true, Bool.and_eq_true, decide_eq_true_eq] at h7
  rcases h7 with h7 | ⟨h8, h9⟩
  · rw [h7, Bool.true_or]
  · rw [reach_bit hB _ d h8 h8 h9, Bool.or_true]
theorem with_tabW {P : Program} {Q : Exit → Act → World → Prop} {S : World → Prop} {n : Nat} {a : Act} {w : World} {B : List Nat} (hT : rtab md ops = T) (hB : waitsOk T.2 B = true) (h : Aside0 (rtab md ops = T) → Aside0 (waitsOk T.2 B = true) → wpAnyLast P md ops Q S ds n l a w) : wpAnyLast P md ops Q S ds n l a w := h ⟨hT⟩ ⟨hB⟩
end
def opsIn : Code → Nat → Option (Array Oper)
  | .region id ops _, k => if id == k then some ops else none
  | .seq a b, k => match opsIn a k with
    | some o => some o
    | none => opsIn b k
  | .cond _ a b, k => match opsIn a k with
    | some o => some o
    | none => opsIn b k
  | .block _ c, k => opsIn c k
  | .loop c, k => opsIn c k
  | .scope c, k => opsIn c k
  | .rangeFunc _ _ a b, k => match opsIn a k with
    | some o => some o
    | none => opsIn b k
  | _, _ => none
def opsOf (f : Func) (k : Nat) : Array Oper := ((f.body.bind fun c => opsIn c k)).getD #[]
end Go.Proofs.YtfbggdlidelliaaW.PrintLast
namespace Go.Proofs.YtfbggdlidelliaaW.PrintWords
theorem Reps.one {α : Type} {R : α → List Value → Prop} {ps : List α} {cs : List Value} {p : α} {v : Value} (hp : R p [v]) (h : Reps R 1 ps cs) : Reps R 1 (p :: ps) (v :: cs) := by
  refine ⟨by simp [h.1], fun j q hq => ?_⟩
  cases j with
  | zero =>
    simp only [List.getElem?_cons_zero, Option.some.injEq] at hq
    subst hq
    simpa using hp
  | succ j =>
    simp only [List.getElem?_cons_succ] at hq
    have h1 := h.2 j q hq
    simpa [Nat.mul_one] using h1
theorem Reps.front {α : Type} {R : α → List Value → Prop} {size : Nat} {ps : List α} {cs c all : List Value} {p : α} (hp : R p c) (hc : c.length = size) (h : Reps R size ps cs) (ha : c ++ cs = all) : Reps R size (p :: ps) all := by
  subst ha
  refine ⟨by rw [List.length_append, hc, h.1, List.length_cons, Nat.succ_mul, Nat.add_comm], fun j q hq => ?_⟩
  cases j with
  | zero =>
    simp only [List.getElem?_cons_zero, Option.some.injEq] at hq
    subst hq
    rw [Nat.zero_mul, List.drop_zero, List.take_append_of_le_length (by omega), List.take_of_length_le (by omega)]
    exact hp
  | succ j =>
    simp only [List.getElem?_cons_succ] at hq
    have h1 := h.2 j q hq
    rw [Nat.succ_mul, List.drop_append, List.drop_of_length_le (by rw [hc]; exact Nat.le_add_left _ _), List.nil_append, hc, Nat.add_sub_cancel]
    exact h1
theorem Reps.c2 {α : Type} {R : α → List Value → Prop} {ps : List α} {cs : List Value} {p : α} {va vb : Value} (hp : R p [va, vb]) (h : Reps R 2 ps cs) : Reps R 2 (p :: ps) (va :: vb :: cs) := Reps.front hp rfl h rfl
theorem Reps.c3 {α : Type} {R : α → List Value → Prop} {ps : List α} {cs : List Value} {p : α} {va vb vc : Value} (hp : R p [va, vb, vc]) (h : Reps R 3 ps cs) : Reps R 3 (p :: ps) (va :: vb :: vc :: cs) := Reps.front hp rfl h rfl
theorem Reps.c4 {α : Type} {R : α → List Value → Prop} {ps : List α} {cs : List Value} {p : α} {va vb vc vd : Value} (hp : R p [va, vb, vc, vd]) (h : Reps R 4 ps cs) : Reps R 4 (p :: ps) (va :: vb :: vc :: vd :: cs) := Reps.front hp rfl h rfl
theorem Reps.c5 {α : Type} {R : α → List Value → Prop} {ps : List α} {cs : List Value} {p : α} {va vb vc vd ve : Value} (hp : R p [va, vb, vc, vd, ve]) (h : Reps R 5 ps cs) : Reps R 5 (p :: ps) (va :: vb :: vc :: vd :: ve :: cs) := Reps.front hp rfl h rfl
theorem Reps.c6 {α : Type} {R : α → List Value → Prop} {ps : List α} {cs : List Value} {p : α} {va vb vc vd ve vf : Value} (hp : R p [va, vb, vc, vd, ve, vf]) (h : Reps R 6 ps cs) : Reps R 6 (p :: ps) (va :: vb :: vc :: vd :: ve :: vf :: cs) := Reps.front hp rfl h rfl
theorem Reps.c7 {α : Type} {R : α → List Value → Prop} {ps : List α} {cs : List Value} {p : α} {va vb vc vd ve vf vg : Value} (hp : R p [va, vb, vc, vd, ve, vf, vg]) (h : Reps R 7 ps cs) : Reps R 7 (p :: ps) (va :: vb :: vc :: vd :: ve :: vf :: vg :: cs) := Reps.front hp rfl h rfl
theorem Reps.c8 {α : Type} {R : α → List Value → Prop} {ps : List α} {cs : List Value} {p : α} {va vb vc vd ve vf vg vh : Value} (hp : R p [va, vb, vc, vd, ve, vf, vg, vh]) (h : Reps R 8 ps cs) : Reps R 8 (p :: ps) (va :: vb :: vc :: vd :: ve :: vf :: vg :: vh :: cs) := Reps.front hp rfl h rfl
theorem Reps.c9 {α : Type} {R : α → List Value → Prop} {ps : List α} {cs : List Value} {p : α} {va vb vc vd ve vf vg vh vi : Value} (hp : R p [va, vb, vc, vd, ve, vf, vg, vh, vi]) (h : Reps R 9 ps cs) : Reps R 9 (p :: ps) (va :: vb :: vc :: vd :: ve :: vf :: vg :: vh :: vi :: cs) := Reps.front hp rfl h rfl
theorem Reps.c10 {α : Type} {R : α → List Value → Prop} {ps : List α} {cs : List Value} {p : α} {va vb vc vd ve vf vg vh vi vj : Value} (hp : R p [va, vb, vc, vd, ve, vf, vg, vh, vi, vj]) (h : Reps R 10 ps cs) : Reps R 10 (p :: ps) (va :: vb :: vc :: vd :: ve :: vf :: vg :: vh :: vi :: vj :: cs) := Reps.front hp rfl h rfl
end Go.Proofs.YtfbggdlidelliaaW.PrintWords
namespace Go.Proofs.YtfbggdlidelliaaW.PrintWords
open Go.RowKit
section
variable {P : Program} {ops : Array Oper} {rest : List Oper} {o : Oper} {a : Act} {Q : Exit → Act → World → Prop} {W : World}
theorem gate_guard (hw : Region.wanted o (yielded ops a.tmps) = true) (h : wpList P ops Q ({ o with guard := none } :: rest) a W) : wpList P ops Q (o :: rest) a W := by
  have h1 : Region.wanted { o with guard := none } (yielded ops a.tmps) = true := rfl
  unfold wpList at h ⊢
  rw [if_pos h1] at h
  rw [if_pos hw]
  exact h
end
end Go.Proofs.YtfbggdlidelliaaW.PrintWords
namespace Go.Proofs.Ytfbggdlidelliaa.P
open Go.RowKit Go.Proofs.YtfbggdlidelliaaW.PrintWords Go.Proofs.YtfbggdlidelliaaW.PrintLast Go.Proofs.YtfbggdlidelliaaW.PrintMore
attribute [local go_sem] min2_int min_two
set_option linter.unusedVariables false
set_option linter.unusedSimpArgs false
def errW : Option Int → Value
  | none => .nilIface
  | some c => .iface 0 (.int .i64 c)
theorem errW_none : errW none = .nilIface := rfl
theorem errW_some (c : Int) : errW (some c) = .iface 0 (.int .i64 c) := rfl
theorem info3 : (Try.prog.info? 3).map (fun i => (i.zero, i.size, i.bytes)) = some (some (.int .i64 0), 1, 8) := by kernel_rfl
theorem info5 : (Try.prog.info? 5).map (fun i => (i.zero, i.size, i.bytes)) = some (some (.int .u8 0), 1, 1) := by kernel_rfl
theorem info9 : (Try.prog.info? 9).map (fun i => (i.zero, i.size, i.bytes)) = some (some (.string ⟨#[]⟩), 1, 16) := by kernel_rfl
def arr8 (xs : List Int) : Value := .agg (nums .u8 xs).toArray
theorem nums_at {k : IntKind} {xs : List Int} {j : Nat} (h : j < xs.length) : (nums k xs).toArray[j]? = some (.int k xs[j]) := by
  simp [nums, h]
theorem nums_set (k : IntKind) (xs : List Int) (j : Nat) (v : Int) : (nums k xs).toArray.setIfInBounds j (.int k v) = (nums k (xs.set j v)).toArray := by
  simp [nums, List.map_set]
theorem nums_one (k : IntKind) (xs : List Int) : (nums k xs).toArray.all (·.oneCell') = true :=
  all_oneCell_toArray (fun v hv => by
    obtain ⟨x, _, rfl⟩ := List.mem_map.1 hv
    rfl)
theorem blk_new2 (w : World) (o1 o2 : Obj) : ((w.alloc o1).alloc o2).heap[w.heap.size + 1]? = some o2 := by simpa using blk_new (w.alloc o1) o2
theorem blk_new3 (w : World) (o1 o2 o3 : Obj) : (((w.alloc o1).alloc o2).alloc o3).heap[w.heap.size + 1 + 1]? = some o3 := by simpa using blk_new ((w.alloc o1).alloc o2) o3
theorem blk_new4 (w : World) (o1 o2 o3 o4 : Obj) : ((((w.alloc o1).alloc o2).alloc o3).alloc o4).heap[w.heap.size + 1 + 1 + 1]? = some o4 := by simpa using blk_new (((w.alloc o1).alloc o2).alloc o3) o4
theorem below_row {B : Nat} {w w1 : World} {g : Nat} (h : Below B w w1) (hg : B ≤ g) (cs : Array Value) : Below B w (w1.setRow g cs) :=
  ⟨h.os, h.tape, h.output, by rw [setRow_size]; exact h.size, fun i hi => by rw [setRow_other _ _ _ _ (by omega)]; exact h.block i hi⟩
theorem C_one_string {W : World} {g : Nat} {s : ByteArray} {T : TypeId} {fr : Nat × Nat} (h : W.heap[g]? = some (.cells #[.string s] T fr)) : Kd.C Kd.string W (some ⟨g, 0, none⟩) 1 [s] := by
  refine ⟨rfl, by decide, fun _ => ⟨⟨g, 0, none⟩, rfl, fun j p hj => ?_⟩⟩
  match j, hj with
  | 0, hj =>
    obtain rfl : s = p := by simpa using hj
    refine ⟨[.string s], rfl, rfl, fun i u hu => ?_⟩
    match i, hu with
    | 0, hu =>
      obtain rfl : Value.string s = u := by simpa using hu
      rw [add_plain]
      simpa using cell_of_row W g 0 _ _ _ h
theorem C_two_string {W : World} {g : Nat} {s t : ByteArray} {T : TypeId} {fr : Nat × Nat} (h : W.heap[g]? = some (.cells #[.string s, .string t] T fr)) : Kd.C Kd.string W (some ⟨g, 0, none⟩) 2 [s, t] := by
  refine ⟨rfl, by decide, fun _ => ⟨⟨g, 0, none⟩, rfl, fun j p hj => ?_⟩⟩
  match j, hj with
  | 0, hj =>
    obtain rfl : s = p := by simpa using hj
    refine ⟨[.string s], rfl, rfl, fun i u hu => ?_⟩
    match i, hu with
    | 0, hu =>
      obtain rfl : Value.string s = u := by simpa using hu
      rw [add_plain]
      simpa using cell_of_row W g 0 _ _ _ h
  | 1, hj =>
    obtain rfl : t = p := by simpa using hj
    refine ⟨[.string t], rfl, rfl, fun i u hu => ?_⟩
    match i, hu with
    | 0, hu =>
      obtain rfl : Value.string t = u := by simpa using hu
      rw [add_plain]
      show W.cell? ⟨g, 1, none⟩ = _
      simpa using cell_of_row W g 1 _ _ _ h
theorem run_index_agg {P : Program} {T E : TypeId} {xs : List Int} {n : Nat} (hT : P.underlying T = some (.array n E)) (hu : P.underlying E = some (.int .u8)) (hE : (P.info? E).map (·.size) = some 1) (k : Nat) (hk : k < n) (hl : xs.length = n) (w : World) :
    (Instr.index T (.agg (nums .u8 xs).toArray) (.int .i64 (k : Int))).run P w = .ok (.int .u8 (xs.getD k 0)) w := by
  cases hq : P.info? E with
  | none => simp [hq] at hE
  | some i =>
    have hs : i.size = 1 := by simpa [hq] using hE
    have hk2 : k < xs.length := by omega
    simp [Instr.index, asIntOf, Sem.run_bind, run_underlying hT, run_underlying hu, sizeOf, typeInfo, hq, hs, part, isAgg, hk, nums, hk2, List.getD_eq_getElem?_getD]
end Go.Proofs.Ytfbggdlidelliaa.P
namespace Go.Proofs.Ytfbggdlidelliaa.P
open Go.RowKit Go.Proofs.YtfbggdlidelliaaW.PrintWords Go.Proofs.YtfbggdlidelliaaW.PrintLast Go.Proofs.YtfbggdlidelliaaW.PrintMore
attribute [local go_sem] min2_int min_two
set_option linter.unusedVariables false
set_option linter.unusedSimpArgs false
def spec_l01Key.f (a0 : ByteArray) : Option (Bool) := if (a0.size : Int) = 16 then (some true) else (some ((a0.size : Int) == 32))
set_option maxHeartbeats 8000000 in
set_option maxRecDepth 100000 in
theorem spec_l01Key.calls (a0 : ByteArray) (r : Bool) (w : World) (h : spec_l01Key.f a0 = some r) :
    Calls Try.prog 39 #[.string a0] w fun e w' => e = .returned (.bool r) ∧ Drawn0 w w' := by
  have H : (if (a0.size : Int) = 16 then (some true) else (some ((a0.size : Int) == 32))) = some r := h
  clear h
  by_cases c2 : (a0.size : Int) = 16
  · rw [if_pos c2] at H
    have c2b0 : ((a0.size : Int) == 16) = true := beq_iff_eq.mpr c2
    have c2b1 : ((a0.size : Int) != 16) = false := bne_eq_false_iff_eq.mpr c2
    clear c2
    obtain rfl := Option.some.inj H
    go_enter Try.func39, Try.ntmps39
    go_wp2
    go_ret
    exact ⟨by first | rfl | (simp; done) | (simp [*]; done), by repeat (first | exact Drawn0.refl _ | apply Drawn0.step)⟩
  · rw [if_neg c2] at H
    have c2b0 : ((a0.size : Int) == 16) = false := beq_eq_false_iff_ne.mpr c2
    have c2b1 : ((a0.size : Int) != 16) = true := bne_iff_ne.mpr c2
    obtain rfl := Option.some.inj H
    go_enter Try.func39, Try.ntmps39
    go_wp2
    go_ret
    exact ⟨by first | rfl | (simp; done) | (simp [*]; done), by repeat (first | exact Drawn0.refl _ | apply Drawn0.step)⟩
def spec_l01Mul.l0 : Nat → Int → Int → Int → Int → Option (Int)
  | 0, _, _, _, _ => none
  | k + 1, x0, x1, x5, x6 => if x6 < 8 then (if 0 ≤ (IntKind.u64.wrap (x6)) then (if (Go.bits .and .i64 (shr .i64 x1 (IntKind.u64.wrap (x6))) 1) = 1 then (if (wrap64 (x0 * 2)) > 255 then (spec_l01Mul.l0 k (Go.bits .xor .i64 (wrap64 (x0 * 2)) 283) x1 (Go.bits .xor .i64 x5 x0) (wrap64 (x6 + 1))) else (spec_l01Mul.l0 k (wrap64 (x0 * 2)) x1 (Go.bits .xor .i64 x5 x0) (wrap64 (x6 + 1)))) else (if (wrap64 (x0 * 2)) > 255 then (spec_l01Mul.l0 k (Go.bits .xor .i64 (wrap64 (x0 * 2)) 283) x1 x5 (wrap64 (x6 + 1))) else (spec_l01Mul.l0 k (wrap64 (x0 * 2)) x1 x5 (wrap64 (x6 + 1))))) else (none)) else (some x5)
def spec_l01Mul.f (k : Nat) (a0 : Int) (a1 : Int) : Option (Int) := spec_l01Mul.l0 k a0 a1 0 0
set_option maxHeartbeats 8000000 in
set_option maxRecDepth 100000 in
theorem spec_l01Mul.calls (k : Nat) (a0 : Int) (a1 : Int) (r : Int) (w : World) (h : spec_l01Mul.f k a0 a1 = some r) :
    Calls Try.prog 67 #[.int .i64 a0, .int .i64 a1] w fun e w' => e = .returned (.int .i64 r) ∧ Drawn0 w w' := by
  have H : (spec_l01Mul.l0 k a0 a1 0 0) = some r := h
  clear h
  have H' := Aside0.mk H
  clear H
  go_enter Try.func67, Try.ntmps67
  go_wp2
  go_loopg [0, 5, 6] k (fun kq v0 v5 v6 w' => ∃ (x0_1 : Int) (x5_1 : Int) (x6_1 : Int), v0 = .int .i64 x0_1 ∧ v5 = .int .i64 x5_1 ∧ v6 = .int .i64 x6_1 ∧ Aside0 (spec_l01Mul.l0 kq x0_1 a1 x5_1 x6_1 = some r) ∧ Aside0 (kq ≤ k) ∧ Drawn0 w w')
  case atStart => exact ⟨(a0), (0), (0), (by first | rfl | (simp; done) | (simp [*]; done)), (by first | rfl | (simp; done) | (simp [*]; done)), (by first | rfl | (simp; done) | (simp [*]; done)), H', ⟨Nat.le_refl _⟩, by repeat (first | exact Drawn0.refl _ | apply Drawn0.step)⟩
  case round =>
    clear H'
    try clear p2
    obtain ⟨x0_1, x5_1, x6_1, rfl, rfl, rfl, HA, HK1, ⟨m1, rfl⟩⟩ := hrel
    cases gk with
    | zero => exact absurd HA.out (by simp [spec_l01Mul.l0])
    | succ k1 =>
      have H := HA.out
      clear HA
      simp only [spec_l01Mul.l0] at H
      by_cases c3 : x6_1 < 8
      · rw [if_pos c3] at H
        have c3b0 : decide (x6_1 < 8) = true := decide_eq_true c3
        clear c3
        obtain ⟨ji4, hji4⟩ : ∃ j_ : Int, (IntKind.u64.wrap (x6_1)) = j_ := ⟨_, rfl⟩
        replace H : (if 0 ≤ (ji4) then (if (Go.bits .and .i64 (shr .i64 a1 (ji4)) 1) = 1 then (if (wrap64 (x0_1 * 2)) > 255 then (spec_l01Mul.l0 k1 (Go.bits .xor .i64 (wrap64 (x0_1 * 2)) 283) a1 (Go.bits .xor .i64 x5_1 x0_1) (wrap64 (x6_1 + 1))) else (spec_l01Mul.l0 k1 (wrap64 (x0_1 * 2)) a1 (Go.bits .xor .i64 x5_1 x0_1) (wrap64 (x6_1 + 1)))) else (if (wrap64 (x0_1 * 2)) > 255 then (spec_l01Mul.l0 k1 (Go.bits .xor .i64 (wrap64 (x0_1 * 2)) 283) a1 x5_1 (wrap64 (x6_1 + 1))) else (spec_l01Mul.l0 k1 (wrap64 (x0_1 * 2)) a1 x5_1 (wrap64 (x6_1 + 1))))) else (none)) = some r := by first | (rw [hji4] at H; exact H) | (simp only [hji4] at H ⊢; exact H)
        by_cases c5 : 0 ≤ (ji4)
        · rw [if_pos c5] at H
          have c5b0 := eq_true c5
          have c5b1 : decide (0 ≤ (ji4)) = true := decide_eq_true c5
          clear c5
          obtain ⟨ji6, hji6⟩ : ∃ j_ : Int, (shr .i64 a1 (ji4)) = j_ := ⟨_, rfl⟩
          replace H : (if (Go.bits .and .i64 (ji6) 1) = 1 then (if (wrap64 (x0_1 * 2)) > 255 then (spec_l01Mul.l0 k1 (Go.bits .xor .i64 (wrap64 (x0_1 * 2)) 283) a1 (Go.bits .xor .i64 x5_1 x0_1) (wrap64 (x6_1 + 1))) else (spec_l01Mul.l0 k1 (wrap64 (x0_1 * 2)) a1 (Go.bits .xor .i64 x5_1 x0_1) (wrap64 (x6_1 + 1)))) else (if (wrap64 (x0_1 * 2)) > 255 then (spec_l01Mul.l0 k1 (Go.bits .xor .i64 (wrap64 (x0_1 * 2)) 283) a1 x5_1 (wrap64 (x6_1 + 1))) else (spec_l01Mul.l0 k1 (wrap64 (x0_1 * 2)) a1 x5_1 (wrap64 (x6_1 + 1))))) = some r := by first | (rw [hji6] at H; exact H) | (simp only [hji6] at H ⊢; exact H)
          have hji6_ : (a1 / 2 ^ min (ji4).toNat 64) = ji6 := hji6
          have hji6z : (ji4) ≤ 64 → (a1 / 2 ^ (ji4).toNat) = ji6 := shr_small hji6
          by_cases c7 : (Go.bits .and .i64 (ji6) 1) = 1
          · rw [if_pos c7] at H
            have c7b0 : ((Go.bits .and .i64 (ji6) 1) == 1) = true := beq_iff_eq.mpr c7
            have c7b1 : ((Go.bits .and .i64 (ji6) 1) != 1) = false := bne_eq_false_iff_eq.mpr c7
            clear c7
            by_cases c8 : (wrap64 (x0_1 * 2)) > 255
            · rw [if_pos c8] at H
              have c8b0 : decide (255 < (wrap64 (x0_1 * 2))) = true := decide_eq_true c8
              clear c8
              have H' := Aside0.mk H
              clear H
              go_wp2
              go_roundg k1
              case measure => have := HK1.out; omega
              case rel => exact ⟨(Go.bits .xor .i64 (wrap64 (x0_1 * 2)) 283), (Go.bits .xor .i64 x5_1 x0_1), (wrap64 (x6_1 + 1)), (by first | rfl | (simp; done) | (simp [*]; done)), (by first | rfl | (simp; done) | (simp [*]; done)), (by first | rfl | (simp; done) | (simp [*]; done)), H', ⟨by have := HK1.out; omega⟩, by repeat (first | exact Drawn0.refl _ | apply Drawn0.step)⟩
            · rw [if_neg c8] at H
              have c8b0 : decide (255 < (wrap64 (x0_1 * 2))) = false := decide_eq_false c8
              clear c8
              have H' := Aside0.mk H
              clear H
              go_wp2
              go_roundg k1
              case measure => have := HK1.out; omega
              case rel => exact ⟨(wrap64 (x0_1 * 2)), (Go.bits .xor .i64 x5_1 x0_1), (wrap64 (x6_1 + 1)), (by first | rfl | (simp; done) | (simp [*]; done)), (by first | rfl | (simp; done) | (simp [*]; done)), (by first | rfl | (simp; done) | (simp [*]; done)), H', ⟨by have := HK1.out; omega⟩, by repeat (first | exact Drawn0.refl _ | apply Drawn0.step)⟩
          · rw [if_neg c7] at H
            have c7b0 : ((Go.bits .and .i64 (ji6) 1) == 1) = false := beq_eq_false_iff_ne.mpr c7
            have c7b1 : ((Go.bits .and .i64 (ji6) 1) != 1) = true := bne_iff_ne.mpr c7
            by_cases c9 : (wrap64 (x0_1 * 2)) > 255
            · rw [if_pos c9] at H
              have c9b0 : decide (255 < (wrap64 (x0_1 * 2))) = true := decide_eq_true c9
              clear c9
              have H' := Aside0.mk H
              clear H
              go_wp2
              go_roundg k1
              case measure => have := HK1.out; omega
              case rel => exact ⟨(Go.bits .xor .i64 (wrap64 (x0_1 * 2)) 283), (x5_1), (wrap64 (x6_1 + 1)), (by first | rfl | (simp; done) | (simp [*]; done)), (by first | rfl | (simp; done) | (simp [*]; done)), (by first | rfl | (simp; done) | (simp [*]; done)), H', ⟨by have := HK1.out; omega⟩, by repeat (first | exact Drawn0.refl _ | apply Drawn0.step)⟩
            · rw [if_neg c9] at H
              have c9b0 : decide (255 < (wrap64 (x0_1 * 2))) = false := decide_eq_false c9
              clear c9
              have H' := Aside0.mk H
              clear H
              go_wp2
              go_roundg k1
              case measure => have := HK1.out; omega
              case rel => exact ⟨(wrap64 (x0_1 * 2)), (x5_1), (wrap64 (x6_1 + 1)), (by first | rfl | (simp; done) | (simp [*]; done)), (by first | rfl | (simp; done) | (simp [*]; done)), (by first | rfl | (simp; done) | (simp [*]; done)), H', ⟨by have := HK1.out; omega⟩, by repeat (first | exact Drawn0.refl _ | apply Drawn0.step)⟩
        · rw [if_neg c5] at H
          exact absurd H (by simp)
      · rw [if_neg c3] at H
        have c3b0 : decide (x6_1 < 8) = false := decide_eq_false c3
        clear c3
        obtain rfl := Option.some.inj H
        go_wp2
        go_ret
        exact ⟨by first | rfl | (simp; done) | (simp [*]; done), by repeat (first | exact Drawn0.refl _ | apply Drawn0.step)⟩
end Go.Proofs.Ytfbggdlidelliaa.P

/- Words of this session: texts filled up and what is left of them; a text appended to a row of the call's own. -/
import Derived.Test.YtfbggdlidelliaaZCdRh
import Derived.Lib.AppendStr
import Derived.Test.YtfbggdlidelliaaZCdPstr
namespace Go.Proofs.Ytfbggdlidelliaa.P
open Go.RowKit Go.Proofs.YtfbggdlidelliaaW.PrintWords Go.Proofs.YtfbggdlidelliaaW.PrintLast Go.Proofs.YtfbggdlidelliaaW.PrintMore
set_option linter.unusedVariables false
def padL (l : List Int) : List Int := l ++ List.replicate (16 - l.length % 16) (16 - (l.length : Int) % 16)
def unpadL (l : List Int) : Option (List Int) :=
  if l.length = 0 then none else if l.length < (rd l ((l.length : Int) - 1)).toNat then none
  else if ((strOfNums (padL (l.take (l.length - (rd l ((l.length : Int) - 1)).toNat)))).toList == (strOfNums l).toList) = true then some (l.take (l.length - (rd l ((l.length : Int) - 1)).toNat)) else none
theorem suc_natW (i : Nat) (hi : i < 9223372036854775807) : wrap64 ((i : Int) + 1) = ((i + 1 : Nat) : Int) := by unfold wrap64; omega
theorem rd_natW (l : List Int) (i : Nat) (h : i < l.length) : rd l (i : Int) = l[i] := by
  simp [rd, h]
theorem rd_of_u8 {l : List Int} (w : Pg.isU8 l) (i : Int) : 0 ≤ rd l i ∧ rd l i ≤ 255 := by
  unfold rd
  rcases Nat.lt_or_ge i.toNat l.length with h | h
  · rw [List.getD_eq_getElem?_getD, List.getElem?_eq_getElem h]
    exact w _ (List.getElem_mem h)
  · rw [List.getD_eq_getElem?_getD, List.getElem?_eq_none h]
    exact ⟨by decide, by decide⟩
theorem padL_len (l : List Int) : (padL l).length = l.length + (16 - l.length % 16) := by simp [padL]
theorem padL_u8 {l : List Int} (h : Pg.isU8 l) : Pg.isU8 (padL l) := by
  intro x hx
  rcases List.mem_append.1 hx with h1 | h1
  · exact h x h1
  · have := List.eq_of_mem_replicate h1
    omega
theorem take_u8 {l : List Int} (h : Pg.isU8 l) (n : Nat) : Pg.isU8 (l.take n) := fun x hx => h x (List.mem_of_mem_take hx)
theorem wpList_append_R_string {P : Program} {W : World} {B : Nat} {w0 : World} {ops : Array Oper} {rest : List Oper} {o : Oper} {ac : Act} {Q : Exit → Act → World → Prop} (hgd : o.guard = none) (s x : Operand) (t u e : TypeId) (ho : o.op = .call { callee := .builtin .append, args := #[s, x], argTypes := #[t, u] })
    (h1 : P.underlying t = some (.slice e)) (hu : P.underlying u = some .string) (hi : (P.info? e).map (fun i => (i.zero, i.size, i.bytes)) = some (some (.int .u8 0), 1, 1))
    {v : Value} {l : List Int} (st : ByteArray) (hs : ac.eval s = v) (hv : Kd.R (Kd.int .u8) e W B (fun _ => True) v l) (hb : Below B w0 W) (hB : B ≤ W.heap.size) (hx : ac.eval x = .string st) (hfit : l.length + st.size ≤ 140737488355328) (lr : List Int) (hlr : lr = l ++ bytesL st)
    (h : ∀ v' w', Aside0 (Kd.R (Kd.int .u8) e w' B (fun _ => True) v' lr) → Aside0 (Below B w0 w') → Aside0 (B ≤ w'.heap.size) → wpList P ops Q rest (ac.put o.dst v') w') : wpList P ops Q (o :: rest) ac W := by
  subst hlr
  obtain ⟨i, h2, h3⟩ := Option.map_eq_some_iff.1 hi
  simp only [Prod.mk.injEq] at h3
  refine Lib.wpList_append_own_string W hgd s x t u ho B e i h1 hu h2 h3.1 h3.2.1 h3.2.2 v l.length (nums .u8 l) hs (Kd.own_of_R hv) st hx (Nat.le_trans hfit (by decide)) hfit hB fun v' w' k1 k2 k3 => ?_
  refine h v' w' ⟨Kd.R_of_own ?_ (fun _ _ => trivial)⟩ ⟨hb.grown k2 hB (fun k hk => own_base (Kd.own_of_R hv) k hk)⟩ ⟨Nat.le_trans hB k2.size⟩
  rw [List.length_append, bytesL_length]
  rw [strCells_nums] at k1
  have e3 : encs (Value.int .u8) (l ++ bytesL st) = nums IntKind.u8 l ++ nums IntKind.u8 (bytesL st) := by simp [nums, encs]
  rw [e3]
  exact k1
theorem opWp_append_R {P : Program} {W : World} {B : Nat} {w0 : World} {o : Oper} {ac : Act} {K : Act → World → Prop} {Q : Exit → Act → World → Prop} (hgd : o.guard = none) (s x : Operand) (t e : TypeId) (ho : o.op = .call { callee := .builtin .append, args := #[s, x], argTypes := #[t, t] })
    (h1 : P.underlying t = some (.slice e)) (hi : (P.info? e).map (fun i => (i.zero, i.size, i.bytes)) = some (some (.int .u8 0), 1, 1))
    {v : Value} {l : List Int} (r : List Int) (hs : ac.eval s = v) (hv : Kd.R (Kd.int .u8) e W B (fun _ => True) v l) (hb : Below B w0 W) (hB : B ≤ W.heap.size) (A : Option Addr) (m c : Nat) (hx : ac.eval x = .slice A m c) (hC : Kd.C (Kd.int .u8) W A m r) (hfit : l.length + m ≤ 140737488355328) (lr : List Int) (hlr : lr = l ++ r)
    (h : ∀ v' w', Kd.R (Kd.int .u8) e w' B (fun _ => True) v' lr → Below B w0 w' → W.grownBy w' v.ownBlock → (v'.ownBlock = v.ownBlock ∨ ∃ b, v'.ownBlock = some b ∧ W.heap.size ≤ b) → K (ac.put o.dst v') w') : o.wp P ac W K Q := by
  subst hlr
  have hw : Region.wanted o (yielded #[] ac.tmps) = true := by simp [Region.wanted, hgd]
  have q := Kd.R_append_rows_step (Q := Q) (Kc := K) (ops := #[]) (Kd.int .u8) (Rr := (Kd.int .u8).K W) (w0 := w0) B hw s x t e (.int .u8 0) 1 ho h1 hi rfl (by decide) (by decide) v l r A m c (fun _ => True) (fun _ => False) hs hx hv hC (fun _ _ h => h) (fun _ hk => hk.elim) (fun _ _ => trivial) hb hB (by omega) h
  rw [if_pos hw] at q
  exact q
end Go.Proofs.Ytfbggdlidelliaa.P

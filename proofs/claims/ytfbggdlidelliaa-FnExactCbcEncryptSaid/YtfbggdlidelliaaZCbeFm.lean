/- Words of this session: columns of a block changed one by one; mixing by doubling alone is mixing (no program in sight). -/
import Derived.Test.YtfbggdlidelliaaZCbeHp
import Derived.Test.YtfbggdlidelliaaZCbeAes
namespace Go.Proofs.Ytfbggdlidelliaa.P
open Go.RowKit Go.Proofs.YtfbggdlidelliaaW.PrintWords Go.Proofs.YtfbggdlidelliaaW.PrintLast Go.Proofs.YtfbggdlidelliaaW.PrintMore
set_option linter.unusedVariables false
set_option linter.unusedSimpArgs false
def colsF (F : List Int → List Int) (b : List Int) : List Int := F (b.take 4) ++ F ((b.drop 4).take 4) ++ F ((b.drop 8).take 4) ++ F ((b.drop 12).take 4)
theorem colsF_length (F : List Int → List Int) (hF : ∀ c, c.length = 4 → (F c).length = 4) (b : List Int) (hb : b.length = 16) : (colsF F b).length = 16 := by
  unfold colsF
  rw [List.length_append, List.length_append, List.length_append, hF _ (by simp; omega), hF _ (by simp; omega), hF _ (by simp; omega), hF _ (by simp; omega)]
theorem colsF_part (F : List Int → List Int) (hF : ∀ c, c.length = 4 → (F c).length = 4) (b : List Int) (hb : b.length = 16) (k j : Nat) (hk : k < 4) (hj : j < 4) : (colsF F b).getD (4 * k + j) 0 = (F ((b.drop (4 * k)).take 4)).getD j 0 := by
  have h0 := hF (b.take 4) (by simp; omega)
  have h1 := hF ((b.drop 4).take 4) (by simp; omega)
  have h2 := hF ((b.drop 8).take 4) (by simp; omega)
  unfold colsF
  simp only [List.getD_eq_getElem?_getD]
  match k, hk with
  | 0, _ => rw [List.getElem?_append_left (by simp; omega), List.getElem?_append_left (by simp; omega), List.getElem?_append_left (by omega)]; simp
  | 1, _ => rw [List.getElem?_append_left (by simp; omega), List.getElem?_append_left (by simp; omega), List.getElem?_append_right (by omega), h0]; congr 3; omega
  | 2, _ => rw [List.getElem?_append_left (by simp; omega), List.getElem?_append_right (by simp; omega), List.length_append, h0, h1]; congr 3; omega
  | 3, _ => rw [List.getElem?_append_right (by simp; omega), List.length_append, List.length_append, h0, h1, h2]; congr 3; omega
def fastL (c : List Int) : List Int := (List.range 4).map fun i => Go.bits .xor .u8 (Go.bits .xor .u8 (c.getD i 0) (Go.bits .xor .u8 (Go.bits .xor .u8 (Go.bits .xor .u8 (c.getD 0 0) (c.getD 1 0)) (c.getD 2 0)) (c.getD 3 0))) ((Gf.xt (Aes.xr (c.getD i 0) (c.getD ((i + 1) % 4) 0)).toNat : Nat) : Int)
theorem fastL_length (c : List Int) : (fastL c).length = 4 := by simp [fastL]
theorem fastL_at (c : List Int) (i : Nat) (hi : i < 4) : (fastL c).getD i 0 = Go.bits .xor .u8 (Go.bits .xor .u8 (c.getD i 0) (Go.bits .xor .u8 (Go.bits .xor .u8 (Go.bits .xor .u8 (c.getD 0 0) (c.getD 1 0)) (c.getD 2 0)) (c.getD 3 0))) ((Gf.xt (Aes.xr (c.getD i 0) (c.getD ((i + 1) % 4) 0)).toNat : Nat) : Int) := by
  simp [fastL, List.getD_eq_getElem?_getD, hi]
theorem gm_123 : ∀ x : Nat, x < 256 → Gf.gm x 1 = x ∧ Gf.gm x 2 = Gf.xt x ∧ Gf.gm x 3 = Gf.xt x ^^^ x := by decide +kernel
theorem fast_part (a b c d A B : Nat) : (a ^^^ (((a ^^^ b) ^^^ c) ^^^ d)) ^^^ (A ^^^ B) = ((A ^^^ (B ^^^ b)) ^^^ c) ^^^ d := by
  apply Nat.eq_of_testBit_eq
  intro i
  simp only [Nat.testBit_xor]
  cases a.testBit i <;> cases b.testBit i <;> cases c.testBit i <;> cases d.testBit i <;> cases A.testBit i <;> cases B.testBit i <;> rfl
theorem fast_sum (a b c d : Nat) : ((a ^^^ b) ^^^ c) ^^^ d = ((b ^^^ c) ^^^ d) ^^^ a := by
  apply Nat.eq_of_testBit_eq
  intro i
  simp only [Nat.testBit_xor]
  cases a.testBit i <;> cases b.testBit i <;> cases c.testBit i <;> cases d.testBit i <;> rfl
theorem fast_val (x0 x1 x2 x3 : Nat) (h0 : x0 < 256) (h1 : x1 < 256) (h2 : x2 < 256) (h3 : x3 < 256) (T : Nat) (hT : T = ((x0 ^^^ x1) ^^^ x2) ^^^ x3) : (x0 ^^^ T) ^^^ Gf.xt (x0 ^^^ x1) = ((Gf.gm x0 2 ^^^ Gf.gm x1 3) ^^^ Gf.gm x2 1) ^^^ Gf.gm x3 1 := by
  rw [hT, (gm_123 x0 h0).2.1, (gm_123 x1 h1).2.2, (gm_123 x2 h2).1, (gm_123 x3 h3).1, Gf.xt_lin x0 x1 h0 h1]
  exact fast_part _ _ _ _ _ _
theorem fast_mix (s : List Int) (hs : s.length = 16) (ho : Aes.ok s) : colsF fastL s = Aes.mixS Gf.mixF s := by
  refine Aes.st_is _ _ (colsF_length fastL (fun c _ => fastL_length c) s hs) fun j hj => ?_
  obtain ⟨k, i, hk, hi, rfl⟩ : ∃ k i, k < 4 ∧ i < 4 ∧ j = 4 * k + i := ⟨j / 4, j % 4, by omega, by omega, by omega⟩
  rw [colsF_part fastL (fun c _ => fastL_length c) s hs k i hk hi, fastL_at _ i hi, show (4 * k + i) / 4 = k from by omega, show (4 * k + i) % 4 = i from by omega]
  have g : ∀ q, q < 4 → ((s.drop (4 * k)).take 4).getD q 0 = s.getD (4 * k + q) 0 := fun q hq => by
    simp only [List.getD_eq_getElem?_getD, List.getElem?_take, List.getElem?_drop, if_pos hq]
  obtain ⟨x0, b0, e0⟩ := Aes.by_nat (Aes.at_by ho (4 * k + 0))
  obtain ⟨x1, b1, e1⟩ := Aes.by_nat (Aes.at_by ho (4 * k + 1))
  obtain ⟨x2, b2, e2⟩ := Aes.by_nat (Aes.at_by ho (4 * k + 2))
  obtain ⟨x3, b3, e3⟩ := Aes.by_nat (Aes.at_by ho (4 * k + 3))
  have hc : Aes.colN s k = ⟨x0, x1, x2, x3⟩ := by
    have e0' := e0; rw [Nat.add_zero] at e0'
    unfold Aes.colN; rw [e0', e1, e2, e3]; rfl
  have hsum : Go.bits .xor .u8 (Go.bits .xor .u8 (Go.bits .xor .u8 (x0 : Int) (x1 : Int)) (x2 : Int)) (x3 : Int) = ((((x0 ^^^ x1) ^^^ x2) ^^^ x3 : Nat) : Int) := by
    rw [Gf.xor_u8 x0 x1 b0 b1, Gf.xor_u8 _ x2 (Gf.xor_lt b0 b1) b2, Gf.xor_u8 _ x3 (Gf.xor_lt (Gf.xor_lt b0 b1) b2) b3]
  rw [hc, g 0 (by decide), g 1 (by decide), g 2 (by decide), g 3 (by decide), e0, e1, e2, e3, hsum]
  have one : ∀ a b c d T : Nat, a < 256 → b < 256 → c < 256 → d < 256 → T < 256 → T = ((a ^^^ b) ^^^ c) ^^^ d →
      Go.bits .xor .u8 (Go.bits .xor .u8 (a : Int) (T : Int)) ((Gf.xt (Aes.xr (a : Int) (b : Int)).toNat : Nat) : Int) = ((((Gf.gm a 2 ^^^ Gf.gm b 3) ^^^ Gf.gm c 1) ^^^ Gf.gm d 1 : Nat) : Int) := fun a b c d T ha hb hcc hd hT h => by
    rw [Aes.xr_nat a b ha hb, Int.toNat_natCast, Gf.xor_u8 a T ha hT, Gf.xor_u8 _ _ (Gf.xor_lt ha hT) (Gf.xt_lt _ (Gf.xor_lt ha hb)), fast_val a b c d ha hb hcc hd T h]
  have hTl := Gf.xor_lt (Gf.xor_lt (Gf.xor_lt b0 b1) b2) b3
  match i, hi with
  | 0, _ => rw [g 0 (by decide), g ((0 + 1) % 4) (by decide), show (0 + 1) % 4 = 1 from rfl, e0, e1]; exact one x0 x1 x2 x3 _ b0 b1 b2 b3 hTl rfl
  | 1, _ => rw [g 1 (by decide), g ((1 + 1) % 4) (by decide), show (1 + 1) % 4 = 2 from rfl, e1, e2]; exact one x1 x2 x3 x0 _ b1 b2 b3 b0 hTl (fast_sum _ _ _ _)
  | 2, _ => rw [g 2 (by decide), g ((2 + 1) % 4) (by decide), show (2 + 1) % 4 = 3 from rfl, e2, e3]; exact one x2 x3 x0 x1 _ b2 b3 b0 b1 hTl (by rw [fast_sum, fast_sum])
  | 3, _ => rw [g 3 (by decide), g ((3 + 1) % 4) (by decide), show (3 + 1) % 4 = 0 from rfl, e3, e0]; exact one x3 x0 x1 x2 _ b3 b0 b1 b2 hTl (by rw [fast_sum, fast_sum, fast_sum])
theorem bt_dataF (s : ByteArray) (j : Nat) (hj : j < s.size) : ((s.data.toList.getD j 0).toNat : Int) = bt s (j : Int) := by
  have h2 : j < s.data.toList.length := by simpa using hj
  simp [bt, hj, List.getD_eq_getElem?_getD]
  rfl
theorem bytesL_getD (s : ByteArray) (j : Nat) (hj : j < s.size) : (bytesL s).getD j 0 = bt s (j : Int) := by
  rw [← bt_dataF s j hj]
  have h2 : j < s.data.toList.length := by simpa using hj
  simp [bytesL, List.getD_eq_getElem?_getD, h2, hj]
end Go.Proofs.Ytfbggdlidelliaa.P

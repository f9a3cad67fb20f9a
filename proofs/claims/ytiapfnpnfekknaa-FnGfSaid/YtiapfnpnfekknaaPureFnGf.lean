/- For all inputs: the program's products of bytes are the reference's and keep the laws of a field; what is not nought has an inverse. No condition. -/
import Derived.Test.YtiapfnpnfekknaaPx7
import Derived.Test.YtiapfnpnfekknaaPg
import Derived.Test.YtiapfnpnfekknaaPat
namespace Go.Proofs.Ytiapfnpnfekknaa.Pure
open Go.RowKit Go.Proofs.Ytiapfnpnfekknaa.P Go.Proofs.Ytiapfnpnfekknaa.Gf Go.Proofs.Ytiapfnpnfekknaa.Pg Go.Proofs.YtiapfnpnfekknaaW.PrintWords Go.Proofs.YtiapfnpnfekknaaW.PrintLast Go.Proofs.YtiapfnpnfekknaaW.PrintMore
theorem gf_out (l0 l1 : List Int) : laws_FnGf.j0 60 l0 l1 true = some true := by
  show laws_FnGf.j0 (59 + 1) l0 l1 true = some true
  simp only [laws_FnGf.j0, if_true]
theorem imul (k a b : Nat) (ha : a < 256) (hb : b < 256) (hk : 8 < k) : impl_GfMul.f k (a : Int) (b : Int) = some (((gm a b : Nat) : Int), 0) := by
  unfold impl_GfMul.f
  rw [isByte_yes a ha, Option.bind_some, if_pos rfl, isByte_yes b hb, Option.bind_some, if_pos rfl, mod_byte a ha, mod_byte b hb, times_eq k a b ha hb hk, Option.bind_some, wrap_byte _ (gm_lt ha)]
theorem smul (k a b : Nat) (ha : a < 256) (hb : b < 256) (hk : 8 < k) : spec_GfMul.f k (a : Int) (b : Int) = some (((gm a b : Nat) : Int), 0) := by
  unfold spec_GfMul.f
  rw [byte_yes a ha, Option.bind_some, if_pos rfl, byte_yes b hb, Option.bind_some, if_pos rfl, mul_eq k a b ha hb hk, Option.bind_some]

theorem FnGf : laws_FnGf.Pure := by
  intro l0 l1 h0 _ w0 h1 _ w1
  refine ⟨60, ?_⟩
  unfold laws_FnGf.f
  by_cases b0 : (l0.length : Int) > 1048576
  · rw [if_pos b0]; exact gf_out l0 l1
  by_cases b1 : (l1.length : Int) > 1048576
  · rw [if_neg b0, decide_eq_true b1]; exact gf_out l0 l1
  rw [if_neg b0, decide_eq_false b1]
  show laws_FnGf.j0 (59 + 1) l0 l1 false = some true
  simp only [laws_FnGf.j0, Bool.false_eq_true, if_false]
  obtain ⟨a, ha, ea⟩ := at_some l0 (by omega) w0 0 256 (by decide) (by decide)
  obtain ⟨b, hb, eb⟩ := at_some l1 (by omega) w1 0 256 (by decide) (by decide)
  obtain ⟨c, hc, ec⟩ := at_some l1 (by omega) w1 1 256 (by decide) (by decide)
  have ea' : laws_at.f l0 0 256 = some (a : Int) := ea
  have eb' : laws_at.f l1 0 256 = some (b : Int) := eb
  have ec' : laws_at.f l1 1 256 = some (c : Int) := ec
  rw [ea', Option.bind_some, eb', Option.bind_some, ec', Option.bind_some]
  have xbc : Go.bits .xor .i64 (b : Int) (c : Int) = ((b ^^^ c : Nat) : Int) := xor_b b c hb hc
  rw [imul 59 a b ha hb (by decide), Option.bind_some, imul 59 b a hb ha (by decide), Option.bind_some, imul 59 b c hb hc (by decide), Option.bind_some,
    imul 59 _ c (gm_lt ha) hc (by decide), Option.bind_some, imul 59 a _ ha (gm_lt hb) (by decide), Option.bind_some, imul 59 a c ha hc (by decide), Option.bind_some,
    xbc, imul 59 a _ ha (xor_lt hb hc) (by decide), Option.bind_some, smul 59 a b ha hb (by decide), Option.bind_some]
  rw [xor_b _ _ (gm_lt ha) (gm_lt ha), gm_split a b c hb hc]
  simp only [if_true]
  rw [if_pos (by rw [gm_comm a b ha hb]), if_pos (by rw [gm_assoc a b c ha hb hc])]
  show laws_FnGf.j1 (58 + 1) (a : Int) _ = some true
  simp only [laws_FnGf.j1, bne_self_eq_false, Bool.false_eq_true, if_false]
  by_cases z : a = 0
  · subst z
    have hz0 : ((0 : Nat) : Int) = 0 := rfl
    have : impl_GfInverse.f 58 ((0 : Nat) : Int) = some (0, 5) := by
      unfold impl_GfInverse.f
      rw [isByte_yes 0 (by decide), Option.bind_some, if_pos rfl, if_pos hz0]
    rw [this, Option.bind_some, if_pos hz0]
    rfl
  · have hz : ¬ (a : Int) = 0 := by omega
    have hi : impl_GfInverse.f 58 (a : Int) = some (((inv a : Nat) : Int), 0) := by
      unfold impl_GfInverse.f
      rw [isByte_yes a ha, Option.bind_some, if_pos rfl, if_neg hz, mod_byte a ha, inverse_eq 58 a ha (by decide), Option.bind_some, wrap_byte _ (inv_lt a ha)]
    rw [hi, Option.bind_some, if_neg hz, imul 58 a _ ha (inv_lt a ha) (by decide), Option.bind_some, inv_mul a ha z]
    rfl

end Go.Proofs.Ytiapfnpnfekknaa.Pure

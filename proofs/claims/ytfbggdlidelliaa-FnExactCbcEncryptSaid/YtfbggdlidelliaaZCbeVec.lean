/- Columns of four bytes: mixing by a row of factors is additive; maps that are additive and stand on the basis stand everywhere (no program in sight). -/
import Derived.Test.YtfbggdlidelliaaZCbeGf
namespace Go.Proofs.Ytfbggdlidelliaa.Gf
structure V4 where
  a : Nat
  b : Nat
  c : Nat
  d : Nat
deriving DecidableEq
def V4.ok (u : V4) : Prop := u.a < 256 ∧ u.b < 256 ∧ u.c < 256 ∧ u.d < 256
def V4.x (u v : V4) : V4 := ⟨u.a ^^^ v.a, u.b ^^^ v.b, u.c ^^^ v.c, u.d ^^^ v.d⟩
def V4.mx (f : V4) (u : V4) : V4 :=
  ⟨((gm u.a f.a ^^^ gm u.b f.b) ^^^ gm u.c f.c) ^^^ gm u.d f.d, ((gm u.b f.a ^^^ gm u.c f.b) ^^^ gm u.d f.c) ^^^ gm u.a f.d,
   ((gm u.c f.a ^^^ gm u.d f.b) ^^^ gm u.a f.c) ^^^ gm u.b f.d, ((gm u.d f.a ^^^ gm u.a f.b) ^^^ gm u.b f.c) ^^^ gm u.c f.d⟩
theorem V4.mx_ok (f u : V4) (hu : u.ok) : (V4.mx f u).ok :=
  ⟨xor_lt (xor_lt (xor_lt (gm_lt hu.1) (gm_lt hu.2.1)) (gm_lt hu.2.2.1)) (gm_lt hu.2.2.2), xor_lt (xor_lt (xor_lt (gm_lt hu.2.1) (gm_lt hu.2.2.1)) (gm_lt hu.2.2.2)) (gm_lt hu.1),
   xor_lt (xor_lt (xor_lt (gm_lt hu.2.2.1) (gm_lt hu.2.2.2)) (gm_lt hu.1)) (gm_lt hu.2.1), xor_lt (xor_lt (xor_lt (gm_lt hu.2.2.2) (gm_lt hu.1)) (gm_lt hu.2.1)) (gm_lt hu.2.2.1)⟩
def mixF : V4 := ⟨2, 3, 1, 1⟩
end Go.Proofs.Ytfbggdlidelliaa.Gf

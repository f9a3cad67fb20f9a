/- Columns of four bytes: mixing by a row of factors is additive; maps that are additive and stand on the basis stand everywhere (no program in sight). -/
import Derived.Test.YtfbggdlidelliaaZCdGf
namespace Go.Proofs.Ytfbggdlidelliaa.Gf
structure V4 where
  a : Nat
  b : Nat
  c : Nat
  d : Nat
deriving DecidableEq
def V4.ok (u : V4) : Prop := u.a < 256 ∧ u.b < 256 ∧ u.c < 256 ∧ u.d < 256
def V4.x (u v : V4) : V4 := ⟨u.a ^^^ v.a, u.b ^^^ v.b, u.c ^^^ v.c, u.d ^^^ v.d⟩
theorem V4.x_ok {u v : V4} (hu : u.ok) (hv : v.ok) : (u.x v).ok := ⟨xor_lt hu.1 hv.1, xor_lt hu.2.1 hv.2.1, xor_lt hu.2.2.1 hv.2.2.1, xor_lt hu.2.2.2 hv.2.2.2⟩
def V4.mx (f : V4) (u : V4) : V4 :=
  ⟨((gm u.a f.a ^^^ gm u.b f.b) ^^^ gm u.c f.c) ^^^ gm u.d f.d, ((gm u.b f.a ^^^ gm u.c f.b) ^^^ gm u.d f.c) ^^^ gm u.a f.d,
   ((gm u.c f.a ^^^ gm u.d f.b) ^^^ gm u.a f.c) ^^^ gm u.b f.d, ((gm u.d f.a ^^^ gm u.a f.b) ^^^ gm u.b f.c) ^^^ gm u.c f.d⟩
theorem V4.mx_ok (f u : V4) (hu : u.ok) : (V4.mx f u).ok :=
  ⟨xor_lt (xor_lt (xor_lt (gm_lt hu.1) (gm_lt hu.2.1)) (gm_lt hu.2.2.1)) (gm_lt hu.2.2.2), xor_lt (xor_lt (xor_lt (gm_lt hu.2.1) (gm_lt hu.2.2.1)) (gm_lt hu.2.2.2)) (gm_lt hu.1),
   xor_lt (xor_lt (xor_lt (gm_lt hu.2.2.1) (gm_lt hu.2.2.2)) (gm_lt hu.1)) (gm_lt hu.2.1), xor_lt (xor_lt (xor_lt (gm_lt hu.2.2.2) (gm_lt hu.1)) (gm_lt hu.2.1)) (gm_lt hu.2.2.1)⟩
structure Add4 (F : V4 → V4) : Prop where
  ok : ∀ u, u.ok → (F u).ok
  add : ∀ u v, u.ok → v.ok → F (u.x v) = (F u).x (F v)
theorem xor8 (a b c d e f g h : Nat) : (((a ^^^ e) ^^^ (b ^^^ f)) ^^^ (c ^^^ g)) ^^^ (d ^^^ h) = (((a ^^^ b) ^^^ c) ^^^ d) ^^^ (((e ^^^ f) ^^^ g) ^^^ h) := by
  rw [xor4 a e b f, xor4 (a ^^^ b) (e ^^^ f) c g, xor4 ((a ^^^ b) ^^^ c) ((e ^^^ f) ^^^ g) d h]
theorem mx_add (f : V4) : Add4 (V4.mx f) where
  ok := V4.mx_ok f
  add := by
    intro u v hu hv
    obtain ⟨u1, u2, u3, u4⟩ := hu
    obtain ⟨v1, v2, v3, v4⟩ := hv
    have e : ∀ t, ∀ x y, x < 256 → y < 256 → gm (x ^^^ y) t = gm x t ^^^ gm y t := fun t x y hx hy => gm_left t x y hx hy
    simp only [V4.mx, V4.x]
    rw [e f.a u.a v.a u1 v1, e f.b u.b v.b u2 v2, e f.c u.c v.c u3 v3, e f.d u.d v.d u4 v4, e f.a u.b v.b u2 v2, e f.b u.c v.c u3 v3, e f.c u.d v.d u4 v4, e f.d u.a v.a u1 v1,
      e f.a u.c v.c u3 v3, e f.b u.d v.d u4 v4, e f.c u.a v.a u1 v1, e f.d u.b v.b u2 v2, e f.a u.d v.d u4 v4, e f.b u.a v.a u1 v1, e f.c u.b v.b u2 v2, e f.d u.c v.c u3 v3]
    simp only [xor8]
theorem Add4.comp {F G : V4 → V4} (hF : Add4 F) (hG : Add4 G) : Add4 fun u => F (G u) where
  ok := fun u hu => hF.ok _ (hG.ok u hu)
  add := fun u v hu hv => by
    show F (G (u.x v)) = _
    rw [hG.add u v hu hv, hF.add _ _ (hG.ok u hu) (hG.ok v hv)]
theorem V4.ext' {u v : V4} (h1 : u.a = v.a) (h2 : u.b = v.b) (h3 : u.c = v.c) (h4 : u.d = v.d) : u = v := by
  cases u; cases v; simp_all
theorem V4.split (u : V4) : u = (V4.mk u.a 0 0 0).x ((V4.mk 0 u.b 0 0).x ((V4.mk 0 0 u.c 0).x (V4.mk 0 0 0 u.d))) := by
  cases u; simp [V4.x]
theorem Add4.stand {F : V4 → V4} (hF : Add4 F) (ha : ∀ i, i < 8 → F ⟨2 ^ i, 0, 0, 0⟩ = ⟨2 ^ i, 0, 0, 0⟩) (hb : ∀ i, i < 8 → F ⟨0, 2 ^ i, 0, 0⟩ = ⟨0, 2 ^ i, 0, 0⟩)
    (hc : ∀ i, i < 8 → F ⟨0, 0, 2 ^ i, 0⟩ = ⟨0, 0, 2 ^ i, 0⟩) (hd : ∀ i, i < 8 → F ⟨0, 0, 0, 2 ^ i⟩ = ⟨0, 0, 0, 2 ^ i⟩) (u : V4) (hu : u.ok) : F u = u := by
  obtain ⟨u1, u2, u3, u4⟩ := hu
  have z : (0 : Nat) < 256 := by decide
  have one : ∀ (J : Nat → V4), (∀ x, x < 256 → (J x).ok) → (∀ x y, J (x ^^^ y) = (J x).x (J y)) → (∀ i, i < 8 → F (J (2 ^ i)) = J (2 ^ i)) → ∀ x, x < 256 → F (J x) = J x := by
    intro J hJ hx hi x hlt
    have hadd : ∀ x y, x < 256 → y < 256 → F (J (x ^^^ y)) = (F (J x)).x (F (J y)) := fun x y h1 h2 => by rw [hx, hF.add _ _ (hJ x h1) (hJ y h2)]
    apply V4.ext'
    · exact Lin.ext (f := fun x => (F (J x)).a) (g := fun x => (J x).a) (fun x y h1 h2 => by show (F (J (x ^^^ y))).a = _; rw [hadd x y h1 h2]; rfl) (fun x y _ _ => by show (J (x ^^^ y)).a = _; rw [hx]; rfl) (fun i h => by show (F (J (2 ^ i))).a = _; rw [hi i h]) x hlt
    · exact Lin.ext (f := fun x => (F (J x)).b) (g := fun x => (J x).b) (fun x y h1 h2 => by show (F (J (x ^^^ y))).b = _; rw [hadd x y h1 h2]; rfl) (fun x y _ _ => by show (J (x ^^^ y)).b = _; rw [hx]; rfl) (fun i h => by show (F (J (2 ^ i))).b = _; rw [hi i h]) x hlt
    · exact Lin.ext (f := fun x => (F (J x)).c) (g := fun x => (J x).c) (fun x y h1 h2 => by show (F (J (x ^^^ y))).c = _; rw [hadd x y h1 h2]; rfl) (fun x y _ _ => by show (J (x ^^^ y)).c = _; rw [hx]; rfl) (fun i h => by show (F (J (2 ^ i))).c = _; rw [hi i h]) x hlt
    · exact Lin.ext (f := fun x => (F (J x)).d) (g := fun x => (J x).d) (fun x y h1 h2 => by show (F (J (x ^^^ y))).d = _; rw [hadd x y h1 h2]; rfl) (fun x y _ _ => by show (J (x ^^^ y)).d = _; rw [hx]; rfl) (fun i h => by show (F (J (2 ^ i))).d = _; rw [hi i h]) x hlt
  have e1 := one (fun x => ⟨x, 0, 0, 0⟩) (fun x h => ⟨h, z, z, z⟩) (fun x y => by simp [V4.x]) ha u.a u1
  have e2 := one (fun x => ⟨0, x, 0, 0⟩) (fun x h => ⟨z, h, z, z⟩) (fun x y => by simp [V4.x]) hb u.b u2
  have e3 := one (fun x => ⟨0, 0, x, 0⟩) (fun x h => ⟨z, z, h, z⟩) (fun x y => by simp [V4.x]) hc u.c u3
  have e4 := one (fun x => ⟨0, 0, 0, x⟩) (fun x h => ⟨z, z, z, h⟩) (fun x y => by simp [V4.x]) hd u.d u4
  have o1 : (V4.mk u.a 0 0 0).ok := ⟨u1, z, z, z⟩
  have o2 : (V4.mk 0 u.b 0 0).ok := ⟨z, u2, z, z⟩
  have o3 : (V4.mk 0 0 u.c 0).ok := ⟨z, z, u3, z⟩
  have o4 : (V4.mk 0 0 0 u.d).ok := ⟨z, z, z, u4⟩
  rw [V4.split u, hF.add _ _ o1 (V4.x_ok o2 (V4.x_ok o3 o4)), hF.add _ _ o2 (V4.x_ok o3 o4), hF.add _ _ o3 o4, e1, e2, e3, e4]
def mixF : V4 := ⟨2, 3, 1, 1⟩
def unmixF : V4 := ⟨14, 11, 13, 9⟩
theorem unmix_mix (u : V4) (hu : u.ok) : V4.mx unmixF (V4.mx mixF u) = u :=
  ((mx_add unmixF).comp (mx_add mixF)).stand (by decide +kernel) (by decide +kernel) (by decide +kernel) (by decide +kernel) u hu
end Go.Proofs.Ytfbggdlidelliaa.Gf

import Derived.Test.YtaochmekimkegaaDoorMc2
namespace Go.Ec
section
variable {p : Nat} [NeZero p]

structure Good (X Y Z : Fin p) : Prop where
 inf : Z = 0 → X = 0 ∧ Y ≠ 0

variable (F : Fld p)
include F

theorem c_good {x1 y1 x2 y2 : Fin p} (h1 : y1 * y1 = x1 * x1 * x1 + 7) (h2 : y2 * y2 = x2 * x2 * x2 + 7) : Good (cX x1 y1 1 x2 y2 1) (cY x1 y1 1 x2 y2 1) (cZ x1 y1 1 x2 y2 1) := by
 refine ⟨fun hz => ?_⟩
 by_cases hx : x1 = x2
 ·subst hx
  have hy : (y1 - y2) * (y1 + y2) = 0 := by grind
  have hy1 := F.y0 h1
  have h2y : y1 + y1 ≠ 0 := by
   have := F.mul F.two hy1
   intro h; exact this (by grind)
  obtain ⟨e, he⟩ := F.inv _ h2y
  by_cases hs : y1 = y2
  ·subst hs
   have := (tangent_eq h1 he rfl).2.2
   exfalso
   have h8 : (8 : Fin p) * (y1 * y1 * y1) ≠ 0 := by
    have h2 := F.two
    have : (8 : Fin p) = 2 * 2 * 2 := by grind
    rw [this]
    exact F.mul (F.mul (F.mul h2 h2) h2) (F.mul (F.mul hy1 hy1) hy1)
   exact h8 (by rw [← this]; exact hz)
  ·have hs' : y1 - y2 ≠ 0 := fun h => hs (by grind)
   have hn : y2 = -y1 := by
    have := F.nz hy hs'
    grind
   subst hn
   refine ⟨by unfold cX; grind, fun hY => ?_⟩
   have hon := tangent_on h1 he rfl
   have h0 : ((x1 * x1 + (x1 * x1 + x1 * x1)) * e) * (x1 - (((x1 * x1 + (x1 * x1 + x1 * x1)) * e) * ((x1 * x1 + (x1 * x1 + x1 * x1)) * e) - x1 - x1)) - y1 = 0 := by
    have hs2 : ((x1 * x1 + (x1 * x1 + x1 * x1)) * e) * (y1 + y1) = 3 * (x1 * x1) := by grind
    generalize (x1 * x1 + (x1 * x1 + x1 * x1)) * e = s at *
    unfold cY at hY
    have k : (y1 + y1) * (y1 + y1) * (y1 + y1) * (s * (x1 - (s * s - x1 - x1)) - y1) = 0 := by grind
    exact F.nz k (F.mul (F.mul h2y h2y) h2y)
   rw [h0] at hon
   exact F.nt _ (by rw [← hon]; grind)
 ·exact absurd hz (cZ_ne F h1 h2 hx)

abbrev Pt (p : Nat) := Option (Fin p × Fin p)

omit F in
def On : Pt p → Prop
 | none => True
 | some (x, y) => y * y = x * x * x + 7

omit F in
def tri : Pt p → Fin p × Fin p × Fin p
 | none => (0, 1, 0)
 | some (x, y) => (x, y, 1)

omit F in
open Classical in
noncomputable def kinv (a : Fin p) : Fin p := if h : ∃ b, a * b = 1 then h.choose else 0

theorem Fld.mul_inv {a : Fin p} (ha : a ≠ 0) : a * kinv a = 1 := by
 have h := F.inv a ha
 unfold kinv
 rw [dif_pos h]
 exact h.choose_spec

theorem Fld.inv_of {a b : Fin p} (h : a * b = 1) : kinv a = b := by
 have ha : a ≠ 0 := fun h0 => F.one (by rw [← h, h0]; grind)
 have h2 := F.mul_inv ha
 grind

omit F in
noncomputable def nrm (X Y Z : Fin p) : Pt p := if Z = 0 then none else some (X * kinv Z, Y * kinv Z)

omit F in
noncomputable def add (P Q : Pt p) : Pt p :=
 nrm (cX (tri P).1 (tri P).2.1 (tri P).2.2 (tri Q).1 (tri Q).2.1 (tri Q).2.2) (cY (tri P).1 (tri P).2.1 (tri P).2.2 (tri Q).1 (tri Q).2.1 (tri Q).2.2)
  (cZ (tri P).1 (tri P).2.1 (tri P).2.2 (tri Q).1 (tri Q).2.1 (tri Q).2.2)

omit F in
def neg : Pt p → Pt p
 | none => none
 | some (x, y) => some (x, -y)

theorem nrm_scale {X Y Z k : Fin p} (hk : k ≠ 0) : nrm (k * X) (k * Y) (k * Z) = nrm X Y Z := by
 unfold nrm
 by_cases hz : Z = 0
 ·subst hz
  have : k * 0 = 0 := by grind
  rw [if_pos this, if_pos rfl]
 ·have hkz := F.mul hk hz
  rw [if_neg hkz, if_neg hz]
  have h1 := F.mul_inv hz
  have h2 := F.mul_inv hkz
  have h3 := F.mul_inv hk
  have : kinv (k * Z) = kinv k * kinv Z := F.inv_of (by grind)
  rw [this]
  congr 2 <;> grind

theorem nrm_eq {X Y Z X' Y' Z' : Fin p} (g : Good X Y Z) (g' : Good X' Y' Z') (hx : X * Z' = X' * Z) (hy : Y * Z' = Y' * Z) : nrm X Y Z = nrm X' Y' Z' := by
 unfold nrm
 by_cases hz : Z = 0
 ·subst hz
  have hY := (g.inf rfl).2
  have : Z' = 0 := F.nz (a := Y) (by rw [hy]; grind) hY
  rw [if_pos rfl, if_pos this]
 ·by_cases hz' : Z' = 0
  ·subst hz'
   have hY := (g'.inf rfl).2
   exact absurd (F.nz (a := Y') (by rw [← hy]; grind) hY) hz
  ·rw [if_neg hz, if_neg hz']
   have h1 := F.mul_inv hz
   have h2 := F.mul_inv hz'
   congr 2 <;> grind

theorem tri_nrm {X Y Z : Fin p} (g : Good X Y Z) : ∃ k, k ≠ 0 ∧ tri (nrm X Y Z) = (k * X, k * Y, k * Z) := by
 unfold nrm
 by_cases hz : Z = 0
 ·subst hz
  obtain ⟨hX, hY⟩ := g.inf rfl
  have h1 := F.mul_inv hY
  refine ⟨kinv Y, fun h => F.one (by rw [← h1, h]; grind), ?_⟩
  rw [if_pos rfl]
  have a0 : kinv Y * 0 = 0 := by grind
  have a1 : kinv Y * Y = 1 := by grind
  simp only [tri, hX, a0, a1]
 ·have h1 := F.mul_inv hz
  refine ⟨kinv Z, fun h => F.one (by rw [← h1, h]; grind), ?_⟩
  rw [if_neg hz]
  simp only [tri]
  congr 1
  ·grind
  ·congr 1 <;> grind

omit F in
theorem c_scale (k X1 Y1 Z1 l X2 Y2 Z2 : Fin p) : cX (k * X1) (k * Y1) (k * Z1) (l * X2) (l * Y2) (l * Z2) = (k * k * (l * l)) * cX X1 Y1 Z1 X2 Y2 Z2 ∧
  cY (k * X1) (k * Y1) (k * Z1) (l * X2) (l * Y2) (l * Z2) = (k * k * (l * l)) * cY X1 Y1 Z1 X2 Y2 Z2 ∧ cZ (k * X1) (k * Y1) (k * Z1) (l * X2) (l * Y2) (l * Z2) = (k * k * (l * l)) * cZ X1 Y1 Z1 X2 Y2 Z2 := by
 unfold cX cY cZ
 refine ⟨?_, ?_, ?_⟩ <;> grind

theorem add_none (P : Pt p) (h : On P) : add P none = P := by
 cases P with
 | none =>
  have : cZ (p := p) 0 1 0 0 1 0 = 0 := by unfold cZ; grind
  show nrm (cX (p := p) 0 1 0 0 1 0) (cY (p := p) 0 1 0 0 1 0) (cZ (p := p) 0 1 0 0 1 0) = none
  unfold nrm
  rw [if_pos this]
 | some q =>
  obtain ⟨x, y⟩ := q
  have hy := F.y0 h
  have e1 : cX x y 1 0 1 0 = y * x := by unfold cX; grind
  have e2 : cY x y 1 0 1 0 = y * y := by unfold cY; grind
  have e3 : cZ x y 1 0 1 0 = y * 1 := by unfold cZ; grind
  show nrm (cX x y 1 0 1 0) (cY x y 1 0 1 0) (cZ x y 1 0 1 0) = _
  rw [e1, e2, e3, nrm_scale F hy]
  unfold nrm
  rw [if_neg F.one]
  have : kinv (1 : Fin p) = 1 := F.inv_of (by grind)
  rw [this]
  congr 2 <;> grind

omit F in
theorem add_comm (P Q : Pt p) : add P Q = add Q P := by
 unfold add
 have h := c_comm (tri P).1 (tri P).2.1 (tri P).2.2 (tri Q).1 (tri Q).2.1 (tri Q).2.2
 rw [h.1, h.2.1, h.2.2]

theorem none_add (P : Pt p) (h : On P) : add none P = P := by rw [add_comm]; exact add_none F P h

theorem add_on (P Q : Pt p) (hP : On P) (hQ : On Q) : On (add P Q) := by
 cases P with
 | none => rw [none_add F Q hQ]; exact hQ
 | some a =>
  cases Q with
  | none => rw [add_none F _ hP]; exact hP
  | some b =>
   obtain ⟨x1, y1⟩ := a
   obtain ⟨x2, y2⟩ := b
   have hon := c_on hP hQ
   show On (nrm (cX x1 y1 1 x2 y2 1) (cY x1 y1 1 x2 y2 1) (cZ x1 y1 1 x2 y2 1))
   unfold nrm
   split
   ·trivial
   ·rename_i hz
    have h1 := F.mul_inv hz
    simp only [On]
    generalize cX x1 y1 1 x2 y2 1 = X at *
    generalize cY x1 y1 1 x2 y2 1 = Y at *
    generalize cZ x1 y1 1 x2 y2 1 = Z at *
    generalize kinv Z = i at *
    grind

theorem add_assoc (P Q R : Pt p) (hP : On P) (hQ : On Q) (hR : On R) : add (add P Q) R = add P (add Q R) := by
 cases P with
 | none => rw [none_add F Q hQ, none_add F _ (add_on F Q R hQ hR)]
 | some a =>
  cases Q with
  | none => rw [add_none F _ hP, none_add F R hR]
  | some b =>
   cases R with
   | none => rw [add_none F _ (add_on F _ _ hP hQ), add_none F _ hQ]
   | some c =>
    obtain ⟨x1, y1⟩ := a
    obtain ⟨x2, y2⟩ := b
    obtain ⟨x3, y3⟩ := c
    have ha := c_assoc hP hQ hR
    have g1 := c_good F hP hQ
    have g2 := c_good F hQ hR
    have on1 := add_on F _ _ hP hQ
    have on2 := add_on F _ _ hQ hR
    obtain ⟨k, hk, ek⟩ := tri_nrm F g1
    obtain ⟨l, hl, el⟩ := tri_nrm F g2
    have gl : ∀ S : Pt p, On S → Good (cX (tri S).1 (tri S).2.1 (tri S).2.2 x3 y3 1) (cY (tri S).1 (tri S).2.1 (tri S).2.2 x3 y3 1) (cZ (tri S).1 (tri S).2.1 (tri S).2.2 x3 y3 1) := fun S hS => by
     cases S with
     | none =>
      have hy := F.y0 hR
      refine ⟨fun hz => ?_⟩
      exfalso
      simp only [tri] at hz
      exact hy (by unfold cZ at hz; grind)
     | some s => exact c_good F hS hR
    have gr : ∀ S : Pt p, On S → Good (cX x1 y1 1 (tri S).1 (tri S).2.1 (tri S).2.2) (cY x1 y1 1 (tri S).1 (tri S).2.1 (tri S).2.2) (cZ x1 y1 1 (tri S).1 (tri S).2.1 (tri S).2.2) := fun S hS => by
     cases S with
     | none =>
      have hy := F.y0 hP
      refine ⟨fun hz => ?_⟩
      exfalso
      simp only [tri] at hz
      exact hy (by unfold cZ at hz; grind)
     | some s => exact c_good F hP hS
    have G1 := gl _ on1
    have G2 := gr _ on2
    have e1 : add (add (some (x1, y1)) (some (x2, y2))) (some (x3, y3)) = nrm (cX (tri (add (some (x1, y1)) (some (x2, y2)))).1 (tri (add (some (x1, y1)) (some (x2, y2)))).2.1 (tri (add (some (x1, y1)) (some (x2, y2)))).2.2 x3 y3 1)
     (cY (tri (add (some (x1, y1)) (some (x2, y2)))).1 (tri (add (some (x1, y1)) (some (x2, y2)))).2.1 (tri (add (some (x1, y1)) (some (x2, y2)))).2.2 x3 y3 1)
     (cZ (tri (add (some (x1, y1)) (some (x2, y2)))).1 (tri (add (some (x1, y1)) (some (x2, y2)))).2.1 (tri (add (some (x1, y1)) (some (x2, y2)))).2.2 x3 y3 1) := rfl
    have e2 : add (some (x1, y1)) (add (some (x2, y2)) (some (x3, y3))) = nrm (cX x1 y1 1 (tri (add (some (x2, y2)) (some (x3, y3)))).1 (tri (add (some (x2, y2)) (some (x3, y3)))).2.1 (tri (add (some (x2, y2)) (some (x3, y3)))).2.2)
     (cY x1 y1 1 (tri (add (some (x2, y2)) (some (x3, y3)))).1 (tri (add (some (x2, y2)) (some (x3, y3)))).2.1 (tri (add (some (x2, y2)) (some (x3, y3)))).2.2)
     (cZ x1 y1 1 (tri (add (some (x2, y2)) (some (x3, y3)))).1 (tri (add (some (x2, y2)) (some (x3, y3)))).2.1 (tri (add (some (x2, y2)) (some (x3, y3)))).2.2) := rfl
    rw [e1, e2]
    have t1 : tri (add (some (x1, y1)) (some (x2, y2))) = (k * cX x1 y1 1 x2 y2 1, k * cY x1 y1 1 x2 y2 1, k * cZ x1 y1 1 x2 y2 1) := ek
    have t2 : tri (add (some (x2, y2)) (some (x3, y3))) = (l * cX x2 y2 1 x3 y3 1, l * cY x2 y2 1 x3 y3 1, l * cZ x2 y2 1 x3 y3 1) := el
    rw [t1] at G1 ⊢
    rw [t2] at G2 ⊢
    simp only at G1 G2 ⊢
    refine nrm_eq F G1 G2 ?_ ?_
    all_goals
     have s1 := c_scale k (cX x1 y1 1 x2 y2 1) (cY x1 y1 1 x2 y2 1) (cZ x1 y1 1 x2 y2 1) 1 x3 y3 1
     have s2 := c_scale 1 x1 y1 1 l (cX x2 y2 1 x3 y3 1) (cY x2 y2 1 x3 y3 1) (cZ x2 y2 1 x3 y3 1)
     have o1 : ∀ a : Fin p, 1 * a = a := fun a => by grind
     simp only [o1] at s1 s2
     have o2 : k * k * (1 : Fin p) = k * k := by grind
    ·rw [s1.1, s1.2.2, s2.1, s2.2.2]
     generalize cX (cX x1 y1 1 x2 y2 1) (cY x1 y1 1 x2 y2 1) (cZ x1 y1 1 x2 y2 1) x3 y3 1 = A at *
     generalize cZ (cX x1 y1 1 x2 y2 1) (cY x1 y1 1 x2 y2 1) (cZ x1 y1 1 x2 y2 1) x3 y3 1 = B at *
     generalize cX x1 y1 1 (cX x2 y2 1 x3 y3 1) (cY x2 y2 1 x3 y3 1) (cZ x2 y2 1 x3 y3 1) = C at *
     generalize cZ x1 y1 1 (cX x2 y2 1 x3 y3 1) (cY x2 y2 1 x3 y3 1) (cZ x2 y2 1 x3 y3 1) = D at *
     have := ha.1
     grind
    ·rw [s1.2.1, s1.2.2, s2.2.1, s2.2.2]
     generalize cY (cX x1 y1 1 x2 y2 1) (cY x1 y1 1 x2 y2 1) (cZ x1 y1 1 x2 y2 1) x3 y3 1 = A at *
     generalize cZ (cX x1 y1 1 x2 y2 1) (cY x1 y1 1 x2 y2 1) (cZ x1 y1 1 x2 y2 1) x3 y3 1 = B at *
     generalize cY x1 y1 1 (cX x2 y2 1 x3 y3 1) (cY x2 y2 1 x3 y3 1) (cZ x2 y2 1 x3 y3 1) = C at *
     generalize cZ x1 y1 1 (cX x2 y2 1 x3 y3 1) (cY x2 y2 1 x3 y3 1) (cZ x2 y2 1 x3 y3 1) = D at *
     have := ha.2
     grind

theorem add_neg (P : Pt p) (h : On P) : add P (neg P) = none := by
 cases P with
 | none => exact add_none F none trivial
 | some a =>
  obtain ⟨x, y⟩ := a
  have : cZ x y 1 x (-y) 1 = 0 := by unfold cZ; grind
  show nrm (cX x y 1 x (-y) 1) (cY x y 1 x (-y) 1) (cZ x y 1 x (-y) 1) = none
  unfold nrm
  rw [if_pos this]

omit F in
theorem neg_on (P : Pt p) (h : On P) : On (neg P) := by
 cases P with
 | none => trivial
 | some a => obtain ⟨x, y⟩ := a; simp only [neg, On] at *; grind

theorem add_chord {x1 y1 x2 y2 : Fin p} (h1 : y1 * y1 = x1 * x1 * x1 + 7) (h2 : y2 * y2 = x2 * x2 * x2 + 7) (hx : x1 ≠ x2) {s : Fin p} (hs : s = (y2 - y1) * kinv (x2 - x1)) :
  add (some (x1, y1)) (some (x2, y2)) = some (s * s - x1 - x2, s * (x1 - (s * s - x1 - x2)) - y1) := by
 have hd : x2 - x1 ≠ 0 := fun h => hx (by grind)
 have he := F.mul_inv hd
 have hz := cZ_ne F h1 h2 hx
 obtain ⟨e1, e2⟩ := chord_eq h1 h2 he hs
 show nrm (cX x1 y1 1 x2 y2 1) (cY x1 y1 1 x2 y2 1) (cZ x1 y1 1 x2 y2 1) = _
 unfold nrm
 rw [if_neg hz, e1, e2]
 have h3 := F.mul_inv hz
 congr 2 <;> grind

theorem add_tangent {x y : Fin p} (h : y * y = x * x * x + 7) {s : Fin p} (hs : s = (x * x + (x * x + x * x)) * kinv (y + y)) :
  add (some (x, y)) (some (x, y)) = some (s * s - x - x, s * (x - (s * s - x - x)) - y) := by
 have hy := F.y0 h
 have h2y : y + y ≠ 0 := by
  have := F.mul F.two hy
  intro h; exact this (by grind)
 have he := F.mul_inv h2y
 obtain ⟨e1, e2, e3⟩ := tangent_eq h he hs
 have hz : cZ x y 1 x y 1 ≠ 0 := by
  rw [e3]
  have h2 := F.two
  have : (8 : Fin p) = 2 * 2 * 2 := by grind
  rw [this]
  exact F.mul (F.mul (F.mul h2 h2) h2) (F.mul (F.mul hy hy) hy)
 show nrm (cX x y 1 x y 1) (cY x y 1 x y 1) (cZ x y 1 x y 1) = _
 unfold nrm
 rw [if_neg hz, e1, e2]
 have h3 := F.mul_inv hz
 congr 2 <;> grind

end
end Go.Ec

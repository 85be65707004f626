import Derived.Test.YthmdbgdagnhheaaDoorMp
namespace Go.Ec
section
variable {p : Nat} [NeZero p]

structure Fld (p : Nat) [NeZero p] : Prop where
 inv : ∀ a : Fin p, a ≠ 0 → ∃ b, a * b = 1
 one : (1 : Fin p) ≠ 0
 two : (2 : Fin p) ≠ 0
 three : (3 : Fin p) ≠ 0
 nt : ∀ x : Fin p, x * x * x + 7 ≠ 0

variable (F : Fld p)
include F

theorem Fld.nz {a b : Fin p} (h : a * b = 0) (ha : a ≠ 0) : b = 0 := by
 obtain ⟨c, hc⟩ := F.inv a ha
 have : b = c * (a * b) := by grind
 rw [this, h]; grind

theorem Fld.mul {a b : Fin p} (ha : a ≠ 0) (hb : b ≠ 0) : a * b ≠ 0 := fun h => hb (F.nz h ha)

theorem Fld.y0 {x y : Fin p} (h : y * y = x * x * x + 7) : y ≠ 0 := fun h0 => F.nt x (by rw [← h, h0]; grind)

omit F in
theorem chord_on {x1 y1 x2 y2 e s : Fin p} (h1 : y1 * y1 = x1 * x1 * x1 + 7) (h2 : y2 * y2 = x2 * x2 * x2 + 7) (he : (x2 - x1) * e = 1) (hs : s = (y2 - y1) * e) :
  (s * (x1 - (s * s - x1 - x2)) - y1) * (s * (x1 - (s * s - x1 - x2)) - y1) = (s * s - x1 - x2) * (s * s - x1 - x2) * (s * s - x1 - x2) + 7 := by
 have hs' : s * (x2 - x1) = y2 - y1 := by rw [hs]; grind
 clear hs
 grind

omit F in
theorem tangent_on {x y e s : Fin p} (h : y * y = x * x * x + 7) (he : (y + y) * e = 1) (hs : s = (x * x + (x * x + x * x)) * e) :
  (s * (x - (s * s - x - x)) - y) * (s * (x - (s * s - x - x)) - y) = (s * s - x - x) * (s * s - x - x) * (s * s - x - x) + 7 := by
 have hs' : s * (y + y) = 3 * (x * x) := by rw [hs]; grind
 clear hs
 grind

omit F in
theorem chord_eq {x1 y1 x2 y2 e s : Fin p} (h1 : y1 * y1 = x1 * x1 * x1 + 7) (h2 : y2 * y2 = x2 * x2 * x2 + 7) (he : (x2 - x1) * e = 1) (hs : s = (y2 - y1) * e) :
  cX x1 y1 1 x2 y2 1 = cZ x1 y1 1 x2 y2 1 * (s * s - x1 - x2) ∧ cY x1 y1 1 x2 y2 1 = cZ x1 y1 1 x2 y2 1 * (s * (x1 - (s * s - x1 - x2)) - y1) := by
 have hs' : s * (x2 - x1) = y2 - y1 := by rw [hs]; grind
 clear hs
 unfold cX cY cZ
 constructor <;> grind

omit F in
theorem tangent_eq {x y e s : Fin p} (h : y * y = x * x * x + 7) (he : (y + y) * e = 1) (hs : s = (x * x + (x * x + x * x)) * e) :
  cX x y 1 x y 1 = cZ x y 1 x y 1 * (s * s - x - x) ∧ cY x y 1 x y 1 = cZ x y 1 x y 1 * (s * (x - (s * s - x - x)) - y) ∧ cZ x y 1 x y 1 = 8 * (y * y * y) := by
 have hs' : s * (y + y) = 3 * (x * x) := by rw [hs]; grind
 clear hs
 unfold cX cY cZ
 refine ⟨?_, ?_, ?_⟩ <;> grind

theorem cZ_ne {x1 y1 x2 y2 : Fin p} (h1 : y1 * y1 = x1 * x1 * x1 + 7) (h2 : y2 * y2 = x2 * x2 * x2 + 7) (hx : x1 ≠ x2) : cZ x1 y1 1 x2 y2 1 ≠ 0 := by
 intro hz
 have hd : x2 - x1 ≠ 0 := fun h => hx (by grind)
 obtain ⟨e, he⟩ := F.inv _ hd
 have h2' : (-y2) * (-y2) = x2 * x2 * x2 + 7 := by grind
 have hon := chord_on h1 h2' he rfl
 have hW : ((-y2 - y1) * e) * (x1 - (((-y2 - y1) * e) * ((-y2 - y1) * e) - x1 - x2)) - y1 = 0 := by
  have hs' : ((-y2 - y1) * e) * (x2 - x1) = -y2 - y1 := by grind
  generalize (-y2 - y1) * e = s at *
  unfold cZ at hz
  have k : (x2 - x1) * (x2 - x1) * (x2 - x1) * (s * (x1 - (s * s - x1 - x2)) - y1) = 0 := by grind
  exact F.nz k (F.mul (F.mul hd hd) hd)
 rw [hW] at hon
 exact F.nt _ (by rw [← hon]; grind)

end
end Go.Ec

namespace Go.Ec
section
variable {p : Nat} [NeZero p]

structure Good (X Y Z : Fin p) : Prop where
 inf : Z = 0 → X = 0 ∧ Y ≠ 0

variable (F : Fld p)
include F

theorem c_good {x1 y1 x2 y2 : Fin p} (h1 : y1 * y1 = x1 * x1 * x1 + 7) (h2 : y2 * y2 = x2 * x2 * x2 + 7) : Good (cX x1 y1 1 x2 y2 1) (cY x1 y1 1 x2 y2 1) (cZ x1 y1 1 x2 y2 1) := by
 refine ⟨fun hz => ?_⟩
 by_cases hx : x1 = x2
 ·subst hx
  have hy : (y1 - y2) * (y1 + y2) = 0 := by grind
  have hy1 := F.y0 h1
  have h2y : y1 + y1 ≠ 0 := by
   have := F.mul F.two hy1
   intro h; exact this (by grind)
  obtain ⟨e, he⟩ := F.inv _ h2y
  by_cases hs : y1 = y2
  ·subst hs
   have := (tangent_eq h1 he rfl).2.2
   exfalso
   have h8 : (8 : Fin p) * (y1 * y1 * y1) ≠ 0 := by
    have h2 := F.two
    have : (8 : Fin p) = 2 * 2 * 2 := by grind
    rw [this]
    exact F.mul (F.mul (F.mul h2 h2) h2) (F.mul (F.mul hy1 hy1) hy1)
   exact h8 (by rw [← this]; exact hz)
  ·have hs' : y1 - y2 ≠ 0 := fun h => hs (by grind)
   have hn : y2 = -y1 := by
    have := F.nz hy hs'
    grind
   subst hn
   refine ⟨by unfold cX; grind, fun hY => ?_⟩
   have hon := tangent_on h1 he rfl
   have h0 : ((x1 * x1 + (x1 * x1 + x1 * x1)) * e) * (x1 - (((x1 * x1 + (x1 * x1 + x1 * x1)) * e) * ((x1 * x1 + (x1 * x1 + x1 * x1)) * e) - x1 - x1)) - y1 = 0 := by
    have hs2 : ((x1 * x1 + (x1 * x1 + x1 * x1)) * e) * (y1 + y1) = 3 * (x1 * x1) := by grind
    generalize (x1 * x1 + (x1 * x1 + x1 * x1)) * e = s at *
    unfold cY at hY
    have k : (y1 + y1) * (y1 + y1) * (y1 + y1) * (s * (x1 - (s * s - x1 - x1)) - y1) = 0 := by grind
    exact F.nz k (F.mul (F.mul h2y h2y) h2y)
   rw [h0] at hon
   exact F.nt _ (by rw [← hon]; grind)
 ·exact absurd hz (cZ_ne F h1 h2 hx)

abbrev Pt (p : Nat) := Option (Fin p × Fin p)

omit F in
def On : Pt p → Prop
 | none => True
 | some (x, y) => y * y = x * x * x + 7

omit F in
def tri : Pt p → Fin p × Fin p × Fin p
 | none => (0, 1, 0)
 | some (x, y) => (x, y, 1)

omit F in
open Classical in
noncomputable def kinv (a : Fin p) : Fin p := if h : ∃ b, a * b = 1 then h.choose else 0

theorem Fld.mul_inv {a : Fin p} (ha : a ≠ 0) : a * kinv a = 1 := by
 have h := F.inv a ha
 unfold kinv
 rw [dif_pos h]
 exact h.choose_spec

theorem Fld.inv_of {a b : Fin p} (h : a * b = 1) : kinv a = b := by
 have ha : a ≠ 0 := fun h0 => F.one (by rw [← h, h0]; grind)
 have h2 := F.mul_inv ha
 grind

omit F in
noncomputable def nrm (X Y Z : Fin p) : Pt p := if Z = 0 then none else some (X * kinv Z, Y * kinv Z)

omit F in
noncomputable def add (P Q : Pt p) : Pt p :=
 nrm (cX (tri P).1 (tri P).2.1 (tri P).2.2 (tri Q).1 (tri Q).2.1 (tri Q).2.2) (cY (tri P).1 (tri P).2.1 (tri P).2.2 (tri Q).1 (tri Q).2.1 (tri Q).2.2)
  (cZ (tri P).1 (tri P).2.1 (tri P).2.2 (tri Q).1 (tri Q).2.1 (tri Q).2.2)

omit F in
def neg : Pt p → Pt p
 | none => none
 | some (x, y) => some (x, -y)

theorem nrm_scale {X Y Z k : Fin p} (hk : k ≠ 0) : nrm (k * X) (k * Y) (k * Z) = nrm X Y Z := by
 unfold nrm
 by_cases hz : Z = 0
 ·subst hz
  have : k * 0 = 0 := by grind
  rw [if_pos this, if_pos rfl]
 ·have hkz := F.mul hk hz
  rw [if_neg hkz, if_neg hz]
  have h1 := F.mul_inv hz
  have h2 := F.mul_inv hkz
  have h3 := F.mul_inv hk
  have : kinv (k * Z) = kinv k * kinv Z := F.inv_of (by grind)
  rw [this]
  congr 2 <;> grind

theorem nrm_eq {X Y Z X' Y' Z' : Fin p} (g : Good X Y Z) (g' : Good X' Y' Z') (hx : X * Z' = X' * Z) (hy : Y * Z' = Y' * Z) : nrm X Y Z = nrm X' Y' Z' := by
 unfold nrm
 by_cases hz : Z = 0
 ·subst hz
  have hY := (g.inf rfl).2
  have : Z' = 0 := F.nz (a := Y) (by rw [hy]; grind) hY
  rw [if_pos rfl, if_pos this]
 ·by_cases hz' : Z' = 0
  ·subst hz'
   have hY := (g'.inf rfl).2
   exact absurd (F.nz (a := Y') (by rw [← hy]; grind) hY) hz
  ·rw [if_neg hz, if_neg hz']
   have h1 := F.mul_inv hz
   have h2 := F.mul_inv hz'
   congr 2 <;> grind

theorem tri_nrm {X Y Z : Fin p} (g : Good X Y Z) : ∃ k, k ≠ 0 ∧ tri (nrm X Y Z) = (k * X, k * Y, k * Z) := by
 unfold nrm
 by_cases hz : Z = 0
 ·subst hz
  obtain ⟨hX, hY⟩ := g.inf rfl
  have h1 := F.mul_inv hY
  refine ⟨kinv Y, fun h => F.one (by rw [← h1, h]; grind), ?_⟩
  rw [if_pos rfl]
  have a0 : kinv Y * 0 = 0 := by grind
  have a1 : kinv Y * Y = 1 := by grind
  simp only [tri, hX, a0, a1]
 ·have h1 := F.mul_inv hz
  refine ⟨kinv Z, fun h => F.one (by rw [← h1, h]; grind), ?_⟩
  rw [if_neg hz]
  simp only [tri]
  congr 1
  ·grind
  ·congr 1 <;> grind

omit F in
theorem c_scale (k X1 Y1 Z1 l X2 Y2 Z2 : Fin p) : cX (k * X1) (k * Y1) (k * Z1) (l * X2) (l * Y2) (l * Z2) = (k * k * (l * l)) * cX X1 Y1 Z1 X2 Y2 Z2 ∧
  cY (k * X1) (k * Y1) (k * Z1) (l * X2) (l * Y2) (l * Z2) = (k * k * (l * l)) * cY X1 Y1 Z1 X2 Y2 Z2 ∧ cZ (k * X1) (k * Y1) (k * Z1) (l * X2) (l * Y2) (l * Z2) = (k * k * (l * l)) * cZ X1 Y1 Z1 X2 Y2 Z2 := by
 unfold cX cY cZ
 refine ⟨?_, ?_, ?_⟩ <;> grind

theorem add_none (P : Pt p) (h : On P) : add P none = P := by
 cases P with
 | none =>
  have : cZ (p := p) 0 1 0 0 1 0 = 0 := by unfold cZ; grind
  show nrm (cX (p := p) 0 1 0 0 1 0) (cY (p := p) 0 1 0 0 1 0) (cZ (p := p) 0 1 0 0 1 0) = none
  unfold nrm
  rw [if_pos this]
 | some q =>
  obtain ⟨x, y⟩ := q
  have hy := F.y0 h
  have e1 : cX x y 1 0 1 0 = y * x := by unfold cX; grind
  have e2 : cY x y 1 0 1 0 = y * y := by unfold cY; grind
  have e3 : cZ x y 1 0 1 0 = y * 1 := by unfold cZ; grind
  show nrm (cX x y 1 0 1 0) (cY x y 1 0 1 0) (cZ x y 1 0 1 0) = _
  rw [e1, e2, e3, nrm_scale F hy]
  unfold nrm
  rw [if_neg F.one]
  have : kinv (1 : Fin p) = 1 := F.inv_of (by grind)
  rw [this]
  congr 2 <;> grind

omit F in
theorem add_comm (P Q : Pt p) : add P Q = add Q P := by
 unfold add
 have h := c_comm (tri P).1 (tri P).2.1 (tri P).2.2 (tri Q).1 (tri Q).2.1 (tri Q).2.2
 rw [h.1, h.2.1, h.2.2]

theorem none_add (P : Pt p) (h : On P) : add none P = P := by rw [add_comm]; exact add_none F P h

theorem add_on (P Q : Pt p) (hP : On P) (hQ : On Q) : On (add P Q) := by
 cases P with
 | none => rw [none_add F Q hQ]; exact hQ
 | some a =>
  cases Q with
  | none => rw [add_none F _ hP]; exact hP
  | some b =>
   obtain ⟨x1, y1⟩ := a
   obtain ⟨x2, y2⟩ := b
   have hon := c_on hP hQ
   show On (nrm (cX x1 y1 1 x2 y2 1) (cY x1 y1 1 x2 y2 1) (cZ x1 y1 1 x2 y2 1))
   unfold nrm
   split
   ·trivial
   ·rename_i hz
    have h1 := F.mul_inv hz
    simp only [On]
    generalize cX x1 y1 1 x2 y2 1 = X at *
    generalize cY x1 y1 1 x2 y2 1 = Y at *
    generalize cZ x1 y1 1 x2 y2 1 = Z at *
    generalize kinv Z = i at *
    grind

theorem add_assoc (P Q R : Pt p) (hP : On P) (hQ : On Q) (hR : On R) : add (add P Q) R = add P (add Q R) := by
 cases P with
 | none => rw [none_add F Q hQ, none_add F _ (add_on F Q R hQ hR)]
 | some a =>
  cases Q with
  | none => rw [add_none F _ hP, none_add F R hR]
  | some b =>
   cases R with
   | none => rw [add_none F _ (add_on F _ _ hP hQ), add_none F _ hQ]
   | some c =>
    obtain ⟨x1, y1⟩ := a
    obtain ⟨x2, y2⟩ := b
    obtain ⟨x3, y3⟩ := c
    have ha := c_assoc hP hQ hR
    have g1 := c_good F hP hQ
    have g2 := c_good F hQ hR
    have on1 := add_on F _ _ hP hQ
    have on2 := add_on F _ _ hQ hR
    obtain ⟨k, hk, ek⟩ := tri_nrm F g1
    obtain ⟨l, hl, el⟩ := tri_nrm F g2
    have gl : ∀ S : Pt p, On S → Good (cX (tri S).1 (tri S).2.1 (tri S).2.2 x3 y3 1) (cY (tri S).1 (tri S).2.1 (tri S).2.2 x3 y3 1) (cZ (tri S).1 (tri S).2.1 (tri S).2.2 x3 y3 1) := fun S hS => by
     cases S with
     | none =>
      have hy := F.y0 hR
      refine ⟨fun hz => ?_⟩
      exfalso
      simp only [tri] at hz
      exact hy (by unfold cZ at hz; grind)
     | some s => exact c_good F hS hR
    have gr : ∀ S : Pt p, On S → Good (cX x1 y1 1 (tri S).1 (tri S).2.1 (tri S).2.2) (cY x1 y1 1 (tri S).1 (tri S).2.1 (tri S).2.2) (cZ x1 y1 1 (tri S).1 (tri S).2.1 (tri S).2.2) := fun S hS => by
     cases S with
     | none =>
      have hy := F.y0 hP
      refine ⟨fun hz => ?_⟩
      exfalso
      simp only [tri] at hz
      exact hy (by unfold cZ at hz; grind)
     | some s => exact c_good F hP hS
    have G1 := gl _ on1
    have G2 := gr _ on2
    have e1 : add (add (some (x1, y1)) (some (x2, y2))) (some (x3, y3)) = nrm (cX (tri (add (some (x1, y1)) (some (x2, y2)))).1 (tri (add (some (x1, y1)) (some (x2, y2)))).2.1 (tri (add (some (x1, y1)) (some (x2, y2)))).2.2 x3 y3 1)
     (cY (tri (add (some (x1, y1)) (some (x2, y2)))).1 (tri (add (some (x1, y1)) (some (x2, y2)))).2.1 (tri (add (some (x1, y1)) (some (x2, y2)))).2.2 x3 y3 1)
     (cZ (tri (add (some (x1, y1)) (some (x2, y2)))).1 (tri (add (some (x1, y1)) (some (x2, y2)))).2.1 (tri (add (some (x1, y1)) (some (x2, y2)))).2.2 x3 y3 1) := rfl
    have e2 : add (some (x1, y1)) (add (some (x2, y2)) (some (x3, y3))) = nrm (cX x1 y1 1 (tri (add (some (x2, y2)) (some (x3, y3)))).1 (tri (add (some (x2, y2)) (some (x3, y3)))).2.1 (tri (add (some (x2, y2)) (some (x3, y3)))).2.2)
     (cY x1 y1 1 (tri (add (some (x2, y2)) (some (x3, y3)))).1 (tri (add (some (x2, y2)) (some (x3, y3)))).2.1 (tri (add (some (x2, y2)) (some (x3, y3)))).2.2)
     (cZ x1 y1 1 (tri (add (some (x2, y2)) (some (x3, y3)))).1 (tri (add (some (x2, y2)) (some (x3, y3)))).2.1 (tri (add (some (x2, y2)) (some (x3, y3)))).2.2) := rfl
    rw [e1, e2]
    have t1 : tri (add (some (x1, y1)) (some (x2, y2))) = (k * cX x1 y1 1 x2 y2 1, k * cY x1 y1 1 x2 y2 1, k * cZ x1 y1 1 x2 y2 1) := ek
    have t2 : tri (add (some (x2, y2)) (some (x3, y3))) = (l * cX x2 y2 1 x3 y3 1, l * cY x2 y2 1 x3 y3 1, l * cZ x2 y2 1 x3 y3 1) := el
    rw [t1] at G1 ⊢
    rw [t2] at G2 ⊢
    simp only at G1 G2 ⊢
    refine nrm_eq F G1 G2 ?_ ?_
    all_goals
     have s1 := c_scale k (cX x1 y1 1 x2 y2 1) (cY x1 y1 1 x2 y2 1) (cZ x1 y1 1 x2 y2 1) 1 x3 y3 1
     have s2 := c_scale 1 x1 y1 1 l (cX x2 y2 1 x3 y3 1) (cY x2 y2 1 x3 y3 1) (cZ x2 y2 1 x3 y3 1)
     have o1 : ∀ a : Fin p, 1 * a = a := fun a => by grind
     simp only [o1] at s1 s2
     have o2 : k * k * (1 : Fin p) = k * k := by grind
    ·rw [s1.1, s1.2.2, s2.1, s2.2.2]
     generalize cX (cX x1 y1 1 x2 y2 1) (cY x1 y1 1 x2 y2 1) (cZ x1 y1 1 x2 y2 1) x3 y3 1 = A at *
     generalize cZ (cX x1 y1 1 x2 y2 1) (cY x1 y1 1 x2 y2 1) (cZ x1 y1 1 x2 y2 1) x3 y3 1 = B at *
     generalize cX x1 y1 1 (cX x2 y2 1 x3 y3 1) (cY x2 y2 1 x3 y3 1) (cZ x2 y2 1 x3 y3 1) = C at *
     generalize cZ x1 y1 1 (cX x2 y2 1 x3 y3 1) (cY x2 y2 1 x3 y3 1) (cZ x2 y2 1 x3 y3 1) = D at *
     have := ha.1
     grind
    ·rw [s1.2.1, s1.2.2, s2.2.1, s2.2.2]
     generalize cY (cX x1 y1 1 x2 y2 1) (cY x1 y1 1 x2 y2 1) (cZ x1 y1 1 x2 y2 1) x3 y3 1 = A at *
     generalize cZ (cX x1 y1 1 x2 y2 1) (cY x1 y1 1 x2 y2 1) (cZ x1 y1 1 x2 y2 1) x3 y3 1 = B at *
     generalize cY x1 y1 1 (cX x2 y2 1 x3 y3 1) (cY x2 y2 1 x3 y3 1) (cZ x2 y2 1 x3 y3 1) = C at *
     generalize cZ x1 y1 1 (cX x2 y2 1 x3 y3 1) (cY x2 y2 1 x3 y3 1) (cZ x2 y2 1 x3 y3 1) = D at *
     have := ha.2
     grind

theorem add_neg (P : Pt p) (h : On P) : add P (neg P) = none := by
 cases P with
 | none => exact add_none F none trivial
 | some a =>
  obtain ⟨x, y⟩ := a
  have : cZ x y 1 x (-y) 1 = 0 := by unfold cZ; grind
  show nrm (cX x y 1 x (-y) 1) (cY x y 1 x (-y) 1) (cZ x y 1 x (-y) 1) = none
  unfold nrm
  rw [if_pos this]

omit F in
theorem neg_on (P : Pt p) (h : On P) : On (neg P) := by
 cases P with
 | none => trivial
 | some a => obtain ⟨x, y⟩ := a; simp only [neg, On] at *; grind

theorem add_chord {x1 y1 x2 y2 : Fin p} (h1 : y1 * y1 = x1 * x1 * x1 + 7) (h2 : y2 * y2 = x2 * x2 * x2 + 7) (hx : x1 ≠ x2) {s : Fin p} (hs : s = (y2 - y1) * kinv (x2 - x1)) :
  add (some (x1, y1)) (some (x2, y2)) = some (s * s - x1 - x2, s * (x1 - (s * s - x1 - x2)) - y1) := by
 have hd : x2 - x1 ≠ 0 := fun h => hx (by grind)
 have he := F.mul_inv hd
 have hz := cZ_ne F h1 h2 hx
 obtain ⟨e1, e2⟩ := chord_eq h1 h2 he hs
 show nrm (cX x1 y1 1 x2 y2 1) (cY x1 y1 1 x2 y2 1) (cZ x1 y1 1 x2 y2 1) = _
 unfold nrm
 rw [if_neg hz, e1, e2]
 have h3 := F.mul_inv hz
 congr 2 <;> grind

theorem add_tangent {x y : Fin p} (h : y * y = x * x * x + 7) {s : Fin p} (hs : s = (x * x + (x * x + x * x)) * kinv (y + y)) :
  add (some (x, y)) (some (x, y)) = some (s * s - x - x, s * (x - (s * s - x - x)) - y) := by
 have hy := F.y0 h
 have h2y : y + y ≠ 0 := by
  have := F.mul F.two hy
  intro h; exact this (by grind)
 have he := F.mul_inv h2y
 obtain ⟨e1, e2, e3⟩ := tangent_eq h he hs
 have hz : cZ x y 1 x y 1 ≠ 0 := by
  rw [e3]
  have h2 := F.two
  have : (8 : Fin p) = 2 * 2 * 2 := by grind
  rw [this]
  exact F.mul (F.mul (F.mul h2 h2) h2) (F.mul (F.mul hy hy) hy)
 show nrm (cX x y 1 x y 1) (cY x y 1 x y 1) (cZ x y 1 x y 1) = _
 unfold nrm
 rw [if_neg hz, e1, e2]
 have h3 := F.mul_inv hz
 congr 2 <;> grind

end
end Go.Ec

namespace Go.Ec

def PPn : Nat := 115792089237316195423570985008687907853269984665640564039457584007908834671663
instance : NeZero PPn := ⟨by decide⟩
theorem PPn_pr : Nt.Pr PPn := Nt.prime_p

theorem val_nat (k : Nat) (h : k < PPn) : (Fin.ofNat PPn k).val = k := Nat.mod_eq_of_lt h

theorem nat_inv {P a : Nat} (h3 : 3 ≤ P) (hf : a ^ (P - 1) % P = 1) : a * (a ^ (P - 2) % P) % P = 1 := by
 have : P - 1 = (P - 2) + 1 := by omega
 rw [this, Nat.pow_succ, Nat.mul_comm] at hf
 rw [Nat.mul_mod_mod]
 exact hf

theorem nat_c {P c : Nat} (h7 : 7 < P) (hv : (c + 7) % P = 0) : (P - 7) % P = c % P := by
 obtain ⟨k, hk⟩ := Nat.dvd_of_mod_eq_zero hv
 have hk0 : k ≠ 0 := fun h => by subst h; omega
 obtain ⟨j, rfl⟩ : ∃ j, k = j + 1 := ⟨k - 1, by omega⟩
 have : c = (P - 7) + P * j := by rw [Nat.mul_add] at hk; omega
 rw [this, Nat.add_mul_mod_self_left]

theorem fin_inv (a : Fin PPn) (ha : a ≠ 0) : ∃ b, a * b = 1 := by
 have hv : ¬ PPn ∣ a.val := fun h => ha (Fin.ext (Nat.eq_zero_of_dvd_of_lt h a.isLt))
 have hf := Nt.fermat PPn_pr hv
 refine ⟨Fin.ofNat PPn (a.val ^ (PPn - 2)), Fin.ext ?_⟩
 rw [Fin.val_mul]
 have e1 : (1 : Fin PPn).val = 1 := rfl
 have e2 : (Fin.ofNat PPn (a.val ^ (PPn - 2))).val = a.val ^ (PPn - 2) % PPn := rfl
 rw [e1, e2]
 exact nat_inv (by decide) hf

theorem fld : Fld PPn := by
 refine ⟨fin_inv, by decide, by decide, by decide, fun x h => ?_⟩
 have hv : (x.val * x.val * x.val + 7) % PPn = 0 := by
  have := congrArg Fin.val h
  rw [Fin.val_add, Fin.val_mul, Fin.val_mul] at this
  have e7 : (7 : Fin PPn).val = 7 := rfl
  have e0 : (0 : Fin PPn).val = 0 := rfl
  rw [e7, e0] at this
  simpa [Nat.add_mod, Nat.mul_mod] using this
 have hx : ¬ PPn ∣ x.val := fun hd => by
  have h0 : x.val = 0 := Nat.eq_zero_of_dvd_of_lt hd x.isLt
  rw [h0] at hv
  revert hv
  decide
 have hf := Nt.fermat PPn_pr hx
 have hp : Nt.pmod PPn (PPn - 7) 256 ((PPn - 1) / 3) ≠ 1 := by
  intro h
  have : (Nt.pmod PPn (PPn - 7) 256 ((PPn - 1) / 3) == 1) = false := by kernel_rfl
  rw [h] at this
  cases this
 rw [Nt.pmod_eq _ _ _ _ (by decide)] at hp
 apply hp
 have hc : (PPn - 7) % PPn = x.val ^ 3 % PPn := by
  have h3 : x.val ^ 3 = x.val * x.val * x.val := by rw [Nat.pow_succ, Nat.pow_succ, Nat.pow_one]
  rw [h3]
  exact nat_c (by decide) hv
 rw [Nat.pow_mod, hc, ← Nat.pow_mod, ← Nat.pow_mul]
 have e3 : 3 * ((PPn - 1) / 3) = PPn - 1 := by decide
 rw [e3, hf]

section
variable {p : Nat} [NeZero p]
noncomputable def smul (k : Nat) (P : Pt p) : Pt p := match k with
 | 0 => none
 | k + 1 => add (smul k P) P

variable (F : Fld p)
include F

theorem smul_on (P : Pt p) (h : On P) : ∀ k, On (smul k P)
 | 0 => trivial
 | k + 1 => add_on F _ _ (smul_on P h k) h

theorem smul_add (P : Pt p) (h : On P) (a : Nat) : ∀ b, smul (a + b) P = add (smul a P) (smul b P)
 | 0 => by rw [Nat.add_zero]; exact (add_none F _ (smul_on F P h a)).symm
 | b + 1 => by
  show add (smul (a + b) P) P = add (smul a P) (add (smul b P) P)
  rw [smul_add P h a b, add_assoc F _ _ _ (smul_on F P h a) (smul_on F P h b) h]

theorem smul_mul (P : Pt p) (h : On P) (a : Nat) : ∀ b, smul (a * b) P = smul b (smul a P)
 | 0 => rfl
 | b + 1 => by
  show smul (a * b + a) P = add (smul b (smul a P)) (smul a P)
  rw [smul_add F P h, smul_mul P h a b]

omit F in
theorem smul_none : ∀ k, (F : Fld p) → smul k (none : Pt p) = none
 | 0, _ => rfl
 | k + 1, F => by
  show add (smul k none) none = none
  rw [smul_none k F]; exact add_none F none trivial

theorem smul_sum (P Q : Pt p) (hP : On P) (hQ : On Q) : ∀ k, smul k (add P Q) = add (smul k P) (smul k Q)
 | 0 => (add_none F none trivial).symm
 | k + 1 => by
  have h1 := smul_on F P hP k
  have h2 := smul_on F Q hQ k
  show add (smul k (add P Q)) (add P Q) = add (add (smul k P) P) (add (smul k Q) Q)
  rw [smul_sum P Q hP hQ k, add_assoc F _ _ _ h1 h2 (add_on F _ _ hP hQ), ← add_assoc F _ _ _ h2 hP hQ, add_comm (smul k Q) P, add_assoc F _ _ _ hP h2 hQ, ← add_assoc F _ _ _ h1 hP (add_on F _ _ h2 hQ)]

end
end Go.Ec

namespace Go.Ec
section
variable {p : Nat} [NeZero p] (F : Fld p)
include F

theorem cancel (A B C : Pt p) (hA : On A) (hB : On B) (hC : On C) (h : add A B = add A C) : B = C := by
 have hn := neg_on A hA
 have e : ∀ D : Pt p, On D → add (neg A) (add A D) = D := fun D hD => by
  rw [← add_assoc F _ _ _ hn hA hD, add_comm (neg A) A, add_neg F A hA, none_add F D hD]
 rw [← e B hB, h, e C hC]

theorem no2 (Q : Pt p) (h : On Q) (h2 : add Q Q = none) : Q = none := by
 cases Q with
 | none => rfl
 | some a =>
  obtain ⟨x, y⟩ := a
  rw [add_tangent F h rfl] at h2
  cases h2

theorem smul_gcd (P : Pt p) (h : On P) : ∀ a b : Nat, smul a P = none → smul b P = none → smul (Nat.gcd a b) P = none := by
 intro a b
 induction a, b using Nat.gcd.induction with
 | H0 n => intro _ h2; simpa using h2
 | H1 m n hm ih =>
  intro h1 h2
  rw [Nat.gcd_rec]
  refine ih ?_ h1
  have e : n = m * (n / m) + n % m := (Nat.div_add_mod n m).symm
  rw [e, smul_add F P h, smul_mul F P h, h1, smul_none _ F, none_add F _ (smul_on F P h _)] at h2
  exact h2

theorem smul_inj (G : Pt p) (hG : On G) {n : Nat} (hn : Nt.Pr n) (h0 : smul n G = none) (h1 : G ≠ none) : ∀ i j, i ≤ j → j < n → smul i G = smul j G → i = j := by
 intro i j hij hj he
 apply Classical.byContradiction
 intro hne
 have hd : smul (j - i) G = none := by
  have e : j = i + (j - i) := by omega
  rw [e, smul_add F G hG] at he
  have := cancel F (smul i G) none (smul (j - i) G) (smul_on F G hG _) trivial (smul_on F G hG _) (by rw [add_none F _ (smul_on F G hG _)]; exact he)
  exact this.symm
 have hg := smul_gcd F G hG _ _ h0 hd
 have hc : Nat.gcd n (j - i) = 1 := hn.coprime fun h => by
  have := Nat.le_of_dvd (by omega) h
  omega
 rw [hc] at hg
 apply h1
 have : smul 1 G = G := none_add F G hG
 rw [← this]; exact hg

end

def code : Pt PPn → Nat
 | none => 2 * PPn
 | some (x, y) => 2 * x.val + y.val % 2

theorem code_lt (P : Pt PPn) : code P < 2 * PPn + 1 := by
 cases P with
 | none => simp [code]
 | some a =>
  obtain ⟨x, y⟩ := a
  have := x.isLt
  simp only [code]; omega

theorem par {P a b : Nat} (hP : P % 2 = 1) (ha : a < P) (hb : b < P) (h : (a + b) % P = 0) (ha0 : a ≠ 0) (hp : a % 2 = b % 2) : False := by
 obtain ⟨k, hk⟩ := Nat.dvd_of_mod_eq_zero h
 have hk1 : k = 1 := by
  rcases k with _ | _ | k
  ·omega
  ·rfl
  ·have : P * (k + 1 + 1) = P * k + P + P := by rw [Nat.mul_add, Nat.mul_add, Nat.mul_one]
   have := Nat.zero_le (P * k)
   omega
 subst hk1
 omega

theorem code_inj (P Q : Pt PPn) (hP : On P) (hQ : On Q) (h : code P = code Q) : P = Q := by
 cases P with
 | none =>
  cases Q with
  | none => rfl
  | some b =>
   obtain ⟨x, y⟩ := b
   have := x.isLt
   simp only [code] at h; omega
 | some a =>
  obtain ⟨x, y⟩ := a
  cases Q with
  | none =>
   have := x.isLt
   simp only [code] at h; omega
  | some b =>
   obtain ⟨x', y'⟩ := b
   simp only [code] at h
   have hx : x = x' := Fin.ext (by omega)
   subst hx
   have hy : y.val % 2 = y'.val % 2 := by omega
   simp only [On] at hP hQ
   have hprod : (y - y') * (y + y') = 0 := by grind
   by_cases hd : y - y' = 0
   ·have : y = y' := by grind
    rw [this]
   ·exfalso
    have hs := fld.nz hprod hd
    have hv : (y.val + y'.val) % PPn = 0 := by
     have := congrArg Fin.val hs
     rw [Fin.val_add] at this
     exact this
    have hy0 : y.val ≠ 0 := fun h0 => fld.y0 hP (Fin.ext h0)
    exact par (by decide) y.isLt y'.isLt hv hy0 hy

def NNn : Nat := 115792089237316195423570985008687907852837564279074904382605163141518161494337

theorem three_n {n p2 i : Nat} (h : i < p2 + 1) (hp : p2 + 1 ≤ 3 * n) : i < n ∨ (n ≤ i ∧ i - n < n) ∨ (n + n ≤ i ∧ i - (n + n) < n) := by omega

theorem order_all {n : Nat} (hNpr : Nt.Pr n) (hle : 2 * PPn + 1 + 1 ≤ 3 * n) (G : Pt PPn) (hG : On G) (h0 : smul n G = none) (h1 : G ≠ none) (P : Pt PPn) (hP : On P) : smul n P = none := by
 apply Classical.byContradiction
 intro hne
 have F := fld
 have hnP := smul_on F P hP n
 have onG : ∀ i, On (smul i G) := smul_on F G hG
 have hPP := add_on F P P hP hP
 have nG : ∀ i, smul n (smul i G) = none := fun i => by rw [← smul_mul F G hG, Nat.mul_comm, smul_mul F G hG, h0, smul_none _ F]
 let f : Nat → Pt PPn := fun i => if i < n then smul i G else if i - n < n then add P (smul (i - n) G) else add (add P P) (smul (i - (n + n)) G)
 have onf : ∀ i, On (f i) := fun i => by
  simp only [f]
  split
  ·exact onG _
  ·split
   ·exact add_on F _ _ hP (onG _)
   ·exact add_on F _ _ hPP (onG _)
 have hcl : ∀ i, code (f i) < 2 * PPn + 1 := fun i => code_lt (f i)
 obtain ⟨i, j, hij, hj, he⟩ : ∃ i j, i < j ∧ j < 2 * PPn + 1 + 1 ∧ code (f i) = code (f j) := by
  generalize 2 * PPn + 1 = q at hcl
  exact Nt.pigeon q (fun i => code (f i)) (fun i _ => hcl i)
 have hf := code_inj _ _ (onf i) (onf j) he
 have hi3 := three_n (i := i) (by omega) hle
 have hj3 := three_n (i := j) hj hle
 have hc := congrArg (smul n) hf
 have v1 : ∀ k, smul n (add P (smul k G)) = smul n P := fun k => by
  rw [smul_sum F _ _ hP (onG k), nG, add_none F _ hnP]
 have v2 : ∀ k, smul n (add (add P P) (smul k G)) = add (smul n P) (smul n P) := fun k => by
  rw [smul_sum F _ _ hPP (onG k), nG, add_none F _ (smul_on F _ hPP _), smul_sum F _ _ hP hP]
 have hne2 : add (smul n P) (smul n P) ≠ none := fun h => hne (no2 F _ hnP h)
 have hne3 : add (smul n P) (smul n P) ≠ smul n P := fun h => hne (cancel F (smul n P) _ none hnP hnP trivial (by rw [h, add_none F _ hnP]))
 have inj : ∀ a b, a < b → b < n → smul a G ≠ smul b G := fun a b hab hb h => by
  have := smul_inj F G hG hNpr h0 h1 a b (by omega) hb h
  omega
 rcases hi3 with h | ⟨ha, hb⟩ | ⟨ha, hb⟩ <;> rcases hj3 with k | ⟨ka, kb⟩ | ⟨ka, kb⟩
 ·simp only [f, if_pos h, if_pos k] at hf
  exact inj i j hij k hf
 ·have k' : ¬ j < n := by omega
  simp only [f, if_pos h, if_neg k', if_pos kb, nG, v1] at hc
  exact hne hc.symm
 ·have k' : ¬ j < n := by omega
  have k'' : ¬ j - n < n := by omega
  simp only [f, if_pos h, if_neg k', if_neg k'', nG, v2] at hc
  exact hne2 hc.symm
 ·omega
 ·have h' : ¬ i < n := by omega
  have k' : ¬ j < n := by omega
  simp only [f, if_neg h', if_pos hb, if_neg k', if_pos kb] at hf
  exact inj (i - n) (j - n) (by omega) kb (cancel F P _ _ hP (onG _) (onG _) hf)
 ·have h' : ¬ i < n := by omega
  have k' : ¬ j < n := by omega
  have k'' : ¬ j - n < n := by omega
  simp only [f, if_neg h', if_pos hb, if_neg k', if_neg k'', v1, v2] at hc
  exact hne3 hc.symm
 ·omega
 ·omega
 ·have h' : ¬ i < n := by omega
  have h'' : ¬ i - n < n := by omega
  have k' : ¬ j < n := by omega
  have k'' : ¬ j - n < n := by omega
  simp only [f, if_neg h', if_neg h'', if_neg k', if_neg k''] at hf
  exact inj (i - (n + n)) (j - (n + n)) (by omega) kb (cancel F (add P P) _ _ hPP (onG _) (onG _) hf)

end Go.Ec

namespace Go.Ec

def kn (n : Nat) : Fin PPn := toK (n : Int)

theorem kn_add (a b : Nat) : kn (a + b) = kn a + kn b := by unfold kn; rw [Int.natCast_add, toK_add]
theorem kn_mul (a b : Nat) : kn (a * b) = kn a * kn b := by unfold kn; rw [Int.natCast_mul, toK_mul]
theorem kn_mod (a : Nat) : kn (a % PPn) = kn a := by
 unfold kn
 rw [toK_eq, Int.natCast_emod, Int.emod_emod_of_dvd _ (Int.dvd_refl _)]
theorem kn_neg (a : Nat) : kn (PPn - a % PPn) = -kn a := by
 have hlt : a % PPn < PPn := Nat.mod_lt _ (by decide)
 have h : kn (PPn - a % PPn) + kn a = 0 := by
  rw [← kn_mod a, ← kn_add]
  have : PPn - a % PPn + a % PPn = PPn := Nat.sub_add_cancel (Nat.le_of_lt hlt)
  rw [this, ← kn_mod, Nat.mod_self]
  exact toK_zero
 grind

def tadd (T U : Nat × Nat × Nat) : Nat × Nat × Nat :=
 (((T.1 * U.2.1 + U.1 * T.2.1) % PPn * ((T.2.1 * U.2.1 + (PPn - (21 * (T.2.2 * U.2.2)) % PPn)) % PPn) + (PPn - (21 * (T.2.1 * U.2.2 + U.2.1 * T.2.2) % PPn * ((T.1 * U.2.2 + U.1 * T.2.2) % PPn)) % PPn)) % PPn,
  ((T.2.1 * U.2.1 + 21 * (T.2.2 * U.2.2)) % PPn * ((T.2.1 * U.2.1 + (PPn - (21 * (T.2.2 * U.2.2)) % PPn)) % PPn) + 63 * (T.1 * U.1) % PPn * ((T.1 * U.2.2 + U.1 * T.2.2) % PPn)) % PPn,
  ((T.2.1 * U.2.2 + U.2.1 * T.2.2) % PPn * ((T.2.1 * U.2.1 + 21 * (T.2.2 * U.2.2)) % PPn) + 3 * (T.1 * U.1) % PPn * ((T.1 * U.2.1 + U.1 * T.2.1) % PPn)) % PPn)

theorem n21 : kn 21 = 21 := k21
theorem n63 : kn 63 = 63 := k63
theorem n3 : kn 3 = 3 := k3

theorem tadd_ok (T U : Nat × Nat × Nat) : kn (tadd T U).1 = cX (kn T.1) (kn T.2.1) (kn T.2.2) (kn U.1) (kn U.2.1) (kn U.2.2) ∧ kn (tadd T U).2.1 = cY (kn T.1) (kn T.2.1) (kn T.2.2) (kn U.1) (kn U.2.1) (kn U.2.2) ∧
  kn (tadd T U).2.2 = cZ (kn T.1) (kn T.2.1) (kn T.2.2) (kn U.1) (kn U.2.1) (kn U.2.2) := by
 unfold tadd cX cY cZ
 simp only [kn_mod, kn_add, kn_mul, kn_neg, n21, n63, n3]
 refine ⟨by grind, by grind, by grind⟩

theorem c00 {p : Nat} [NeZero p] : cX (p := p) 0 1 0 0 1 0 = 0 ∧ cY (p := p) 0 1 0 0 1 0 = 1 := by
 unfold cX cY
 constructor <;> grind

theorem good_all (P Q : Pt PPn) (hP : On P) (hQ : On Q) : Good (cX (tri P).1 (tri P).2.1 (tri P).2.2 (tri Q).1 (tri Q).2.1 (tri Q).2.2) (cY (tri P).1 (tri P).2.1 (tri P).2.2 (tri Q).1 (tri Q).2.1 (tri Q).2.2) (cZ (tri P).1 (tri P).2.1 (tri P).2.2 (tri Q).1 (tri Q).2.1 (tri Q).2.2) := by
 have F := fld
 refine ⟨fun hz => ?_⟩
 cases P with
 | none =>
  cases Q with
  | none =>
   simp only [tri]
   exact ⟨c00.1, fun h => F.one (by rw [← c00.2]; exact h)⟩
  | some b =>
   exfalso
   have hy := F.y0 hQ
   simp only [tri] at hz
   exact hy (by unfold cZ at hz; grind)
 | some a =>
  cases Q with
  | none =>
   exfalso
   have hy := F.y0 hP
   simp only [tri] at hz
   exact hy (by unfold cZ at hz; grind)
  | some b => exact (c_good F hP hQ).inf hz

def Rep (T : Nat × Nat × Nat) (P : Pt PPn) : Prop := ∃ k, k ≠ 0 ∧ tri P = (k * kn T.1, k * kn T.2.1, k * kn T.2.2)

theorem rep_add {T U : Nat × Nat × Nat} {P Q : Pt PPn} (hP : On P) (hQ : On Q) (h1 : Rep T P) (h2 : Rep U Q) : Rep (tadd T U) (add P Q) := by
 have F := fld
 obtain ⟨k, hk, e1⟩ := h1
 obtain ⟨l, hl, e2⟩ := h2
 obtain ⟨m, hm, e3⟩ := tri_nrm F (good_all P Q hP hQ)
 have e4 : tri (add P Q) = _ := e3
 obtain ⟨t1, t2, t3⟩ := tadd_ok T U
 obtain ⟨s1, s2, s3⟩ := c_scale k (kn T.1) (kn T.2.1) (kn T.2.2) l (kn U.1) (kn U.2.1) (kn U.2.2)
 refine ⟨m * (k * k * (l * l)), F.mul hm (F.mul (F.mul hk hk) (F.mul hl hl)), ?_⟩
 rw [e4, e1, e2, t1, t2, t3]
 simp only [s1, s2, s3]
 congr 1
 ·grind
 ·congr 1 <;> grind

def gT : Nat × Nat × Nat := (55066263022277343669578718895168534326250603453777594175500187360389116729240, 32670510020758816978083085130507043184471273380659243275938904335757337482424, 1)

def lad : Nat → Nat → Nat × Nat × Nat
 | 0, _ => (0, 1, 0)
 | k + 1, e => match e % 2 with
  | 0 => tadd (lad k (e / 2)) (lad k (e / 2))
  | _ => tadd (tadd (lad k (e / 2)) (lad k (e / 2))) gT

def gP : Pt PPn := some (kn gT.1, kn gT.2.1)

theorem gP_on : On gP := by
 show kn gT.2.1 * kn gT.2.1 = kn gT.1 * kn gT.1 * kn gT.1 + 7
 have n7 : kn 7 = 7 := k7
 rw [← n7, ← kn_mul, ← kn_mul, ← kn_mul, ← kn_add]
 unfold kn
 rw [toK_eq]
 decide +kernel

theorem rep_g : Rep gT gP := ⟨1, fld.one, by
 have n1 : kn 1 = 1 := k1
 show (kn gT.1, kn gT.2.1, (1 : Fin PPn)) = (1 * kn gT.1, 1 * kn gT.2.1, 1 * kn 1)
 have o1 : ∀ a : Fin PPn, 1 * a = a := fun a => by grind
 rw [n1, o1, o1, o1]⟩

theorem rep_lad : ∀ k e, e < 2 ^ k → Rep (lad k e) (smul e gP)
 | 0, e, h => by
  have : e = 0 := by simpa using h
  subst this
  refine ⟨1, fld.one, ?_⟩
  have n1 : kn 1 = 1 := k1
  have n0 : kn 0 = 0 := toK_zero
  show ((0 : Fin PPn), (1 : Fin PPn), (0 : Fin PPn)) = (1 * kn 0, 1 * kn 1, 1 * kn 0)
  rw [n1, n0]
  rfl
 | k + 1, e, h => by
  have F := fld
  have ih := rep_lad k (e / 2) (by rw [Nat.pow_succ] at h; omega)
  have hon := smul_on F gP gP_on (e / 2)
  have hd := rep_add hon hon ih ih
  unfold lad
  split
  ·rename_i h0
   have : e = e / 2 + e / 2 := by omega
   rw [this, smul_add F gP gP_on, ← this]
   exact hd
  ·rename_i h0
   have h0 : ¬ e % 2 = 0 := h0
   have : e = e / 2 + e / 2 + 1 := by omega
   have e1 : smul e gP = add (add (smul (e / 2) gP) (smul (e / 2) gP)) gP := by
    rw [← smul_add F gP gP_on]
    exact congrArg (fun k => smul k gP) this
   rw [e1]
   exact rep_add (add_on F _ _ hon hon) gP_on hd rep_g

theorem lad_n : Nat.beq (lad 256 115792089237316195423570985008687907852837564279074904382605163141518161494337).2.2 0 = true := by kernel_rfl

theorem n_g {n : Nat} (hn : n = 115792089237316195423570985008687907852837564279074904382605163141518161494337) : smul n gP = none := by
 have h0 := Nat.eq_of_beq_eq_true lad_n
 have hr : n < 2 ^ 256 → Rep (lad 256 n) (smul n gP) := rep_lad 256 n
 rw [← hn] at h0
 obtain ⟨k, hk, e⟩ := hr (by rw [hn]; decide)
 rw [h0] at e
 cases hs : smul n gP with
 | none => rfl
 | some a =>
  rw [hs] at e
  have h2 := congrArg (fun t => t.2.2) e
  simp only [tri] at h2
  have n0 : kn 0 = 0 := toK_zero
  rw [n0] at h2
  exact absurd (by rw [h2]; grind) fld.one

theorem n_all {n : Nat} (hn : n = 115792089237316195423570985008687907852837564279074904382605163141518161494337) (P : Pt PPn) (hP : On P) : smul n P = none :=
 order_all (by rw [hn]; exact Nt.prime_n) (by rw [hn]; decide) gP gP_on (n_g hn) (by unfold gP; exact fun h => by cases h) P hP

end Go.Ec

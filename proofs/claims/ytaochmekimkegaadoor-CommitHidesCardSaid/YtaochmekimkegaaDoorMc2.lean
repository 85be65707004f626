import Derived.Test.YtaochmekimkegaaDoorMp
namespace Go.Ec
section
variable {p : Nat} [NeZero p]

structure Fld (p : Nat) [NeZero p] : Prop where
 inv : ∀ a : Fin p, a ≠ 0 → ∃ b, a * b = 1
 one : (1 : Fin p) ≠ 0
 two : (2 : Fin p) ≠ 0
 three : (3 : Fin p) ≠ 0
 nt : ∀ x : Fin p, x * x * x + 7 ≠ 0

variable (F : Fld p)
include F

theorem Fld.nz {a b : Fin p} (h : a * b = 0) (ha : a ≠ 0) : b = 0 := by
 obtain ⟨c, hc⟩ := F.inv a ha
 have : b = c * (a * b) := by grind
 rw [this, h]; grind

theorem Fld.mul {a b : Fin p} (ha : a ≠ 0) (hb : b ≠ 0) : a * b ≠ 0 := fun h => hb (F.nz h ha)

theorem Fld.y0 {x y : Fin p} (h : y * y = x * x * x + 7) : y ≠ 0 := fun h0 => F.nt x (by rw [← h, h0]; grind)

omit F in
theorem chord_on {x1 y1 x2 y2 e s : Fin p} (h1 : y1 * y1 = x1 * x1 * x1 + 7) (h2 : y2 * y2 = x2 * x2 * x2 + 7) (he : (x2 - x1) * e = 1) (hs : s = (y2 - y1) * e) :
  (s * (x1 - (s * s - x1 - x2)) - y1) * (s * (x1 - (s * s - x1 - x2)) - y1) = (s * s - x1 - x2) * (s * s - x1 - x2) * (s * s - x1 - x2) + 7 := by
 have hs' : s * (x2 - x1) = y2 - y1 := by rw [hs]; grind
 clear hs
 grind

omit F in
theorem tangent_on {x y e s : Fin p} (h : y * y = x * x * x + 7) (he : (y + y) * e = 1) (hs : s = (x * x + (x * x + x * x)) * e) :
  (s * (x - (s * s - x - x)) - y) * (s * (x - (s * s - x - x)) - y) = (s * s - x - x) * (s * s - x - x) * (s * s - x - x) + 7 := by
 have hs' : s * (y + y) = 3 * (x * x) := by rw [hs]; grind
 clear hs
 grind

omit F in
theorem chord_eq {x1 y1 x2 y2 e s : Fin p} (h1 : y1 * y1 = x1 * x1 * x1 + 7) (h2 : y2 * y2 = x2 * x2 * x2 + 7) (he : (x2 - x1) * e = 1) (hs : s = (y2 - y1) * e) :
  cX x1 y1 1 x2 y2 1 = cZ x1 y1 1 x2 y2 1 * (s * s - x1 - x2) ∧ cY x1 y1 1 x2 y2 1 = cZ x1 y1 1 x2 y2 1 * (s * (x1 - (s * s - x1 - x2)) - y1) := by
 have hs' : s * (x2 - x1) = y2 - y1 := by rw [hs]; grind
 clear hs
 unfold cX cY cZ
 constructor <;> grind

omit F in
theorem tangent_eq {x y e s : Fin p} (h : y * y = x * x * x + 7) (he : (y + y) * e = 1) (hs : s = (x * x + (x * x + x * x)) * e) :
  cX x y 1 x y 1 = cZ x y 1 x y 1 * (s * s - x - x) ∧ cY x y 1 x y 1 = cZ x y 1 x y 1 * (s * (x - (s * s - x - x)) - y) ∧ cZ x y 1 x y 1 = 8 * (y * y * y) := by
 have hs' : s * (y + y) = 3 * (x * x) := by rw [hs]; grind
 clear hs
 unfold cX cY cZ
 refine ⟨?_, ?_, ?_⟩ <;> grind

theorem cZ_ne {x1 y1 x2 y2 : Fin p} (h1 : y1 * y1 = x1 * x1 * x1 + 7) (h2 : y2 * y2 = x2 * x2 * x2 + 7) (hx : x1 ≠ x2) : cZ x1 y1 1 x2 y2 1 ≠ 0 := by
 intro hz
 have hd : x2 - x1 ≠ 0 := fun h => hx (by grind)
 obtain ⟨e, he⟩ := F.inv _ hd
 have h2' : (-y2) * (-y2) = x2 * x2 * x2 + 7 := by grind
 have hon := chord_on h1 h2' he rfl
 have hW : ((-y2 - y1) * e) * (x1 - (((-y2 - y1) * e) * ((-y2 - y1) * e) - x1 - x2)) - y1 = 0 := by
  have hs' : ((-y2 - y1) * e) * (x2 - x1) = -y2 - y1 := by grind
  generalize (-y2 - y1) * e = s at *
  unfold cZ at hz
  have k : (x2 - x1) * (x2 - x1) * (x2 - x1) * (s * (x1 - (s * s - x1 - x2)) - y1) = 0 := by grind
  exact F.nz k (F.mul (F.mul hd hd) hd)
 rw [hW] at hon
 exact F.nt _ (by rw [← hon]; grind)

end
end Go.Ec

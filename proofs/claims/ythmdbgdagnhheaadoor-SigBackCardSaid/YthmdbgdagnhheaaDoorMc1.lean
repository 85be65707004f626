import Derived.Test.YthmdbgdagnhheaaDoorMaA
namespace Go.Ec
section
variable {p : Nat} [NeZero p]

def cX (x1 y1 z1 x2 y2 z2 : Fin p) : Fin p := (x1 * y2 + x2 * y1) * (y1 * y2 - 21 * (z1 * z2)) - 21 * (y1 * z2 + y2 * z1) * (x1 * z2 + x2 * z1)
def cY (x1 y1 z1 x2 y2 z2 : Fin p) : Fin p := (y1 * y2 + 21 * (z1 * z2)) * (y1 * y2 - 21 * (z1 * z2)) + 63 * (x1 * x2) * (x1 * z2 + x2 * z1)
def cZ (x1 y1 z1 x2 y2 z2 : Fin p) : Fin p := (y1 * z2 + y2 * z1) * (y1 * y2 + 21 * (z1 * z2)) + 3 * (x1 * x2) * (x1 * y2 + x2 * y1)

theorem test1 (x y : Fin p) (h : y * y = x * x * x + 7) : y * y * y * y = (x * x * x + 7) * (x * x * x + 7) := by grind

theorem c_on {x1 y1 x2 y2 : Fin p} (h1 : y1 * y1 = x1 * x1 * x1 + 7) (h2 : y2 * y2 = x2 * x2 * x2 + 7) :
  cY x1 y1 1 x2 y2 1 * cY x1 y1 1 x2 y2 1 * cZ x1 y1 1 x2 y2 1 = cX x1 y1 1 x2 y2 1 * cX x1 y1 1 x2 y2 1 * cX x1 y1 1 x2 y2 1 + 7 * (cZ x1 y1 1 x2 y2 1 * cZ x1 y1 1 x2 y2 1 * cZ x1 y1 1 x2 y2 1) := by
 unfold cX cY cZ
 grind

theorem c_comm (x1 y1 z1 x2 y2 z2 : Fin p) : cX x1 y1 z1 x2 y2 z2 = cX x2 y2 z2 x1 y1 z1 ∧ cY x1 y1 z1 x2 y2 z2 = cY x2 y2 z2 x1 y1 z1 ∧ cZ x1 y1 z1 x2 y2 z2 = cZ x2 y2 z2 x1 y1 z1 := by
 unfold cX cY cZ
 refine ⟨by grind, by grind, by grind⟩

end
end Go.Ec

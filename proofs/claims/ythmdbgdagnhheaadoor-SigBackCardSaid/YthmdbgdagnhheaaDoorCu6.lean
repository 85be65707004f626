import Derived.Test.YthmdbgdagnhheaaDoorCu5
namespace Go.Hv
open Go.Ev Go.Ec

end Go.Hv
namespace Go.Ec
section
variable {p : Nat} [NeZero p]
theorem alg_neg {x y1 y2 : Fin p} (F : Fld p) (h1 : y1 * y1 = x * x * x + 7) (h2 : y2 * y2 = x * x * x + 7) (hn : y1 ≠ y2) : y2 = -y1 := by
 have hne : y1 - y2 ≠ 0 := fun h => hn (by grind)
 have hsq : (y1 - y2) * (y1 + y2) = 0 := by grind
 have := F.nz hsq hne
 grind
end
end Go.Ec
namespace Go.Hv
open Go.Ev Go.Ec

end Go.Hv

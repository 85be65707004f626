import Derived.Test.YthmdbgdagnhheaaDoorCu4
namespace Go.Hv
open Go.Ev Go.Ec

end Go.Hv
namespace Go.Ec
section
variable {p : Nat} [NeZero p]
theorem alg_cube (x : Fin p) : x * (x * x) + 7 = x * x * x + 7 := by grind
end
end Go.Ec
namespace Go.Hv
open Go.Ev Go.Ec

theorem lt_mod {x : Int} (hx : InW x) : decide (x < pp) = decide (x % pp = x) := by
 have : (x < pp) ↔ (x % pp = x) := by unfold pp; omega
 simp only [this]

end Go.Hv

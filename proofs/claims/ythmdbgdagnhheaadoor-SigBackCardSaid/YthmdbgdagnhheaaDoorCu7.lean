import Derived.Test.YthmdbgdagnhheaaDoorCu6
namespace Go.Ec
section
variable {p : Nat} [NeZero p]
theorem alg_tri (a : Fin p) : a + (a + a) = a + a + a := by grind
theorem sub_eq0 {a b : Fin p} : a - b = 0 ↔ a = b := by
 constructor
 ·intro h; grind
 ·intro h; grind
theorem m1 (a : Fin p) : a * 1 = a := by grind

theorem pl_one {x1 y1 z1 x2 y2 : Fin p} (h1 : z1 ≠ 0) (h : (1 : Fin p) ≠ 0) (hh : x2 * (z1 * z1) ≠ x1) : pl (x1, y1, z1) (x2, y2, 1) =
  (
   let h := x2 * (z1 * z1) - x1
   let r := y2 * (z1 * z1 * z1) - y1
   let hh := h * h
   let hhh := h * hh
   let v := x1 * hh
   let x := r * r - hhh - (v + v)
   (x, r * (v - x) - y1 * hhh, h * z1)) := by
 rw [pl_g h1 h (by rw [m1, m1]; exact fun h => hh (sub_eq0.1 h))]
 unfold plG
 simp only [m1]

theorem pl_one0 {x1 y1 z1 x2 y2 : Fin p} (h1 : z1 = 0) : pl (x1, y1, z1) (x2, y2, 1) = (x2, y2, 1) := if_pos h1
theorem pl_one1 {x1 y1 z1 x2 y2 : Fin p} (h1 : z1 ≠ 0) (h : (1 : Fin p) ≠ 0) (hh : x2 * (z1 * z1) = x1) (hr : y2 * (z1 * z1 * z1) = y1) : pl (x1, y1, z1) (x2, y2, 1) = tw (x1, y1, z1) := by
 show (if z1 = 0 then _ else _) = _
 rw [if_neg h1, if_neg h, if_pos (by rw [m1, m1]; exact sub_eq0.2 hh), if_pos (by rw [m1, m1, m1]; exact sub_eq0.2 hr)]
theorem pl_one2 {x1 y1 z1 x2 y2 : Fin p} (h1 : z1 ≠ 0) (h : (1 : Fin p) ≠ 0) (hh : x2 * (z1 * z1) = x1) (hr : y2 * (z1 * z1 * z1) ≠ y1) : pl (x1, y1, z1) (x2, y2, 1) = (0, 0, 0) := by
 show (if z1 = 0 then _ else _) = _
 rw [if_neg h1, if_neg h, if_pos (by rw [m1, m1]; exact sub_eq0.2 hh), if_neg (by rw [m1, m1, m1]; exact fun h => hr (sub_eq0.1 h))]
end
end Go.Ec
namespace Go.Hv
open Go.Ev Go.Ec

end Go.Hv

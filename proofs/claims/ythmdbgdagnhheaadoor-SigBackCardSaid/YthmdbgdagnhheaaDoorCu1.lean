import Derived.Test.YthmdbgdagnhheaaDoorFer
import Derived.Test.YthmdbgdagnhheaaDoorMc2
import Derived.Test.YthmdbgdagnhheaaDoorCu0
import Derived.Test.YthmdbgdagnhheaaDoorRfA
import Derived.Test.YthmdbgdagnhheaaDoorHs
namespace Go.Ec
open Go.Ev

abbrev KK := Fin PPn
def vK (a : KK) : Int := (a.val : Int)

theorem pp_PPn : pp = (PPn : Int) := by unfold pp PPn; rfl
theorem vK_lt (a : KK) : 0 ≤ vK a ∧ vK a < pp := by
 have h := a.isLt
 rw [pp_PPn]
 unfold vK
 omega
theorem vK_in (a : KK) : InW (vK a) := by
 have h := vK_lt a
 unfold pp at h
 exact ⟨h.1, by omega⟩
theorem vK_mod (a : KK) : vK a % pp = vK a := Int.emod_eq_of_lt (vK_lt a).1 (vK_lt a).2
theorem vK_toK (z : Int) : vK (toK z) = z % pp := by rw [pp_PPn]; exact toK_val z
theorem vK_inj {a b : KK} : vK a = vK b ↔ a = b := ⟨fun h => Fin.ext (by unfold vK at h; omega), fun h => by rw [h]⟩
theorem toK_vK (a : KK) : toK (vK a) = a := vK_inj.1 (by rw [vK_toK, vK_mod])
theorem vK_zero : vK 0 = 0 := rfl
theorem vK_one : vK 1 = 1 := rfl
theorem vK_eq0 {a : KK} : vK a = 0 ↔ a = 0 := by rw [← vK_zero, vK_inj]

theorem mulK (a b : KK) : vK a * vK b % pp = vK (a * b) := by rw [← vK_toK, toK_mul, toK_vK, toK_vK]
theorem addK (a b : KK) : (vK a + vK b) % pp = vK (a + b) := by rw [← vK_toK, toK_add, toK_vK, toK_vK]
theorem negK (a : KK) : -vK a % pp = vK (-a) := by rw [← vK_toK, toK_neg, toK_vK]
theorem toK_sub (x y : Int) : (toK (x - y) : KK) = toK x - toK y := by rw [Int.sub_eq_add_neg, toK_add, toK_neg]; grind
theorem subK (a b : KK) : (vK a - vK b) % pp = vK (a - b) := by rw [← vK_toK, toK_sub, toK_vK, toK_vK]
theorem kinv0 : kinv (0 : KK) = 0 := by
 unfold kinv
 rw [dif_neg]
 rintro ⟨b, hb⟩
 exact fld.one (by rw [← hb]; grind)
theorem invK (a : KK) : vK a ^ (pp - 2).toNat % pp = vK (kinv a) := by
 by_cases h : a = 0
 ·subst h
  rw [kinv0, vK_zero]
  exact pp_inv0 rfl
 ·have h0 : vK a % pp ≠ 0 := by rw [vK_mod]; exact fun h' => h (vK_eq0.1 h')
  have h1 := pp_inv h0
  have h2 : a * toK (vK a ^ (pp - 2).toNat % pp) = 1 := by
   refine vK_inj.1 ?_
   rw [← mulK, vK_toK, Int.emod_emod_of_dvd _ (Int.dvd_refl _), h1]; rfl
  rw [fld.inv_of h2, vK_toK, Int.emod_emod_of_dvd _ (Int.dvd_refl _)]

theorem inQ (z : Int) : InW (z % pp) := by unfold pp; exact ⟨by omega, by omega⟩
theorem decK {a b : KK} {x y : Int} (hx : x = vK a) (hy : y = vK b) : decide (x = y) = decide (a = b) := by
 subst hx hy
 simp only [vK_inj]

end Go.Ec

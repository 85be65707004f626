import Derived.Test.YthmdbgdagnhheaaGreatDoorFer
import Derived.Test.YthmdbgdagnhheaaGreatDoorFeA
namespace Go.Ev

theorem sqrtP_lt (x:Int):(sqrtP x).1%pp=(sqrtP x).1:=by
 unfold sqrtP
 split
 ·split
  ·exact Int.emod_emod_of_dvd _ (Int.dvd_refl _)
  ·exact Int.emod_emod_of_dvd _ (Int.dvd_refl _)
 ·rfl

theorem sqrtP_even (x:Int):(sqrtP x).1%pp%2=0:=by
 rw [sqrtP_lt]
 unfold sqrtP
 have h:0≤rootP x∧rootP x<pp:=by unfold rootP; exact ⟨Int.emod_nonneg _ (by unfold pp; omega),Int.emod_lt_of_pos _ (by unfold pp; omega)⟩
 split
 ·split
  ·rename_i h2
   have : -rootP x%pp=pp-rootP x:=by unfold pp at *; omega
   simp only [this]
   unfold pp at *; omega
  ·rename_i h2
   simp only
   omega
 ·rfl

theorem neg_sq (r:Int):(-r%pp)*(-r%pp)%pp=r*r%pp:=by
 rw [← Int.mul_emod,Int.neg_mul_neg]

theorem sqrtP_sq {x:Int} (h:(sqrtP x).2=true):(sqrtP x).1*(sqrtP x).1%pp=x%pp:=by
 unfold sqrtP at *
 split at h
 ·rename_i h1
  rw [if_pos h1]
  split
  ·simp only [neg_sq]; exact h1
  ·exact h1
 ·cases h

theorem dvd_mul_int {P:Nat} (hP:Nt.Pr P) {u v:Int} (h:(P:Int) ∣ u*v):(P:Int) ∣ u∨(P:Int) ∣ v:=by
 have:P ∣ u.natAbs*v.natAbs:=by
  rw [← Int.natAbs_mul]; exact Int.ofNat_dvd_left.1 h
 rcases hP.mul this with h | h
 ·exact .inl (Int.ofNat_dvd_left.2 h)
 ·exact .inr (Int.ofNat_dvd_left.2 h)

theorem sqrtP_of_sq (x:Int):(sqrtP (x*x%pp)).2=true:=by
 have key:rootP (x*x%pp)*rootP (x*x%pp)%pp=x*x%pp%pp:=by
  unfold rootP
  have e4:((pp+1)/4).toNat+((pp+1)/4).toNat+(((pp+1)/4).toNat+((pp+1)/4).toNat)=(PP-1)+2:=by unfold pp PP; rfl
  generalize ((pp+1)/4).toNat=e at *
  rw [← pow_mod_int (x*x) pp e,← Int.mul_emod,Int.mul_pow,← Int.pow_add,← Int.pow_add,e4,Int.emod_emod_of_dvd _ (Int.dvd_refl _)]
  rw [Int.pow_add,show (2:Nat)=1+1 from rfl,Int.pow_succ,Int.pow_succ,Int.pow_zero,Int.one_mul]
  by_cases hx:x%pp=0
  ·rw [Int.mul_emod,Int.mul_emod x x,hx]
   simp
  ·have hf:=fermat_int PP_prime (x:=x) (by rw [← pp_cast]; exact hx)
   rw [← pp_cast] at hf
   rw [Int.mul_emod,hf,Int.one_mul,Int.emod_emod_of_dvd _ (Int.dvd_refl _)]
 unfold sqrtP
 rw [if_pos key]

theorem sqrtP_pm (x:Int):(sqrtP (x*x%pp)).1=x%pp∨(sqrtP (x*x%pp)).1 = -x%pp:=by
 have h:=sqrtP_sq (sqrtP_of_sq x)
 have hlt:=sqrtP_lt (x*x%pp)
 generalize (sqrtP (x*x%pp)).1=s at *
 rw [Int.emod_emod_of_dvd _ (Int.dvd_refl _)] at h
 have hd:(PP:Int) ∣ (s-x)*(s+x):=by
  rw [← pp_cast]
  have:(s-x)*(s+x)=s*s-x*x:=by grind
  rw [this]
  exact Int.dvd_of_emod_eq_zero (by rw [Int.sub_emod,h,Int.sub_self]; rfl)
 rcases dvd_mul_int PP_prime hd with h1 | h1
 ·left
  rw [← pp_cast] at h1
  have:s%pp=x%pp:=Int.emod_eq_emod_iff_emod_sub_eq_zero.2 (Int.emod_eq_zero_of_dvd h1)
  rw [← hlt]; exact this
 ·right
  rw [← pp_cast] at h1
  have:s%pp = -x%pp:=Int.emod_eq_emod_iff_emod_sub_eq_zero.2 (Int.emod_eq_zero_of_dvd (by rw [Int.sub_neg]; exact h1))
  rw [← hlt]; exact this

end Go.Ev

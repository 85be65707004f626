import Derived.Test.YthmdbgdagnhheaaGreatDoorMc2
import Derived.Test.YthmdbgdagnhheaaGreatDoorFeA
import Derived.Test.YthmdbgdagnhheaaGreatDoorRfA
namespace Go.Ev

theorem pow_cast (a k P:Nat):((a:Int)^k)%(P:Int)=((a^k%P:Nat):Int):=by simp

theorem pow_mod_int (x p:Int) (k:Nat):x^k%p=(x%p)^k%p:=by
 induction k with
 | zero=>rw [Int.pow_zero,Int.pow_zero]
 | succ k ih=>rw [Int.pow_succ,Int.pow_succ,Int.mul_emod,ih,Int.mul_emod ((x%p)^k) (x%p),Int.emod_emod_of_dvd _ (Int.dvd_refl p)]

theorem fermat_int {P:Nat} (hP:Nt.Pr P) {x:Int} (hx:x%(P:Int)≠0):x^(P-1)%(P:Int)=1:=by
 have h2:=hP.1
 rw [pow_mod_int]
 obtain ⟨a,ha⟩:∃ a:Nat,x%(P:Int)=a:=⟨(x%(P:Int)).toNat,by have:=Int.emod_nonneg x (b:=(P:Int)) (by omega); omega⟩
 rw [ha] at hx ⊢
 have hlt:(a:Int)<P:=by rw [← ha]; exact Int.emod_lt_of_pos x (by omega)
 have hna:¬ P ∣ a:=fun h=>by
  have:=Nat.le_of_dvd (by omega) h
  omega
 rw [pow_cast,Nt.fermat hP hna]
 rfl

theorem inv_int {P:Nat} (hP:Nt.Pr P) (h3:3≤P) {x:Int} (hx:x%(P:Int)≠0):x*(x^(P-2)%(P:Int))%(P:Int)=1:=by
 have h:=fermat_int hP hx
 have e:P-1=(P-2)+1:=by omega
 rw [e,Int.pow_succ,Int.mul_comm] at h
 rw [Int.mul_emod,Int.emod_emod_of_dvd _ (Int.dvd_refl _),← Int.mul_emod]
 exact h

theorem inv_zero {P:Nat} (h3:3≤P) {x:Int} (hx:x%(P:Int)=0):x^(P-2)%(P:Int)=0:=by
 rw [pow_mod_int,hx]
 obtain ⟨k,hk⟩:∃ k,P-2=k+1:=⟨P-3,by omega⟩
 rw [hk,Int.pow_succ,Int.mul_zero]
 exact Int.zero_emod _

def PP:Nat:=115792089237316195423570985008687907853269984665640564039457584007908834671663
theorem pp_cast:pp=(PP:Int):=by unfold pp PP; rfl
theorem PP_prime:Nt.Pr PP:=Nt.prime_p
theorem pp_inv {x:Int} (hx:x%pp≠0):x*(x^(pp-2).toNat%pp)%pp=1:=by
 have e:(pp-2).toNat=PP-2:=by unfold pp PP; rfl
 rw [e]
 rw [pp_cast] at hx ⊢
 exact inv_int PP_prime (by unfold PP; omega) hx

theorem pp_inv0 {x:Int} (hx:x%pp=0):x^(pp-2).toNat%pp=0:=by
 have e:(pp-2).toNat=PP-2:=by unfold pp PP; rfl
 rw [e]
 rw [pp_cast] at hx ⊢
 exact inv_zero (by unfold PP; omega) hx

end Go.Ev

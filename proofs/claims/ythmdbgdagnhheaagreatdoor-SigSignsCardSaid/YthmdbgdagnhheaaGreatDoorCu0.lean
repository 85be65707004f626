import Derived.Test.YthmdbgdagnhheaaGreatDoorMc2
namespace Go.Ec
section
variable {p:Nat} [NeZero p]

noncomputable def hm (T:Fin p×Fin p×Fin p):Pt p:=
 if T.2.2=0 then none else some (T.1*(kinv T.2.2*kinv T.2.2),T.2.1*(kinv T.2.2*kinv T.2.2*kinv T.2.2))

def tw (T:Fin p×Fin p×Fin p):Fin p×Fin p×Fin p:=
 match T with
 | (x,y,z)=>if z=0 then T else
  let yy:=y*y
  let s0:=x*yy
  let s1:=s0+s0
  let s:=s1+s1
  let xx:=x*x
  let m:=xx+xx+xx
  let x':=m*m-(s+s)
  let e0:=yy*yy
  let e1:=e0+e0
  let e2:=e1+e1
  let e:=e2+e2
  let zz:=y*z
  (x',m*(s-x')-e,zz+zz)

def plG (x1 y1 z1 x2 y2 z2:Fin p):Fin p×Fin p×Fin p:=
 let u:=x1*(z2*z2)
 let v:=x2*(z1*z1)
 let s:=y1*(z2*z2*z2)
 let t:=y2*(z1*z1*z1)
 let h:=v-u
 let r:=t-s
 let hh:=h*h
 let hhh:=h*hh
 let w:=u*hh
 let x:=r*r-hhh-(w+w)
 (x,r*(w-x)-s*hhh,h*(z1*z2))

def pl (T U:Fin p×Fin p×Fin p):Fin p×Fin p×Fin p:=
 match T,U with
 | (x1,y1,z1),(x2,y2,z2)=>if z1=0 then U else if z2=0 then T else
  if x2*(z1*z1)-x1*(z2*z2)=0 then (if y2*(z1*z1*z1)-y1*(z2*z2*z2)=0 then tw T else (0,0,0)) else
  plG x1 y1 z1 x2 y2 z2

theorem pl_g {x1 y1 z1 x2 y2 z2:Fin p} (hz1:z1≠0) (hz2:z2≠0) (hh:x2*(z1*z1)-x1*(z2*z2)≠0):pl (x1,y1,z1) (x2,y2,z2)=plG x1 y1 z1 x2 y2 z2:=by
 show (if z1=0 then _ else _)=_
 rw [if_neg hz1,if_neg hz2,if_neg hh]

theorem hm_z {x y z:Fin p} (h:z=0):hm (x,y,z)=none:=if_pos h
theorem hm_n {x y z:Fin p} (h:z≠0):hm (x,y,z)=some (x*(kinv z*kinv z),y*(kinv z*kinv z*kinv z)):=if_neg h

theorem alg3 {H j z1 i1 z2 i2:Fin p} (hj:H*j=1) (h1:z1*i1=1) (h2:z2*i2=1):H*(z1*z2)*(j*i1*i2)=1:=by
 have:H*(z1*z2)*(j*i1*i2)=(H*j)*(z1*i1)*(z2*i2):=by grind
 rw [this,hj,h1,h2]
 grind

theorem alg4 {x1 x2 j z1 i1 z2 i2:Fin p} (hj:(x2*(z1*z1)-x1*(z2*z2))*j=1) (h1:z1*i1=1) (h2:z2*i2=1):(x2*(i2*i2)-x1*(i1*i1))*(j*(z1*z1)*(z2*z2))=1:=by
 have:(x2*(i2*i2)-x1*(i1*i1))*(j*(z1*z1)*(z2*z2))=(x2*(z1*z1)*((z2*i2)*(z2*i2))-x1*(z2*z2)*((z1*i1)*(z1*i1)))*j:=by grind
 rw [this,h1,h2]
 rw [← hj]
 grind

theorem alg5 {H U V R k q:Fin p} (hH:V-U=H) (hq:H*k=q):(R*R-H*(H*H)-(U*(H*H)+U*(H*H)))*(k*k)=R*k*(R*k)-U*(q*q)-V*(q*q):=by
 have e1:(R*R-H*(H*H)-(U*(H*H)+U*(H*H)))*(k*k)=R*k*(R*k)-H*((H*k)*(H*k))-(U+U)*((H*k)*(H*k)):=by grind
 rw [e1,hq,← hH]
 grind

theorem alg6 {H U R k q S X:Fin p} (hq:H*k=q):(R*(U*(H*H)-X)-S*(H*(H*H)))*(k*k*k)=R*k*(U*(q*q)-X*(k*k))-S*(q*q*q):=by
 have e1:(R*(U*(H*H)-X)-S*(H*(H*H)))*(k*k*k)=R*k*(U*((H*k)*(H*k))-X*(k*k))-S*((H*k)*(H*k)*(H*k)):=by grind
 rw [e1,hq]

theorem alg7 {x1 i1 z2 i2:Fin p} (h2:z2*i2=1):x1*(z2*z2)*((i1*i2)*(i1*i2))=x1*(i1*i1):=by
 have:x1*(z2*z2)*((i1*i2)*(i1*i2))=x1*(i1*i1)*((z2*i2)*(z2*i2)):=by grind
 rw [this,h2]; grind

theorem alg8 {x1 i1 z2 i2:Fin p} (h2:z2*i2=1):x1*(z2*z2*z2)*((i1*i2)*(i1*i2)*(i1*i2))=x1*(i1*i1*i1):=by
 have:x1*(z2*z2*z2)*((i1*i2)*(i1*i2)*(i1*i2))=x1*(i1*i1*i1)*((z2*i2)*(z2*i2)*(z2*i2)):=by grind
 rw [this,h2]; grind

theorem alg9 {y1 y2 j z1 i1 z2 i2:Fin p} (h1:z1*i1=1) (h2:z2*i2=1):(y2*(i2*i2*i2)-y1*(i1*i1*i1))*(j*(z1*z1)*(z2*z2))=(y2*(z1*z1*z1)-y1*(z2*z2*z2))*(j*i1*i2):=by
 have e1:(y2*(i2*i2*i2)-y1*(i1*i1*i1))*(j*(z1*z1)*(z2*z2))=y2*i2*j*(z1*z1)*((z2*i2)*(z2*i2))-y1*i1*j*(z2*z2)*((z1*i1)*(z1*i1)):=by grind
 have e2:(y2*(z1*z1*z1)-y1*(z2*z2*z2))*(j*i1*i2)=y2*i2*j*(z1*z1)*(z1*i1)-y1*i1*j*(z2*z2)*(z2*i2):=by grind
 rw [e1,e2,h1,h2]
 grind

variable (F:Fld p)
include F

theorem hm_tw (T:Fin p×Fin p×Fin p) (hT:On (hm T)):hm (tw T)=add (hm T) (hm T):=by
 obtain ⟨x,y,z⟩:=T
 by_cases hz:z=0
 ·have e:tw (x,y,z)=(x,y,z):=if_pos hz
  rw [e,hm_z hz]
  exact (add_none F none trivial).symm
 ·have hi:=F.mul_inv hz
  have e:tw (x,y,z)=_:=if_neg hz
  rw [e]
  rw [hm_n hz] at hT ⊢
  generalize kinv z=i at *
  simp only [On] at hT
  rw [add_tangent F hT rfl]
  have hy0:=F.y0 hT
  have hy:y≠0:=fun h=>hy0 (by rw [h]; grind)
  have h2y:y*z+y*z≠0:=by
   have:=F.mul F.two (F.mul hy hz)
   intro h; exact this (by grind)
  rw [hm_n h2y]
  have hk:y*(i*i*i)+y*(i*i*i)≠0:=by
   have:=F.mul F.two hy0
   intro h; exact this (by grind)
  have hj:=F.mul_inv h2y
  generalize kinv (y*z+y*z)=j at *
  have hki:kinv (y*(i*i*i)+y*(i*i*i))=j*(z*z*(z*z)):=F.inv_of (by grind)
  rw [hki]
  have h7:(y*y)*(i*i*i*(i*i*i))=(x*x*x)*(i*i*i*(i*i*i))+7:=by grind
  clear hki hk hy0 hT
  generalize hs:(x*(i*i)*(x*(i*i))+(x*(i*i)*(x*(i*i))+x*(i*i)*(x*(i*i))))*(j*(z*z*(z*z)))=s
  have hs1:s=(x*x+x*x+x*x)*j:=by grind
  have hx:((x*x+x*x+x*x)*(x*x+x*x+x*x)-(x*(y*y)+x*(y*y)+(x*(y*y)+x*(y*y))+(x*(y*y)+x*(y*y)+(x*(y*y)+x*(y*y)))))*(j*j)=s*s-x*(i*i)-x*(i*i):=by
   have e1:(y*y)*(j*j)*4=i*i:=by grind
   rw [hs1]
   grind
  refine congrArg some (Prod.ext hx ?_)
  rw [← hx]
  show (_-_)*(j*j*j)=_
  have e1:(y*y)*(j*j)*4=i*i:=by grind
  have e2:(y*y)*(y*y)*8*(j*j*j)=y*(i*i*i):=by grind
  rw [hs1]
  grind

theorem hm_pl (T U:Fin p×Fin p×Fin p) (hT:On (hm T)) (hU:On (hm U)):hm (pl T U)=add (hm T) (hm U):=by
 obtain ⟨x1,y1,z1⟩:=T
 obtain ⟨x2,y2,z2⟩:=U
 by_cases hz1:z1=0
 ·have e:pl (x1,y1,z1) (x2,y2,z2)=(x2,y2,z2):=if_pos hz1
  rw [e,hm_z (x:=x1) hz1,none_add F _ hU]
 by_cases hz2:z2=0
 ·have e:pl (x1,y1,z1) (x2,y2,z2)=(x1,y1,z1):=by
   show (if z1=0 then _ else _)=_
   rw [if_neg hz1,if_pos hz2]
  rw [e,hm_z (x:=x2) hz2,add_none F _ hT]
 have hi1:=F.mul_inv hz1
 have hi2:=F.mul_inv hz2
 have hT0:=hT
 rw [hm_n hz1] at hT
 rw [hm_n hz2] at hU
 simp only [On] at hT hU
 by_cases hh:x2*(z1*z1)-x1*(z2*z2)=0
 ·have hxe:x1*(kinv z1*kinv z1)=x2*(kinv z2*kinv z2):=by grind
  by_cases hr:y2*(z1*z1*z1)-y1*(z2*z2*z2)=0
  ·have e:pl (x1,y1,z1) (x2,y2,z2)=tw (x1,y1,z1):=by
    show (if z1=0 then _ else _)=_
    rw [if_neg hz1,if_neg hz2,if_pos hh,if_pos hr]
   have hye:y1*(kinv z1*kinv z1*kinv z1)=y2*(kinv z2*kinv z2*kinv z2):=by grind
   rw [e,hm_tw F _ hT0,hm_n hz1,hm_n hz2,← hxe,← hye]
  ·have e:pl (x1,y1,z1) (x2,y2,z2)=(0,0,0):=by
    show (if z1=0 then _ else _)=_
    rw [if_neg hz1,if_neg hz2,if_pos hh,if_neg hr]
   rw [e,hm_z rfl,hm_n hz1,hm_n hz2,← hxe]
   rw [← hxe] at hU
   have hne:y1*(kinv z1*kinv z1*kinv z1)-y2*(kinv z2*kinv z2*kinv z2)≠0:=by
    intro h; exact hr (by grind)
   have hsq:(y1*(kinv z1*kinv z1*kinv z1)-y2*(kinv z2*kinv z2*kinv z2))*(y1*(kinv z1*kinv z1*kinv z1)+y2*(kinv z2*kinv z2*kinv z2))=0:=by grind
   have hn:=F.nz hsq hne
   have:y2*(kinv z2*kinv z2*kinv z2) = -(y1*(kinv z1*kinv z1*kinv z1)):=by grind
   rw [this]
   exact (add_neg F (some (x1*(kinv z1*kinv z1),y1*(kinv z1*kinv z1*kinv z1))) hT).symm
 ·rw [pl_g hz1 hz2 hh,plG]
  have hhz:(x2*(z1*z1)-x1*(z2*z2))*(z1*z2)≠0:=F.mul hh (F.mul hz1 hz2)
  rw [hm_n hhz,hm_n hz1,hm_n hz2]
  have hj:=F.mul_inv hh
  have hk:kinv ((x2*(z1*z1)-x1*(z2*z2))*(z1*z2))=kinv (x2*(z1*z1)-x1*(z2*z2))*kinv z1*kinv z2:=F.inv_of (alg3 hj hi1 hi2)
  rw [hk]
  generalize kinv (x2*(z1*z1)-x1*(z2*z2))=j at *
  generalize kinv z1=i1 at *
  generalize kinv z2=i2 at *
  have hx:x1*(i1*i1)≠x2*(i2*i2):=by
   intro h; exact hh (by grind)
  rw [add_chord F hT hU hx rfl]
  have hd:kinv (x2*(i2*i2)-x1*(i1*i1))=j*(z1*z1)*(z2*z2):=F.inv_of (alg4 hj hi1 hi2)
  rw [hd]
  generalize hs:(y2*(i2*i2*i2)-y1*(i1*i1*i1))*(j*(z1*z1)*(z2*z2))=s
  have hs1:=alg9 (y1:=y1) (y2:=y2) (j:=j) hi1 hi2
  rw [hs] at hs1
  have hq:(x2*(z1*z1)-x1*(z2*z2))*(j*i1*i2)=i1*i2:=by
   have:(x2*(z1*z1)-x1*(z2*z2))*(j*i1*i2)=((x2*(z1*z1)-x1*(z2*z2))*j)*(i1*i2):=by clear hd hk hx hT hU hT0 hhz hh hz1 hz2 hs1 hs; grind
   rw [this,hj]; clear hd hk hx hT hU hT0 hhz hh hz1 hz2 hs1 hs; grind
  have eU:=alg7 (x1:=x1) (i1:=i1) hi2
  have eV:=alg7 (x1:=x2) (i1:=i2) hi1
  have eS:=alg8 (x1:=y1) (i1:=i1) hi2
  have e12:i2*i1=i1*i2:=by clear hd hk hx hT hU hT0 hhz hh hz1 hz2 hs1 hs; grind
  rw [e12] at eV
  have hx3:=alg5 (R:=y2*(z1*z1*z1)-y1*(z2*z2*z2)) rfl hq
  rw [← hs1,eU,eV] at hx3
  refine congrArg some (Prod.ext hx3 ?_)
  have hy3:=alg6 (R:=y2*(z1*z1*z1)-y1*(z2*z2*z2)) (U:=x1*(z2*z2)) (S:=y1*(z2*z2*z2)) (X:=(y2*(z1*z1*z1)-y1*(z2*z2*z2))*(y2*(z1*z1*z1)-y1*(z2*z2*z2))-(x2*(z1*z1)-x1*(z2*z2))*((x2*(z1*z1)-x1*(z2*z2))*(x2*(z1*z1)-x1*(z2*z2)))-(x1*(z2*z2)*((x2*(z1*z1)-x1*(z2*z2))*(x2*(z1*z1)-x1*(z2*z2)))+x1*(z2*z2)*((x2*(z1*z1)-x1*(z2*z2))*(x2*(z1*z1)-x1*(z2*z2))))) hq
  rw [hx3,← hs1,eU,eS] at hy3
  exact hy3

end
end Go.Ec

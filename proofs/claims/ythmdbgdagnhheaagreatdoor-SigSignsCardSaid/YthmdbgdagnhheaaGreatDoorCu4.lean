import Derived.Test.YthmdbgdagnhheaaGreatDoorFer
import Derived.Test.YthmdbgdagnhheaaGreatDoorMc2
import Derived.Test.YthmdbgdagnhheaaGreatDoorCu0
import Derived.Test.YthmdbgdagnhheaaGreatDoorRfA
import Derived.Test.YthmdbgdagnhheaaGreatDoorHs
namespace Go.Ec
open Go.Ev

abbrev KK:=Fin PPn
def vK (a:KK):Int:=(a.val:Int)

theorem pp_PPn:pp=(PPn:Int):=by unfold pp PPn; rfl
theorem vK_lt (a:KK):0≤vK a∧vK a<pp:=by
 have h:=a.isLt
 rw [pp_PPn]
 unfold vK
 omega
theorem vK_in (a:KK):InW (vK a):=by
 have h:=vK_lt a
 unfold pp at h
 exact ⟨h.1,by omega⟩
theorem vK_mod (a:KK):vK a%pp=vK a:=Int.emod_eq_of_lt (vK_lt a).1 (vK_lt a).2
theorem vK_toK (z:Int):vK (toK z)=z%pp:=by rw [pp_PPn]; exact toK_val z
theorem vK_inj {a b:KK}:vK a=vK b↔a=b:=⟨fun h=>Fin.ext (by unfold vK at h; omega),fun h=>by rw [h]⟩
theorem toK_vK (a:KK):toK (vK a)=a:=vK_inj.1 (by rw [vK_toK,vK_mod])
theorem vK_zero:vK 0=0:=rfl
theorem vK_eq0 {a:KK}:vK a=0↔a=0:=by rw [← vK_zero,vK_inj]

theorem mulK (a b:KK):vK a*vK b%pp=vK (a*b):=by rw [← vK_toK,toK_mul,toK_vK,toK_vK]
theorem addK (a b:KK):(vK a+vK b)%pp=vK (a+b):=by rw [← vK_toK,toK_add,toK_vK,toK_vK]
theorem negK (a:KK) : -vK a%pp=vK (-a):=by rw [← vK_toK,toK_neg,toK_vK]
theorem toK_sub (x y:Int):(toK (x-y):KK)=toK x-toK y:=by rw [Int.sub_eq_add_neg,toK_add,toK_neg]; grind
theorem subK (a b:KK):(vK a-vK b)%pp=vK (a-b):=by rw [← vK_toK,toK_sub,toK_vK,toK_vK]
theorem kinv0:kinv (0:KK)=0:=by
 unfold kinv
 rw [dif_neg]
 rintro ⟨b,hb⟩
 exact fld.one (by rw [← hb]; grind)
theorem invK (a:KK):vK a^(pp-2).toNat%pp=vK (kinv a):=by
 by_cases h:a=0
 ·subst h
  rw [kinv0,vK_zero]
  exact pp_inv0 rfl
 ·have h0:vK a%pp≠0:=by rw [vK_mod]; exact fun h'=>h (vK_eq0.1 h')
  have h1:=pp_inv h0
  have h2:a*toK (vK a^(pp-2).toNat%pp)=1:=by
   refine vK_inj.1 ?_
   rw [← mulK,vK_toK,Int.emod_emod_of_dvd _ (Int.dvd_refl _),h1]; rfl
  rw [fld.inv_of h2,vK_toK,Int.emod_emod_of_dvd _ (Int.dvd_refl _)]

theorem inQ (z:Int):InW (z%pp):=by unfold pp; exact ⟨by omega,by omega⟩
theorem decK {a b:KK} {x y:Int} (hx:x=vK a) (hy:y=vK b):decide (x=y)=decide (a=b):=by
 subst hx hy
 simp only [vK_inj]

end Go.Ec

namespace Go.Hv
open Go.Ev Go.Ec

theorem feMulK {a b:KK} {x y:Int} (hx:x=vK a) (hy:y=vK b):∃ z,z=vK (a*b)∧InW z∧Ev.Fn PG f_fe_Mul [W x,W y] (W z):=by
 subst hx hy
 have h:=feMul_fn (vK_in a) (vK_in b)
 rw [mulK] at h
 exact ⟨_,rfl,vK_in _,h⟩
theorem feAddK {a b:KK} {x y:Int} (hx:x=vK a) (hy:y=vK b):∃ z,z=vK (a+b)∧InW z∧Ev.Fn PG f_fe_Add [W x,W y] (W z):=by
 subst hx hy
 have h:=feAdd_fn (vK_in a) (vK_in b)
 rw [addK] at h
 exact ⟨_,rfl,vK_in _,h⟩
theorem feSubK {a b:KK} {x y:Int} (hx:x=vK a) (hy:y=vK b):∃ z,z=vK (a-b)∧InW z∧Ev.Fn PG f_fe_Sub [W x,W y] (W z):=by
 subst hx hy
 have h:=feSub_fn (vK_in a) (vK_in b)
 rw [subK] at h
 exact ⟨_,rfl,vK_in _,h⟩
theorem feNegK {a:KK} {x:Int} (hx:x=vK a):∃ z,z=vK (-a)∧InW z∧Ev.Fn PG f_fe_Neg [W x] (W z):=by
 subst hx
 have h:=feNeg_fn (vK_in a)
 rw [negK] at h
 exact ⟨_,rfl,vK_in _,h⟩
theorem feInvK {a:KK} {x:Int} (hx:x=vK a):∃ z,z=vK (kinv a)∧InW z∧Ev.Fn PG f_fe_Inv [W x] (W z):=by
 subst hx
 have h:=feInv_fn (vK_in a)
 rw [invK] at h
 exact ⟨_,rfl,vK_in _,h⟩

def farC (x y z:Int):List Sc:=words x++(words y++words z)
def farV (T:KK×KK×KK):TV:=.agg (farC (vK T.1) (vK T.2.1) (vK T.2.2))

theorem weq0 {x:Int} (hx:InW x):((x%18446744073709551616==0)&&((x/18446744073709551616%18446744073709551616==0) &&
   ((x/340282366920938463463374607431768211456%18446744073709551616==0)&&((x/6277101735386680763835789423207666416102355444464034512896%18446744073709551616==0)&&true))))=decide (x=0):=
 weq (y:=0) hx ⟨by omega,by omega⟩

set_option maxRecDepth 100000 in
theorem twice_fn (T:KK×KK×KK):Ev.Fn PG f_curve_far_twice [farV T] (farV (tw T)):=by
 refine fn_startH (fun _=>none) h_curve_far_twice rfl (by kernel_rfl) (fun _=>by kernel_rfl) rfl (by kernel_rfl) fun A=>?_
 obtain ⟨a,b,c⟩:=T
 obtain ⟨x,hx⟩:∃ x,x=vK a:=⟨_,rfl⟩
 obtain ⟨y,hy⟩:∃ x,x=vK b:=⟨_,rfl⟩
 obtain ⟨z,hz⟩:∃ x,x=vK c:=⟨_,rfl⟩
 have hxi:=vK_in a
 have hyi:=vK_in b
 have hzi:=vK_in c
 rw [← hx] at hxi
 rw [← hy] at hyi
 rw [← hz] at hzi
 have e0:farV (a,b,c)=.agg (farC x y z):=by rw [hx,hy,hz]; rfl
 rw [e0]
 refine swp_cut fun K hK hR _=>?_
 conv=>whnf
 refine hK _ _ (swp_cut fun K1 hK1 hR1 _=>swp_cut fun K hK hR _=>?_)
 conv=>whnf
 refine hK _ _ ?_
 conv=>whnf
 rw [weq0 hzi]
 by_cases hc:c=0
 ·have hz0:z=0:=by rw [hz,hc]; rfl
  rw [decide_eq_true hz0]
  conv=>whnf
  refine hR1 _ _ ?_
  conv=>whnf
  intro c2 N2 _ _
  have e1:tw (a,b,c)=(a,b,c):=if_pos hc
  rw [e1,e0]
  rfl
 ·have hz0:z≠0:=by rw [hz]; exact fun h=>hc (vK_eq0.1 h)
  rw [decide_eq_false hz0]
  conv=>whnf
  refine hK1 _ _ ?_
  clear hK hR hK1 hR1
  obtain ⟨yy,eyy,iyy,c1⟩:=feMulK hy hy
  obtain ⟨s0,es0,is0,c2⟩:=feMulK hx eyy
  obtain ⟨s1,es1,is1,c3⟩:=feAddK es0 es0
  obtain ⟨s2,es2,is2,c4⟩:=feAddK es1 es1
  obtain ⟨xx,exx,ixx,c5⟩:=feMulK hx hx
  obtain ⟨m1,em1,im1,c6⟩:=feAddK exx exx
  obtain ⟨m2,em2,im2,c7⟩:=feAddK em1 exx
  obtain ⟨mm,emm,imm,c8⟩:=feMulK em2 em2
  obtain ⟨ss,ess,iss,c9⟩:=feAddK es2 es2
  obtain ⟨x3,ex3,ix3,c10⟩:=feSubK emm ess
  obtain ⟨e1,ee1,ie1,c11⟩:=feMulK eyy eyy
  obtain ⟨e2,ee2,ie2,c12⟩:=feAddK ee1 ee1
  obtain ⟨e3,ee3,ie3,c13⟩:=feAddK ee2 ee2
  obtain ⟨e4,ee4,ie4,c14⟩:=feAddK ee3 ee3
  obtain ⟨z1,ez1,iz1,c15⟩:=feMulK hy hz
  obtain ⟨d1,ed1,id1,c16⟩:=feSubK es2 ex3
  obtain ⟨d2,ed2,id2,c17⟩:=feMulK em2 ed1
  obtain ⟨y3,ey3,iy3,c18⟩:=feSubK ed2 ee4
  obtain ⟨z3,ez3,iz3,c19⟩:=feAddK ez1 ez1
  have e1:tw (a,b,c)=_:=if_neg hc
  have ef:farV (tw (a,b,c))=.agg (farC x3 y3 z3):=by rw [e1,ex3,ey3,ez3]; rfl
  rw [ef]
  refine swp_cut fun K hK hR _=>?_
  conv=>whnf
  refine ⟨_,c1,rfl,?_⟩
  conv=>whnf
  refine hK _ _ ?_
  clear hK hR
  refine swp_cut fun K hK hR _=>?_
  conv=>whnf
  refine ⟨_,c2,rfl,?_⟩
  conv=>whnf
  refine hK _ _ ?_
  clear hK hR
  refine swp_cut fun K hK hR _=>?_
  conv=>whnf
  refine ⟨_,c3,rfl,?_⟩
  conv=>whnf
  refine hK _ _ ?_
  clear hK hR
  refine swp_cut fun K hK hR _=>?_
  conv=>whnf
  refine ⟨_,c4,rfl,?_⟩
  conv=>whnf
  refine hK _ _ ?_
  clear hK hR
  refine swp_cut fun K hK hR _=>?_
  conv=>whnf
  refine ⟨_,c5,rfl,?_⟩
  conv=>whnf
  refine hK _ _ ?_
  clear hK hR
  refine swp_cut fun K hK hR _=>?_
  conv=>whnf
  refine ⟨_,c6,rfl,?_⟩
  conv=>whnf
  refine ⟨_,c7,rfl,?_⟩
  conv=>whnf
  refine hK _ _ ?_
  clear hK hR
  refine swp_cut fun K hK hR _=>?_
  conv=>whnf
  refine ⟨_,c8,rfl,?_⟩
  conv=>whnf
  refine ⟨_,c9,rfl,?_⟩
  conv=>whnf
  refine ⟨_,c10,rfl,?_⟩
  conv=>whnf
  refine hK _ _ ?_
  clear hK hR
  refine swp_cut fun K hK hR _=>?_
  conv=>whnf
  refine ⟨_,c11,rfl,?_⟩
  conv=>whnf
  refine hK _ _ ?_
  clear hK hR
  refine swp_cut fun K hK hR _=>?_
  conv=>whnf
  refine ⟨_,c12,rfl,?_⟩
  conv=>whnf
  refine hK _ _ ?_
  clear hK hR
  refine swp_cut fun K hK hR _=>?_
  conv=>whnf
  refine ⟨_,c13,rfl,?_⟩
  conv=>whnf
  refine hK _ _ ?_
  clear hK hR
  refine swp_cut fun K hK hR _=>?_
  conv=>whnf
  refine ⟨_,c14,rfl,?_⟩
  conv=>whnf
  refine hK _ _ ?_
  clear hK hR
  refine swp_cut fun K hK hR _=>?_
  conv=>whnf
  refine ⟨_,c15,rfl,?_⟩
  conv=>whnf
  refine hK _ _ ?_
  clear hK hR
  refine swp_cut fun K hK hR _=>?_
  conv=>whnf
  refine ⟨_,c16,rfl,?_⟩
  conv=>whnf
  refine ⟨_,c17,rfl,?_⟩
  conv=>whnf
  refine ⟨_,c18,rfl,?_⟩
  conv=>whnf
  refine ⟨_,c19,rfl,?_⟩
  conv=>whnf
  refine hK _ _ ?_
  clear hK hR
  conv=>whnf
  intro c2 N2 _ _
  rfl

theorem vK_nm (a:KK):∃ x,x=vK a∧InW x:=⟨_,rfl,vK_in a⟩
theorem farV_eq {a b c:KK} {x y z:Int} (hx:x=vK a) (hy:y=vK b) (hz:z=vK c):farV (a,b,c)=.agg (farC x y z):=by rw [hx,hy,hz]; rfl
theorem dec0 {a:KK} {x:Int} (hx:x=vK a) (h:a=0):decide (x=0)=true:=decide_eq_true (by rw [hx,h]; rfl)
theorem dec1 {a:KK} {x:Int} (hx:x=vK a) (h:a≠0):decide (x=0)=false:=decide_eq_false (by rw [hx]; exact fun h'=>h (vK_eq0.1 h'))

def ordPlus:Nat→Option (List Nat)
 | 5=>some [0,1,2,3,4,5,6,7,8,9,10,12,11,13]
 | 6=>some [0,1,2,3,4,5,6,7,8,10,9,11]
 | 7=>some [0,1,2,3,4,5,6,7,8,9,10,11,12,13,14,16,15,17]
 | 8=>some [0,1,2,3,4,5,6,8,7,9]
 | _=>none

set_option maxRecDepth 100000 in
theorem plus_fn (T U:KK×KK×KK):Ev.Fn PG f_curve_far_plus [farV T,farV U] (farV (pl T U)):=by
 refine fn_startH ordPlus h_curve_far_plus rfl (by kernel_rfl) (fun _=>by kernel_rfl) rfl (by kernel_rfl) fun A=>?_
 obtain ⟨a1,b1,c1⟩:=T
 obtain ⟨a2,b2,c2⟩:=U
 obtain ⟨x1,hx1,ix1⟩:=vK_nm a1
 obtain ⟨y1,hy1,iy1⟩:=vK_nm b1
 obtain ⟨z1,hz1,iz1⟩:=vK_nm c1
 obtain ⟨x2,hx2,ix2⟩:=vK_nm a2
 obtain ⟨y2,hy2,iy2⟩:=vK_nm b2
 obtain ⟨z2,hz2,iz2⟩:=vK_nm c2
 have e1:=farV_eq hx1 hy1 hz1
 have e2:=farV_eq hx2 hy2 hz2
 rw [e1,e2]
 refine swp_cut fun K hK hR _=>?_
 conv=>whnf
 refine hK _ _ ?_
 clear hK hR
 refine swp_cut fun K1 hK1 hR1 _=>swp_cut fun K hK hR _=>?_
 conv=>whnf
 refine hK _ _ ?_
 clear hK hR
 conv=>whnf
 rw [weq0 iz1]
 by_cases hc1:c1=0
 ·have e:pl (a1,b1,c1) (a2,b2,c2)=(a2,b2,c2):=if_pos hc1
  rw [dec0 hz1 hc1]
  conv=>whnf
  refine hR1 _ _ ?_
  conv=>whnf
  intro c N2 _ _
  rw [e,e2]
  rfl
 rw [dec1 hz1 hc1]
 conv=>whnf
 refine hK1 _ _ ?_
 clear hK1 hR1
 refine swp_cut fun K1 hK1 hR1 _=>swp_cut fun K hK hR _=>?_
 conv=>whnf
 refine hK _ _ ?_
 clear hK hR
 conv=>whnf
 rw [weq0 iz2]
 by_cases hc2:c2=0
 ·have e:pl (a1,b1,c1) (a2,b2,c2)=(a1,b1,c1):=by
   show (if c1=0 then _ else _)=_
   rw [if_neg hc1,if_pos hc2]
  rw [dec0 hz2 hc2]
  conv=>whnf
  refine hR1 _ _ ?_
  conv=>whnf
  intro c N2 _ _
  rw [e,e1]
  rfl
 rw [dec1 hz2 hc2]
 conv=>whnf
 refine hK1 _ _ ?_
 clear hK1 hR1
 obtain ⟨zz1,ezz1,izz1,m1⟩:=feMulK hz1 hz1
 obtain ⟨zz2,ezz2,izz2,m2⟩:=feMulK hz2 hz2
 obtain ⟨u,eu,iu,m3⟩:=feMulK hx1 ezz2
 obtain ⟨v,ev,iv,m4⟩:=feMulK hx2 ezz1
 obtain ⟨s0,es0,is0,m5⟩:=feMulK ezz2 hz2
 obtain ⟨s,es,is,m6⟩:=feMulK hy1 es0
 obtain ⟨t0,et0,it0,m7⟩:=feMulK ezz1 hz1
 obtain ⟨t,et,it,m8⟩:=feMulK hy2 et0
 obtain ⟨h,eh,ih,m9⟩:=feSubK ev eu
 obtain ⟨r,er,ir,m10⟩:=feSubK et es
 refine swp_cut fun K hK hR _=>?_
 conv=>whnf
 refine ⟨_,m1,rfl,?_⟩
 conv=>whnf
 refine ⟨_,m2,rfl,?_⟩
 conv=>whnf
 refine hK _ _ ?_
 clear hK hR
 refine swp_cut fun K hK hR _=>?_
 conv=>whnf
 refine ⟨_,m3,rfl,?_⟩
 conv=>whnf
 refine ⟨_,m4,rfl,?_⟩
 conv=>whnf
 refine hK _ _ ?_
 clear hK hR
 refine swp_cut fun K hK hR _=>?_
 conv=>whnf
 refine ⟨_,m5,rfl,?_⟩
 conv=>whnf
 refine ⟨_,m6,rfl,?_⟩
 conv=>whnf
 refine ⟨_,m7,rfl,?_⟩
 conv=>whnf
 refine ⟨_,m8,rfl,?_⟩
 conv=>whnf
 refine hK _ _ ?_
 clear hK hR
 refine swp_cut fun K hK hR _=>?_
 conv=>whnf
 refine ⟨_,m9,rfl,?_⟩
 conv=>whnf
 refine ⟨_,m10,rfl,?_⟩
 conv=>whnf
 refine hK _ _ ?_
 clear hK hR
 refine swp_cut fun K1 hK1 hR1 _=>swp_cut fun K hK hR _=>?_
 conv=>whnf
 refine hK _ _ ?_
 clear hK hR
 conv=>whnf
 rw [weq0 ih]
 by_cases hh:a2*(c1*c1)-a1*(c2*c2)=0
 ·rw [dec0 eh hh]
  conv=>whnf
  rw [weq0 ir]
  by_cases hr:b2*(c1*c1*c1)-b1*(c2*c2*c2)=0
  ·rw [dec0 er hr]
   have tf:=twice_fn (a1,b1,c1)
   rw [e1] at tf
   have e:pl (a1,b1,c1) (a2,b2,c2)=tw (a1,b1,c1):=by
    show (if c1=0 then _ else _)=_
    rw [if_neg hc1,if_neg hc2,if_pos hh,if_pos hr]
   conv=>whnf
   refine ⟨_,tf,rfl,?_⟩
   conv=>whnf
   refine hR1 _ _ ?_
   conv=>whnf
   intro c N2 _ _
   rw [e]
   rfl
  ·rw [dec1 er hr]
   have e:pl (a1,b1,c1) (a2,b2,c2)=(0,0,0):=by
    show (if c1=0 then _ else _)=_
    rw [if_neg hc1,if_neg hc2,if_pos hh,if_neg hr]
   conv=>whnf
   refine hR1 _ _ ?_
   conv=>whnf
   intro c N2 _ _
   rw [e]
   rfl
 rw [dec1 eh hh]
 conv=>whnf
 refine hK1 _ _ ?_
 clear hK1 hR1
 obtain ⟨hh2,ehh,ihh,m11⟩:=feMulK eh eh
 obtain ⟨hhh,ehhh,ihhh,m12⟩:=feMulK eh ehh
 obtain ⟨w,ew,iw,m13⟩:=feMulK eu ehh
 obtain ⟨rr,err,irr,m14⟩:=feMulK er er
 obtain ⟨x30,ex30,ix30,m15⟩:=feSubK err ehhh
 obtain ⟨ww,eww,iww,m16⟩:=feAddK ew ew
 obtain ⟨x3,ex3,ix3,m17⟩:=feSubK ex30 eww
 obtain ⟨y30,ey30,iy30,m18⟩:=feSubK ew ex3
 obtain ⟨y31,ey31,iy31,m19⟩:=feMulK er ey30
 obtain ⟨y32,ey32,iy32,m20⟩:=feMulK es ehhh
 obtain ⟨y3,ey3,iy3,m21⟩:=feSubK ey31 ey32
 obtain ⟨z30,ez30,iz30,m22⟩:=feMulK hz1 hz2
 obtain ⟨z3,ez3,iz3,m23⟩:=feMulK eh ez30
 have ef:farV (pl (a1,b1,c1) (a2,b2,c2))=.agg (farC x3 y3 z3):=by rw [pl_g hc1 hc2 hh,ex3,ey3,ez3]; rfl
 refine swp_cut fun K hK hR _=>?_
 conv=>whnf
 refine ⟨_,m11,rfl,?_⟩
 conv=>whnf
 refine hK _ _ ?_
 clear hK hR
 refine swp_cut fun K hK hR _=>?_
 conv=>whnf
 refine ⟨_,m12,rfl,?_⟩
 conv=>whnf
 refine hK _ _ ?_
 clear hK hR
 refine swp_cut fun K hK hR _=>?_
 conv=>whnf
 refine ⟨_,m13,rfl,?_⟩
 conv=>whnf
 refine hK _ _ ?_
 clear hK hR
 refine swp_cut fun K hK hR _=>?_
 conv=>whnf
 refine ⟨_,m14,rfl,?_⟩
 conv=>whnf
 refine ⟨_,m15,rfl,?_⟩
 conv=>whnf
 refine ⟨_,m16,rfl,?_⟩
 conv=>whnf
 refine ⟨_,m17,rfl,?_⟩
 conv=>whnf
 refine hK _ _ ?_
 clear hK hR
 refine swp_cut fun K hK hR _=>?_
 conv=>whnf
 refine ⟨_,m18,rfl,?_⟩
 conv=>whnf
 refine ⟨_,m19,rfl,?_⟩
 conv=>whnf
 refine ⟨_,m20,rfl,?_⟩
 conv=>whnf
 refine ⟨_,m21,rfl,?_⟩
 conv=>whnf
 refine ⟨_,m22,rfl,?_⟩
 conv=>whnf
 refine ⟨_,m23,rfl,?_⟩
 conv=>whnf
 refine hK _ _ ?_
 clear hK hR
 conv=>whnf
 intro c N2 _ _
 rw [ef]
 rfl

end Go.Hv

namespace Go.Hv
open Go.Ev Go.Ec

def ptC (x y:Int) (b:Bool):List Sc:=words x++(words y++[.bool b])
def ptV (x y:Int) (b:Bool):TV:=.agg (ptC x y b)

theorem feMulT {x y:Int} (hx:InW x) (hy:InW y):∃ z,z=vK (toK x*toK y)∧InW z∧Ev.Fn PG f_fe_Mul [W x,W y] (W z):=
 ⟨_,by rw [← toK_mul,vK_toK],inQ _,feMul_fn hx hy⟩
theorem feMulT2 {a:KK} {x y:Int} (hx:x=vK a) (hy:InW y):∃ z,z=vK (a*toK y)∧InW z∧Ev.Fn PG f_fe_Mul [W x,W y] (W z):=by
 subst hx
 have h:=feMul_fn (vK_in a) hy
 have e:vK a*y%pp=vK (a*toK y):=by rw [← vK_toK,toK_mul,toK_vK]
 rw [e] at h
 exact ⟨_,rfl,vK_in _,h⟩

theorem seven_fn:Ev.Fn PG f_curve_seven [] (W 7):=by
 refine fn_startH (fun _=>none) h_curve_seven rfl (by kernel_rfl) (fun _=>by kernel_rfl) rfl rfl fun A=>?_
 have c1:=feOf_fn (n:=7) ⟨by omega,by omega⟩
 conv=>whnf
 refine ⟨_,c1,rfl,?_⟩
 conv=>whnf
 intro c N2 _ _
 rfl

theorem seven_K:(7:Int)=vK 7:=rfl

theorem cube_fn {x:Int} (hx:InW x):∃ z,z=vK (toK x*toK x*toK x+7)∧InW z∧Ev.Fn PG f_curve_cube [W x] (W z):=by
 obtain ⟨x2,e2,i2,c1⟩:=feMulT hx hx
 obtain ⟨x3,e3,i3,c2⟩:=feMulT2 e2 hx
 obtain ⟨x4,e4,i4,c3⟩:=feAddK e3 seven_K
 have c4:=seven_fn
 refine ⟨x4,e4,i4,?_⟩
 refine fn_startH (fun _=>none) h_curve_cube rfl (by kernel_rfl) (fun _=>by kernel_rfl) rfl rfl fun A=>?_
 refine swp_cut fun K hK hR _=>?_
 conv=>whnf
 refine hK _ _ ?_
 clear hK hR
 refine swp_cut fun K hK hR _=>?_
 conv=>whnf
 refine ⟨_,c1,rfl,?_⟩
 conv=>whnf
 refine ⟨_,c2,rfl,?_⟩
 conv=>whnf
 refine ⟨_,c4,rfl,?_⟩
 conv=>whnf
 refine ⟨_,c3,rfl,?_⟩
 conv=>whnf
 refine hK _ _ ?_
 clear hK hR
 conv=>whnf
 intro c N2 _ _
 rfl

theorem weqR {x y:Int} (hx:InW x) (hy:InW y) (r:Bool):((x%18446744073709551616==y%18446744073709551616) &&
  ((x/18446744073709551616%18446744073709551616==y/18446744073709551616%18446744073709551616) &&
   ((x/340282366920938463463374607431768211456%18446744073709551616==y/340282366920938463463374607431768211456%18446744073709551616) &&
    ((x/6277101735386680763835789423207666416102355444464034512896%18446744073709551616==y/6277101735386680763835789423207666416102355444464034512896%18446744073709551616)&&r))))=(decide (x=y)&&r):=by
 cases r with
 | true=>rw [weq hx hy,Bool.and_true]
 | false=>simp only [Bool.and_false]

theorem peq {x y x' y':Int} (hx:InW x) (hy:InW y) (hx':InW x') (hy':InW y') (r:Bool):((x%18446744073709551616==x'%18446744073709551616) &&
  ((x/18446744073709551616%18446744073709551616==x'/18446744073709551616%18446744073709551616) &&
   ((x/340282366920938463463374607431768211456%18446744073709551616==x'/340282366920938463463374607431768211456%18446744073709551616) &&
    ((x/6277101735386680763835789423207666416102355444464034512896%18446744073709551616==x'/6277101735386680763835789423207666416102355444464034512896%18446744073709551616) &&
 ((y%18446744073709551616==y'%18446744073709551616) &&
  ((y/18446744073709551616%18446744073709551616==y'/18446744073709551616%18446744073709551616) &&
   ((y/340282366920938463463374607431768211456%18446744073709551616==y'/340282366920938463463374607431768211456%18446744073709551616) &&
    ((y/6277101735386680763835789423207666416102355444464034512896%18446744073709551616==y'/6277101735386680763835789423207666416102355444464034512896%18446744073709551616)&&r))))))))=(decide (x=x')&&(decide (y=y')&&r)):=by
 rw [weqR hx hx',weqR hy hy']

def rightP (x y:Int) (b:Bool):Bool:=
 match b with
 | true=>decide (x=0)&&decide (y=0)
 | false=>decide (x%pp=x)&&(decide (y%pp=y)&&decide (toK y*toK y=toK x*toK x*toK x+(7:KK)))

def tkn (x y:Int) (b:Bool):Pt PPn:=
 match b with
 | true=>none
 | false=>match rightP x y false with
  | true=>some (toK x,toK y)
  | false=>none

theorem tkn_on (x y:Int) (b:Bool):On (tkn x y b):=by
 unfold tkn
 split
 ·trivial
 ·split
  ·rename_i h
   simp only [rightP,Bool.and_eq_true,decide_eq_true_eq] at h
   exact h.2.2
  ·trivial

theorem zero_fn:Ev.Fn PG f_curve_Zero [] (ptV 0 0 true):=by
 refine fn_startH (fun _=>none) h_curve_Zero rfl (by kernel_rfl) (fun _=>by kernel_rfl) rfl rfl fun A=>?_
 conv=>whnf
 intro c N2 _ _
 rfl

set_option maxRecDepth 100000 in
theorem cRight_fn {x y:Int} {b:Bool} (hx:InW x) (hy:InW y):Ev.Fn PG f_curve_Right [ptV x y b] (.one (.bool (rightP x y b))):=by
 refine fn_startH (fun _=>none) h_curve_Right rfl (by kernel_rfl) (fun _=>by kernel_rfl) rfl rfl fun A=>?_
 have c0:=zero_fn
 have c1:=norm_fn hx
 have c2:=norm_fn hy
 obtain ⟨y2,ey2,iy2,c3⟩:=feMulT hy hy
 obtain ⟨x3,ex3,ix3,c4⟩:=cube_fn hx
 have w1:=weq (inQ x) hx
 have w2:=weq (inQ y) hy
 have w3:=weq iy2 ix3
 rw [decK ey2 ex3] at w3
 refine swp_cut fun K hK hR _=>?_
 conv=>whnf
 refine hK _ _ ?_
 clear hK hR
 refine swp_cut fun K1 hK1 hR1 _=>swp_cut fun K hK hR _=>?_
 conv=>whnf
 refine hK _ _ ?_
 clear hK hR
 conv=>whnf
 cases b with
 | true=>
  conv=>whnf
  refine ⟨_,c0,rfl,?_⟩
  conv=>whnf
  rw [peq hx hy (x':=0) (y':=0) ⟨by omega,by omega⟩ ⟨by omega,by omega⟩]
  refine hR1 _ _ ?_
  conv=>whnf
  intro c N2 _ _
  unfold rightP
  simp only [beq_self_eq_true,Bool.and_true]
  rfl
 | false=>
  conv=>whnf
  refine hK1 _ _ ?_
  clear hK1 hR1
  cases h1:decide (x%pp=x)<;>cases h2:decide (y%pp=y)<;>cases h3:decide (toK y*toK y=toK x*toK x*toK x+(7:KK))
  all_goals
   rw [h1] at w1
   rw [h2] at w2
   rw [h3] at w3
   refine swp_cut fun K hK hR _=>?_
   repeat (refine aops_step fun T S hT hS=>?_; (conv=>whnf); (try rw [w1]); (try rw [w2]); (try rw [w3]); first | refine hT _ _ ?_ | refine hS ?_ | (refine ⟨_,c1,rfl,?_⟩; refine hT _ _ ?_) | (refine ⟨_,c2,rfl,?_⟩; refine hT _ _ ?_) | (refine ⟨_,c3,rfl,?_⟩; refine hT _ _ ?_) | (refine ⟨_,c4,rfl,?_⟩; refine hT _ _ ?_))
   refine aops_end ?_
   refine hK _ _ ?_
   conv=>whnf
   intro c N2 _ _
   unfold rightP
   simp only [h1,h2,h3]
   rfl

end Go.Hv

namespace Go.Hv
open Go.Ev Go.Ec

def outT (P:Pt PPn):KK×KK×KK:=
 match P with
 | none=>(0,0,0)
 | some (a,c)=>(a,c,1)

theorem kinv1:kinv (1:KK)=1:=fld.inv_of (by decide)

theorem hm_out (P:Pt PPn):hm (outT P)=P:=by
 match P with
 | none=>exact hm_z rfl
 | some (a,c)=>
  show hm (a,c,1)=_
  rw [hm_n fld.one,kinv1]
  have h1:∀ z:KK,z*(1*1)=z:=fun z=>by
   have:(1:KK)*1=1:=rfl
   rw [this]; exact Fin.mul_one z
  have h2:∀ z:KK,z*(1*1*1)=z:=fun z=>by
   have:(1:KK)*1*1=1:=rfl
   rw [this]; exact Fin.mul_one z
  rw [h1,h2]

def ptOf (P:Pt PPn):TV:=
 match P with
 | none=>ptV 0 0 true
 | some (a,c)=>ptV (vK a) (vK c) false

theorem ptOf_closed (P:Pt PPn):(ptOf P).closed 0=true:=by
 match P with
 | none=>rfl
 | some (a,c)=>rfl

theorem rightP_K {x y:Int} (h:rightP x y false=true):x=vK (toK x)∧y=vK (toK y):=by
 simp only [rightP,Bool.and_eq_true,decide_eq_true_eq] at h
 exact ⟨by rw [vK_toK]; exact h.1.symm,by rw [vK_toK]; exact h.2.1.symm⟩

set_option maxRecDepth 100000 in
theorem out_fn {x y:Int} {b:Bool} (hx:InW x) (hy:InW y):Ev.Fn PG f_curve_out [ptV x y b] (farV (outT (tkn x y b))):=by
 refine fn_startH (fun _=>none) h_curve_out rfl (by kernel_rfl) (fun _=>by kernel_rfl) rfl rfl fun A=>?_
 have c0:=cRight_fn (b:=b) hx hy
 have c1:=feOf_fn (n:=1) ⟨by omega,by omega⟩
 refine swp_cut fun K hK hR _=>?_
 conv=>whnf
 refine hK _ _ ?_
 clear hK hR
 refine swp_cut fun K1 hK1 hR1 _=>swp_cut fun K hK hR _=>?_
 cases b with
 | true=>
  repeat (refine aops_step fun T S hT hS=>?_; (conv=>whnf); first | refine hT _ _ ?_ | refine hS ?_ | (refine ⟨_,c0,rfl,?_⟩; refine hT _ _ ?_))
  refine aops_end ?_
  refine hK _ _ ?_
  conv=>whnf
  refine hR1 _ _ ?_
  conv=>whnf
  intro c N2 _ _
  show _=farV (outT none)
  unfold outT
  rfl
 | false=>
  cases hr:rightP x y false with
  | false=>
   rw [hr] at c0
   repeat (refine aops_step fun T S hT hS=>?_; (conv=>whnf); first | refine hT _ _ ?_ | refine hS ?_ | (refine ⟨_,c0,rfl,?_⟩; refine hT _ _ ?_))
   refine aops_end ?_
   refine hK _ _ ?_
   conv=>whnf
   refine hR1 _ _ ?_
   conv=>whnf
   intro c N2 _ _
   unfold tkn
   simp only [hr]
   rfl
  | true=>
   rw [hr] at c0
   obtain ⟨g1,g2⟩:=rightP_K hr
   repeat (refine aops_step fun T S hT hS=>?_; (conv=>whnf); first | refine hT _ _ ?_ | refine hS ?_ | (refine ⟨_,c0,rfl,?_⟩; refine hT _ _ ?_))
   refine aops_end ?_
   refine hK _ _ ?_
   conv=>whnf
   refine hK1 _ _ ?_
   clear hK1 hR1
   refine swp_cut fun K hK hR _=>?_
   conv=>whnf
   refine ⟨_,c1,rfl,?_⟩
   conv=>whnf
   refine hK _ _ ?_
   clear hK hR
   conv=>whnf
   intro c N2 _ _
   unfold tkn
   simp only [hr]
   show _=TV.agg (farC (vK (toK x)) (vK (toK y)) (vK 1))
   rw [← g1,← g2]
   rfl

set_option maxRecDepth 100000 in
theorem cNeg_fn {x y:Int} {b:Bool} (hx:InW x) (hy:InW y):Ev.Fn PG f_curve_Neg [ptV x y b] (ptOf (neg (tkn x y b))):=by
 refine fn_startH (fun _=>none) h_curve_Neg rfl (by kernel_rfl) (fun _=>by kernel_rfl) rfl (ptOf_closed _) fun A=>?_
 have c0:=cRight_fn (b:=b) hx hy
 have c1:=zero_fn
 refine swp_cut fun K hK hR _=>?_
 conv=>whnf
 refine hK _ _ ?_
 clear hK hR
 refine swp_cut fun K1 hK1 hR1 _=>swp_cut fun K hK hR _=>?_
 cases b with
 | true=>
  repeat (refine aops_step fun T S hT hS=>?_; (conv=>whnf); first | refine hT _ _ ?_ | refine hS ?_ | (refine ⟨_,c0,rfl,?_⟩; refine hT _ _ ?_))
  refine aops_end ?_
  refine hK _ _ ?_
  conv=>whnf
  refine ⟨_,c1,rfl,?_⟩
  conv=>whnf
  refine hR1 _ _ ?_
  conv=>whnf
  intro c N2 _ _
  rfl
 | false=>
  cases hr:rightP x y false with
  | false=>
   rw [hr] at c0
   repeat (refine aops_step fun T S hT hS=>?_; (conv=>whnf); first | refine hT _ _ ?_ | refine hS ?_ | (refine ⟨_,c0,rfl,?_⟩; refine hT _ _ ?_))
   refine aops_end ?_
   refine hK _ _ ?_
   conv=>whnf
   refine ⟨_,c1,rfl,?_⟩
   conv=>whnf
   refine hR1 _ _ ?_
   conv=>whnf
   intro c N2 _ _
   unfold tkn
   simp only [hr]
   rfl
  | true=>
   rw [hr] at c0
   obtain ⟨g1,g2⟩:=rightP_K hr
   obtain ⟨y2,ey2,iy2,c2⟩:=feNegK g2
   repeat (refine aops_step fun T S hT hS=>?_; (conv=>whnf); first | refine hT _ _ ?_ | refine hS ?_ | (refine ⟨_,c0,rfl,?_⟩; refine hT _ _ ?_))
   refine aops_end ?_
   refine hK _ _ ?_
   conv=>whnf
   refine hK1 _ _ ?_
   clear hK1 hR1
   refine swp_cut fun K hK hR _=>?_
   conv=>whnf
   refine ⟨_,c2,rfl,?_⟩
   conv=>whnf
   refine hK _ _ ?_
   clear hK hR
   conv=>whnf
   intro c N2 _ _
   unfold tkn
   simp only [hr]
   show _=ptV (vK (toK x)) (vK (-toK y)) false
   rw [← g1,← ey2]
   rfl

set_option maxRecDepth 100000 in
theorem home_fn (T:KK×KK×KK):Ev.Fn PG f_curve_far_home [farV T] (ptOf (hm T)):=by
 refine fn_startH (fun _=>none) h_curve_far_home rfl (by kernel_rfl) (fun _=>by kernel_rfl) rfl (ptOf_closed _) fun A=>?_
 obtain ⟨a1,b1,c1⟩:=T
 obtain ⟨x1,hx1,ix1⟩:=vK_nm a1
 obtain ⟨y1,hy1,iy1⟩:=vK_nm b1
 obtain ⟨z1,hz1,iz1⟩:=vK_nm c1
 have e1:=farV_eq hx1 hy1 hz1
 have c0:=zero_fn
 rw [e1]
 refine swp_cut fun K hK hR _=>?_
 conv=>whnf
 refine hK _ _ ?_
 clear hK hR
 refine swp_cut fun K1 hK1 hR1 _=>swp_cut fun K hK hR _=>?_
 conv=>whnf
 refine hK _ _ ?_
 clear hK hR
 conv=>whnf
 rw [weq0 iz1]
 by_cases hc1:c1=0
 ·rw [dec0 hz1 hc1]
  conv=>whnf
  refine ⟨_,c0,rfl,?_⟩
  conv=>whnf
  refine hR1 _ _ ?_
  conv=>whnf
  intro c N2 _ _
  rw [hm_z hc1]
  rfl
 ·rw [dec1 hz1 hc1]
  obtain ⟨i,ei,ii,m1⟩:=feInvK hz1
  obtain ⟨s,es,is,m2⟩:=feMulK ei ei
  obtain ⟨x2,ex2,ix2,m3⟩:=feMulK hx1 es
  obtain ⟨s3,es3,is3,m4⟩:=feMulK es ei
  obtain ⟨y2,ey2,iy2,m5⟩:=feMulK hy1 es3
  conv=>whnf
  refine hK1 _ _ ?_
  clear hK1 hR1
  refine swp_cut fun K hK hR _=>?_
  conv=>whnf
  refine ⟨_,m1,rfl,?_⟩
  conv=>whnf
  refine hK _ _ ?_
  clear hK hR
  refine swp_cut fun K hK hR _=>?_
  conv=>whnf
  refine ⟨_,m2,rfl,?_⟩
  conv=>whnf
  refine hK _ _ ?_
  clear hK hR
  refine swp_cut fun K hK hR _=>?_
  conv=>whnf
  refine ⟨_,m3,rfl,?_⟩
  conv=>whnf
  refine ⟨_,m4,rfl,?_⟩
  conv=>whnf
  refine ⟨_,m5,rfl,?_⟩
  conv=>whnf
  refine hK _ _ ?_
  clear hK hR
  conv=>whnf
  intro c N2 _ _
  rw [hm_n hc1]
  show _=ptV (vK _) (vK _) false
  rw [← ex2,← ey2]
  rfl

theorem base_fn:Ev.Fn PG f_curve_Base [] (ptOf gP):=by
 refine fn_startH (fun _=>none) h_curve_Base rfl (by kernel_rfl) (fun _=>by kernel_rfl) rfl (ptOf_closed _) fun A=>?_
 conv=>whnf
 intro c N2 _ _
 kernel_rfl

end Go.Hv

import Derived.Test.YthmdbgdagnhheaaGreatDoorCu4
namespace Go.Hv
open Go.Ev Go.Ec

theorem r5mul_fn {x y:Int} (hx:InW x) (hy:InW y):Ev.Fn PG f_ref05_mul [W x,W y] (W (x*y%pp)):=by
 refine fn_startH (fun _=>none) h_ref05_mul rfl (by kernel_rfl) (fun _=>by kernel_rfl) rfl rfl fun A=>?_
 have c1:=refP_fn
 have c2:=refMul_fn mdP_ok hx hy
 rw [mdP_M] at c2
 refine swp_cut fun K hK hR _=>?_
 conv=>whnf
 refine hK _ _ ?_
 clear hK hR
 refine swp_cut fun K hK hR _=>?_
 conv=>whnf
 refine ⟨_,c1,rfl,?_⟩
 conv=>whnf
 refine ⟨_,c2,rfl,?_⟩
 conv=>whnf
 refine hK _ _ ?_
 clear hK hR
 conv=>whnf
 intro c N2 _ _
 rfl
theorem r5add_fn {x y:Int} (hx:InW x) (hy:InW y):Ev.Fn PG f_ref05_add [W x,W y] (W ((x+y)%pp)):=by
 refine fn_startH (fun _=>none) h_ref05_add rfl (by kernel_rfl) (fun _=>by kernel_rfl) rfl rfl fun A=>?_
 have c1:=refP_fn
 have c2:=refAdd_fn mdP_ok hx hy
 rw [mdP_M] at c2
 refine swp_cut fun K hK hR _=>?_
 conv=>whnf
 refine hK _ _ ?_
 clear hK hR
 refine swp_cut fun K hK hR _=>?_
 conv=>whnf
 refine ⟨_,c1,rfl,?_⟩
 conv=>whnf
 refine ⟨_,c2,rfl,?_⟩
 conv=>whnf
 refine hK _ _ ?_
 clear hK hR
 conv=>whnf
 intro c N2 _ _
 rfl
theorem r5sub_fn {x y:Int} (hx:InW x) (hy:InW y):Ev.Fn PG f_ref05_sub [W x,W y] (W ((x-y)%pp)):=by
 refine fn_startH (fun _=>none) h_ref05_sub rfl (by kernel_rfl) (fun _=>by kernel_rfl) rfl rfl fun A=>?_
 have c1:=refP_fn
 have c2:=refSub_fn mdP_ok hx hy
 rw [mdP_M] at c2
 refine swp_cut fun K hK hR _=>?_
 conv=>whnf
 refine hK _ _ ?_
 clear hK hR
 refine swp_cut fun K hK hR _=>?_
 conv=>whnf
 refine ⟨_,c1,rfl,?_⟩
 conv=>whnf
 refine ⟨_,c2,rfl,?_⟩
 conv=>whnf
 refine hK _ _ ?_
 clear hK hR
 conv=>whnf
 intro c N2 _ _
 rfl

theorem rMulK {a b:KK} {x y:Int} (hx:x=vK a) (hy:y=vK b):∃ z,z=vK (a*b)∧InW z∧Ev.Fn PG f_ref05_mul [W x,W y] (W z):=by
 subst hx hy
 have h:=r5mul_fn (vK_in a) (vK_in b)
 rw [mulK] at h
 exact ⟨_,rfl,vK_in _,h⟩
theorem rAddK {a b:KK} {x y:Int} (hx:x=vK a) (hy:y=vK b):∃ z,z=vK (a+b)∧InW z∧Ev.Fn PG f_ref05_add [W x,W y] (W z):=by
 subst hx hy
 have h:=r5add_fn (vK_in a) (vK_in b)
 rw [addK] at h
 exact ⟨_,rfl,vK_in _,h⟩
theorem rSubK {a b:KK} {x y:Int} (hx:x=vK a) (hy:y=vK b):∃ z,z=vK (a-b)∧InW z∧Ev.Fn PG f_ref05_sub [W x,W y] (W z):=by
 subst hx hy
 have h:=r5sub_fn (vK_in a) (vK_in b)
 rw [subK] at h
 exact ⟨_,rfl,vK_in _,h⟩
theorem rNegK {a:KK} {x:Int} (hx:x=vK a):∃ z,z=vK (-a)∧InW z∧Ev.Fn PG f_ref03_Neg [mdP.tv,W x] (W z):=by
 subst hx
 have h:=refNeg_fn mdP_ok (vK_in a)
 rw [mdP_M,negK] at h
 exact ⟨_,rfl,vK_in _,h⟩
theorem rInvK {a:KK} {x:Int} (hx:x=vK a):∃ z,z=vK (kinv a)∧InW z∧Ev.Fn PG f_ref03_Inv [mdP.tv,W x] (W z):=by
 subst hx
 have h:=refInv_fn mdP_ok (vK_in a)
 rw [mdP_M,invK] at h
 exact ⟨_,rfl,vK_in _,h⟩
theorem rMulT {x y:Int} (hx:InW x) (hy:InW y):∃ z,z=vK (toK x*toK y)∧InW z∧Ev.Fn PG f_ref05_mul [W x,W y] (W z):=
 ⟨_,by rw [← toK_mul,vK_toK],inQ _,r5mul_fn hx hy⟩
theorem rMulT2 {a:KK} {x y:Int} (hx:InW x) (hy:y=vK a):∃ z,z=vK (toK x*a)∧InW z∧Ev.Fn PG f_ref05_mul [W x,W y] (W z):=by
 subst hy
 have h:=r5mul_fn hx (vK_in a)
 have e:x*vK a%pp=vK (toK x*a):=by rw [← vK_toK,toK_mul,toK_vK]
 rw [e] at h
 exact ⟨_,rfl,vK_in _,h⟩

theorem r3Right_fn {D:MD} (hD:D.Ok) {x:Int} (hx:InW x):Ev.Fn PG f_ref03_Right [D.tv,W x] (.one (.bool (decide (x<D.M)))):=by
 refine fn_startH (fun _=>none) h_ref03_Right rfl (by kernel_rfl) (fun _=>by kernel_rfl) rfl rfl fun A=>?_
 have c1:=refBelow_fn hx hD.inW
 have hw:W D.M=.agg [u D.m0,u D.m1,u D.m2,u D.m3]:=by unfold W; rw [hD.words]
 rw [hw] at c1
 refine swp_cut fun K hK hR _=>?_
 conv=>whnf
 refine hK _ _ ?_
 clear hK hR
 refine swp_cut fun K hK hR _=>?_
 conv=>whnf
 refine ⟨_,c1,rfl,?_⟩
 conv=>whnf
 refine hK _ _ ?_
 clear hK hR
 conv=>whnf
 intro c N2 _ _
 rfl

end Go.Hv
namespace Go.Ec
section
variable {p:Nat} [NeZero p]
theorem alg_cube (x:Fin p):x*(x*x)+7=x*x*x+7:=by grind
end
end Go.Ec
namespace Go.Hv
open Go.Ev Go.Ec

theorem r5cube_fn {x:Int} (hx:InW x):∃ z,z=vK (toK x*toK x*toK x+7)∧InW z∧Ev.Fn PG f_ref05_cube [W x] (W z):=by
 obtain ⟨x2,e2,i2,c1⟩:=rMulT hx hx
 obtain ⟨x3,e3,i3,c2⟩:=rMulT2 hx e2
 obtain ⟨x4,e4,i4,c3⟩:=rAddK e3 seven_K
 have c4:=refSmall_fn (n:=7) ⟨by omega,by omega⟩
 rw [alg_cube] at e4
 refine ⟨x4,e4,i4,?_⟩
 refine fn_startH (fun _=>none) h_ref05_cube rfl (by kernel_rfl) (fun _=>by kernel_rfl) rfl rfl fun A=>?_
 refine swp_cut fun K hK hR _=>?_
 conv=>whnf
 refine hK _ _ ?_
 clear hK hR
 refine swp_cut fun K hK hR _=>?_
 conv=>whnf
 refine ⟨_,c1,rfl,?_⟩
 conv=>whnf
 refine ⟨_,c2,rfl,?_⟩
 conv=>whnf
 refine ⟨_,c4,rfl,?_⟩
 conv=>whnf
 refine ⟨_,c3,rfl,?_⟩
 conv=>whnf
 refine hK _ _ ?_
 clear hK hR
 conv=>whnf
 intro c N2 _ _
 rfl

theorem r5zero_fn:Ev.Fn PG f_ref05_Zero [] (ptV 0 0 true):=by
 refine fn_startH (fun _=>none) h_ref05_Zero rfl (by kernel_rfl) (fun _=>by kernel_rfl) rfl rfl fun A=>?_
 conv=>whnf
 intro c N2 _ _
 rfl

theorem r5base_fn:Ev.Fn PG f_ref05_Base [] (ptOf gP):=by
 refine fn_startH (fun _=>none) h_ref05_Base rfl (by kernel_rfl) (fun _=>by kernel_rfl) rfl (ptOf_closed _) fun A=>?_
 conv=>whnf
 intro c N2 _ _
 kernel_rfl

theorem lt_mod {x:Int} (hx:InW x):decide (x<pp)=decide (x%pp=x):=by
 have:(x<pp)↔(x%pp=x):=by unfold pp; omega
 simp only [this]

set_option maxRecDepth 100000 in
theorem r5Right_fn {x y:Int} {b:Bool} (hx:InW x) (hy:InW y):Ev.Fn PG f_ref05_Right [ptV x y b] (.one (.bool (rightP x y b))):=by
 refine fn_startH (fun _=>none) h_ref05_Right rfl (by kernel_rfl) (fun _=>by kernel_rfl) rfl rfl fun A=>?_
 have c0:=r5zero_fn
 have c5:=refP_fn
 have c6:=refOf_fn x
 have c7:=refOf_fn y
 have c1:=r3Right_fn mdP_ok hx
 have c2:=r3Right_fn mdP_ok hy
 rw [mdP_M,lt_mod hx] at c1
 rw [mdP_M,lt_mod hy] at c2
 obtain ⟨y2,ey2,iy2,c3⟩:=rMulT hy hy
 obtain ⟨x3,ex3,ix3,c4⟩:=r5cube_fn hx
 have w3:=weq iy2 ix3
 rw [decK ey2 ex3] at w3
 refine swp_cut fun K hK hR _=>?_
 conv=>whnf
 refine hK _ _ ?_
 clear hK hR
 refine swp_cut fun K1 hK1 hR1 _=>swp_cut fun K hK hR _=>?_
 conv=>whnf
 refine hK _ _ ?_
 clear hK hR
 conv=>whnf
 cases b with
 | true=>
  conv=>whnf
  refine ⟨_,c0,rfl,?_⟩
  conv=>whnf
  rw [peq hx hy (x':=0) (y':=0) ⟨by omega,by omega⟩ ⟨by omega,by omega⟩]
  refine hR1 _ _ ?_
  conv=>whnf
  intro c N2 _ _
  unfold rightP
  simp only [beq_self_eq_true,Bool.and_true]
  rfl
 | false=>
  conv=>whnf
  refine hK1 _ _ ?_
  clear hK1 hR1
  cases h1:decide (x%pp=x)<;>cases h2:decide (y%pp=y)<;>cases h3:decide (toK y*toK y=toK x*toK x*toK x+(7:KK))
  all_goals
   rw [h1] at c1
   rw [h2] at c2
   rw [h3] at w3
   refine swp_cut fun K hK hR _=>?_
   conv=>whnf
   refine ⟨_,c6,rfl,?_⟩
   conv=>whnf
   refine hK _ _ ?_
   clear hK hR
   refine swp_cut fun K hK hR _=>?_
   conv=>whnf
   refine ⟨_,c7,rfl,?_⟩
   conv=>whnf
   refine hK _ _ ?_
   clear hK hR
   refine swp_cut fun K hK hR _=>?_
   conv=>whnf
   refine ⟨_,c5,rfl,?_⟩
   conv=>whnf
   refine hK _ _ ?_
   clear hK hR
   refine swp_cut fun K hK hR _=>?_
   conv=>whnf
   refine ⟨_,c1,rfl,?_⟩
   conv=>whnf
   refine hK _ _ ?_
   clear hK hR
   refine swp_cut fun K hK hR _=>?_
   conv=>whnf
   refine ⟨_,c2,rfl,?_⟩
   conv=>whnf
   refine hK _ _ ?_
   clear hK hR
   refine swp_cut fun K hK hR _=>?_
   repeat (refine aops_step fun T S hT hS=>?_; (conv=>whnf); (try rw [w3]); first | refine hT _ _ ?_ | refine hS ?_ | (refine ⟨_,c3,rfl,?_⟩; refine hT _ _ ?_) | (refine ⟨_,c4,rfl,?_⟩; refine hT _ _ ?_))
   refine aops_end ?_
   refine hK _ _ ?_
   conv=>whnf
   intro c N2 _ _
   unfold rightP
   simp only [h1,h2,h3]
   rfl

set_option maxRecDepth 100000 in
theorem taken_fn {x y:Int} {b:Bool} (hx:InW x) (hy:InW y):Ev.Fn PG f_ref05_Taken [ptV x y b] (ptOf (tkn x y b)):=by
 refine fn_startH (fun _=>none) h_ref05_Taken rfl (by kernel_rfl) (fun _=>by kernel_rfl) rfl (ptOf_closed _) fun A=>?_
 have c0:=r5zero_fn
 have c1:=r5Right_fn (b:=b) hx hy
 cases hr:rightP x y b with
 | false=>
  rw [hr] at c1
  have e:tkn x y b=none:=by
   cases b with
   | true=>rfl
   | false=>unfold tkn; simp only [hr]
  refine swp_cut fun K hK hR _=>?_
  conv=>whnf
  refine hK _ _ ?_
  clear hK hR
  refine swp_cut fun K hK hR _=>?_
  conv=>whnf
  refine ⟨_,c1,rfl,?_⟩
  conv=>whnf
  refine hK _ _ ?_
  clear hK hR
  refine swp_cut fun K1 hK1 hR1 _=>swp_cut fun K hK hR _=>?_
  conv=>whnf
  refine hK _ _ ?_
  clear hK hR
  conv=>whnf
  conv=>whnf
  refine ⟨_,c0,rfl,?_⟩
  conv=>whnf
  refine hR1 _ _ ?_
  conv=>whnf
  intro c N2 _ _
  rw [e]
  rfl
 | true=>
  rw [hr] at c1
  have e:ptOf (tkn x y b)=ptV x y b:=by
   cases b with
   | true=>
    simp only [rightP,Bool.and_eq_true,decide_eq_true_eq] at hr
    obtain ⟨rfl,rfl⟩:=hr
    rfl
   | false=>
    obtain ⟨g1,g2⟩:=rightP_K hr
    unfold tkn
    simp only [hr]
    show ptV (vK (toK x)) (vK (toK y)) false=_
    rw [← g1,← g2]
  refine swp_cut fun K hK hR _=>?_
  conv=>whnf
  refine hK _ _ ?_
  clear hK hR
  refine swp_cut fun K hK hR _=>?_
  conv=>whnf
  refine ⟨_,c1,rfl,?_⟩
  conv=>whnf
  refine hK _ _ ?_
  clear hK hR
  refine swp_cut fun K1 hK1 hR1 _=>swp_cut fun K hK hR _=>?_
  conv=>whnf
  refine hK _ _ ?_
  clear hK hR
  conv=>whnf
  conv=>whnf
  refine hK1 _ _ ?_
  clear hK1 hR1
  refine swp_cut fun K hK hR _=>?_
  conv=>whnf
  refine hK _ _ ?_
  clear hK hR
  conv=>whnf
  intro c N2 _ _
  rw [e]
  rfl

end Go.Hv

namespace Go.Hv
open Go.Ev Go.Ec

theorem r5point_fn (x y:Int):Ev.Fn PG f_ref05_point [W x,W y] (ptV x y false):=by
 refine fn_startH (fun _=>none) h_ref05_point rfl (by kernel_rfl) (fun _=>by kernel_rfl) rfl rfl fun A=>?_
 have c1:=refFe_fn x
 have c2:=refFe_fn y
 refine swp_cut fun K hK hR _=>?_
 conv=>whnf
 refine hK _ _ ?_
 clear hK hR
 refine swp_cut fun K hK hR _=>?_
 conv=>whnf
 refine ⟨_,c1,rfl,?_⟩
 conv=>whnf
 refine ⟨_,c2,rfl,?_⟩
 conv=>whnf
 refine hK _ _ ?_
 clear hK hR
 conv=>whnf
 intro c N2 _ _
 rfl

end Go.Hv
namespace Go.Ec
section
variable {p:Nat} [NeZero p]
theorem alg_neg {x y1 y2:Fin p} (F:Fld p) (h1:y1*y1=x*x*x+7) (h2:y2*y2=x*x*x+7) (hn:y1≠y2):y2 = -y1:=by
 have hne:y1-y2≠0:=fun h=>hn (by grind)
 have hsq:(y1-y2)*(y1+y2)=0:=by grind
 have:=F.nz hsq hne
 grind
end
end Go.Ec
namespace Go.Hv
open Go.Ev Go.Ec

set_option maxRecDepth 100000 in
theorem r5Add_fn {x y x' y':Int} {b b':Bool} (hx:InW x) (hy:InW y) (hx':InW x') (hy':InW y'):Ev.Fn PG f_ref05_Add [ptV x y b,ptV x' y' b'] (ptOf (add (tkn x y b) (tkn x' y' b'))):=by
 refine fn_startH (fun _=>none) h_ref05_Add rfl (by kernel_rfl) (fun _=>by kernel_rfl) rfl (ptOf_closed _) fun A=>?_
 have t1:=taken_fn (b:=b) hx hy
 have t2:=taken_fn (b:=b') hx' hy'
 have o1:=tkn_on x y b
 have o2:=tkn_on x' y' b'
 generalize tkn x y b=P at *
 generalize tkn x' y' b'=Q at *
 match P,Q with
 | none,none=>
  refine swp_cut fun K hK hR _=>?_
  conv=>whnf
  refine hK _ _ ?_
  clear hK hR
  refine swp_cut fun K hK hR _=>?_
  conv=>whnf
  refine ⟨_,t1,rfl,?_⟩
  conv=>whnf
  refine hK _ _ ?_
  clear hK hR
  refine swp_cut fun K hK hR _=>?_
  conv=>whnf
  refine ⟨_,t2,rfl,?_⟩
  conv=>whnf
  refine hK _ _ ?_
  clear hK hR
  refine swp_cut fun K1 hK1 hR1 _=>swp_cut fun K hK hR _=>?_
  conv=>whnf
  refine hK _ _ ?_
  clear hK hR
  conv=>whnf
  conv=>whnf
  refine hR1 _ _ ?_
  conv=>whnf
  intro c N2 _ _
  rw [add_none fld none trivial]
  rfl
 | none,some (a2,b2)=>
  refine swp_cut fun K hK hR _=>?_
  conv=>whnf
  refine hK _ _ ?_
  clear hK hR
  refine swp_cut fun K hK hR _=>?_
  conv=>whnf
  refine ⟨_,t1,rfl,?_⟩
  conv=>whnf
  refine hK _ _ ?_
  clear hK hR
  refine swp_cut fun K hK hR _=>?_
  conv=>whnf
  refine ⟨_,t2,rfl,?_⟩
  conv=>whnf
  refine hK _ _ ?_
  clear hK hR
  refine swp_cut fun K1 hK1 hR1 _=>swp_cut fun K hK hR _=>?_
  conv=>whnf
  refine hK _ _ ?_
  clear hK hR
  conv=>whnf
  conv=>whnf
  refine hR1 _ _ ?_
  conv=>whnf
  intro c N2 _ _
  rw [none_add fld _ o2]
  rfl
 | some (a1,b1),none=>
  refine swp_cut fun K hK hR _=>?_
  conv=>whnf
  refine hK _ _ ?_
  clear hK hR
  refine swp_cut fun K hK hR _=>?_
  conv=>whnf
  refine ⟨_,t1,rfl,?_⟩
  conv=>whnf
  refine hK _ _ ?_
  clear hK hR
  refine swp_cut fun K hK hR _=>?_
  conv=>whnf
  refine ⟨_,t2,rfl,?_⟩
  conv=>whnf
  refine hK _ _ ?_
  clear hK hR
  refine swp_cut fun K1 hK1 hR1 _=>swp_cut fun K hK hR _=>?_
  conv=>whnf
  refine hK _ _ ?_
  clear hK hR
  conv=>whnf
  conv=>whnf
  refine hK1 _ _ ?_
  clear hK1 hR1
  refine swp_cut fun K1 hK1 hR1 _=>swp_cut fun K hK hR _=>?_
  conv=>whnf
  refine hK _ _ ?_
  clear hK hR
  conv=>whnf
  conv=>whnf
  refine hR1 _ _ ?_
  conv=>whnf
  intro c N2 _ _
  rw [add_none fld _ o1]
  rfl
 | some (a1,b1),some (a2,b2)=>
  obtain ⟨x1,hx1,ix1⟩:=vK_nm a1
  obtain ⟨y1,hy1,iy1⟩:=vK_nm b1
  obtain ⟨x2,hx2,ix2⟩:=vK_nm a2
  obtain ⟨y2,hy2,iy2⟩:=vK_nm b2
  have e1:ptOf (some (a1,b1))=ptV x1 y1 false:=by rw [hx1,hy1]; rfl
  have e2:ptOf (some (a2,b2))=ptV x2 y2 false:=by rw [hx2,hy2]; rfl
  rw [e1] at t1
  rw [e2] at t2
  simp only [On] at o1 o2
  have f1:=refOf_fn x1
  have f2:=refOf_fn y1
  have f3:=refOf_fn x2
  have f4:=refOf_fn y2
  have cP:=refP_fn
  have wx:=weq ix1 ix2
  rw [decK hx1 hx2] at wx
  obtain ⟨d1,ed1,id1,m1⟩:=rSubK hy2 hy1
  obtain ⟨d2,ed2,id2,m2⟩:=rSubK hx2 hx1
  refine swp_cut fun K hK hR _=>?_
  conv=>whnf
  refine hK _ _ ?_
  clear hK hR
  refine swp_cut fun K hK hR _=>?_
  conv=>whnf
  refine ⟨_,t1,rfl,?_⟩
  conv=>whnf
  refine hK _ _ ?_
  clear hK hR
  refine swp_cut fun K hK hR _=>?_
  conv=>whnf
  refine ⟨_,t2,rfl,?_⟩
  conv=>whnf
  refine hK _ _ ?_
  clear hK hR
  refine swp_cut fun K1 hK1 hR1 _=>swp_cut fun K hK hR _=>?_
  conv=>whnf
  refine hK _ _ ?_
  clear hK hR
  conv=>whnf
  conv=>whnf
  refine hK1 _ _ ?_
  clear hK1 hR1
  refine swp_cut fun K1 hK1 hR1 _=>swp_cut fun K hK hR _=>?_
  conv=>whnf
  refine hK _ _ ?_
  clear hK hR
  conv=>whnf
  conv=>whnf
  refine hK1 _ _ ?_
  clear hK1 hR1
  refine swp_cut fun K hK hR _=>?_
  conv=>whnf
  refine ⟨_,f1,rfl,?_⟩
  conv=>whnf
  refine hK _ _ ?_
  clear hK hR
  refine swp_cut fun K hK hR _=>?_
  conv=>whnf
  refine ⟨_,f2,rfl,?_⟩
  conv=>whnf
  refine hK _ _ ?_
  clear hK hR
  refine swp_cut fun K hK hR _=>?_
  conv=>whnf
  refine ⟨_,f3,rfl,?_⟩
  conv=>whnf
  refine hK _ _ ?_
  clear hK hR
  refine swp_cut fun K hK hR _=>?_
  conv=>whnf
  refine ⟨_,f4,rfl,?_⟩
  conv=>whnf
  refine hK _ _ ?_
  clear hK hR
  refine swp_cut fun K hK hR _=>?_
  conv=>whnf
  refine ⟨_,m1,rfl,?_⟩
  conv=>whnf
  refine hK _ _ ?_
  clear hK hR
  refine swp_cut fun K hK hR _=>?_
  conv=>whnf
  refine ⟨_,m2,rfl,?_⟩
  conv=>whnf
  refine hK _ _ ?_
  clear hK hR
  refine swp_cut fun K1 hK1 hR1 _=>swp_cut fun K hK hR _=>?_
  conv=>whnf
  refine hK _ _ ?_
  clear hK hR
  conv=>whnf
  rw [wx]
  by_cases hxx:a1=a2
  ·subst hxx
   rw [decide_eq_true rfl]
   have wy:=weq iy1 iy2
   have wz:=weq0 iy1
   rw [decK hy1 hy2] at wy
   rw [dec1 hy1 (fld.y0 o1)] at wz
   show swpC _ _ _ _ _
   by_cases hyy:b1=b2
   ·subst hyy
    rw [decide_eq_true rfl] at wy
    refine swp_cut fun K2 hK2 hR2 _=>swp_cut fun K hK hR _=>?_
    repeat (refine aops_step fun T S hT hS=>?_; (conv=>whnf); (try rw [wy]); (try rw [wz]); first | refine hT _ _ ?_ | refine hS ?_)
    refine aops_end ?_
    refine hK _ _ ?_
    conv=>whnf
    refine hK2 _ _ ?_
    clear hK hR hK2 hR2
    obtain ⟨xx,exx,ixx,n1⟩:=rMulK hx1 hx1
    obtain ⟨xx2,exx2,ixx2,n2⟩:=rAddK exx exx
    obtain ⟨tp,etp,itp,n3⟩:=rAddK exx exx2
    obtain ⟨ud,eud,iud,n4⟩:=rAddK hy1 hy1
    obtain ⟨i0,ei0,ii0,m3⟩:=rInvK eud
    obtain ⟨s,es,is,m4⟩:=rMulK etp ei0
    obtain ⟨ss,ess,iss,m5⟩:=rMulK es es
    obtain ⟨s1,es1,is1,m6⟩:=rSubK ess hx1
    obtain ⟨x3,ex3,ix3,m7⟩:=rSubK es1 hx2
    obtain ⟨q1,eq1,iq1,m8⟩:=rSubK hx1 ex3
    obtain ⟨q2,eq2,iq2,m9⟩:=rMulK es eq1
    obtain ⟨q3,eq3,iq3,m10⟩:=rSubK eq2 hy1
    have m11:=r5point_fn x3 q3
    refine swp_cut fun K hK hR _=>?_
    conv=>whnf
    refine ⟨_,n1,rfl,?_⟩
    conv=>whnf
    refine hK _ _ ?_
    clear hK hR
    refine swp_cut fun K hK hR _=>?_
    conv=>whnf
    refine ⟨_,n2,rfl,?_⟩
    conv=>whnf
    refine ⟨_,n3,rfl,?_⟩
    conv=>whnf
    refine hK _ _ ?_
    clear hK hR
    conv=>whnf
    refine ⟨_,n4,rfl,?_⟩
    conv=>whnf
    refine hK1 _ _ ?_
    clear hK1 hR1
    refine swp_cut fun K hK hR _=>?_
    conv=>whnf
    refine ⟨_,cP,rfl,?_⟩
    conv=>whnf
    refine ⟨_,m3,rfl,?_⟩
    conv=>whnf
    refine ⟨_,m4,rfl,?_⟩
    conv=>whnf
    refine hK _ _ ?_
    clear hK hR
    refine swp_cut fun K hK hR _=>?_
    conv=>whnf
    refine ⟨_,m5,rfl,?_⟩
    conv=>whnf
    refine ⟨_,m6,rfl,?_⟩
    conv=>whnf
    refine ⟨_,m7,rfl,?_⟩
    conv=>whnf
    refine hK _ _ ?_
    clear hK hR
    refine swp_cut fun K hK hR _=>?_
    conv=>whnf
    refine ⟨_,m8,rfl,?_⟩
    conv=>whnf
    refine ⟨_,m9,rfl,?_⟩
    conv=>whnf
    refine ⟨_,m10,rfl,?_⟩
    conv=>whnf
    refine ⟨_,m11,rfl,?_⟩
    conv=>whnf
    refine hK _ _ ?_
    clear hK hR
    conv=>whnf
    intro c N2 _ _
    rw [add_tangent fld o1 rfl]
    show _=ptV (vK _) (vK _) false
    rw [← ex3,← eq3]
    rfl
   ·rw [decide_eq_false hyy] at wy
    have c0:=r5zero_fn
    refine swp_cut fun K2 hK2 hR2 _=>swp_cut fun K hK hR _=>?_
    repeat (refine aops_step fun T S hT hS=>?_; (conv=>whnf); (try rw [wy]); (try rw [wz]); first | refine hT _ _ ?_ | refine hS ?_)
    refine aops_end ?_
    refine hK _ _ ?_
    conv=>whnf
    refine ⟨_,c0,rfl,?_⟩
    conv=>whnf
    refine hR2 _ _ ?_
    conv=>whnf
    refine hR1 _ _ ?_
    conv=>whnf
    intro c N2 _ _
    have hn:=alg_neg fld o1 o2 hyy
    rw [hn]
    have:=add_neg fld (some (a1,b1)) o1
    simp only [neg] at this
    rw [this]
    rfl
  ·rw [decide_eq_false hxx]
   obtain ⟨i0,ei0,ii0,m3⟩:=rInvK ed2
   obtain ⟨s,es,is,m4⟩:=rMulK ed1 ei0
   obtain ⟨ss,ess,iss,m5⟩:=rMulK es es
   obtain ⟨s1,es1,is1,m6⟩:=rSubK ess hx1
   obtain ⟨x3,ex3,ix3,m7⟩:=rSubK es1 hx2
   obtain ⟨q1,eq1,iq1,m8⟩:=rSubK hx1 ex3
   obtain ⟨q2,eq2,iq2,m9⟩:=rMulK es eq1
   obtain ⟨q3,eq3,iq3,m10⟩:=rSubK eq2 hy1
   have m11:=r5point_fn x3 q3
   conv=>whnf
   refine hK1 _ _ ?_
   clear hK1 hR1
   refine swp_cut fun K hK hR _=>?_
   conv=>whnf
   refine ⟨_,cP,rfl,?_⟩
   conv=>whnf
   refine ⟨_,m3,rfl,?_⟩
   conv=>whnf
   refine ⟨_,m4,rfl,?_⟩
   conv=>whnf
   refine hK _ _ ?_
   clear hK hR
   refine swp_cut fun K hK hR _=>?_
   conv=>whnf
   refine ⟨_,m5,rfl,?_⟩
   conv=>whnf
   refine ⟨_,m6,rfl,?_⟩
   conv=>whnf
   refine ⟨_,m7,rfl,?_⟩
   conv=>whnf
   refine hK _ _ ?_
   clear hK hR
   refine swp_cut fun K hK hR _=>?_
   conv=>whnf
   refine ⟨_,m8,rfl,?_⟩
   conv=>whnf
   refine ⟨_,m9,rfl,?_⟩
   conv=>whnf
   refine ⟨_,m10,rfl,?_⟩
   conv=>whnf
   refine ⟨_,m11,rfl,?_⟩
   conv=>whnf
   refine hK _ _ ?_
   clear hK hR
   conv=>whnf
   intro c N2 _ _
   rw [add_chord fld o1 o2 hxx rfl]
   show _=ptV (vK _) (vK _) false
   rw [← ex3,← eq3]
   rfl

end Go.Hv

namespace Go.Ec
section
variable {p:Nat} [NeZero p]
theorem alg_tri (a:Fin p):a+(a+a)=a+a+a:=by grind
theorem sub_eq0 {a b:Fin p}:a-b=0↔a=b:=by
 constructor
 ·intro h; grind
 ·intro h; grind
theorem m1 (a:Fin p):a*1=a:=by grind

theorem pl_one {x1 y1 z1 x2 y2:Fin p} (h1:z1≠0) (h:(1:Fin p)≠0) (hh:x2*(z1*z1)≠x1):pl (x1,y1,z1) (x2,y2,1) =
  (
   let h:=x2*(z1*z1)-x1
   let r:=y2*(z1*z1*z1)-y1
   let hh:=h*h
   let hhh:=h*hh
   let v:=x1*hh
   let x:=r*r-hhh-(v+v)
   (x,r*(v-x)-y1*hhh,h*z1)):=by
 rw [pl_g h1 h (by rw [m1,m1]; exact fun h=>hh (sub_eq0.1 h))]
 unfold plG
 simp only [m1]

theorem pl_one0 {x1 y1 z1 x2 y2:Fin p} (h1:z1=0):pl (x1,y1,z1) (x2,y2,1)=(x2,y2,1):=if_pos h1
theorem pl_one1 {x1 y1 z1 x2 y2:Fin p} (h1:z1≠0) (h:(1:Fin p)≠0) (hh:x2*(z1*z1)=x1) (hr:y2*(z1*z1*z1)=y1):pl (x1,y1,z1) (x2,y2,1)=tw (x1,y1,z1):=by
 show (if z1=0 then _ else _)=_
 rw [if_neg h1,if_neg h,if_pos (by rw [m1,m1]; exact sub_eq0.2 hh),if_pos (by rw [m1,m1,m1]; exact sub_eq0.2 hr)]
theorem pl_one2 {x1 y1 z1 x2 y2:Fin p} (h1:z1≠0) (h:(1:Fin p)≠0) (hh:x2*(z1*z1)=x1) (hr:y2*(z1*z1*z1)≠y1):pl (x1,y1,z1) (x2,y2,1)=(0,0,0):=by
 show (if z1=0 then _ else _)=_
 rw [if_neg h1,if_neg h,if_pos (by rw [m1,m1]; exact sub_eq0.2 hh),if_neg (by rw [m1,m1,m1]; exact fun h=>hr (sub_eq0.1 h))]
end
end Go.Ec
namespace Go.Hv
open Go.Ev Go.Ec

set_option maxRecDepth 100000 in
theorem r5Neg_fn {x y:Int} {b:Bool} (hx:InW x) (hy:InW y):Ev.Fn PG f_ref05_Neg [ptV x y b] (ptOf (neg (tkn x y b))):=by
 refine fn_startH (fun _=>none) h_ref05_Neg rfl (by kernel_rfl) (fun _=>by kernel_rfl) rfl (ptOf_closed _) fun A=>?_
 have t1:=taken_fn (b:=b) hx hy
 generalize tkn x y b=P at *
 match P with
 | none=>
  refine swp_cut fun K hK hR _=>?_
  conv=>whnf
  refine hK _ _ ?_
  clear hK hR
  refine swp_cut fun K hK hR _=>?_
  conv=>whnf
  refine ⟨_,t1,rfl,?_⟩
  conv=>whnf
  refine hK _ _ ?_
  clear hK hR
  refine swp_cut fun K1 hK1 hR1 _=>swp_cut fun K hK hR _=>?_
  conv=>whnf
  refine hK _ _ ?_
  clear hK hR
  conv=>whnf
  conv=>whnf
  refine hR1 _ _ ?_
  conv=>whnf
  intro c N2 _ _
  rfl
 | some (a1,b1)=>
  obtain ⟨x1,hx1,ix1⟩:=vK_nm a1
  obtain ⟨y1,hy1,iy1⟩:=vK_nm b1
  have e1:ptOf (some (a1,b1))=ptV x1 y1 false:=by rw [hx1,hy1]; rfl
  rw [e1] at t1
  obtain ⟨y2,ey2,iy2,c1⟩:=rNegK hy1
  have c2:=refOf_fn x1
  have c3:=refOf_fn y1
  have c4:=refP_fn
  have c5:=r5point_fn x1 y2
  refine swp_cut fun K hK hR _=>?_
  conv=>whnf
  refine hK _ _ ?_
  clear hK hR
  refine swp_cut fun K hK hR _=>?_
  conv=>whnf
  refine ⟨_,t1,rfl,?_⟩
  conv=>whnf
  refine hK _ _ ?_
  clear hK hR
  refine swp_cut fun K1 hK1 hR1 _=>swp_cut fun K hK hR _=>?_
  conv=>whnf
  refine hK _ _ ?_
  clear hK hR
  conv=>whnf
  conv=>whnf
  refine hK1 _ _ ?_
  clear hK1 hR1
  refine swp_cut fun K hK hR _=>?_
  conv=>whnf
  refine ⟨_,c2,rfl,?_⟩
  conv=>whnf
  refine ⟨_,c4,rfl,?_⟩
  conv=>whnf
  refine ⟨_,c3,rfl,?_⟩
  conv=>whnf
  refine ⟨_,c1,rfl,?_⟩
  conv=>whnf
  refine ⟨_,c5,rfl,?_⟩
  conv=>whnf
  refine hK _ _ ?_
  clear hK hR
  conv=>whnf
  intro c N2 _ _
  show _=ptV (vK a1) (vK (-b1)) false
  rw [← hx1,← ey2]
  rfl

set_option maxRecDepth 100000 in
theorem r5twice_fn (T:KK×KK×KK):Ev.Fn PG f_ref05_twice [farV T] (farV (tw T)):=by
 refine fn_startH (fun _=>none) h_ref05_twice rfl (by kernel_rfl) (fun _=>by kernel_rfl) rfl (by kernel_rfl) fun A=>?_
 obtain ⟨a,b,c⟩:=T
 obtain ⟨x,hx,hxi⟩:=vK_nm a
 obtain ⟨y,hy,hyi⟩:=vK_nm b
 obtain ⟨z,hz,hzi⟩:=vK_nm c
 have e0:=farV_eq hx hy hz
 rw [e0]
 refine swp_cut fun K hK hR _=>?_
 conv=>whnf
 refine hK _ _ ?_
 clear hK hR
 refine swp_cut fun K1 hK1 hR1 _=>swp_cut fun K hK hR _=>?_
 conv=>whnf
 refine hK _ _ ?_
 clear hK hR
 conv=>whnf
 rw [weq0 hzi]
 by_cases hc:c=0
 ·rw [dec0 hz hc]
  conv=>whnf
  refine hR1 _ _ ?_
  conv=>whnf
  intro c2 N2 _ _
  have e1:tw (a,b,c)=(a,b,c):=if_pos hc
  rw [e1,e0]
  rfl
 ·rw [dec1 hz hc]
  obtain ⟨aa,eaa,iaa,c1⟩:=rMulK hx hx
  obtain ⟨bb,ebb,ibb,c2⟩:=rMulK hy hy
  obtain ⟨cc,ecc,icc,c3⟩:=rMulK ebb ebb
  obtain ⟨d0,ed0,id0,c4⟩:=rMulK hx ebb
  obtain ⟨d1,ed1,id1,c5⟩:=rAddK ed0 ed0
  obtain ⟨d2,ed2,id2,c6⟩:=rAddK ed1 ed1
  obtain ⟨e1,ee1,ie1,c7⟩:=rAddK eaa eaa
  obtain ⟨e2,ee2,ie2,c8⟩:=rAddK eaa ee1
  rw [alg_tri] at ee2
  obtain ⟨e3,ee3,ie3,c9⟩:=rMulK ee2 ee2
  obtain ⟨d3,ed3,id3,c10⟩:=rAddK ed2 ed2
  obtain ⟨x3,ex3,ix3,c11⟩:=rSubK ee3 ed3
  obtain ⟨k1,ek1,ik1,c12⟩:=rAddK ecc ecc
  obtain ⟨k2,ek2,ik2,c13⟩:=rAddK ek1 ek1
  obtain ⟨k3,ek3,ik3,c14⟩:=rAddK ek2 ek2
  obtain ⟨g1,eg1,ig1,c15⟩:=rSubK ed2 ex3
  obtain ⟨g2,eg2,ig2,c16⟩:=rMulK ee2 eg1
  obtain ⟨y3,ey3,iy3,c17⟩:=rSubK eg2 ek3
  obtain ⟨z1,ez1,iz1,c18⟩:=rMulK hy hz
  obtain ⟨z3,ez3,iz3,c19⟩:=rAddK ez1 ez1
  have e1:tw (a,b,c)=_:=if_neg hc
  have ef:farV (tw (a,b,c))=.agg (farC x3 y3 z3):=by rw [e1,ex3,ey3,ez3]; rfl
  conv=>whnf
  refine hK1 _ _ ?_
  clear hK1 hR1
  refine swp_cut fun K hK hR _=>?_
  conv=>whnf
  refine ⟨_,c1,rfl,?_⟩
  conv=>whnf
  refine hK _ _ ?_
  clear hK hR
  refine swp_cut fun K hK hR _=>?_
  conv=>whnf
  refine ⟨_,c2,rfl,?_⟩
  conv=>whnf
  refine hK _ _ ?_
  clear hK hR
  refine swp_cut fun K hK hR _=>?_
  conv=>whnf
  refine ⟨_,c3,rfl,?_⟩
  conv=>whnf
  refine hK _ _ ?_
  clear hK hR
  refine swp_cut fun K hK hR _=>?_
  conv=>whnf
  refine ⟨_,c4,rfl,?_⟩
  conv=>whnf
  refine hK _ _ ?_
  clear hK hR
  refine swp_cut fun K hK hR _=>?_
  conv=>whnf
  refine ⟨_,c5,rfl,?_⟩
  conv=>whnf
  refine ⟨_,c5,rfl,?_⟩
  conv=>whnf
  refine ⟨_,c6,rfl,?_⟩
  conv=>whnf
  refine hK _ _ ?_
  clear hK hR
  refine swp_cut fun K hK hR _=>?_
  conv=>whnf
  refine ⟨_,c7,rfl,?_⟩
  conv=>whnf
  refine ⟨_,c8,rfl,?_⟩
  conv=>whnf
  refine hK _ _ ?_
  clear hK hR
  refine swp_cut fun K hK hR _=>?_
  conv=>whnf
  refine ⟨_,c9,rfl,?_⟩
  conv=>whnf
  refine ⟨_,c10,rfl,?_⟩
  conv=>whnf
  refine ⟨_,c11,rfl,?_⟩
  conv=>whnf
  refine hK _ _ ?_
  clear hK hR
  refine swp_cut fun K hK hR _=>?_
  conv=>whnf
  refine ⟨_,c12,rfl,?_⟩
  conv=>whnf
  refine hK _ _ ?_
  clear hK hR
  refine swp_cut fun K hK hR _=>?_
  conv=>whnf
  refine ⟨_,c13,rfl,?_⟩
  conv=>whnf
  refine hK _ _ ?_
  clear hK hR
  refine swp_cut fun K hK hR _=>?_
  conv=>whnf
  refine ⟨_,c14,rfl,?_⟩
  conv=>whnf
  refine hK _ _ ?_
  clear hK hR
  refine swp_cut fun K hK hR _=>?_
  conv=>whnf
  refine ⟨_,c15,rfl,?_⟩
  conv=>whnf
  refine ⟨_,c16,rfl,?_⟩
  conv=>whnf
  refine ⟨_,c17,rfl,?_⟩
  conv=>whnf
  refine hK _ _ ?_
  clear hK hR
  refine swp_cut fun K hK hR _=>?_
  conv=>whnf
  refine ⟨_,c18,rfl,?_⟩
  conv=>whnf
  refine hK _ _ ?_
  clear hK hR
  refine swp_cut fun K hK hR _=>?_
  conv=>whnf
  refine ⟨_,c19,rfl,?_⟩
  conv=>whnf
  refine hK _ _ ?_
  clear hK hR
  conv=>whnf
  intro c2 N2 _ _
  rw [ef]
  rfl

set_option maxRecDepth 100000 in
theorem r5plus_fn (T:KK×KK×KK) {p q:KK} {x2 y2:Int} (hx2:x2=vK p) (hy2:y2=vK q):Ev.Fn PG f_ref05_plus [farV T,W x2,W y2] (farV (pl T (p,q,1))):=by
 refine fn_startH (fun _=>none) h_ref05_plus rfl (by kernel_rfl) (fun _=>by kernel_rfl) rfl (by kernel_rfl) fun A=>?_
 obtain ⟨a,b,c⟩:=T
 obtain ⟨x,hx,hxi⟩:=vK_nm a
 obtain ⟨y,hy,hyi⟩:=vK_nm b
 obtain ⟨z,hz,hzi⟩:=vK_nm c
 have e0:=farV_eq hx hy hz
 have s1:=refSmall_fn (n:=1) ⟨by omega,by omega⟩
 have tf:=r5twice_fn (a,b,c)
 rw [e0] at tf
 rw [e0]
 refine swp_cut fun K hK hR _=>?_
 conv=>whnf
 refine hK _ _ ?_
 clear hK hR
 refine swp_cut fun K1 hK1 hR1 _=>swp_cut fun K hK hR _=>?_
 conv=>whnf
 refine hK _ _ ?_
 clear hK hR
 conv=>whnf
 rw [weq0 hzi]
 by_cases hc:c=0
 ·rw [dec0 hz hc]
  conv=>whnf
  refine ⟨_,s1,rfl,?_⟩
  conv=>whnf
  refine hR1 _ _ ?_
  conv=>whnf
  intro c2 N2 _ _
  rw [pl_one0 hc,farV_eq hx2 hy2 (show (1:Int)=vK 1 from rfl)]
  rfl
 ·rw [dec1 hz hc]
  obtain ⟨zz,ezz,izz,c1⟩:=rMulK hz hz
  obtain ⟨u,eu,iu,c2⟩:=rMulK hx2 ezz
  obtain ⟨z3,ez3,iz3,c3⟩:=rMulK ezz hz
  obtain ⟨s,es,is,c4⟩:=rMulK hy2 ez3
  have w1:=weq iu hxi
  rw [decK eu hx] at w1
  have w2:=weq is hyi
  rw [decK es hy] at w2
  conv=>whnf
  refine hK1 _ _ ?_
  clear hK1 hR1
  refine swp_cut fun K hK hR _=>?_
  conv=>whnf
  refine ⟨_,c1,rfl,?_⟩
  conv=>whnf
  refine hK _ _ ?_
  clear hK hR
  refine swp_cut fun K hK hR _=>?_
  conv=>whnf
  refine ⟨_,c2,rfl,?_⟩
  conv=>whnf
  refine hK _ _ ?_
  clear hK hR
  refine swp_cut fun K hK hR _=>?_
  conv=>whnf
  refine ⟨_,c3,rfl,?_⟩
  conv=>whnf
  refine ⟨_,c4,rfl,?_⟩
  conv=>whnf
  refine hK _ _ ?_
  clear hK hR
  refine swp_cut fun K1 hK1 hR1 _=>swp_cut fun K hK hR _=>?_
  conv=>whnf
  refine hK _ _ ?_
  clear hK hR
  conv=>whnf
  rw [w1]
  by_cases hh:p*(c*c)=a
  ·rw [decide_eq_true hh]
   conv=>whnf
   rw [w2]
   by_cases hr:q*(c*c*c)=b
   ·rw [decide_eq_true hr]
    conv=>whnf
    refine ⟨_,tf,rfl,?_⟩
    conv=>whnf
    refine hR1 _ _ ?_
    conv=>whnf
    intro c2 N2 _ _
    rw [pl_one1 hc fld.one hh hr]
    rfl
   ·rw [decide_eq_false hr]
    conv=>whnf
    refine hR1 _ _ ?_
    conv=>whnf
    intro c2 N2 _ _
    rw [pl_one2 hc fld.one hh hr]
    rfl
  ·rw [decide_eq_false hh]
   obtain ⟨h,eh,ih,c5⟩:=rSubK eu hx
   obtain ⟨r,er,ir,c6⟩:=rSubK es hy
   obtain ⟨hh2,ehh,ihh,c7⟩:=rMulK eh eh
   obtain ⟨hhh,ehhh,ihhh,c8⟩:=rMulK eh ehh
   obtain ⟨v,ev,iv,c9⟩:=rMulK hx ehh
   obtain ⟨rr,err,irr,c10⟩:=rMulK er er
   obtain ⟨k1,ek1,ik1,c11⟩:=rSubK err ehhh
   obtain ⟨vv,evv,ivv,c12⟩:=rAddK ev ev
   obtain ⟨x3,ex3,ix3,c13⟩:=rSubK ek1 evv
   obtain ⟨g1,eg1,ig1,c14⟩:=rSubK ev ex3
   obtain ⟨g2,eg2,ig2,c15⟩:=rMulK er eg1
   obtain ⟨g3,eg3,ig3,c16⟩:=rMulK hy ehhh
   obtain ⟨y3,ey3,iy3,c17⟩:=rSubK eg2 eg3
   obtain ⟨z4,ez4,iz4,c18⟩:=rMulK eh hz
   have ef:farV (pl (a,b,c) (p,q,1))=.agg (farC x3 y3 z4):=by rw [pl_one hc fld.one hh,ex3,ey3,ez4]; rfl
   conv=>whnf
   refine hK1 _ _ ?_
   clear hK1 hR1
   refine swp_cut fun K hK hR _=>?_
   conv=>whnf
   refine ⟨_,c5,rfl,?_⟩
   conv=>whnf
   refine hK _ _ ?_
   clear hK hR
   refine swp_cut fun K hK hR _=>?_
   conv=>whnf
   refine ⟨_,c6,rfl,?_⟩
   conv=>whnf
   refine hK _ _ ?_
   clear hK hR
   refine swp_cut fun K hK hR _=>?_
   conv=>whnf
   refine ⟨_,c7,rfl,?_⟩
   conv=>whnf
   refine hK _ _ ?_
   clear hK hR
   refine swp_cut fun K hK hR _=>?_
   conv=>whnf
   refine ⟨_,c8,rfl,?_⟩
   conv=>whnf
   refine hK _ _ ?_
   clear hK hR
   refine swp_cut fun K hK hR _=>?_
   conv=>whnf
   refine ⟨_,c9,rfl,?_⟩
   conv=>whnf
   refine hK _ _ ?_
   clear hK hR
   refine swp_cut fun K hK hR _=>?_
   conv=>whnf
   refine ⟨_,c10,rfl,?_⟩
   conv=>whnf
   refine ⟨_,c11,rfl,?_⟩
   conv=>whnf
   refine ⟨_,c12,rfl,?_⟩
   conv=>whnf
   refine ⟨_,c13,rfl,?_⟩
   conv=>whnf
   refine hK _ _ ?_
   clear hK hR
   refine swp_cut fun K hK hR _=>?_
   conv=>whnf
   refine ⟨_,c14,rfl,?_⟩
   conv=>whnf
   refine ⟨_,c15,rfl,?_⟩
   conv=>whnf
   refine ⟨_,c16,rfl,?_⟩
   conv=>whnf
   refine ⟨_,c17,rfl,?_⟩
   conv=>whnf
   refine ⟨_,c18,rfl,?_⟩
   conv=>whnf
   refine hK _ _ ?_
   clear hK hR
   conv=>whnf
   intro c2 N2 _ _
   rw [ef]
   rfl

end Go.Hv

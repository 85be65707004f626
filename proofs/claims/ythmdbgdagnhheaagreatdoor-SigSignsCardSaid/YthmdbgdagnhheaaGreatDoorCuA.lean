import Derived.Test.YthmdbgdagnhheaaGreatDoorCu9
namespace Go.Hv
open Go.Ev Go.Ec

theorem nn_NN:nn.toNat=115792089237316195423570985008687907852837564279074904382605163141518161494337:=by unfold nn; rfl

theorem smul_mod {P:Pt PPn} (hP:On P) (k:Nat):smul (k%nn.toNat) P=smul k P:=by
 have h:k=nn.toNat*(k/nn.toNat)+k%nn.toNat:=(Nat.div_add_mod k _).symm
 conv=>rhs; rw [h]
 rw [smul_add fld P hP,smul_mul fld P hP,n_all nn_NN P hP,smul_none _ fld,none_add fld _ (smul_on fld P hP _)]

theorem smul_modI {P:Pt PPn} (hP:On P) {k:Int} (hk:0≤k):smul (k%nn).toNat P=smul k.toNat P:=by
 have:(k%nn).toNat=k.toNat%nn.toNat:=by
  have h:0<nn:=by unfold nn; omega
  rw [Int.toNat_emod hk (by omega)]
 rw [this,smul_mod hP]

theorem pt_nm (P:Pt PPn) (h:On P):∃ x y b,InW x∧InW y∧ptOf P=ptV x y b∧tkn x y b=P∧rightP x y b=true:=by
 match P,h with
 | none,_=>exact ⟨0,0,true,⟨by omega,by omega⟩,⟨by omega,by omega⟩,rfl,rfl,by unfold rightP; decide⟩
 | some (a,c),h=>
  have hr:rightP (vK a) (vK c) false=true:=by
   simp only [rightP,vK_mod,toK_vK,decide_true,Bool.true_and,decide_eq_true_eq]
   exact h
  refine ⟨vK a,vK c,false,vK_in a,vK_in c,rfl,?_,hr⟩
  unfold tkn
  simp only [hr,toK_vK]

theorem cMul_fn {k x y:Int} {b:Bool} (hk:InW k) (hx:InW x) (hy:InW y):Ev.Fn PG f_curve_Mul [W k,ptV x y b] (ptOf (smul k.toNat (tkn x y b))):=by
 have o1:=tkn_on x y b
 refine fn_startH (fun _=>none) h_curve_Mul rfl (by kernel_rfl) (fun _=>by kernel_rfl) rfl (ptOf_closed _) fun A=>?_
 have c1:=out_fn (b:=b) hx hy
 have c2:=times_fn (outT (tkn x y b)) hk
 have c3:=home_fn (tmC (outT (tkn x y b)) (k%nn) 64)
 have hE:InW (k%nn):=by unfold nn; exact ⟨by omega,by omega⟩
 have e:=tmC_hm (outT (tkn x y b)) (by rw [hm_out]; exact o1) hE 64 (Nat.le_refl _)
 rw [hm_out] at e
 have e2:sp (tkn x y b) (k%nn) (4*(64-64))=smul k.toNat (tkn x y b):=by
  unfold sp
  rw [← smul_modI o1 hk.1]
  simp
 rw [e,e2] at c3
 generalize tmC (outT (tkn x y b)) (k%nn) 64=T at *
 generalize outT (tkn x y b)=T1 at *
 generalize smul k.toNat (tkn x y b)=P at *
 match P with
 | none=>
  refine swp_cut fun K hK hR _=>?_
  conv=>whnf
  refine hK _ _ ?_
  clear hK hR
  refine swp_cut fun K hK hR _=>?_
  conv=>whnf
  refine ⟨_,c1,rfl,?_⟩
  conv=>whnf
  refine ⟨_,c2,rfl,?_⟩
  conv=>whnf
  refine ⟨_,c3,rfl,?_⟩
  conv=>whnf
  refine hK _ _ ?_
  clear hK hR
  conv=>whnf
  intro c N2 _ _
  rfl
 | some (p,q)=>
  refine swp_cut fun K hK hR _=>?_
  conv=>whnf
  refine hK _ _ ?_
  clear hK hR
  refine swp_cut fun K hK hR _=>?_
  conv=>whnf
  refine ⟨_,c1,rfl,?_⟩
  conv=>whnf
  refine ⟨_,c2,rfl,?_⟩
  conv=>whnf
  refine ⟨_,c3,rfl,?_⟩
  conv=>whnf
  refine hK _ _ ?_
  clear hK hR
  conv=>whnf
  intro c N2 _ _
  rfl

theorem r5AddS_fn {x y:Int} (hx:InW x) (hy:InW y):Ev.Fn PG f_ref05_AddScalar [W x,W y] (W ((x+y)%nn)):=by
 refine fn_startH (fun _=>none) h_ref05_AddScalar rfl (by kernel_rfl) (fun _=>by kernel_rfl) rfl rfl fun A=>?_
 have c1:=refN_fn
 have c2:=refOfScalar_fn x
 have c3:=refOfScalar_fn y
 have c4:=refAdd_fn mdN_ok hx hy
 rw [mdN_M] at c4
 have c5:=refScalar_fn ((x+y)%nn)
 refine swp_cut fun K hK hR _=>?_
 conv=>whnf
 refine hK _ _ ?_
 clear hK hR
 refine swp_cut fun K hK hR _=>?_
 conv=>whnf
 refine ⟨_,c1,rfl,?_⟩
 conv=>whnf
 refine ⟨_,c2,rfl,?_⟩
 conv=>whnf
 refine ⟨_,c3,rfl,?_⟩
 conv=>whnf
 refine ⟨_,c4,rfl,?_⟩
 conv=>whnf
 refine ⟨_,c5,rfl,?_⟩
 conv=>whnf
 refine hK _ _ ?_
 clear hK hR
 conv=>whnf
 intro c N2 _ _
 rfl

theorem r5MulS_fn {x y:Int} (hx:InW x) (hy:InW y):Ev.Fn PG f_ref05_MulScalar [W x,W y] (W (x*y%nn)):=by
 refine fn_startH (fun _=>none) h_ref05_MulScalar rfl (by kernel_rfl) (fun _=>by kernel_rfl) rfl rfl fun A=>?_
 have c1:=refN_fn
 have c2:=refOfScalar_fn x
 have c3:=refOfScalar_fn y
 have c4:=refMul_fn mdN_ok hx hy
 rw [mdN_M] at c4
 have c5:=refScalar_fn (x*y%nn)
 refine swp_cut fun K hK hR _=>?_
 conv=>whnf
 refine hK _ _ ?_
 clear hK hR
 refine swp_cut fun K hK hR _=>?_
 conv=>whnf
 refine ⟨_,c1,rfl,?_⟩
 conv=>whnf
 refine ⟨_,c2,rfl,?_⟩
 conv=>whnf
 refine ⟨_,c3,rfl,?_⟩
 conv=>whnf
 refine ⟨_,c4,rfl,?_⟩
 conv=>whnf
 refine ⟨_,c5,rfl,?_⟩
 conv=>whnf
 refine hK _ _ ?_
 clear hK hR
 conv=>whnf
 intro c N2 _ _
 rfl

end Go.Hv

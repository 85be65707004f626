import Derived.Test.YthmdbgdagnhheaaGreatDoorCu8
import Derived.Test.YthmdbgdagnhheaaGreatDoorSeg
import Derived.Test.YthmdbgdagnhheaaGreatDoorSc1
namespace Go.Hv
open Go.Ev Go.Ec

def farT (T:KK×KK×KK):List Sc:=farC (vK T.1) (vK T.2.1) (vK T.2.2)
def rowR (T0:KK×KK×KK):Nat→KK×KK×KK
 | 0=>(0,0,0)
 | k+1=>pl (rowR T0 k) T0
def rowL (T0:KK×KK×KK) (k:Nat):List (List Sc):=(List.range 16).map fun j=>farT (if j≤k then rowR T0 j else (0,0,0))
def rowP (T0:KK×KK×KK) (k:Nat):List Sc:=(rowL T0 k).flatten

theorem rowR_hm (T0:KK×KK×KK) (h0:On (hm T0)):∀ k,hm (rowR T0 k)=smul k (hm T0)
 | 0=>hm_z rfl
 | k+1=>by
  have ih:=rowR_hm T0 h0 k
  rw [rowR,hm_pl fld _ _ (by rw [ih]; exact smul_on fld _ h0 _) h0,ih]
  rfl

theorem rowL_len (T0:KK×KK×KK) (k:Nat):(rowL T0 k).length=16:=by simp [rowL]
theorem rowL_es (T0:KK×KK×KK) (k:Nat):∀ x∈rowL T0 k,x.length=12:=fun x hx=>by
 simp only [rowL,List.mem_map] at hx
 obtain ⟨j,_,rfl⟩:=hx
 rfl
theorem rowP_take (T0:KK×KK×KK) {k j:Nat} (hj:j≤k) (hk:j<16):takeAt (rowP T0 k) (j*12) 12=some (farT (rowR T0 j)):=by
 have:=seg_take (rowL_es T0 k) (i:=j) (by rw [rowL_len]; exact hk)
 rw [rowP,this]
 simp [rowL,hj]
theorem rowP_put (T0:KK×KK×KK) {k:Nat} (hk:k+1<16):putAt (rowP T0 k) ((k+1)*12) (farT (pl (rowR T0 k) T0))=some (rowP T0 (k+1)):=by
 have:=seg_put (rowL_es T0 k) (i:=k+1) (by rw [rowL_len]; exact hk) (d:=farT (pl (rowR T0 k) T0)) rfl
 rw [rowP,this,rowP]
 congr 2
 refine List.ext_getElem (by simp [rowL]) fun i h1 h2=>?_
 have hi:i<16:=by simpa [rowL] using h2
 by_cases hik:k+1=i
 ·subst hik
  simp only [List.getElem_set_self,rowL,List.getElem_map,List.getElem_range,Nat.le_refl,if_true]
  rfl
 ·rw [List.getElem_set_ne hik]
  simp only [rowL,List.getElem_map,List.getElem_range]
  by_cases hle:i≤k
  ·rw [if_pos hle,if_pos (by omega)]
  ·rw [if_neg hle,if_neg (by omega)]
theorem farT_zero:farT (0,0,0)=List.replicate 12 (u 0):=by kernel_rfl
theorem rowP_zero (T0:KK×KK×KK):rowP T0 0=List.replicate 192 (u 0):=by
 have:rowL T0 0=List.replicate 16 (List.replicate 12 (u 0)):=by
  refine List.ext_getElem (by simp [rowL]) fun i h1 h2=>?_
  simp only [rowL,List.getElem_map,List.getElem_range,List.getElem_replicate]
  have:(if i≤0 then rowR T0 i else (0,0,0))=((0,0,0):KK×KK×KK):=by
   split
   ·have:i=0:=by omega
    subst this; rfl
   ·rfl
  rw [this,farT_zero]
 rw [rowP,this]
 simp

def z12:List Sc:=List.replicate 12 (u 0)

def TmR (T0:KK×KK×KK) (kk:Int) (k:Nat) (e:Env) (m:HM):Prop:=
 ∃ (j t0 t1 t2 t3:Nat) (row:List Sc) (N:Base),j<16∧k=15-j∧row=rowP T0 j ∧
  e=[(6,.one (.int .i64 ((j+1:Nat):Int))),(5,.one (.ptr (some (.loc 3 0)))),(4,.one (.ptr (some (.loc 2 0)))),(3,.one (.ptr (some (.loc 1 0)))),(2,.one (.ptr (some (.loc 0 0))))] ∧
  m=⟨[some ⟨farT T0,t0,0,false⟩,some ⟨words kk,t1,0,false⟩,some ⟨z12,t2,0,false⟩,some ⟨row,t3,0,false⟩],N⟩

theorem i64_sub1 {j:Nat} (h:j<1000000):IntKind.i64.wrap (((j+1:Nat):Int)-1)=(j:Int):=by
 simp only [IntKind.wrap,IntKind.signed,IntKind.bits]
 simp
 omega

def tw4 (T:KK×KK×KK):KK×KK×KK:=tw (tw (tw (tw T)))
def tmC (T0:KK×KK×KK) (E:Int):Nat→KK×KK×KK
 | 0=>(0,0,0)
 | c+1=>pl (tw4 (tmC T0 E c)) (rowR T0 (E/2^(4*(63-c))%16).toNat)

theorem tw4_hm {T:KK×KK×KK} {P:Pt PPn} (hP:On P) {k:Nat} (h:hm T=smul k P):hm (tw4 T)=smul (16*k) P:=by
 have step:∀ (U:KK×KK×KK) (j:Nat),hm U=smul j P→hm (tw U)=smul (j+j) P:=fun U j hU=>by
  rw [hm_tw fld U (by rw [hU]; exact smul_on fld P hP _),hU,smul_add fld P hP]
 have:=step _ _ (step _ _ (step _ _ (step _ _ h)))
 rw [show 16*k=k+k+(k+k)+(k+k+(k+k))+(k+k+(k+k)+(k+k+(k+k))) by omega]
 exact this

theorem div16 {E:Int} (hE:0≤E) (n:Nat):(E/2^n).toNat=16*(E/2^(n+4)).toNat+(E/2^n%16).toNat:=by
 have h:E/2^(n+4)=E/2^n/16:=by
  rw [Int.pow_add,← Int.ediv_ediv_of_nonneg (Int.pow_nonneg (by omega))]
  rfl
 have h0:0≤E/2^n:=Int.ediv_nonneg hE (Int.pow_nonneg (by omega))
 rw [h]
 omega

theorem tmC_hm (T0:KK×KK×KK) (h0:On (hm T0)) {E:Int} (hE:InW E):∀ c,c≤64→hm (tmC T0 E c)=sp (hm T0) E (4*(64-c))
 | 0,_=>by
  unfold sp tmC
  have p256:(2:Int)^(4*(64-0))=115792089237316195423570985008687907853269984665640564039457584007913129639936:=by decide
  have:E/2^(4*(64-0))=0:=Int.ediv_eq_zero_of_lt hE.1 (by rw [p256]; exact hE.2)
  rw [this,hm_z rfl]
  rfl
 | c+1,hc=>by
  have ih:=tmC_hm T0 h0 hE c (by omega)
  unfold sp at ih ⊢
  have h4:=tw4_hm h0 ih
  have hr:=rowR_hm T0 h0 (E/2^(4*(63-c))%16).toNat
  rw [tmC,hm_pl fld _ _ (by rw [h4]; exact smul_on fld _ h0 _) (by rw [hr]; exact smul_on fld _ h0 _),h4,hr,← smul_add fld _ h0]
  rw [show 4*(64-(c+1))=4*(63-c) by omega,div16 hE.1 (4*(63-c)),show 4*(63-c)+4=4*(64-c) by omega]

theorem nib_word {a b c d:Int} (ha:InU a) (hb:InU b) (hc:InU c) (s:Nat) (hs:s<16) :
  val a b c d/2^(4*s)%16=a/2^(4*s)%16∧val a b c d/2^(64+4*s)%16=b/2^(4*s)%16∧val a b c d/2^(128+4*s)%16=c/2^(4*s)%16∧val a b c d/2^(192+4*s)%16=d/2^(4*s)%16:=by
 have hp:(0:Int)<2^(4*s):=Int.pow_pos (by omega)
 have split:∀ (x y:Int),(x+18446744073709551616*y)/2^(4*s)%16=x/2^(4*s)%16:=fun x y=>by
  have e:(18446744073709551616:Int)=2^(4*s)*(16*2^(60-4*s)):=by
   have:(2:Int)^(4*s)*(16*2^(60-4*s))=2^(4*s+(4+(60-4*s))):=by rw [Int.pow_add,Int.pow_add]; rfl
   rw [this,show 4*s+(4+(60-4*s))=64 by omega]
   rfl
  rw [e,Int.mul_assoc,Int.add_mul_ediv_left _ _ (by omega),Int.mul_assoc]
  generalize 2^(60-4*s)*y=z
  omega
 have sh:∀ (n:Nat) (x:Int),x/2^(n+4*s)=x/2^n/2^(4*s):=fun n x=>by
  rw [Int.pow_add,Int.ediv_ediv_of_nonneg (Int.pow_nonneg (by omega))]
 have e1:val a b c d/2^64=b+18446744073709551616*(c+18446744073709551616*d):=by
  have:(2:Int)^64=18446744073709551616:=by decide
  rw [this]; unfold val; omega
 have e2:val a b c d/2^128=c+18446744073709551616*d:=by
  have:(2:Int)^128=340282366920938463463374607431768211456:=by decide
  rw [this]; unfold val; omega
 have e3:val a b c d/2^192=d:=by
  have:(2:Int)^192=6277101735386680763835789423207666416102355444464034512896:=by decide
  rw [this]; unfold val; omega
 refine ⟨?_,?_,?_,?_⟩
 ·have:val a b c d=a+18446744073709551616*(b+18446744073709551616*(c+18446744073709551616*d)):=by unfold val; omega
  rw [this]; exact split _ _
 ·rw [sh,e1]; exact split _ _
 ·rw [sh,e2]; exact split _ _
 ·rw [sh,e3]

theorem and15 {z:Int} (h0:0≤z) (h1:z<18446744073709551616):(IntKind.u64).wrap ((BitVec.ofInt (IntKind.u64).bits z &&& BitVec.ofInt (IntKind.u64).bits 15).toNat:Int)=z%16:=by
 obtain ⟨n,rfl⟩:=Int.eq_ofNat_of_zero_le h0
 have e1:BitVec.ofInt (IntKind.u64).bits (n:Int)=BitVec.ofNat 64 n:=by
  show BitVec.ofInt 64 (n:Int)=_
  rw [BitVec.ofInt_natCast]
 have e2:BitVec.ofInt (IntKind.u64).bits 15=BitVec.ofNat 64 15:=rfl
 rw [e1,e2]
 have:((BitVec.ofNat 64 n &&& BitVec.ofNat 64 15):BitVec 64).toNat=n%16:=by
  rw [BitVec.toNat_and,BitVec.toNat_ofNat,BitVec.toNat_ofNat]
  rw [Nat.mod_eq_of_lt (by omega:n<2^64)]
  exact Nat.and_two_pow_sub_one_eq_mod n 4
 show IntKind.wrap .u64 (((BitVec.ofNat 64 n &&& BitVec.ofNat 64 15):BitVec 64).toNat:Int)=_
 rw [this]
 simp only [IntKind.wrap,IntKind.signed,IntKind.bits]
 simp
 omega

def TmI (T0:KK×KK×KK) (n0 n1 n2 n3:Int) (k:Nat) (e:Env) (m:HM):Prop:=
 ∃ (n t1 t2 t3 t4:Nat) (row:List Sc) (T:KK×KK×KK) (N:Base),k=n∧n≤64∧row=rowP T0 15∧T=tmC T0 (val n0 n1 n2 n3) (64-n) ∧
  e=[(8,.one (.int .i64 ((n:Int)-1))),(7,.one (.ptr (some (.loc 4 0)))),(5,.one (.ptr (some (.loc 3 0)))),(4,.one (.ptr (some (.loc 2 0)))),(3,.one (.ptr (some (.loc 1 0))))] ∧
  m=⟨[none,some ⟨[u n0,u n1,u n2,u n3],t1,0,false⟩,some ⟨z12,t2,0,false⟩,some ⟨row,t3,0,false⟩,some ⟨farT T,t4,0,false⟩],N⟩

set_option maxHeartbeats 4000000 in
set_option maxRecDepth 100000 in
theorem times_fn (T0:KK×KK×KK) {k:Int} (hk:InW k):Ev.Fn PG f_curve_far_times [farV T0,W k] (farV (tmC T0 (k%nn) 64)):=by
 refine fn_startH (fun _=>none) h_curve_far_times rfl (by kernel_rfl) (fun _=>by kernel_rfl) rfl (by kernel_rfl) fun A=>?_
 have cn:=scNorm_fn hk
 have hE:InW (k%nn):=by unfold nn; exact ⟨by omega,by omega⟩
 generalize k%nn=E at *
 obtain ⟨n0,n1,n2,n3,h0,h1,h2,h3,rfl⟩:=split4 hE
 simp only [W,words_val h0 h1 h2 h3] at cn
 refine swp_cut fun K hK hR _=>?_
 conv=>whnf
 refine hK _ _ ?_
 clear hK hR
 refine swp_cut fun K hK hR _=>?_
 conv=>whnf
 refine hK _ _ ?_
 clear hK hR
 refine swp_cut fun K hK hR _=>?_
 conv=>whnf
 refine .inr (loop_invC (gH A _) (TmR T0 k) ?_ ?_)
 ·intro k' e' m' hI
  obtain ⟨j,t0,t1,t2,t3,row,N,hj,rfl,hrow,rfl,rfl⟩:=hI
  conv=>whnf
  cases hlt:decide (((j+1:Nat):Int)<16) with
  | true=>
   have hj16:j+1<16:=by have:=of_decide_eq_true hlt; omega
   have pf:=plus_fn (rowR T0 j) T0
   have tk:takeAt row (0+j*12) 12=some (farT (rowR T0 j)):=by rw [hrow,Nat.zero_add]; exact rowP_take T0 (Nat.le_refl _) hj
   have pt:putAt row (0+(j+1)*12) (farT (pl (rowR T0 j) T0))=some (rowP T0 (j+1)):=by rw [hrow,Nat.zero_add]; exact rowP_put T0 hj16
   conv=>whnf
   rw [i64_sub1 (by omega),dec_idx (n:=16) hj]
   conv=>whnf
   conv in (takeAt _ _ _)=>change takeAt row (0+j*12) 12; rw [tk]
   conv=>whnf
   refine ⟨_,pf,rfl,?_⟩
   conv=>whnf
   rw [dec_idx (n:=16) hj16]
   conv=>whnf
   conv in (putAt _ _ _)=>change putAt row (0+(j+1)*12) (farT (pl (rowR T0 j) T0)); rw [pt]
   conv=>whnf
   refine ⟨15-(j+1),F0,by omega,fun c N1 _ _=>⟨_,_,wk_of (by (repeat' apply And.intro)<;>first | trivial | exact ⟨_,rfl,tv_inc (n:=16) hj16 (by omega),rfl⟩ | exact ⟨_,rfl,rfl,rfl⟩) (by (repeat' apply And.intro)<;>first | trivial | rfl | exact ⟨_,rfl,rfl,rfl⟩) (by exact Nat.le_of_ble_eq_true rfl) (by exact Nat.le_of_ble_eq_true rfl),⟨j+1,t0,t1,t2,t3,_,N1,hj16,rfl,rfl,rfl,rfl⟩⟩⟩
  | false=>
   have hj15:j=15:=by have:=of_decide_eq_false hlt; omega
   subst hj15 hrow
   conv=>whnf
   refine hK _ _ ?_
   clear hK hR
   refine swp_cut fun K hK hR _=>?_
   conv=>whnf
   refine ⟨_,cn,rfl,?_⟩
   conv=>whnf
   refine hK _ _ ?_
   clear hK hR
   refine swp_cut fun K hK hR _=>?_
   conv=>whnf
   refine hK _ _ ?_
   clear hK hR
   refine swp_cut fun K hK hR _=>?_
   conv=>whnf
   refine .inr (loop_invC (gH A _) (TmI T0 n0 n1 n2 n3) ?_ ?_)
   ·intro k' e' m' hI
    obtain ⟨n,t1,t2,t3,t4,row,T,N,rfl,hn,hrow,hT,rfl,rfl⟩:=hI
    cases k' with
    | zero=>
     conv=>whnf
     refine hK _ _ ?_
     conv=>whnf
     intro c N2 _ _
     have hT':T=tmC T0 (val n0 n1 n2 n3) 64:=hT
     rw [← hT']
     rfl
    | succ n=>
     have en:((n+1:Nat):Int)-1=n:=by omega
     rw [en]
     have f1:=twice_fn T
     have f2:=twice_fn (tw T)
     have f3:=twice_fn (tw (tw T))
     have f4:=twice_fn (tw (tw (tw T)))
     obtain ⟨d,hd,hd16⟩:∃ d:Nat,val n0 n1 n2 n3/2^(4*n)%16=(d:Int)∧d<16:=⟨(val n0 n1 n2 n3/2^(4*n)%16).toNat,by omega,by omega⟩
     have pf:=plus_fn (tw4 T) (rowR T0 d)
     have tk:takeAt row (0+d*12) 12=some (farT (rowR T0 d)):=by rw [hrow,Nat.zero_add]; exact rowP_take T0 (by omega) hd16
     have hC:tmC T0 (val n0 n1 n2 n3) (64-n)=pl (tw4 (tmC T0 (val n0 n1 n2 n3) (64-(n+1)))) (rowR T0 d):=by
      rw [show 64-n=(64-(n+1))+1 by omega,tmC,show 63-(64-(n+1))=n by omega,hd]
      rfl
     obtain ⟨q,s,hq4,hs,rfl⟩:∃ q s:Nat,q<4∧s<16∧n=16*q+s:=⟨n/16,n%16,by omega,by omega,by omega⟩
     have hdiv:IntKind.i64.wrap (Int.tdiv ((16*q+s:Nat):Int) 16)=q:=by
      have:Int.tdiv ((16*q+s:Nat):Int) 16=q:=by
       rw [Int.tdiv_eq_ediv_of_nonneg (by omega)]; omega
      rw [this]
      simp only [IntKind.wrap,IntKind.signed,IntKind.bits]
      simp
      omega
     have hmod:Int.tmod ((16*q+s:Nat):Int) 16=s:=by
      rw [Int.tmod_eq_emod_of_nonneg (by omega)]; omega
     have hmul:IntKind.i64.wrap (4*(s:Int))=((4*s:Nat):Int):=by
      simp only [IntKind.wrap,IntKind.signed,IntKind.bits]
      simp
      omega
     have hn4:=nib_word (d:=n3) h0 h1 h2 s hs
     have hw:wr .i64 (((16*q+s:Nat):Int)-1)=.int .i64 (((16*q+s:Nat):Int)-1):=by
      simp only [wr,i64_dec (s:=16*q+s) (by omega)]
     conv=>whnf
     refine ⟨_,f1,rfl,?_⟩
     conv=>whnf
     refine ⟨_,f2,rfl,?_⟩
     conv=>whnf
     refine ⟨_,f3,rfl,?_⟩
     conv=>whnf
     refine ⟨_,f4,rfl,?_⟩
     conv=>whnf
     obtain rfl | rfl | rfl | rfl:q=0∨q=1∨q=2∨q=3:=by omega
     ·have hv:val n0 n1 n2 n3/2^(4*(16*0+s))%16=n0/2^(4*s)%16:=by
       rw [show 4*(16*0+s)=4*s by omega]
       exact hn4.1
      rw [hdiv]
      conv=>whnf
      rw [hmod,hmul]
      conv=>whnf
      rw [shr_s n0 (s:=4*s) (by omega),and15 (shr_in h0 (4*s)).1 (shr_in h0 (4*s)).2,← hv,hd]
      rw [dec_idx (n:=16) hd16]
      conv=>whnf
      conv in (takeAt _ _ _)=>change takeAt row (0+d*12) 12; rw [tk]
      conv=>whnf
      refine ⟨_,pf,rfl,?_⟩
      conv=>whnf
      subst hrow
      refine ⟨16*0+s,F0,Nat.lt_succ_self _,fun c N1 _ _=>⟨_,_,wk_of (by (repeat' apply And.intro)<;>first | trivial | exact ⟨_,rfl,congrArg TV.one hw.symm,rfl⟩ | exact ⟨_,rfl,rfl,rfl⟩) (by (repeat' apply And.intro)<;>first | trivial | rfl | exact ⟨_,rfl,rfl,rfl⟩) (by exact Nat.le_of_ble_eq_true rfl) (by exact Nat.le_of_ble_eq_true rfl),⟨16*0+s,t1,t2,t3,t4,_,pl (tw4 T) (rowR T0 d),N1,rfl,by omega,rfl,?_,rfl,rfl⟩⟩⟩
      rw [hT]
      exact hC.symm
     ·have hv:val n0 n1 n2 n3/2^(4*(16*1+s))%16=n1/2^(4*s)%16:=by
       rw [show 4*(16*1+s)=64+4*s by omega]
       exact hn4.2.1
      rw [hdiv]
      conv=>whnf
      rw [hmod,hmul]
      conv=>whnf
      rw [shr_s n1 (s:=4*s) (by omega),and15 (shr_in h1 (4*s)).1 (shr_in h1 (4*s)).2,← hv,hd]
      rw [dec_idx (n:=16) hd16]
      conv=>whnf
      conv in (takeAt _ _ _)=>change takeAt row (0+d*12) 12; rw [tk]
      conv=>whnf
      refine ⟨_,pf,rfl,?_⟩
      conv=>whnf
      subst hrow
      refine ⟨16*1+s,F0,Nat.lt_succ_self _,fun c N1 _ _=>⟨_,_,wk_of (by (repeat' apply And.intro)<;>first | trivial | exact ⟨_,rfl,congrArg TV.one hw.symm,rfl⟩ | exact ⟨_,rfl,rfl,rfl⟩) (by (repeat' apply And.intro)<;>first | trivial | rfl | exact ⟨_,rfl,rfl,rfl⟩) (by exact Nat.le_of_ble_eq_true rfl) (by exact Nat.le_of_ble_eq_true rfl),⟨16*1+s,t1,t2,t3,t4,_,pl (tw4 T) (rowR T0 d),N1,rfl,by omega,rfl,?_,rfl,rfl⟩⟩⟩
      rw [hT]
      exact hC.symm
     ·have hv:val n0 n1 n2 n3/2^(4*(16*2+s))%16=n2/2^(4*s)%16:=by
       rw [show 4*(16*2+s)=128+4*s by omega]
       exact hn4.2.2.1
      rw [hdiv]
      conv=>whnf
      rw [hmod,hmul]
      conv=>whnf
      rw [shr_s n2 (s:=4*s) (by omega),and15 (shr_in h2 (4*s)).1 (shr_in h2 (4*s)).2,← hv,hd]
      rw [dec_idx (n:=16) hd16]
      conv=>whnf
      conv in (takeAt _ _ _)=>change takeAt row (0+d*12) 12; rw [tk]
      conv=>whnf
      refine ⟨_,pf,rfl,?_⟩
      conv=>whnf
      subst hrow
      refine ⟨16*2+s,F0,Nat.lt_succ_self _,fun c N1 _ _=>⟨_,_,wk_of (by (repeat' apply And.intro)<;>first | trivial | exact ⟨_,rfl,congrArg TV.one hw.symm,rfl⟩ | exact ⟨_,rfl,rfl,rfl⟩) (by (repeat' apply And.intro)<;>first | trivial | rfl | exact ⟨_,rfl,rfl,rfl⟩) (by exact Nat.le_of_ble_eq_true rfl) (by exact Nat.le_of_ble_eq_true rfl),⟨16*2+s,t1,t2,t3,t4,_,pl (tw4 T) (rowR T0 d),N1,rfl,by omega,rfl,?_,rfl,rfl⟩⟩⟩
      rw [hT]
      exact hC.symm
     ·have hv:val n0 n1 n2 n3/2^(4*(16*3+s))%16=n3/2^(4*s)%16:=by
       rw [show 4*(16*3+s)=192+4*s by omega]
       exact hn4.2.2.2
      rw [hdiv]
      conv=>whnf
      rw [hmod,hmul]
      conv=>whnf
      rw [shr_s n3 (s:=4*s) (by omega),and15 (shr_in h3 (4*s)).1 (shr_in h3 (4*s)).2,← hv,hd]
      rw [dec_idx (n:=16) hd16]
      conv=>whnf
      conv in (takeAt _ _ _)=>change takeAt row (0+d*12) 12; rw [tk]
      conv=>whnf
      refine ⟨_,pf,rfl,?_⟩
      conv=>whnf
      subst hrow
      refine ⟨16*3+s,F0,Nat.lt_succ_self _,fun c N1 _ _=>⟨_,_,wk_of (by (repeat' apply And.intro)<;>first | trivial | exact ⟨_,rfl,congrArg TV.one hw.symm,rfl⟩ | exact ⟨_,rfl,rfl,rfl⟩) (by (repeat' apply And.intro)<;>first | trivial | rfl | exact ⟨_,rfl,rfl,rfl⟩) (by exact Nat.le_of_ble_eq_true rfl) (by exact Nat.le_of_ble_eq_true rfl),⟨16*3+s,t1,t2,t3,t4,_,pl (tw4 T) (rowR T0 d),N1,rfl,by omega,rfl,?_,rfl,rfl⟩⟩⟩
      rw [hT]
      exact hC.symm
   ·refine ⟨64,F0,fun c N1 _ _=>⟨_,_,wk_of (by (repeat' apply And.intro)<;>first | trivial | exact ⟨_,rfl,rfl,rfl⟩) (by (repeat' apply And.intro)<;>first | trivial | rfl | exact ⟨_,rfl,rfl,rfl⟩) (by exact Nat.le_of_ble_eq_true rfl) (by exact Nat.le_of_ble_eq_true rfl),⟨64,_,_,_,_,rowP T0 15,(0,0,0),N1,rfl,by omega,rfl,rfl,rfl,rfl⟩⟩⟩
 ·refine ⟨15,F0,fun c N1 _ _=>⟨_,_,wk_of (by (repeat' apply And.intro)<;>first | trivial | exact ⟨_,rfl,rfl,rfl⟩) (by (repeat' apply And.intro)<;>first | trivial | rfl | exact ⟨_,rfl,rfl,rfl⟩) (by exact Nat.le_of_ble_eq_true rfl) (by exact Nat.le_of_ble_eq_true rfl),⟨0,_,_,_,_,List.replicate 192 (u 0),N1,by omega,rfl,(rowP_zero T0).symm,rfl,rfl⟩⟩⟩

end Go.Hv

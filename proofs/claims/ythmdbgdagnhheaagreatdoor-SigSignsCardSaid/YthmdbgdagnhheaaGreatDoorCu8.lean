import Derived.Test.YthmdbgdagnhheaaGreatDoorCu7
namespace Go.Hv
open Go.Ev Go.Ec

noncomputable def sp (P:Pt PPn) (E:Int) (n:Nat):Pt PPn:=smul (E/2^n).toNat P

theorem two_split {E:Int} (hE:0≤E) (n:Nat):(E/2^n).toNat=(E/2^(n+1)).toNat+(E/2^(n+1)).toNat+(E/2^n%2).toNat:=by
 have h:E/2^(n+1)=E/2^n/2:=by
  rw [Int.pow_succ,Int.ediv_ediv_of_nonneg (Int.pow_nonneg (by omega))]
 have h0:0≤E/2^n:=Int.ediv_nonneg hE (Int.pow_nonneg (by omega))
 rw [h]
 omega

theorem sp_skip {P:Pt PPn} (hP:On P) {E:Int} (hE:0≤E) (n:Nat) (h:E/2^n%2=0):sp P E n=add (sp P E (n+1)) (sp P E (n+1)):=by
 unfold sp
 rw [two_split hE n,h,← smul_add fld P hP]
 rfl

theorem sp_step {P:Pt PPn} (hP:On P) {E:Int} (hE:0≤E) (n:Nat) (h:E/2^n%2=1):sp P E n=add (add (sp P E (n+1)) (sp P E (n+1))) P:=by
 unfold sp
 rw [two_split hE n,h,← smul_add fld P hP]
 rfl

theorem sp_on {P:Pt PPn} (hP:On P) (E:Int) (n:Nat):On (sp P E n):=smul_on fld P hP _

def r9:List Sc:=[u 0,u 0,u 0,u 0,u 0,u 0,u 0,u 0,.bool false]

def MuO (P:Pt PPn) (x1 y1 n0 n1 n2 n3:Int) (k:Nat) (e:Env) (m:HM):Prop:=
 ∃ (i t2 t3 t4 t5 t6:Nat) (T:KK×KK×KK) (N:Base),k=i∧i≤4∧hm T=sp P (val n0 n1 n2 n3) (64*i) ∧
  e=[(9,.one (.int .i64 ((i:Int)-1))),(8,.one (.ptr (some (.loc 6 0)))),(7,.one (.ptr (some (.loc 5 0)))),(6,.one (.ptr (some (.loc 4 0)))),(5,.one (.ptr (some (.loc 3 0)))),(4,.one (.ptr (some (.loc 2 0))))] ∧
  m=⟨[none,none,some ⟨r9,t2,0,false⟩,some ⟨[u n0,u n1,u n2,u n3],t3,0,false⟩,some ⟨words x1,t4,0,false⟩,some ⟨words y1,t5,0,false⟩,some ⟨farC (vK T.1) (vK T.2.1) (vK T.2.2),t6,0,false⟩],N⟩

def MuN (P:Pt PPn) (x1 y1 n0 n1 n2 n3:Int) (q:Nat) (k:Nat) (e:Env) (m:HM):Prop:=
 ∃ (s t2 t3 t4 t5 t6:Nat) (T:KK×KK×KK) (N:Base),k=s∧s≤64∧hm T=sp P (val n0 n1 n2 n3) (64*q+s) ∧
  e=[(10,.one (u ((2^s/2:Nat):Int))),(9,.one (.int .i64 ((q:Int)))),(8,.one (.ptr (some (.loc 6 0)))),(7,.one (.ptr (some (.loc 5 0)))),(6,.one (.ptr (some (.loc 4 0)))),(5,.one (.ptr (some (.loc 3 0)))),(4,.one (.ptr (some (.loc 2 0))))] ∧
  m=⟨[none,none,some ⟨r9,t2,0,false⟩,some ⟨[u n0,u n1,u n2,u n3],t3,0,false⟩,some ⟨words x1,t4,0,false⟩,some ⟨words y1,t5,0,false⟩,some ⟨farC (vK T.1) (vK T.2.1) (vK T.2.2),t6,0,false⟩],N⟩

set_option maxHeartbeats 4000000 in
set_option maxRecDepth 100000 in
theorem r5Mul_fn {k x y:Int} {b:Bool} (hk:InW k) (hx:InW x) (hy:InW y):Ev.Fn PG f_ref05_Mul [W k,ptV x y b] (ptOf (smul (k%nn).toNat (tkn x y b))):=by
 refine fn_startH (fun _=>none) h_ref05_Mul rfl (by kernel_rfl) (fun _=>by kernel_rfl) rfl (ptOf_closed _) fun A=>?_
 have t1:=taken_fn (b:=b) hx hy
 have o1:=tkn_on x y b
 generalize tkn x y b=P at *
 match P with
 | none=>
  refine swp_cut fun K hK hR _=>?_
  conv=>whnf
  refine hK _ _ ?_
  clear hK hR
  refine swp_cut fun K hK hR _=>?_
  conv=>whnf
  refine ⟨_,t1,rfl,?_⟩
  conv=>whnf
  refine hK _ _ ?_
  clear hK hR
  refine swp_cut fun K1 hK1 hR1 _=>swp_cut fun K hK hR _=>?_
  conv=>whnf
  refine hK _ _ ?_
  clear hK hR
  conv=>whnf
  conv=>whnf
  refine hR1 _ _ ?_
  conv=>whnf
  intro c N2 _ _
  rw [smul_none _ fld]
  rfl
 | some (p,q)=>
  obtain ⟨x1,hx1,ix1⟩:=vK_nm p
  obtain ⟨y1,hy1,iy1⟩:=vK_nm q
  have e1:ptOf (some (p,q))=ptV x1 y1 false:=by rw [hx1,hy1]; rfl
  rw [e1] at t1
  have c1:=refN_fn
  have c2:=refOfScalar_fn k
  have c3:=refNorm_fn mdN_ok hk
  rw [mdN_M] at c3
  have hE:InW (k%nn):=by unfold nn; exact ⟨by omega,by omega⟩
  generalize k%nn=E at *
  obtain ⟨n0,n1,n2,n3,h0,h1,h2,h3,rfl⟩:=split4 hE
  simp only [W,words_val h0 h1 h2 h3] at c3
  have c4:=refOf_fn x1
  have c5:=refOf_fn y1
  have c6:=refP_fn
  refine swp_cut fun K hK hR _=>?_
  conv=>whnf
  refine hK _ _ ?_
  clear hK hR
  refine swp_cut fun K hK hR _=>?_
  conv=>whnf
  refine ⟨_,t1,rfl,?_⟩
  conv=>whnf
  refine hK _ _ ?_
  clear hK hR
  refine swp_cut fun K1 hK1 hR1 _=>swp_cut fun K hK hR _=>?_
  conv=>whnf
  refine hK _ _ ?_
  clear hK hR
  conv=>whnf
  conv=>whnf
  refine hK1 _ _ ?_
  clear hK1 hR1
  refine swp_cut fun K hK hR _=>?_
  conv=>whnf
  refine ⟨_,c1,rfl,?_⟩
  conv=>whnf
  refine ⟨_,c2,rfl,?_⟩
  conv=>whnf
  refine ⟨_,c3,rfl,?_⟩
  conv=>whnf
  refine hK _ _ ?_
  clear hK hR
  refine swp_cut fun K hK hR _=>?_
  conv=>whnf
  refine ⟨_,c4,rfl,?_⟩
  conv=>whnf
  refine hK _ _ ?_
  clear hK hR
  refine swp_cut fun K hK hR _=>?_
  conv=>whnf
  refine ⟨_,c5,rfl,?_⟩
  conv=>whnf
  refine hK _ _ ?_
  clear hK hR
  refine swp_cut fun K hK hR _=>?_
  conv=>whnf
  refine hK _ _ ?_
  clear hK hR
  refine swp_cut fun K hK hR _=>?_
  conv=>whnf
  refine .inr (loop_invC (gH A _) (MuO (some (p,q)) x1 y1 n0 n1 n2 n3) ?_ ?_)
  ·intro k e' m' hI
   obtain ⟨i,t2,t3,t4,t5,t6,T,N,rfl,hi,hT,rfl,rfl⟩:=hI
   cases k with
   | zero=>
    obtain ⟨ta,tb,tc⟩:=T
    obtain ⟨X,hX,iX⟩:=vK_nm ta
    obtain ⟨Y,hY,iY⟩:=vK_nm tb
    obtain ⟨Z,hZ,iZ⟩:=vK_nm tc
    simp only
    rw [← hX,← hY,← hZ]
    have e0:(val n0 n1 n2 n3).toNat=(val n0 n1 n2 n3/2^(64*0)).toNat:=by simp
    have hT:hm (ta,tb,tc)=smul (val n0 n1 n2 n3).toNat (some (p,q)):=by rw [hT,e0]; rfl
    have z5:=r5zero_fn
    conv=>whnf
    refine hK _ _ ?_
    clear hK hR
    refine swp_cut fun K1 hK1 hR1 _=>swp_cut fun K hK hR _=>?_
    conv=>whnf
    refine hK _ _ ?_
    clear hK hR
    conv=>whnf
    rw [weq0 iZ]
    by_cases hc:tc=0
    ·rw [dec0 hZ hc]
     conv=>whnf
     refine ⟨_,z5,rfl,?_⟩
     conv=>whnf
     refine hR1 _ _ ?_
     conv=>whnf
     intro c N2 _ _
     rw [← hT,hm_z hc]
     rfl
    ·rw [dec1 hZ hc]
     obtain ⟨i0,ei0,ii0,m3⟩:=rInvK hZ
     obtain ⟨i2,ei2,ii2,m4⟩:=rMulK ei0 ei0
     obtain ⟨X2,eX2,iX2,m5⟩:=rMulK hX ei2
     obtain ⟨i3,ei3,ii3,m6⟩:=rMulK ei2 ei0
     obtain ⟨Y2,eY2,iY2,m7⟩:=rMulK hY ei3
     have m8:=r5point_fn X2 Y2
     conv=>whnf
     refine hK1 _ _ ?_
     clear hK1 hR1
     refine swp_cut fun K hK hR _=>?_
     conv=>whnf
     refine ⟨_,c6,rfl,?_⟩
     conv=>whnf
     refine ⟨_,m3,rfl,?_⟩
     conv=>whnf
     refine hK _ _ ?_
     clear hK hR
     refine swp_cut fun K hK hR _=>?_
     conv=>whnf
     refine ⟨_,m4,rfl,?_⟩
     conv=>whnf
     refine hK _ _ ?_
     clear hK hR
     refine swp_cut fun K hK hR _=>?_
     conv=>whnf
     refine ⟨_,m5,rfl,?_⟩
     conv=>whnf
     refine ⟨_,m6,rfl,?_⟩
     conv=>whnf
     refine ⟨_,m7,rfl,?_⟩
     conv=>whnf
     refine ⟨_,m8,rfl,?_⟩
     conv=>whnf
     refine hK _ _ ?_
     clear hK hR
     conv=>whnf
     intro c N2 _ _
     rw [← hT,hm_n hc]
     show _=ptV (vK _) (vK _) false
     rw [← eX2,← eY2]
     rfl
   | succ r=>
    have en:((r+1:Nat):Int)-1=r:=by omega
    rw [en]
    conv=>whnf
    refine .inr (loop_invC (gH A _) (MuN (some (p,q)) x1 y1 n0 n1 n2 n3 r) ?_ ?_)
    ·intro k e' m' hI
     obtain ⟨s,t2,t3,t4,t5,t6,T,N,rfl,hs,hT,rfl,rfl⟩:=hI
     cases k with
     | zero=>
      conv=>whnf
      have hw:wr .i64 ((r:Int)-1)=.int .i64 ((r:Int)-1):=by simp only [wr,i64_dec (s:=r) (by omega)]
      refine ⟨r,F0,Nat.lt_succ_self _,fun c N1 _ _=>⟨_,_,wk_of (by (repeat' apply And.intro)<;>first | trivial | exact ⟨_,rfl,congrArg TV.one hw.symm,rfl⟩ | exact ⟨_,rfl,rfl,rfl⟩) (by (repeat' apply And.intro)<;>first | trivial | rfl | exact ⟨_,rfl,rfl,rfl⟩) (by exact Nat.le_of_ble_eq_true rfl) (by exact Nat.le_of_ble_eq_true rfl),⟨r,t2,t3,t4,t5,t6,T,N1,rfl,by omega,hT,rfl,rfl⟩⟩⟩
     | succ s=>
      have hbits:=bit_word h0 h1 h2 h3 s (by omega)
      rw [half_pow]
      have hpos:decide (((2^s:Nat):Int) > 0)=true:=decide_eq_true (by have:0<2^s:=Nat.pos_of_ne_zero (by simp); generalize 2^s=P at *; omega)
      have hq:wr .u64 ((((2^s:Nat):Int)).tdiv 2)=u ((2^s/2:Nat):Int):=by
       have hlt:2^s<2^64:=Nat.pow_lt_pow_right (by omega) (by omega)
       generalize 2^s=P at *
       simp only [wr,u]
       congr 1
       rw [Int.tdiv_eq_ediv_of_nonneg (by omega)]
       omega
      have tf:=r5twice_fn T
      have pf:=r5plus_fn (tw T) hx1 hy1
      have hT2:=hm_tw fld T (by rw [hT]; exact sp_on o1 _ _)
      rw [hT] at hT2
      conv=>whnf
      rw [hpos]
      conv=>whnf
      refine ⟨_,tf,rfl,?_⟩
      conv=>whnf
      have hPq:hm (p,q,1)=some (p,q):=hm_out (some (p,q))
      have hP2:=hm_pl fld (tw T) (p,q,1) (by rw [hT2]; exact add_on fld _ _ (sp_on o1 _ _) (sp_on o1 _ _)) (by rw [hPq]; exact o1)
      rw [hT2,hPq] at hP2
      obtain rfl | rfl | rfl | rfl:r=0∨r=1∨r=2∨r=3:=by omega
      ·have hbv:val n0 n1 n2 n3/2^(64*0+s)%2=n0/2^s%2:=by
        rw [show 64*0+s=s by omega]
        exact hbits.1
       conv=>whnf
       rw [and_bit h0 (by omega)]
       cases hb:decide (n0/2^s%2=1) with
       | true=>
        have hbit:val n0 n1 n2 n3/2^(64*0+s)%2=1:=by rw [hbv]; exact of_decide_eq_true hb
        conv=>whnf
        refine ⟨_,pf,rfl,?_⟩
        conv=>whnf
        refine ⟨s,F0,Nat.lt_succ_self _,fun c N1 _ _=>⟨_,_,wk_of (by (repeat' apply And.intro)<;>first | trivial | exact ⟨_,rfl,congrArg TV.one hq.symm,rfl⟩ | exact ⟨_,rfl,rfl,rfl⟩) (by (repeat' apply And.intro)<;>first | trivial | rfl | exact ⟨_,rfl,rfl,rfl⟩) (by exact Nat.le_of_ble_eq_true rfl) (by exact Nat.le_of_ble_eq_true rfl),⟨s,t2,t3,t4,t5,t6,pl (tw T) (p,q,1),N1,rfl,by omega,?_,rfl,rfl⟩⟩⟩
        rw [sp_step o1 hE.1 _ hbit]
        exact hP2
       | false=>
        have hbit:val n0 n1 n2 n3/2^(64*0+s)%2=0:=by
         have:=of_decide_eq_false hb
         rw [hbv]; omega
        conv=>whnf
        refine ⟨s,F0,Nat.lt_succ_self _,fun c N1 _ _=>⟨_,_,wk_of (by (repeat' apply And.intro)<;>first | trivial | exact ⟨_,rfl,congrArg TV.one hq.symm,rfl⟩ | exact ⟨_,rfl,rfl,rfl⟩) (by (repeat' apply And.intro)<;>first | trivial | rfl | exact ⟨_,rfl,rfl,rfl⟩) (by exact Nat.le_of_ble_eq_true rfl) (by exact Nat.le_of_ble_eq_true rfl),⟨s,t2,t3,t4,t5,t6,tw T,N1,rfl,by omega,?_,rfl,rfl⟩⟩⟩
        rw [sp_skip o1 hE.1 _ hbit]
        exact hT2
      ·have hbv:val n0 n1 n2 n3/2^(64*1+s)%2=n1/2^s%2:=by
        rw [show 64*1+s=64+s by omega]
        exact hbits.2.1
       conv=>whnf
       rw [and_bit h1 (by omega)]
       cases hb:decide (n1/2^s%2=1) with
       | true=>
        have hbit:val n0 n1 n2 n3/2^(64*1+s)%2=1:=by rw [hbv]; exact of_decide_eq_true hb
        conv=>whnf
        refine ⟨_,pf,rfl,?_⟩
        conv=>whnf
        refine ⟨s,F0,Nat.lt_succ_self _,fun c N1 _ _=>⟨_,_,wk_of (by (repeat' apply And.intro)<;>first | trivial | exact ⟨_,rfl,congrArg TV.one hq.symm,rfl⟩ | exact ⟨_,rfl,rfl,rfl⟩) (by (repeat' apply And.intro)<;>first | trivial | rfl | exact ⟨_,rfl,rfl,rfl⟩) (by exact Nat.le_of_ble_eq_true rfl) (by exact Nat.le_of_ble_eq_true rfl),⟨s,t2,t3,t4,t5,t6,pl (tw T) (p,q,1),N1,rfl,by omega,?_,rfl,rfl⟩⟩⟩
        rw [sp_step o1 hE.1 _ hbit]
        exact hP2
       | false=>
        have hbit:val n0 n1 n2 n3/2^(64*1+s)%2=0:=by
         have:=of_decide_eq_false hb
         rw [hbv]; omega
        conv=>whnf
        refine ⟨s,F0,Nat.lt_succ_self _,fun c N1 _ _=>⟨_,_,wk_of (by (repeat' apply And.intro)<;>first | trivial | exact ⟨_,rfl,congrArg TV.one hq.symm,rfl⟩ | exact ⟨_,rfl,rfl,rfl⟩) (by (repeat' apply And.intro)<;>first | trivial | rfl | exact ⟨_,rfl,rfl,rfl⟩) (by exact Nat.le_of_ble_eq_true rfl) (by exact Nat.le_of_ble_eq_true rfl),⟨s,t2,t3,t4,t5,t6,tw T,N1,rfl,by omega,?_,rfl,rfl⟩⟩⟩
        rw [sp_skip o1 hE.1 _ hbit]
        exact hT2
      ·have hbv:val n0 n1 n2 n3/2^(64*2+s)%2=n2/2^s%2:=by
        rw [show 64*2+s=128+s by omega]
        exact hbits.2.2.1
       conv=>whnf
       rw [and_bit h2 (by omega)]
       cases hb:decide (n2/2^s%2=1) with
       | true=>
        have hbit:val n0 n1 n2 n3/2^(64*2+s)%2=1:=by rw [hbv]; exact of_decide_eq_true hb
        conv=>whnf
        refine ⟨_,pf,rfl,?_⟩
        conv=>whnf
        refine ⟨s,F0,Nat.lt_succ_self _,fun c N1 _ _=>⟨_,_,wk_of (by (repeat' apply And.intro)<;>first | trivial | exact ⟨_,rfl,congrArg TV.one hq.symm,rfl⟩ | exact ⟨_,rfl,rfl,rfl⟩) (by (repeat' apply And.intro)<;>first | trivial | rfl | exact ⟨_,rfl,rfl,rfl⟩) (by exact Nat.le_of_ble_eq_true rfl) (by exact Nat.le_of_ble_eq_true rfl),⟨s,t2,t3,t4,t5,t6,pl (tw T) (p,q,1),N1,rfl,by omega,?_,rfl,rfl⟩⟩⟩
        rw [sp_step o1 hE.1 _ hbit]
        exact hP2
       | false=>
        have hbit:val n0 n1 n2 n3/2^(64*2+s)%2=0:=by
         have:=of_decide_eq_false hb
         rw [hbv]; omega
        conv=>whnf
        refine ⟨s,F0,Nat.lt_succ_self _,fun c N1 _ _=>⟨_,_,wk_of (by (repeat' apply And.intro)<;>first | trivial | exact ⟨_,rfl,congrArg TV.one hq.symm,rfl⟩ | exact ⟨_,rfl,rfl,rfl⟩) (by (repeat' apply And.intro)<;>first | trivial | rfl | exact ⟨_,rfl,rfl,rfl⟩) (by exact Nat.le_of_ble_eq_true rfl) (by exact Nat.le_of_ble_eq_true rfl),⟨s,t2,t3,t4,t5,t6,tw T,N1,rfl,by omega,?_,rfl,rfl⟩⟩⟩
        rw [sp_skip o1 hE.1 _ hbit]
        exact hT2
      ·have hbv:val n0 n1 n2 n3/2^(64*3+s)%2=n3/2^s%2:=by
        rw [show 64*3+s=192+s by omega]
        exact hbits.2.2.2
       conv=>whnf
       rw [and_bit h3 (by omega)]
       cases hb:decide (n3/2^s%2=1) with
       | true=>
        have hbit:val n0 n1 n2 n3/2^(64*3+s)%2=1:=by rw [hbv]; exact of_decide_eq_true hb
        conv=>whnf
        refine ⟨_,pf,rfl,?_⟩
        conv=>whnf
        refine ⟨s,F0,Nat.lt_succ_self _,fun c N1 _ _=>⟨_,_,wk_of (by (repeat' apply And.intro)<;>first | trivial | exact ⟨_,rfl,congrArg TV.one hq.symm,rfl⟩ | exact ⟨_,rfl,rfl,rfl⟩) (by (repeat' apply And.intro)<;>first | trivial | rfl | exact ⟨_,rfl,rfl,rfl⟩) (by exact Nat.le_of_ble_eq_true rfl) (by exact Nat.le_of_ble_eq_true rfl),⟨s,t2,t3,t4,t5,t6,pl (tw T) (p,q,1),N1,rfl,by omega,?_,rfl,rfl⟩⟩⟩
        rw [sp_step o1 hE.1 _ hbit]
        exact hP2
       | false=>
        have hbit:val n0 n1 n2 n3/2^(64*3+s)%2=0:=by
         have:=of_decide_eq_false hb
         rw [hbv]; omega
        conv=>whnf
        refine ⟨s,F0,Nat.lt_succ_self _,fun c N1 _ _=>⟨_,_,wk_of (by (repeat' apply And.intro)<;>first | trivial | exact ⟨_,rfl,congrArg TV.one hq.symm,rfl⟩ | exact ⟨_,rfl,rfl,rfl⟩) (by (repeat' apply And.intro)<;>first | trivial | rfl | exact ⟨_,rfl,rfl,rfl⟩) (by exact Nat.le_of_ble_eq_true rfl) (by exact Nat.le_of_ble_eq_true rfl),⟨s,t2,t3,t4,t5,t6,tw T,N1,rfl,by omega,?_,rfl,rfl⟩⟩⟩
        rw [sp_skip o1 hE.1 _ hbit]
        exact hT2
    ·refine ⟨64,F0,fun c N1 _ _=>⟨_,_,wk_of (by (repeat' apply And.intro)<;>first | trivial | exact ⟨_,rfl,rfl,rfl⟩) (by (repeat' apply And.intro)<;>first | trivial | rfl | exact ⟨_,rfl,rfl,rfl⟩) (by exact Nat.le_of_ble_eq_true rfl) (by exact Nat.le_of_ble_eq_true rfl),⟨64,t2,t3,t4,t5,t6,T,N1,rfl,by omega,?_,rfl,rfl⟩⟩⟩
     rw [hT]; rfl
  ·have h256:hm (0,0,0)=sp (some (p,q)) (val n0 n1 n2 n3) (64*4):=by
    unfold sp
    have p256:(2:Int)^(64*4)=115792089237316195423570985008687907853269984665640564039457584007913129639936:=by decide
    have:val n0 n1 n2 n3/2^(64*4)=0:=Int.ediv_eq_zero_of_lt hE.1 (by rw [p256]; exact hE.2)
    rw [this,hm_z rfl]
    rfl
   refine ⟨4,F0,fun c N1 _ _=>⟨_,_,wk_of (by (repeat' apply And.intro)<;>first | trivial | exact ⟨_,rfl,rfl,rfl⟩) (by (repeat' apply And.intro)<;>first | trivial | rfl | exact ⟨_,rfl,rfl,rfl⟩) (by exact Nat.le_of_ble_eq_true rfl) (by exact Nat.le_of_ble_eq_true rfl),⟨4,_,_,_,_,_,(0,0,0),N1,rfl,by omega,h256,rfl,rfl⟩⟩⟩

end Go.Hv

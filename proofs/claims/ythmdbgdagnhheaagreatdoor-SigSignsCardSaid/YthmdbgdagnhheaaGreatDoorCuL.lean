import Derived.Test.YthmdbgdagnhheaaGreatDoorCuA
import Derived.Test.YthmdbgdagnhheaaGreatDoorBy4
namespace Go.Hv
open Go.Ev Go.Ec

def liftR (x:Int):Int×Bool:=
 match decide (x%pp=x) with
 | true=>sqrtP (vK (toK x*toK x*toK x+7))
 | false=>(0,false)

def liftV (x:Int):TV:=
 match (liftR x).2 with
 | true=>.tup [.agg (ptC x (liftR x).1 false),.one (.bool true)]
 | false=>.tup [.agg (ptC 0 0 true),.one (.bool false)]

theorem liftV_closed (x:Int):(liftV x).closed 0=true:=by
 unfold liftV
 split<;>rfl

theorem sqrtP_lt' (x:Int):InW (sqrtP x).1:=by
 unfold sqrtP
 split
 ·split
  ·exact inQ _
  ·unfold rootP; exact inQ _
 ·exact ⟨by omega,by omega⟩

set_option maxHeartbeats 1000000 in
set_option maxRecDepth 100000 in
theorem cLift_fn {l0 l1 l2 l3:Int} (h0:InU l0) (h1:InU l1) (h2:InU l2) (h3:InU l3):Ev.Fn PG f_curve_Lift [.agg (bcsL l0 l1 l2 l3)] (liftV (val l0 l1 l2 l3)):=by
 refine fn_startH (fun _=>none) h_curve_Lift rfl (by kernel_rfl) (fun _=>by kernel_rfl) rfl (liftV_closed _) fun A=>?_
 have hx:InW (val l0 l1 l2 l3):=by unfold val; exact ⟨by omega,by omega⟩
 have c1:=feRead_fn h0 h1 h2 h3
 have c0:=zero_fn
 generalize val l0 l1 l2 l3=x at *
 by_cases hr:x%pp=x
 ·have hq:readP x=(x,true):=if_pos hr
  rw [hq] at c1
  obtain ⟨z,ez,iz,c2⟩:=cube_fn hx
  have c3:=feSqrt_fn iz
  have hl:liftR x=sqrtP z:=by unfold liftR; rw [decide_eq_true hr,ez]
  unfold liftV
  rw [hl]
  generalize sqrtP z=rr at *
  obtain ⟨r,ok⟩:=rr
  simp only at *
  refine swp_cut fun K hK hR _=>?_
  conv=>whnf
  refine hK _ _ ?_
  clear hK hR
  refine swp_cut fun K hK hR _=>?_
  conv=>whnf
  refine ⟨_,c1,rfl,?_⟩
  conv=>whnf
  refine hK _ _ ?_
  clear hK hR
  refine swp_cut fun K hK hR _=>?_
  conv=>whnf
  refine ⟨_,c2,rfl,?_⟩
  conv=>whnf
  refine ⟨_,c3,rfl,?_⟩
  conv=>whnf
  refine hK _ _ ?_
  clear hK hR
  refine swp_cut fun K1 hK1 hR1 _=>swp_cut fun K hK hR _=>?_
  cases ok with
  | true=>
   repeat (refine aops_step fun T S hT hS=>?_; (conv=>whnf); first | refine hT _ _ ?_ | refine hS ?_)
   refine aops_end ?_
   refine hK _ _ ?_
   conv=>whnf
   refine hK1 _ _ ?_
   clear hK1 hR1
   refine swp_cut fun K hK hR _=>?_
   conv=>whnf
   refine hK _ _ ?_
   clear hK hR
   conv=>whnf
   intro c N2 _ _
   rfl
  | false=>
   repeat (refine aops_step fun T S hT hS=>?_; (conv=>whnf); first | refine hT _ _ ?_ | refine hS ?_)
   refine aops_end ?_
   refine hK _ _ ?_
   conv=>whnf
   refine ⟨_,c0,rfl,?_⟩
   conv=>whnf
   refine hR1 _ _ ?_
   conv=>whnf
   intro c N2 _ _
   rfl
 ·have hq:readP x=(0,false):=if_neg hr
  rw [hq] at c1
  obtain ⟨z,ez,iz,c2⟩:=cube_fn (x:=0) ⟨by omega,by omega⟩
  have c3:=feSqrt_fn iz
  have hl:liftR x=(0,false):=by unfold liftR; rw [decide_eq_false hr]
  unfold liftV
  rw [hl]
  generalize sqrtP z=rr at *
  obtain ⟨r,ok⟩:=rr
  simp only at *
  refine swp_cut fun K hK hR _=>?_
  conv=>whnf
  refine hK _ _ ?_
  clear hK hR
  refine swp_cut fun K hK hR _=>?_
  conv=>whnf
  refine ⟨_,c1,rfl,?_⟩
  conv=>whnf
  refine hK _ _ ?_
  clear hK hR
  refine swp_cut fun K hK hR _=>?_
  conv=>whnf
  refine ⟨_,c2,rfl,?_⟩
  conv=>whnf
  refine ⟨_,c3,rfl,?_⟩
  conv=>whnf
  refine hK _ _ ?_
  clear hK hR
  refine swp_cut fun K1 hK1 hR1 _=>swp_cut fun K hK hR _=>?_
  repeat (refine aops_step fun T S hT hS=>?_; (conv=>whnf); first | refine hT _ _ ?_ | refine hS ?_)
  refine aops_end ?_
  refine hK _ _ ?_
  conv=>whnf
  refine ⟨_,c0,rfl,?_⟩
  conv=>whnf
  refine hR1 _ _ ?_
  conv=>whnf
  intro c N2 _ _
  rfl

def LfI (l0 l1 l2 l3:Int) (k:Nat) (e:Env) (m:HM):Prop:=
 ∃ (j t0 t1:Nat) (N:Base),j≤32∧k=32-j ∧
  ((j=0∧e=[(5,.one (.int .i64 ((0:Nat):Int))),(4,.one (.slice none 0 0)),(3,.one (.bool false)),(2,.one (.ptr (some (.loc 1 0)))),(1,.one (.ptr (some (.loc 0 0))))]∧m=⟨[some ⟨bcsL l0 l1 l2 l3,t0,0,false⟩,some ⟨r9,t1,0,false⟩],N⟩) ∨
   (0<j∧∃ cap,j≤cap∧e=[(5,.one (.int .i64 (j:Int))),(4,.one (.slice (some (.loc 2 0)) j cap)),(3,.one (.bool false)),(2,.one (.ptr (some (.loc 1 0)))),(1,.one (.ptr (some (.loc 0 0))))] ∧
    m=⟨[some ⟨bcsL l0 l1 l2 l3,t0,0,false⟩,some ⟨r9,t1,0,false⟩,some ⟨(bcsL l0 l1 l2 l3).take j,5,cap*1,true⟩],N⟩))

theorem bcsL_len (l0 l1 l2 l3:Int):(bcsL l0 l1 l2 l3).length=32:=rfl
theorem bcsL_cl (l0 l1 l2 l3:Int):closedL 0 (bcsL l0 l1 l2 l3)=true:=rfl

set_option maxHeartbeats 4000000 in
set_option maxRecDepth 100000 in
theorem r5Lift_fn {l0 l1 l2 l3:Int} (h0:InU l0) (h1:InU l1) (h2:InU l2) (h3:InU l3):Ev.Fn PG f_ref05_Lift [.agg (bcsL l0 l1 l2 l3)] (liftV (val l0 l1 l2 l3)):=by
 refine fn_startH (fun _=>none) h_ref05_Lift rfl (by kernel_rfl) (fun _=>by kernel_rfl) rfl (liftV_closed _) fun A=>?_
 have hcl:=bcsL_cl l0 l1 l2 l3
 refine swp_cut fun K hK hR _=>?_
 conv=>whnf
 refine hK _ _ ?_
 clear hK hR
 refine swp_cut fun K hK hR _=>?_
 conv=>whnf
 refine hK _ _ ?_
 clear hK hR
 refine swp_cut fun K hK hR _=>?_
 conv=>whnf
 refine .inr (loop_invR (gH A _) (LfI l0 l1 l2 l3) ?_ ?_)
 ·intro k' e' m' hI
  obtain ⟨j,t0,t1,N,hj32,rfl,hcase⟩:=hI
  rcases hcase with ⟨rfl,rfl,rfl⟩ | ⟨hj0,cap,hcap,rfl,rfl⟩
  ·have hj:0<32:=by omega
   have tk:=take1 (l:=bcsL l0 l1 l2 l3) (j:=0) (by rw [bcsL_len]; omega)
   have hblk:∀ (c:Con) (ρ:Ren) (cap:Nat),(⟨(bcsL l0 l1 l2 l3).take (0+1),5,cap*1,true⟩:Blk)=⟨rnL F0 c ρ [(bcsL l0 l1 l2 l3)[0]],5,cap*1,true⟩:=fun c ρ cap=>by rw [rnL_id rfl]; rfl
   conv=>whnf
   refine ⟨[_],rfl,rfl,rfl,?_⟩
   conv=>whnf
   refine ⟨cap_bytes (by omega),by omega,fun cap' hcap'=>?_⟩
   conv=>whnf
   refine ⟨31,F0,tp 2 3,by omega,tp_ok (by exact Nat.le_of_ble_eq_true rfl) (by exact Nat.le_of_ble_eq_true rfl),fun c N1 _ _=>⟨_,_,wkR_of (by (repeat' apply And.intro)<;>first | trivial | exact ⟨_,rfl,tv_inc (n:=32) hj (by omega),rfl⟩ | exact ⟨_,rfl,rfl,rfl⟩) (by (repeat' apply And.intro)<;>first | trivial | rfl | exact ⟨_,rfl,rfl,rfl⟩ | exact ⟨_,rfl,hblk c (tp 2 3) cap',take_cl hcl _⟩) (by exact Nat.le_of_ble_eq_true rfl),⟨1,t0,t1,N1,by omega,rfl,.inr ⟨by omega,cap',hcap',rfl,rfl⟩⟩⟩⟩
  ·conv=>whnf
   cases hlt:decide ((j:Int)<32) with
   | true=>
    have hj:j<32:=by have:=of_decide_eq_true hlt; omega
    have tk:=take1 (l:=bcsL l0 l1 l2 l3) (j:=j) (by rw [bcsL_len]; exact hj)
    have hlen:((bcsL l0 l1 l2 l3).take j).length=j*1:=by rw [List.length_take,bcsL_len]; omega
    have hcl1:closedL 0 [(bcsL l0 l1 l2 l3)[j]'(by rw [bcsL_len]; exact hj)]=true:=closedL_iff.2 fun s hs=>by
     simp only [List.mem_singleton] at hs
     subst hs
     exact closedL_iff.1 hcl _ (List.getElem_mem _)
    generalize hcj:(bcsL l0 l1 l2 l3)[j]'(by rw [bcsL_len]; exact hj)=cj at *
    have hblk:∀ (c:Con) (ρ:Ren) (cap:Nat),(⟨(bcsL l0 l1 l2 l3).take (j+1),5,cap*1,true⟩:Blk)=⟨rnL F0 c ρ ((bcsL l0 l1 l2 l3).take j++[cj]),5,cap*1,true⟩:=fun c ρ cap=>by
     rw [← hcj,take_snoc,rnL_id (take_cl hcl _)]
    conv=>whnf
    rw [dec_idx (n:=32) hj]
    conv=>whnf
    conv in (takeAt _ _ _)=>change takeAt (bcsL l0 l1 l2 l3) (0+j*1) 1; rw [tk]
    conv=>whnf
    refine ⟨[_],rfl,rfl,rfl,?_⟩
    conv=>whnf
    refine ⟨hlen,hcap,rfl,rfl,cap_bytes (by omega),fun cap' hcap'=>?_⟩
    conv=>whnf
    refine ⟨32-(j+1),F0,tp 2 4,by omega,tp_ok (by exact Nat.le_of_ble_eq_true rfl) (by exact Nat.le_of_ble_eq_true rfl),fun c N1 _ _=>⟨_,_,wkR_of (by (repeat' apply And.intro)<;>first | trivial | exact ⟨_,rfl,tv_inc (n:=32) hj (by omega),rfl⟩ | exact ⟨_,rfl,rfl,rfl⟩) (by (repeat' apply And.intro)<;>first | trivial | rfl | exact ⟨_,rfl,rfl,rfl⟩ | exact ⟨_,rfl,hblk c (tp 2 4) cap',take_cl hcl _⟩) (by exact Nat.le_of_ble_eq_true rfl),⟨j+1,t0,t1,N1,hj,rfl,.inr ⟨by omega,cap',hcap',rfl,rfl⟩⟩⟩⟩
   | false=>
    have:j=32:=by have:=of_decide_eq_false hlt; omega
    subst this
    conv=>whnf
    refine hK _ _ ?_
    clear hK hR
    have hx:InW (val l0 l1 l2 l3):=by unfold val; exact ⟨by omega,by omega⟩
    refine swp_cut fun K hK hR _=>?_
    conv=>whnf
    refine ⟨fun v _=>v=W (val l0 l1 l2 l3),fun c B hB hL=>r3Number_hc h0 h1 h2 h3 (sl_lent (b:=2) (o:=0) (L:=ones (bcsL l0 l1 l2 l3)) (post:=[]) hL rfl (take_cl hcl 32) (by rw [ones_flat]; rfl) rfl hcap (by show 32≤140737488355128; omega) (ones_es _)),⟨_,B0,rfl,rfl⟩,?_⟩
    rintro v N' _ rfl N1 _
    have z0:=r5zero_fn
    have cP:=refP_fn
    have cb:=r3Right_fn mdP_ok hx
    rw [mdP_M,lt_mod hx] at cb
    generalize val l0 l1 l2 l3=x at *
    obtain ⟨z,ez,iz,c2⟩:=r5cube_fn hx
    have c3:=refSqrt_fn iz
    have hl:liftR x=match decide (x%pp=x) with
     | true=>sqrtP z
     | false=>(0,false):=by unfold liftR; rw [ez]
    have cp:=r5point_fn x (sqrtP z).1
    generalize sqrtP z=rr at *
    obtain ⟨r,ok⟩:=rr
    simp only at *
    conv=>whnf
    refine hK _ _ ?_
    clear hK hR
    refine swp_cut fun K hK hR _=>?_
    conv=>whnf
    refine ⟨_,c2,rfl,?_⟩
    conv=>whnf
    refine ⟨_,c3,rfl,?_⟩
    conv=>whnf
    refine hK _ _ ?_
    clear hK hR
    refine swp_cut fun K hK hR _=>?_
    conv=>whnf
    refine ⟨_,cP,rfl,?_⟩
    conv=>whnf
    refine ⟨_,cb,rfl,?_⟩
    conv=>whnf
    refine hK _ _ ?_
    clear hK hR
    refine swp_cut fun K1 hK1 hR1 _=>swp_cut fun K hK hR _=>?_
    cases hd:decide (x%pp=x) with
    | true=>
     cases ok with
     | true=>
      repeat (refine aops_step fun T S hT hS=>?_; (conv=>whnf); (try rw [hd]); first | refine hT _ _ ?_ | refine hS ?_)
      refine aops_end ?_
      refine hK _ _ ?_
      conv=>whnf
      refine hK1 _ _ ?_
      clear hK1 hR1
      refine swp_cut fun K hK hR _=>?_
      conv=>whnf
      refine ⟨_,cp,rfl,?_⟩
      conv=>whnf
      refine hK _ _ ?_
      clear hK hR
      conv=>whnf
      intro c N2 _ _
      simp only [hd] at hl
      unfold liftV
      rw [hl]
      rfl
     | false=>
      repeat (refine aops_step fun T S hT hS=>?_; (conv=>whnf); (try rw [hd]); first | refine hT _ _ ?_ | refine hS ?_)
      refine aops_end ?_
      refine hK _ _ ?_
      conv=>whnf
      refine ⟨_,z0,rfl,?_⟩
      conv=>whnf
      refine hR1 _ _ ?_
      conv=>whnf
      intro c N2 _ _
      simp only [hd] at hl
      unfold liftV
      rw [hl]
      rfl
    | false=>
     cases ok
     all_goals
      repeat (refine aops_step fun T S hT hS=>?_; (conv=>whnf); (try rw [hd]); first | refine hT _ _ ?_ | refine hS ?_)
      refine aops_end ?_
      refine hK _ _ ?_
      conv=>whnf
      refine ⟨_,z0,rfl,?_⟩
      conv=>whnf
      refine hR1 _ _ ?_
      conv=>whnf
      intro c N2 _ _
      simp only [hd] at hl
      unfold liftV
      rw [hl]
      rfl
 ·refine ⟨32,F0,ren0,ren0_ok _,fun c N1 _ _=>⟨_,_,wkR_of (by (repeat' apply And.intro)<;>first | trivial | exact ⟨_,rfl,rfl,rfl⟩) (by (repeat' apply And.intro)<;>first | trivial | rfl | exact ⟨_,rfl,rfl,rfl⟩) (by exact Nat.le_of_ble_eq_true rfl),⟨0,_,_,N1,by omega,rfl,.inl ⟨rfl,rfl,rfl⟩⟩⟩⟩

end Go.Hv

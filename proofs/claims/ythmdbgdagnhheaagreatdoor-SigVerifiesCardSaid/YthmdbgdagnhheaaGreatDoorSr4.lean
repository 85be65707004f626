import Derived.Test.YthmdbgdagnhheaaGreatDoorSr1
namespace Go.Hv
open Go.Ev Go.Ec

def Ren.cmp (ρ σ:Ren):Ren:=⟨fun b=>σ.to (ρ.to b),fun b=>ρ.back (σ.back b)⟩
theorem cmp_ok {ρ σ:Ren} {L:Nat} (h:ρ.Ok L) (h':σ.Ok L):(ρ.cmp σ).Ok L:=
 ⟨fun b=>by show ρ.back (σ.back (σ.to (ρ.to b)))=b; rw [h'.bt,h.bt],fun b=>by show σ.to (ρ.to (ρ.back (σ.back b)))=b; rw [h.tb,h'.tb],fun b hb=>by show σ.to (ρ.to b)=b; rw [h.fix b hb,h'.fix b hb]⟩
theorem tp3_ok {a b c d e f L:Nat} (h1:L≤a) (h2:L≤b) (h3:L≤c) (h4:L≤d) (h5:L≤e) (h6:L≤f):(((tp a b).cmp (tp c d)).cmp (tp e f)).Ok L:=cmp_ok (cmp_ok (tp_ok h1 h2) (tp_ok h3 h4)) (tp_ok h5 h6)

theorem take_at {D:List Int} {j:Nat} {d:Int} (h:D[j]?=some d):takeAt (u8s D) (0+j*1) 1=some [.int .u8 d]:=by
 obtain ⟨hj,rfl⟩:=List.getElem?_eq_some_iff.1 h
 exact u8_take D hj

def VrE (q s0 s1 s2:TV) (i:Nat):Env:=[(10,.one (.int .i64 (i:Int))),(9,s2),(8,s1),(7,s0),(6,.one (.bool false)),(5,.one (.ptr (some (.loc 1 0)))),(3,.one (.ptr (some (.loc 0 0)))),(1,q)]

def VrI (q:TV) (key S1 S2:List Int) (k:Nat) (e:Env) (m:HM):Prop:=
 ∃ (i t0 t1:Nat) (N:Base),i≤32∧k=32-i ∧
  ((i=0∧e=VrE q (.one (.slice none 0 0)) (.one (.slice none 0 0)) (.one (.slice none 0 0)) i∧m=⟨[some ⟨u8s key,t0,0,false⟩,some ⟨u8s (S1++S2),t1,0,false⟩],N⟩) ∨
   (0<i∧∃ c0 c1 c2,i≤c0∧i≤c1∧i≤c2∧e=VrE q (.one (.slice (some (.loc 2 0)) i c0)) (.one (.slice (some (.loc 3 0)) i c1)) (.one (.slice (some (.loc 4 0)) i c2)) i ∧
    m=⟨[some ⟨u8s key,t0,0,false⟩,some ⟨u8s (S1++S2),t1,0,false⟩,some ⟨u8s (S1.take i),t_uint8,c0*1,true⟩,some ⟨u8s (S2.take i),t_uint8,c1*1,true⟩,some ⟨u8s (key.take i),t_uint8,c2*1,true⟩],N⟩))

theorem liftV_all {x:Int} (hx:InW x):∃ px py pb,InW px∧InW py∧liftV x=.tup [.agg (ptC px py pb),.one (.bool (liftR x).2)]∧((liftR x).2=true→px=x∧py=(liftR x).1∧pb=false):=by
 have hv:liftV x=match (liftR x).2 with
  | true=>.tup [.agg (ptC x (liftR x).1 false),.one (.bool true)]
  | false=>.tup [.agg (ptC 0 0 true),.one (.bool false)]:=rfl
 have hi:=liftR_inW x
 cases h:(liftR x).2 with
 | true=>exact ⟨x,(liftR x).1,false,hx,hi,by rw [hv,h],fun _=>⟨rfl,rfl,rfl⟩⟩
 | false=>exact ⟨0,0,true,⟨by decide,by decide⟩,⟨by decide,by decide⟩,by rw [hv,h],fun h=>by cases h⟩

theorem r5LiftD {D:List Int} (hl:D.length=32) (h8:∀ z∈D,0≤z∧z<256):Ev.Fn PG f_ref05_Lift [.agg (u8s D)] (liftV (numB D)):=by
 obtain ⟨l0,l1,l2,l3,h0,h1,h2,h3,e,en⟩:=num_ex hl h8
 rw [e,en]
 exact r5Lift_fn h0 h1 h2 h3

theorem readP_2 (x:Int):(readP x).2=decide (x%pp=x):=by
 unfold readP
 by_cases hx:x%pp=x
 ·rw [if_pos hx,decide_eq_true hx]
 ·rw [if_neg hx,decide_eq_false hx]

set_option maxHeartbeats 2000000 in
set_option maxRecDepth 100000 in
theorem r6Verify_hc {A:Base} {key S1 S2 X:List Int} {p:Option SP} {cap:Nat} (hTb:Tab0 A) (hk:key.length=32) (hk8:∀ z∈key,0≤z∧z<256) (h1:S1.length=32) (h18:∀ z∈S1,0≤z∧z<256) (h2:S2.length=32) (h28:∀ z∈S2,0≤z∧z<256)
  (hX8:∀ z∈X,0≤z∧z<256) (hXl:X.length≤140737488351232) (hX:Sl A 1 (.one (.slice p X.length cap)) (ones (u8s X))):HC PG A f_ref06_Verify [.agg (u8s key),.one (.slice p X.length cap),.agg (u8s (S1++S2))] fun v _=>v=.one (.bool (vfV key S1 S2 X)):=by
 refine hc_start (fun _=>none) h_ref06_Verify rfl (by kernel_rfl) (by kernel_rfl) (closedTs_iff.2 fun v hv=>by
  simp only [List.mem_cons,List.not_mem_nil,or_false] at hv
  rcases hv with rfl | rfl | rfl
  ·exact ints_cl _ _ 0
  ·exact hX.stable.1 0
  ·exact ints_cl _ _ 0) ?_
 have hqr:∀ (F:Nat→Bool) (c:Con) (ρ:Ren),TV.one (.slice p X.length cap)=TV.rn F c ρ (.one (.slice p X.length cap)):=fun F c ρ=>by
  show _=TV.one (Sc.rn F c ρ _)
  rw [Sc.rn_id (hX.stable.1 0)]
 have hqc:∀ n,(TV.one (.slice p X.length cap)).closed n=true:=hX.stable.1
 refine swp_cut fun K hK hR _=>?_
 conv=>whnf
 refine hK _ _ ?_
 clear hK hR
 refine swp_cut fun K hK hR _=>?_
 conv=>whnf
 refine hK _ _ ?_
 clear hK hR
 refine swp_cut fun K hK hR _=>?_
 conv=>whnf
 refine hK _ _ ?_
 clear hK hR
 refine swp_cut fun K hK hR _=>?_
 conv=>whnf
 refine hK _ _ ?_
 clear hK hR
 refine swp_cut fun K hK hR _=>?_
 refine swp_cut fun K2 hK2 hR2 _=>?_
 conv=>whnf
 refine hK2 _ _ ?_
 clear hK2 hR2
 conv=>whnf
 refine .inr (loop_invR (gH A _) (VrI (.one (.slice p X.length cap)) key S1 S2) ?_ ?_)
 ·intro k' e' m' hI
  obtain ⟨i,t0,t1,N,hi32,rfl,⟨hi0,rfl,rfl⟩ | ⟨hi0,c0,c1,c2,hc0,hc1,hc2,rfl,rfl⟩⟩:=hI
  ·conv=>whnf
   cases hlt:decide ((i:Int)<32) with
   | true=>
    have hi:i<32:=by have:=of_decide_eq_true hlt; omega
    have h64:i<64:=by omega
    have h64':32+i<64:=by omega
    have s1:=u8_snoc S1 (i:=i) (by omega)
    have s2:=u8_snoc S2 (i:=i) (by omega)
    have s3:=u8_snoc key (i:=i) (by omega)
    have tk1:takeAt (u8s (S1++S2)) (0+i*1) 1=some [.int .u8 (S1[i]'(by omega))]:=take_at (by rw [List.getElem?_append_left (by omega)]; exact List.getElem?_eq_getElem _)
    have tk2:takeAt (u8s (S1++S2)) (0+(32+i)*1) 1=some [.int .u8 (S2[i]'(by omega))]:=take_at (by rw [List.getElem?_append_right (by omega),h1,Nat.add_sub_cancel_left]; exact List.getElem?_eq_getElem _)
    have tk3:=u8_take key (i:=i) (by omega)
    generalize S1[i]'(by omega)=d1 at *
    generalize S2[i]'(by omega)=d2 at *
    generalize key[i]'(by omega)=d3 at *
    have e32:wr .i64 (32+(i:Int))=.int .i64 ((32+i:Nat):Int):=by
     show Sc.int .i64 (IntKind.i64.wrap _)=_
     rw [wrapN (n:=32+i) (by omega) (by omega)]
    show swpC _ (Code.seq _ _) _ _ _
    refine swp_cut fun K4 hK4 hR4 _=>?_
    refine swp_block ?_
    refine swp_cut fun K5 hK5 hR5 _=>?_
    iterate 2 (refine aops_step fun T S hT hS=>?_; (conv=>whnf); refine hT _ _ ?_)
    refine aops_step fun T S hT hS=>?_
    conv=>whnf
    rw [dec_idx (n:=64) h64]
    conv=>whnf
    refine hT _ _ ?_
    refine aops_step fun T S hT hS=>?_
    conv=>whnf
    conv in (takeAt _ _ _)=>change takeAt (u8s (S1++S2)) (0+i*1) 1; rw [tk1]
    conv=>whnf
    refine hT _ _ ?_
    refine aops_step fun T S hT hS=>?_
    conv=>whnf
    refine hT _ _ ?_
    refine aops_step fun T S hT hS=>?_
    conv=>whnf
    refine ⟨[.int .u8 d1],rfl,rfl,rfl,?_⟩
    conv=>whnf
    refine ⟨⟨by omega,by omega⟩,by omega,fun ca hca=>?_⟩
    conv=>whnf
    refine hT _ _ ?_
    refine aops_step fun T S hT hS=>?_
    conv=>whnf
    refine hT _ _ ?_
    refine aops_end ?_
    refine hK5 _ _ ?_
    clear hK5 hR5
    refine swp_cut fun K5 hK5 hR5 _=>?_
    iterate 2 (refine aops_step fun T S hT hS=>?_; (conv=>whnf); refine hT _ _ ?_)
    refine aops_step fun T S hT hS=>?_
    conv=>whnf
    rw [e32]
    refine hT _ _ ?_
    refine aops_step fun T S hT hS=>?_
    conv=>whnf
    rw [dec_idx (n:=64) h64']
    conv=>whnf
    refine hT _ _ ?_
    refine aops_step fun T S hT hS=>?_
    conv=>whnf
    conv in (takeAt _ _ _)=>change takeAt (u8s (S1++S2)) (0+(32+i)*1) 1; rw [tk2]
    conv=>whnf
    refine hT _ _ ?_
    refine aops_step fun T S hT hS=>?_
    conv=>whnf
    refine hT _ _ ?_
    refine aops_step fun T S hT hS=>?_
    conv=>whnf
    refine ⟨[.int .u8 d2],rfl,rfl,rfl,?_⟩
    conv=>whnf
    refine ⟨⟨by omega,by omega⟩,by omega,fun cb hcb=>?_⟩
    conv=>whnf
    refine hT _ _ ?_
    refine aops_step fun T S hT hS=>?_
    conv=>whnf
    refine hT _ _ ?_
    refine aops_end ?_
    refine hK5 _ _ ?_
    clear hK5 hR5
    iterate 2 (refine aops_step fun T S hT hS=>?_; (conv=>whnf); refine hT _ _ ?_)
    refine aops_step fun T S hT hS=>?_
    conv=>whnf
    rw [dec_idx (n:=32) hi]
    conv=>whnf
    refine hT _ _ ?_
    refine aops_step fun T S hT hS=>?_
    conv=>whnf
    conv in (takeAt _ _ _)=>change takeAt (u8s key) (0+i*1) 1; rw [tk3]
    conv=>whnf
    refine hT _ _ ?_
    refine aops_step fun T S hT hS=>?_
    conv=>whnf
    refine hT _ _ ?_
    refine aops_step fun T S hT hS=>?_
    conv=>whnf
    refine ⟨[.int .u8 d3],rfl,rfl,rfl,?_⟩
    conv=>whnf
    refine ⟨⟨by omega,by omega⟩,by omega,fun cc hcc=>?_⟩
    conv=>whnf
    refine hT _ _ ?_
    refine aops_step fun T S hT hS=>?_
    conv=>whnf
    refine hT _ _ ?_
    refine aops_end ?_
    refine hK4 _ _ ?_
    clear hK4 hR4
    conv=>whnf
    have b1:∀ (c:Con) (ρ:Ren),(⟨u8s (S1.take (i+1)),t_uint8,ca*1,true⟩:Blk)=⟨rnL F0 c ρ [.int .u8 d1],t_uint8,ca*1,true⟩:=fun c ρ=>by
     rw [← s1,hi0]
     rfl
    have b2:∀ (c:Con) (ρ:Ren),(⟨u8s (S2.take (i+1)),t_uint8,cb*1,true⟩:Blk)=⟨rnL F0 c ρ [.int .u8 d2],t_uint8,cb*1,true⟩:=fun c ρ=>by
     rw [← s2,hi0]
     rfl
    have b3:∀ (c:Con) (ρ:Ren),(⟨u8s (key.take (i+1)),t_uint8,cc*1,true⟩:Blk)=⟨rnL F0 c ρ [.int .u8 d3],t_uint8,cc*1,true⟩:=fun c ρ=>by
     rw [← s3,hi0]
     rfl
    have v1:∀ c,TV.one (.slice (some (.loc 2 0)) (i+1) ca)=TV.rn F0 c (((tp 2 3).cmp (tp 3 5)).cmp (tp 4 7)) (.one (.slice (some (.loc 3 0)) 1 ca)):=fun c=>by rw [hi0]; rfl
    have v2:∀ c,TV.one (.slice (some (.loc 3 0)) (i+1) cb)=TV.rn F0 c (((tp 2 3).cmp (tp 3 5)).cmp (tp 4 7)) (.one (.slice (some (.loc 5 0)) 1 cb)):=fun c=>by rw [hi0]; rfl
    have v3:∀ c,TV.one (.slice (some (.loc 4 0)) (i+1) cc)=TV.rn F0 c (((tp 2 3).cmp (tp 3 5)).cmp (tp 4 7)) (.one (.slice (some (.loc 7 0)) 1 cc)):=fun c=>by rw [hi0]; rfl
    refine ⟨32-(i+1),F0,((tp 2 3).cmp (tp 3 5)).cmp (tp 4 7),by omega,tp3_ok (by exact Nat.le_of_ble_eq_true rfl) (by exact Nat.le_of_ble_eq_true rfl) (by exact Nat.le_of_ble_eq_true rfl) (by exact Nat.le_of_ble_eq_true rfl) (by exact Nat.le_of_ble_eq_true rfl) (by exact Nat.le_of_ble_eq_true rfl),fun c N1 _ _=>⟨_,_,wkR_of (by (repeat' apply And.intro)<;>first | trivial | exact ⟨_,rfl,tv_inc (n:=32) hi (by omega),rfl⟩ | exact ⟨_,rfl,v1 c,rfl⟩ | exact ⟨_,rfl,v2 c,rfl⟩ | exact ⟨_,rfl,v3 c,rfl⟩ | exact ⟨_,rfl,hqr _ _ _,hqc _⟩ | exact ⟨_,rfl,rfl,rfl⟩) (by (repeat' apply And.intro)<;>first | trivial | rfl | exact ⟨_,rfl,b1 c _,ints_cl _ _ _⟩ | exact ⟨_,rfl,b2 c _,ints_cl _ _ _⟩ | exact ⟨_,rfl,b3 c _,ints_cl _ _ _⟩ | exact ⟨_,rfl,u8_blkR _ _ _ _ _ _ _,ints_cl _ _ _⟩) (by exact Nat.le_of_ble_eq_true rfl),⟨i+1,t0,t1,N1,hi,rfl,.inr ⟨by omega,ca,cb,cc,by omega,by omega,by omega,rfl,rfl⟩⟩⟩⟩
   | false=>exact absurd (of_decide_eq_false hlt) (by omega)
  ·conv=>whnf
   cases hlt:decide ((i:Int)<32) with
   | true=>
    have hi:i<32:=by have:=of_decide_eq_true hlt; omega
    have h64:i<64:=by omega
    have h64':32+i<64:=by omega
    have s1:=u8_snoc S1 (i:=i) (by omega)
    have s2:=u8_snoc S2 (i:=i) (by omega)
    have s3:=u8_snoc key (i:=i) (by omega)
    have tk1:takeAt (u8s (S1++S2)) (0+i*1) 1=some [.int .u8 (S1[i]'(by omega))]:=take_at (by rw [List.getElem?_append_left (by omega)]; exact List.getElem?_eq_getElem _)
    have tk2:takeAt (u8s (S1++S2)) (0+(32+i)*1) 1=some [.int .u8 (S2[i]'(by omega))]:=take_at (by rw [List.getElem?_append_right (by omega),h1,Nat.add_sub_cancel_left]; exact List.getElem?_eq_getElem _)
    have tk3:=u8_take key (i:=i) (by omega)
    generalize S1[i]'(by omega)=d1 at *
    generalize S2[i]'(by omega)=d2 at *
    generalize key[i]'(by omega)=d3 at *
    have e32:wr .i64 (32+(i:Int))=.int .i64 ((32+i:Nat):Int):=by
     show Sc.int .i64 (IntKind.i64.wrap _)=_
     rw [wrapN (n:=32+i) (by omega) (by omega)]
    show swpC _ (Code.seq _ _) _ _ _
    refine swp_cut fun K4 hK4 hR4 _=>?_
    refine swp_block ?_
    refine swp_cut fun K5 hK5 hR5 _=>?_
    iterate 2 (refine aops_step fun T S hT hS=>?_; (conv=>whnf); refine hT _ _ ?_)
    refine aops_step fun T S hT hS=>?_
    conv=>whnf
    rw [dec_idx (n:=64) h64]
    conv=>whnf
    refine hT _ _ ?_
    refine aops_step fun T S hT hS=>?_
    conv=>whnf
    conv in (takeAt _ _ _)=>change takeAt (u8s (S1++S2)) (0+i*1) 1; rw [tk1]
    conv=>whnf
    refine hT _ _ ?_
    refine aops_step fun T S hT hS=>?_
    conv=>whnf
    refine hT _ _ ?_
    refine aops_step fun T S hT hS=>?_
    conv=>whnf
    refine ⟨[.int .u8 d1],rfl,rfl,rfl,?_⟩
    conv=>whnf
    refine ⟨by rw [List.length_map,List.length_take]; omega,hc0,rfl,rfl,⟨by omega,by omega⟩,fun ca hca=>?_⟩
    conv=>whnf
    refine hT _ _ ?_
    refine aops_step fun T S hT hS=>?_
    conv=>whnf
    refine hT _ _ ?_
    refine aops_end ?_
    refine hK5 _ _ ?_
    clear hK5 hR5
    refine swp_cut fun K5 hK5 hR5 _=>?_
    iterate 2 (refine aops_step fun T S hT hS=>?_; (conv=>whnf); refine hT _ _ ?_)
    refine aops_step fun T S hT hS=>?_
    conv=>whnf
    rw [e32]
    refine hT _ _ ?_
    refine aops_step fun T S hT hS=>?_
    conv=>whnf
    rw [dec_idx (n:=64) h64']
    conv=>whnf
    refine hT _ _ ?_
    refine aops_step fun T S hT hS=>?_
    conv=>whnf
    conv in (takeAt _ _ _)=>change takeAt (u8s (S1++S2)) (0+(32+i)*1) 1; rw [tk2]
    conv=>whnf
    refine hT _ _ ?_
    refine aops_step fun T S hT hS=>?_
    conv=>whnf
    refine hT _ _ ?_
    refine aops_step fun T S hT hS=>?_
    conv=>whnf
    refine ⟨[.int .u8 d2],rfl,rfl,rfl,?_⟩
    conv=>whnf
    refine ⟨by rw [List.length_map,List.length_take]; omega,hc1,rfl,rfl,⟨by omega,by omega⟩,fun cb hcb=>?_⟩
    conv=>whnf
    refine hT _ _ ?_
    refine aops_step fun T S hT hS=>?_
    conv=>whnf
    refine hT _ _ ?_
    refine aops_end ?_
    refine hK5 _ _ ?_
    clear hK5 hR5
    iterate 2 (refine aops_step fun T S hT hS=>?_; (conv=>whnf); refine hT _ _ ?_)
    refine aops_step fun T S hT hS=>?_
    conv=>whnf
    rw [dec_idx (n:=32) hi]
    conv=>whnf
    refine hT _ _ ?_
    refine aops_step fun T S hT hS=>?_
    conv=>whnf
    conv in (takeAt _ _ _)=>change takeAt (u8s key) (0+i*1) 1; rw [tk3]
    conv=>whnf
    refine hT _ _ ?_
    refine aops_step fun T S hT hS=>?_
    conv=>whnf
    refine hT _ _ ?_
    refine aops_step fun T S hT hS=>?_
    conv=>whnf
    refine ⟨[.int .u8 d3],rfl,rfl,rfl,?_⟩
    conv=>whnf
    refine ⟨by rw [List.length_map,List.length_take]; omega,hc2,rfl,rfl,⟨by omega,by omega⟩,fun cc hcc=>?_⟩
    conv=>whnf
    refine hT _ _ ?_
    refine aops_step fun T S hT hS=>?_
    conv=>whnf
    refine hT _ _ ?_
    refine aops_end ?_
    refine hK4 _ _ ?_
    clear hK4 hR4
    conv=>whnf
    have b1:∀ (c:Con) (ρ:Ren),(⟨u8s (S1.take (i+1)),t_uint8,ca*1,true⟩:Blk)=⟨rnL F0 c ρ (u8s (S1.take i)++[.int .u8 d1]),t_uint8,ca*1,true⟩:=fun c ρ=>by
     rw [s1,rnL_id (ints_cl _ _ 0)]
    have b2:∀ (c:Con) (ρ:Ren),(⟨u8s (S2.take (i+1)),t_uint8,cb*1,true⟩:Blk)=⟨rnL F0 c ρ (u8s (S2.take i)++[.int .u8 d2]),t_uint8,cb*1,true⟩:=fun c ρ=>by
     rw [s2,rnL_id (ints_cl _ _ 0)]
    have b3:∀ (c:Con) (ρ:Ren),(⟨u8s (key.take (i+1)),t_uint8,cc*1,true⟩:Blk)=⟨rnL F0 c ρ (u8s (key.take i)++[.int .u8 d3]),t_uint8,cc*1,true⟩:=fun c ρ=>by
     rw [s3,rnL_id (ints_cl _ _ 0)]
    refine ⟨32-(i+1),F0,((tp 2 6).cmp (tp 3 8)).cmp (tp 4 10),by omega,tp3_ok (by exact Nat.le_of_ble_eq_true rfl) (by exact Nat.le_of_ble_eq_true rfl) (by exact Nat.le_of_ble_eq_true rfl) (by exact Nat.le_of_ble_eq_true rfl) (by exact Nat.le_of_ble_eq_true rfl) (by exact Nat.le_of_ble_eq_true rfl),fun c N1 _ _=>⟨_,_,wkR_of (by (repeat' apply And.intro)<;>first | trivial | exact ⟨_,rfl,tv_inc (n:=32) hi (by omega),rfl⟩ | exact ⟨_,rfl,hqr _ _ _,hqc _⟩ | exact ⟨_,rfl,rfl,rfl⟩) (by (repeat' apply And.intro)<;>first | trivial | rfl | exact ⟨_,rfl,b1 c _,ints_cl _ _ _⟩ | exact ⟨_,rfl,b2 c _,ints_cl _ _ _⟩ | exact ⟨_,rfl,b3 c _,ints_cl _ _ _⟩ | exact ⟨_,rfl,u8_blkR _ _ _ _ _ _ _,ints_cl _ _ _⟩) (by exact Nat.le_of_ble_eq_true rfl),⟨i+1,t0,t1,N1,hi,rfl,.inr ⟨by omega,ca,cb,cc,hca,hcb,hcc,rfl,rfl⟩⟩⟩⟩
   | false=>
    obtain rfl:i=32:=by have:=of_decide_eq_false hlt; omega
    have ht1:S1.take 32=S1:=List.take_of_length_le (by omega)
    have ht2:S2.take 32=S2:=List.take_of_length_le (by omega)
    have ht3:key.take 32=key:=List.take_of_length_le (by omega)
    conv=>whnf
    refine hK _ _ ?_
    clear hK hR
    rw [ht1,ht2,ht3]
    clear ht1 ht2 ht3
    have i1:=num_in h1 h18
    have i2:=num_in h2 h28
    have ik:=num_in hk hk8
    have il:=liftR_inW (numB key)
    have ie:=redN_in nmCha [S1,key,X]
    have cC:=fun (B:Base) (hB:Base.le A B) {q:TV} (hq:Texts B q [S1,key,X])=>r6red_hc (A:=B) (nm:=nmCha) (ERead_le hB hTb) hq (by decide) (tagY3r nmCha h1 hk hXl) (u8_3 h18 hk8 hX8)
    have e0:vfV key S1 S2 X=vf3 (liftR (numB key)).2 (readP (numB S1)).2 (readN (numB S2)).2 (vfR (numB S1) (vfP (numB S2) (redN nmCha [S1,key,X]) (numB key) (liftR (numB key)).1)):=rfl
    rw [e0]
    clear e0
    obtain ⟨px,py,pb,ipx,ipy,elv,elt⟩:=liftV_all ik
    have cl:=r5LiftD hk hk8
    rw [elv] at cl
    have cn:=fun (B:Base) (q:TV) (hs:Sl B 1 q (ones (u8s S1)))=>r3Num_b h1 h18 hs
    have crs:=fun (B:Base) (q:TV) (hs:Sl B 1 q (ones (u8s S2)))=>r5ReadS_hc h2 h28 hs
    have cP:=refP_fn
    have cbl:=r3Right_fn mdP_ok i1
    rw [mdP_M,lt_mod i1,← readP_2] at cbl
    have hrn:=@readN_eq (numB S2)
    have irn:InW (readN (numB S2)).1:=by
     unfold readN
     split
     ·exact i2
     ·exact ⟨by omega,by omega⟩
    have cfe:=refFe_fn (numB S1)
    generalize redN nmCha [S1,key,X]=e at *
    generalize numB key=x at *
    generalize numB S1=r1 at *
    generalize numB S2=z2 at *
    generalize liftR x=lr at *
    generalize (readP r1).2=below at *
    generalize readN z2=rn at *
    obtain ⟨y,ok⟩:=lr
    obtain ⟨z,is⟩:=rn
    simp only at *
    have tk:takeAt (u8s key) 0 32=some (u8s key):=by
     have:=takeAt_app [] (u8s key) []
     rw [List.append_nil,List.length_map,hk] at this
     exact this
    have kcl:closedTs 0 [.agg (u8s key)]=true:=closedTs_iff.2 fun v hv=>by
     simp only [List.mem_singleton] at hv
     subst hv
     exact ints_cl _ _ 0
    refine swp_cut fun K hK hR _=>?_
    refine aops_step fun T S hT hS=>?_
    conv=>whnf
    conv in (takeAt _ _ _)=>change takeAt (u8s key) 0 32; rw [tk]
    conv=>whnf
    refine hT _ _ ?_
    refine aops_step fun T S hT hS=>?_
    conv=>whnf
    refine ⟨_,cl,kcl,?_⟩
    refine hT _ _ ?_
    iterate 6 (refine aops_step fun T S hT hS=>?_; (conv=>whnf); refine hT _ _ ?_)
    refine aops_end ?_
    refine hK _ _ ?_
    clear hK hR
    refine swp_cut fun K hK hR _=>?_
    refine aops_step fun T S hT hS=>?_
    conv=>whnf
    refine hT _ _ ?_
    refine aops_step fun T S hT hS=>?_
    conv=>whnf
    refine ⟨fun v _=>v=W r1,fun c B hB hL=>cn B _ (sl_lent (b:=2) (o:=0) (L:=ones (u8s S1)) (post:=[]) hL rfl (ints_cl _ _ 0) (by rw [ones_flat]; exact (List.append_nil _).symm) (by rw [u8s_len,h1]) (by rw [u8s_len,h1]; exact hc0) (by rw [u8s_len,h1]; omega) (ones_es _)),⟨_,B0,rfl,rfl⟩,?_⟩
    rintro v N' _ rfl N1 _
    refine hT _ _ ?_
    iterate 2 (refine aops_step fun T S hT hS=>?_; (conv=>whnf); refine hT _ _ ?_)
    refine aops_end ?_
    refine hK _ _ ?_
    clear hK hR
    refine swp_cut fun K hK hR _=>?_
    refine aops_step fun T S hT hS=>?_
    conv=>whnf
    refine ⟨_,cP,rfl,?_⟩
    refine hT _ _ ?_
    refine aops_step fun T S hT hS=>?_
    conv=>whnf
    refine hT _ _ ?_
    refine aops_step fun T S hT hS=>?_
    conv=>whnf
    refine ⟨_,cbl,rfl,?_⟩
    refine hT _ _ ?_
    refine aops_step fun T S hT hS=>?_
    conv=>whnf
    refine hT _ _ ?_
    refine aops_end ?_
    refine hK _ _ ?_
    clear hK hR
    refine swp_cut fun K hK hR _=>?_
    refine aops_step fun T S hT hS=>?_
    conv=>whnf
    refine hT _ _ ?_
    refine aops_step fun T S hT hS=>?_
    conv=>whnf
    refine ⟨fun v _=>v=.tup [.agg (words z),.one (.bool is)],fun c B hB hL=>crs B _ (sl_lent (b:=3) (o:=0) (L:=ones (u8s S2)) (post:=[]) hL rfl (ints_cl _ _ 0) (by rw [ones_flat]; exact (List.append_nil _).symm) (by rw [u8s_len,h2]) (by rw [u8s_len,h2]; exact hc1) (by rw [u8s_len,h2]; omega) (ones_es _)),⟨_,B0,rfl,rfl⟩,?_⟩
    rintro v N' _ rfl N1 _
    refine hT _ _ ?_
    iterate 6 (refine aops_step fun T S hT hS=>?_; (conv=>whnf); refine hT _ _ ?_)
    refine aops_end ?_
    refine hK _ _ ?_
    clear hK hR
    refine swp_cut fun K hK hR _=>?_
    refine swp_cut fun K2 hK2 hR2 _=>?_
    cases ok with
    | false=>
     iterate 3 (refine aops_step fun T S hT hS=>?_; (conv=>whnf); refine hT _ _ ?_)
     iterate 2 (refine aops_step fun T S hT hS=>?_; (conv=>whnf); refine hS ?_)
     iterate 2 (refine aops_step fun T S hT hS=>?_; (conv=>whnf); refine hT _ _ ?_)
     iterate 2 (refine aops_step fun T S hT hS=>?_; (conv=>whnf); refine hS ?_)
     refine aops_step fun T S hT hS=>?_
     conv=>whnf
     refine hT _ _ ?_
     refine aops_end ?_
     refine hK2 _ _ ?_
     conv=>whnf
     refine hR _ _ ?_
     conv=>whnf
     intro c N8 _ _
     rfl
    | true=>
    cases below with
    | false=>
     iterate 7 (refine aops_step fun T S hT hS=>?_; (conv=>whnf); refine hT _ _ ?_)
     iterate 2 (refine aops_step fun T S hT hS=>?_; (conv=>whnf); refine hS ?_)
     refine aops_step fun T S hT hS=>?_
     conv=>whnf
     refine hT _ _ ?_
     refine aops_end ?_
     refine hK2 _ _ ?_
     conv=>whnf
     refine hR _ _ ?_
     conv=>whnf
     intro c N8 _ _
     rfl
    | true=>
    cases is with
    | false=>
     iterate 10 (refine aops_step fun T S hT hS=>?_; (conv=>whnf); refine hT _ _ ?_)
     refine aops_end ?_
     refine hK2 _ _ ?_
     conv=>whnf
     refine hR _ _ ?_
     conv=>whnf
     intro c N8 _ _
     rfl
    | true=>
     obtain rfl:=hrn rfl
     obtain ⟨rfl,rfl,rfl⟩:=elt rfl
     obtain ⟨gx,gy,gb,igx,igy,eg,tg,_⟩:=pt_nm gP gP_on
     have cb:=r5base_fn
     rw [eg] at cb
     have cm1:=r5Mul_fn (b:=gb) irn igx igy
     rw [tg,smul_modI gP_on irn.1] at cm1
     have hon:=tkn_on px py false
     have cm2:=r5Mul_fn (b:=false) ie ipx ipy
     have on1:=smul_on fld _ gP_on z.toNat
     have on2:=smul_on fld _ hon (e%nn).toNat
     have on3:On (neg (smul (e%nn).toNat (tkn px py false))):=neg_on _ on2
     have hneg:neg (smul (e%nn).toNat (tkn px py false))=smul (-e%nn).toNat (tkn px py false):=(M_neg hon e).symm
     obtain ⟨ax,ay,ab,iax,iay,ea,ta,_⟩:=pt_nm _ on1
     rw [ea] at cm1
     obtain ⟨bx,by_,bb,ibx,iby,eb,tb,_⟩:=pt_nm _ on2
     rw [eb] at cm2
     have cng:=r5Neg_fn (b:=bb) ibx iby
     rw [tb] at cng
     obtain ⟨nx,ny,nb,inx,iny,en,tn,_⟩:=pt_nm _ on3
     rw [en] at cng
     have cad:=r5Add_fn (b:=ab) (b':=nb) iax iay inx iny
     rw [ta,tn,hneg] at cad
     have on4:=on3
     rw [hneg] at on4
     have onR:On (vfP z e px py):=add_on fld _ _ on1 on4
     have cad:Ev.Fn PG f_ref05_Add [ptV ax ay ab,ptV nx ny nb] (ptOf (vfP z e px py)):=cad
     clear hneg ea eb en ta tb tn
     iterate 10 (refine aops_step fun T S hT hS=>?_; (conv=>whnf); refine hT _ _ ?_)
     refine aops_end ?_
     refine hK2 _ _ ?_
     clear hK2 hR2
     conv=>whnf
     refine hK _ _ ?_
     clear hK hR
     refine swp_cut fun K hK hR _=>?_
     iterate 4 (refine aops_step fun T S hT hS=>?_; (conv=>whnf); refine hT _ _ ?_)
     refine aops_step fun T S hT hS=>?_
     conv=>whnf
     refine ⟨fun v _=>v=W e,fun c B hB hL=>by
      show HC PG B f_ref06_reduced [.one (.str nmCha),.one (.slice (some (.ext ⟨c.ι 8,0,none⟩)) 3 3)] _
      exact cC B (fun r o h=>hB r o (.inl h)) (three_lentC (b0:=2) (b1:=4) (b2:=8) hL rfl rfl rfl h1 hk hc0 hc2 (hX.mono (fun r o h=>hB r o (.inl h)))),⟨_,B0,rfl,rfl⟩,?_⟩
     rintro v N' _ rfl N1 _
     refine hT _ _ ?_
     iterate 2 (refine aops_step fun T S hT hS=>?_; (conv=>whnf); refine hT _ _ ?_)
     refine aops_end ?_
     refine hK _ _ ?_
     clear hK hR
     generalize vfP z e px py=R at *
     match R,onR,cad with
     | none,_,cad=>
      have cad:Ev.Fn PG f_ref05_Add [ptV ax ay ab,ptV nx ny nb] (ptV 0 0 true):=cad
      refine swp_cut fun K hK hR _=>?_
      refine aops_step fun T S hT hS=>?_
      conv=>whnf
      refine hT _ _ ?_
      refine aops_step fun T S hT hS=>?_
      conv=>whnf
      refine ⟨_,cb,rfl,?_⟩
      refine hT _ _ ?_
      refine aops_step fun T S hT hS=>?_
      conv=>whnf
      refine ⟨_,cm1,rfl,?_⟩
      refine hT _ _ ?_
      iterate 2 (refine aops_step fun T S hT hS=>?_; (conv=>whnf); refine hT _ _ ?_)
      refine aops_step fun T S hT hS=>?_
      conv=>whnf
      refine ⟨_,cm2,rfl,?_⟩
      refine hT _ _ ?_
      refine aops_step fun T S hT hS=>?_
      conv=>whnf
      refine ⟨_,cng,rfl,?_⟩
      refine hT _ _ ?_
      refine aops_step fun T S hT hS=>?_
      conv=>whnf
      refine ⟨_,cad,rfl,?_⟩
      refine hT _ _ ?_
      iterate 2 (refine aops_step fun T S hT hS=>?_; (conv=>whnf); refine hT _ _ ?_)
      refine aops_end ?_
      refine hK _ _ ?_
      clear hK hR
      refine swp_cut fun K hK hR _=>?_
      iterate 4 (refine aops_step fun T S hT hS=>?_; (conv=>whnf); refine hT _ _ ?_)
      iterate 5 (refine aops_step fun T S hT hS=>?_; (conv=>whnf); refine hS ?_)
      iterate 2 (refine aops_step fun T S hT hS=>?_; (conv=>whnf); refine hT _ _ ?_)
      iterate 5 (refine aops_step fun T S hT hS=>?_; (conv=>whnf); refine hS ?_)
      iterate 2 (refine aops_step fun T S hT hS=>?_; (conv=>whnf); refine hT _ _ ?_)
      refine aops_end ?_
      refine hK _ _ ?_
      conv=>whnf
      intro c N8 _ _
      rfl
     | some (a,yc),onR,cad=>
      have cad:Ev.Fn PG f_ref05_Add [ptV ax ay ab,ptV nx ny nb] (ptV (vK a) (vK yc) false):=cad
      have wq:=weq (vK_in a) i1
      show swpC _ _ (post _ _ fun v m=>∀ c0 N1,Base.le m.N N1→Lent c0 N1 m.bs→TV.ext c0 v=.one (.bool (match decide (vK yc%2=1) with | true=>false | false=>decide (vK a=r1)))) _ _
      obtain ⟨od,hod⟩:∃ o,decide (vK yc%2=1)=o:=⟨_,rfl⟩
      obtain ⟨ex,hex⟩:∃ o,decide (vK a=r1)=o:=⟨_,rfl⟩
      have hlo:=low_even hod
      rw [hod,hex]
      rw [hex] at wq
      generalize vK yc=yv at *
      generalize vK a=xa at *
      refine swp_cut fun K hK hR _=>?_
      refine aops_step fun T S hT hS=>?_
      conv=>whnf
      refine hT _ _ ?_
      refine aops_step fun T S hT hS=>?_
      conv=>whnf
      refine ⟨_,cb,rfl,?_⟩
      refine hT _ _ ?_
      refine aops_step fun T S hT hS=>?_
      conv=>whnf
      refine ⟨_,cm1,rfl,?_⟩
      refine hT _ _ ?_
      iterate 2 (refine aops_step fun T S hT hS=>?_; (conv=>whnf); refine hT _ _ ?_)
      refine aops_step fun T S hT hS=>?_
      conv=>whnf
      refine ⟨_,cm2,rfl,?_⟩
      refine hT _ _ ?_
      refine aops_step fun T S hT hS=>?_
      conv=>whnf
      refine ⟨_,cng,rfl,?_⟩
      refine hT _ _ ?_
      refine aops_step fun T S hT hS=>?_
      conv=>whnf
      refine ⟨_,cad,rfl,?_⟩
      refine hT _ _ ?_
      iterate 2 (refine aops_step fun T S hT hS=>?_; (conv=>whnf); refine hT _ _ ?_)
      refine aops_end ?_
      refine hK _ _ ?_
      clear hK hR
      refine swp_cut fun K hK hR _=>?_
      iterate 8 (refine aops_step fun T S hT hS=>?_; (conv=>whnf); refine hT _ _ ?_)
      refine aops_step fun T S hT hS=>?_
      conv=>whnf
      rw [hlo]
      refine hT _ _ ?_
      cases od with
      | false=>
       iterate 5 (refine aops_step fun T S hT hS=>?_; (conv=>whnf); refine hT _ _ ?_)
       refine aops_step fun T S hT hS=>?_
       conv=>whnf
       refine ⟨_,cfe,rfl,?_⟩
       refine hT _ _ ?_
       refine aops_step fun T S hT hS=>?_
       conv=>whnf
       rw [wq]
       refine hT _ _ ?_
       iterate 2 (refine aops_step fun T S hT hS=>?_; (conv=>whnf); refine hT _ _ ?_)
       refine aops_end ?_
       refine hK _ _ ?_
       conv=>whnf
       intro c N8 _ _
       rfl
      | true=>
       iterate 2 (refine aops_step fun T S hT hS=>?_; (conv=>whnf); refine hT _ _ ?_)
       iterate 5 (refine aops_step fun T S hT hS=>?_; (conv=>whnf); refine hS ?_)
       iterate 2 (refine aops_step fun T S hT hS=>?_; (conv=>whnf); refine hT _ _ ?_)
       refine aops_end ?_
       refine hK _ _ ?_
       conv=>whnf
       intro c N8 _ _
       rfl
 ·refine ⟨32,F0,ren0,ren0_ok _,fun c N1 _ _=>⟨_,_,wkR_of (by (repeat' apply And.intro)<;>first | trivial | exact ⟨_,rfl,hqr _ _ _,hqc _⟩ | exact ⟨_,rfl,rfl,rfl⟩) (by (repeat' apply And.intro)<;>first | trivial | rfl | exact ⟨_,rfl,u8_blkR _ _ _ _ _ _ _,ints_cl _ _ _⟩) (by exact Nat.le_of_ble_eq_true rfl),⟨0,_,_,N1,by omega,rfl,.inl ⟨rfl,rfl,rfl⟩⟩⟩⟩

end Go.Hv

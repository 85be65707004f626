import Derived.Test.YthmdbgdagnhheaaGreatDoorSg
import Derived.Test.YthmdbgdagnhheaaGreatDoorBy4
namespace Go.Hv
open Go.Ev Go.Ec

theorem r5SubS_fn {x y:Int} (hx:InW x) (hy:InW y):Ev.Fn PG f_ref05_SubScalar [W x,W y] (W ((x-y)%nn)):=by
 refine fn_startH (fun _=>none) h_ref05_SubScalar rfl (by kernel_rfl) (fun _=>by kernel_rfl) rfl rfl fun A=>?_
 have c1:=refN_fn
 have c2:=refOfScalar_fn x
 have c3:=refOfScalar_fn y
 have c4:=refSub_fn mdN_ok hx hy
 rw [mdN_M] at c4
 have c5:=refScalar_fn ((x-y)%nn)
 refine swp_cut fun K hK hR _=>?_
 conv=>whnf
 refine hK _ _ ?_
 clear hK hR
 refine swp_cut fun K hK hR _=>?_
 conv=>whnf
 refine ⟨_,c1,rfl,?_⟩
 conv=>whnf
 refine ⟨_,c2,rfl,?_⟩
 conv=>whnf
 refine ⟨_,c3,rfl,?_⟩
 conv=>whnf
 refine ⟨_,c4,rfl,?_⟩
 conv=>whnf
 refine ⟨_,c5,rfl,?_⟩
 conv=>whnf
 refine hK _ _ ?_
 clear hK hR
 conv=>whnf
 intro c N2 _ _
 rfl

theorem r3Bytes_b {A:Base} {x:Int} (hx:InW x):HCO PG A f_ref03_Bytes [W x] fun n cap k _=>n=32∧32≤cap∧k=⟨u8s (byt x),t_uint8,cap*1,true⟩:=by
 obtain ⟨l0,l1,l2,l3,h0,h1,h2,h3,rfl⟩:=split4 hx
 have h:=r3Bytes_hco (A:=A) h0 h1 h2 h3
 rw [bcsL_val h0 h1 h2 h3] at h
 exact h

theorem r3Num_b {A:Base} {q:TV} {D:List Int} (hl:D.length=32) (h8:∀ z∈D,0≤z∧z<256) (hs:Sl A 1 q (ones (u8s D))):HC PG A f_ref03_Number [q] fun v _=>v=W (numB D):=by
 obtain ⟨l0,l1,l2,l3,h0,h1,h2,h3,e,en⟩:=num_ex hl h8
 rw [e] at hs
 rw [en]
 exact r3Number_hc h0 h1 h2 h3 hs

theorem r5Normal_b {x:Int} (hx:InW x):Ev.Fn PG f_ref05_Normal [W x] (W (x%nn)):=by
 refine fn_startH (fun _=>none) h_ref05_Normal rfl (by kernel_rfl) (fun _=>by kernel_rfl) rfl rfl fun A=>?_
 have c1:=refN_fn
 have c2:=refOfScalar_fn x
 have c3:=refNorm_fn mdN_ok hx
 rw [mdN_M] at c3
 have c5:=refScalar_fn (x%nn)
 refine swp_cut fun K hK hR _=>?_
 conv=>whnf
 refine hK _ _ ?_
 clear hK hR
 refine swp_cut fun K hK hR _=>?_
 conv=>whnf
 refine ⟨_,c1,rfl,?_⟩
 conv=>whnf
 refine ⟨_,c2,rfl,?_⟩
 conv=>whnf
 refine ⟨_,c3,rfl,?_⟩
 conv=>whnf
 refine ⟨_,c5,rfl,?_⟩
 conv=>whnf
 refine hK _ _ ?_
 clear hK hR
 conv=>whnf
 intro c N2 _ _
 rfl

set_option maxHeartbeats 1000000 in
set_option maxRecDepth 100000 in
theorem r5SBytes_hco {A:Base} {x:Int} (hx:InW x):HCO PG A f_ref05_ScalarBytes [W x] fun n cap k _=>n=32∧32≤cap∧k=⟨u8s (byt (x%nn)),t_uint8,cap*1,true⟩:=by
 refine hco_start (fun _=>none) h_ref05_ScalarBytes rfl (by kernel_rfl) (by kernel_rfl) rfl ?_
 have c1:=r5Normal_b hx
 have hi:=modn_in x
 generalize x%nn=y at *
 have c2:=refOf_fn y
 refine swp_cut fun K hK hR _=>?_
 conv=>whnf
 refine hK _ _ ?_
 clear hK hR
 refine swp_cut fun K hK hR _=>?_
 refine aops_step fun T S hT hS=>?_
 conv=>whnf
 refine hT _ _ ?_
 refine aops_step fun T S hT hS=>?_
 conv=>whnf
 refine ⟨_,c1,rfl,?_⟩
 refine hT _ _ ?_
 refine aops_step fun T S hT hS=>?_
 conv=>whnf
 refine ⟨_,c2,rfl,?_⟩
 refine hT _ _ ?_
 refine aops_step fun T S hT hS=>?_
 conv=>whnf
 refine ⟨fun n cap k _=>n=32∧32≤cap∧k=⟨u8s (byt y),t_uint8,cap*1,true⟩,fun c B hB hL=>r3Bytes_b hi,⟨32,32,⟨u8s (byt y),t_uint8,32*1,true⟩,B0,ints_cl _ _ 0,rfl,Nat.le_refl _,rfl⟩,?_⟩
 rintro n capT k N3 _ ⟨rfl,hcapT,rfl⟩ N4 _
 conv=>whnf
 refine hT _ _ ?_
 refine aops_step fun T S hT hS=>?_
 conv=>whnf
 refine hT _ _ ?_
 refine aops_end ?_
 refine hK _ _ ?_
 conv=>whnf
 exact ⟨_,_,_,_,rfl,rfl,ints_cl _ _ 0,rfl,hcapT,rfl⟩

set_option maxHeartbeats 1000000 in
set_option maxRecDepth 100000 in
theorem r6x_hco {A:Base} {x y:Int} {b:Bool} (hx:InW x):HCO PG A f_ref06_x [ptV x y b] fun n cap k _=>n=32∧32≤cap∧k=⟨u8s (byt x),t_uint8,cap*1,true⟩:=by
 refine hco_start (fun _=>none) h_ref06_x rfl (by kernel_rfl) (by kernel_rfl) rfl ?_
 have c2:=refOf_fn x
 refine swp_cut fun K hK hR _=>?_
 conv=>whnf
 refine hK _ _ ?_
 clear hK hR
 refine swp_cut fun K hK hR _=>?_
 iterate 2 (refine aops_step fun T S hT hS=>?_; (conv=>whnf); refine hT _ _ ?_)
 refine aops_step fun T S hT hS=>?_
 conv=>whnf
 refine ⟨_,c2,rfl,?_⟩
 refine hT _ _ ?_
 refine aops_step fun T S hT hS=>?_
 conv=>whnf
 refine ⟨fun n cap k _=>n=32∧32≤cap∧k=⟨u8s (byt x),t_uint8,cap*1,true⟩,fun c B hB hL=>r3Bytes_b hx,⟨32,32,⟨u8s (byt x),t_uint8,32*1,true⟩,B0,ints_cl _ _ 0,rfl,Nat.le_refl _,rfl⟩,?_⟩
 rintro n capT k N3 _ ⟨rfl,hcapT,rfl⟩ N4 _
 conv=>whnf
 refine hT _ _ ?_
 refine aops_step fun T S hT hS=>?_
 conv=>whnf
 refine hT _ _ ?_
 refine aops_end ?_
 refine hK _ _ ?_
 conv=>whnf
 exact ⟨_,_,_,_,rfl,rfl,ints_cl _ _ 0,rfl,hcapT,rfl⟩

set_option maxHeartbeats 1000000 in
set_option maxRecDepth 100000 in
theorem r5Reduce_fn {D:List Int} (hD:D.length=32) (h8:∀ z∈D,0≤z∧z<256):Ev.Fn PG f_ref05_Reduce [.agg (u8s D)] (W (numB D%nn)):=by
 refine fn_startH (fun _=>none) h_ref05_Reduce rfl (by kernel_rfl) (fun _=>by kernel_rfl) (closedTs_iff.2 fun v hv=>by
  simp only [List.mem_singleton] at hv
  subst hv
  exact ints_cl _ _ 0) rfl fun A=>?_
 have htk:takeAt (u8s D) 0 32=some (u8s D):=by
  have:=takeAt_app [] (u8s D) []
  rw [List.append_nil,List.length_map,hD] at this
  exact this
 have hex:∀ c,extL c (u8s D)=u8s D:=fun c=>extL_closed c (ints_cl _ _ 0)
 have hi:=num_in hD h8
 have cn:=fun (B:Base) (q:TV) (hs:Sl B 1 q (ones (u8s D)))=>r3Num_b hD h8 hs
 generalize numB D=y at *
 have c3:=refScalar_fn y
 have c4:=r5Normal_b hi
 refine swp_cut fun K hK hR _=>?_
 conv=>whnf
 refine hK _ _ ?_
 clear hK hR
 refine swp_cut fun K hK hR _=>?_
 refine aops_step fun T S hT hS=>?_
 conv=>whnf
 conv in (takeAt _ _ _)=>change takeAt (u8s D) 0 32; rw [htk]
 conv=>whnf
 refine hT _ _ ?_
 refine aops_step fun T S hT hS=>?_
 conv=>whnf
 refine ⟨fun n cap k _=>n=32∧32≤cap∧k=⟨u8s D,t_uint8,cap*1,true⟩,fun c B hB hL=>by
  show HCO PG B f_ref01_Text [.agg (extL c (u8s D))] _
  rw [hex c]
  exact text_hco hD,⟨32,32,⟨u8s D,t_uint8,32*1,true⟩,B0,ints_cl _ _ 0,rfl,Nat.le_refl _,rfl⟩,?_⟩
 rintro n capT k N3 _ ⟨rfl,hcapT,rfl⟩ N4 _
 conv=>whnf
 refine hT _ _ ?_
 refine aops_step fun T S hT hS=>?_
 conv=>whnf
 refine ⟨fun v _=>v=W y,fun c B hB hL=>cn B _ (sl_lent (b:=2) (o:=0) (L:=ones (u8s D)) (post:=[]) hL rfl (ints_cl _ _ 0) (by rw [ones_flat]; exact (List.append_nil _).symm) (by rw [u8s_len,hD]) (by rw [u8s_len,hD]; exact hcapT) (by rw [u8s_len,hD]; omega) (ones_es _)),⟨_,B0,rfl,rfl⟩,?_⟩
 rintro v N' _ rfl N1 _
 refine hT _ _ ?_
 refine aops_step fun T S hT hS=>?_
 conv=>whnf
 refine ⟨_,c3,rfl,?_⟩
 refine hT _ _ ?_
 refine aops_step fun T S hT hS=>?_
 conv=>whnf
 refine ⟨_,c4,rfl,?_⟩
 refine hT _ _ ?_
 refine aops_step fun T S hT hS=>?_
 conv=>whnf
 refine hT _ _ ?_
 refine aops_end ?_
 refine hK _ _ ?_
 conv=>whnf
 intro c N2 _ _
 rfl

end Go.Hv

namespace Go.Hv
open Go.Ev Go.Ec

theorem r6red_hc {A:Base} {nm:ByteArray} {q:TV} {Xs:List (List Int)} (hTb:Tab0 A) (hq:Texts A q Xs) (hnm:nm.size≤1000000) (hY:(tagY (shaD (nmB nm)) Xs Xs.length).length≤140737488352000) (hX8:∀ X∈Xs,∀ z∈X,0≤z∧z<256) :
  HC PG A f_ref06_reduced [.one (.str nm),q] fun v _=>v=W (redN nm Xs):=by
 have hcl:closedTs 0 [.one (.str nm),q]=true:=closedTs_iff.2 fun v hv=>by
  simp only [List.mem_cons,List.not_mem_nil,or_false] at hv
  rcases hv with rfl | rfl
  ·rfl
  ·exact hq.stable.1 0
 refine hc_start (fun _=>none) h_ref06_reduced rfl (by kernel_rfl) (by kernel_rfl) hcl ?_
 have ct:=fun (B:Base) (hB:Base.le A B)=>tagr_hc (A:=B) (ERead_le hB hTb) (hq.mono hB) hnm hY hX8
 have cr:=r5Reduce_fn (tag_len nm Xs) (tag_u8 nm Xs)
 have hcc:closedTs 0 [.agg (u8s (tagD nm Xs))]=true:=closedTs_iff.2 fun v hv=>by
  simp only [List.mem_singleton] at hv
  subst hv
  exact ints_cl _ _ 0
 have hce:∀ c,TV.ext c q=q:=hq.stable.2
 unfold redN
 generalize numB (tagD nm Xs)%nn=z at *
 generalize u8s (tagD nm Xs)=D at *
 refine swp_cut fun K hK hR _=>?_
 conv=>whnf
 refine hK _ _ ?_
 clear hK hR
 refine swp_cut fun K hK hR _=>?_
 iterate 2 (refine aops_step fun T S hT hS=>?_; (conv=>whnf); refine hT _ _ ?_)
 refine aops_step fun T S hT hS=>?_
 conv=>whnf
 refine ⟨fun v _=>v=.agg D,fun c B hB hL=>by
  show HC PG B f_ref01_Tagged [.one (.str nm),TV.ext c q] _
  rw [hce c]
  exact ct B (fun r o h=>hB r o (.inl h)),⟨.agg D,B0,closedTs_iff.1 hcc _ (by simp),rfl⟩,?_⟩
 rintro v N' _ rfl N1 _
 refine hT _ _ ?_
 refine aops_step fun T S hT hS=>?_
 conv=>whnf
 refine ⟨_,cr,hcc,?_⟩
 refine hT _ _ ?_
 refine aops_step fun T S hT hS=>?_
 conv=>whnf
 refine hT _ _ ?_
 refine aops_end ?_
 refine hK _ _ ?_
 conv=>whnf
 intro c N2 _ _
 rfl

theorem low_odd {y:Int} {od:Bool} (ho:decide (y%2=1)=od):((y%18446744073709551616).tmod 2==1)=od:=by
 rw [Int.tmod_eq_emod_of_nonneg (by omega),show y%18446744073709551616%2=y%2 by omega]
 exact ho
theorem low_even {y:Int} {od:Bool} (ho:decide (y%2=1)=od):((y%18446744073709551616).tmod 2==0)=!od:=by
 rw [Int.tmod_eq_emod_of_nonneg (by omega),show y%18446744073709551616%2=y%2 by omega,← ho]
 rcases Int.emod_two_eq y with h | h<;>rw [h]<;>rfl

def evN (od:Bool) (k:Int):Int:=
 match od with
 | true => -k%nn
 | false=>k%nn

set_option maxHeartbeats 1000000 in
set_option maxRecDepth 100000 in
theorem r6even_fn {k x y:Int} {b:Bool} (hk:InW k) {od:Bool} (ho:decide (y%2=1)=od):Ev.Fn PG f_ref06_even [W k,ptV x y b] (W (evN od k)):=by
 refine fn_startH (fun _=>none) h_ref06_even rfl (by kernel_rfl) (fun _=>by kernel_rfl) rfl rfl fun A=>?_
 have c1:=r5SubS_fn (x:=0) ⟨by omega,by omega⟩ hk
 have c2:=r5Normal_b hk
 rw [Int.zero_sub] at c1
 unfold evN
 refine swp_cut fun K hK hR _=>?_
 conv=>whnf
 refine hK _ _ ?_
 clear hK hR
 refine swp_cut fun K hK hR _=>?_
 refine swp_cut fun K2 hK2 hR2 _=>?_
 iterate 4 (refine aops_step fun T S hT hS=>?_; (conv=>whnf); refine hT _ _ ?_)
 refine aops_step fun T S hT hS=>?_
 conv=>whnf
 rw [low_odd ho]
 refine hT _ _ ?_
 refine aops_end ?_
 refine hK2 _ _ ?_
 clear hK2 hR2
 cases od with
 | true=>
  conv=>whnf
  refine ⟨_,c1,rfl,?_⟩
  conv=>whnf
  refine hR _ _ ?_
  conv=>whnf
  intro c N2 _ _
  rfl
 | false=>
  conv=>whnf
  refine hK _ _ ?_
  clear hK hR
  refine swp_cut fun K hK hR _=>?_
  conv=>whnf
  refine ⟨_,c2,rfl,?_⟩
  conv=>whnf
  refine hK _ _ ?_
  clear hK hR
  conv=>whnf
  intro c N2 _ _
  rfl

theorem lt_modn {x:Int} (h:InW x):decide (x<nn)=decide (x%nn=x):=by
 obtain ⟨h0,h1⟩:=h
 unfold nn
 by_cases hx:x<115792089237316195423570985008687907852837564279074904382605163141518161494337
 ·rw [decide_eq_true hx,decide_eq_true (by omega)]
 ·rw [decide_eq_false hx,decide_eq_false (by omega)]

set_option maxHeartbeats 1000000 in
set_option maxRecDepth 100000 in
theorem r5ReadS_hc {A:Base} {q:TV} {D:List Int} (hD:D.length=32) (h8:∀ z∈D,0≤z∧z<256) (hs:Sl A 1 q (ones (u8s D))) :
  HC PG A f_ref05_ReadScalar [q] fun v _=>v=.tup [.agg (words (readN (numB D)).1),.one (.bool (readN (numB D)).2)]:=by
 have hi:=num_in hD h8
 have cN:=fun (B:Base) (hB:Base.le A B)=>r3Num_b hD h8 (hs.mono hB)
 have hst:=hs.stable
 obtain ⟨p,cap,rfl,_⟩:=id hs
 rw [u8s_len,hD] at *
 have cP:=refN_fn
 have cb:=r3Right_fn mdN_ok hi
 rw [mdN_M,lt_modn hi] at cb
 refine hc_start (fun _=>none) h_ref05_ReadScalar rfl (by kernel_rfl) (by kernel_rfl) (closedTs_iff.2 fun v hv=>by
  simp only [List.mem_singleton] at hv
  subst hv
  exact hst.1 0) ?_
 have e0:readN (numB D)=match decide (numB D%nn=numB D) with
  | true=>(numB D,true)
  | false=>(0,false):=by
  unfold readN
  by_cases hx:numB D%nn=numB D
  ·rw [if_pos hx,decide_eq_true hx]
  ·rw [if_neg hx,decide_eq_false hx]
 rw [e0]
 clear e0
 generalize numB D=x at *
 have cs:=refScalar_fn x
 generalize decide (x%nn=x)=ok at *
 refine swp_cut fun K hK hR _=>?_
 conv=>whnf
 refine hK _ _ ?_
 clear hK hR
 refine swp_cut fun K hK hR _=>?_
 refine aops_step fun T S hT hS=>?_
 conv=>whnf
 refine hT _ _ ?_
 refine aops_step fun T S hT hS=>?_
 conv=>whnf
 refine ⟨fun v _=>v=W x,fun c B hB hL=>by
  show HC PG B f_ref03_Number [TV.ext c (.one (.slice p 32 cap))] _
  rw [hst.2.2 c]
  exact cN B (fun r o h=>hB r o (.inl h)),⟨_,B0,rfl,rfl⟩,?_⟩
 rintro v N' _ rfl N1 _
 refine hT _ _ ?_
 iterate 2 (refine aops_step fun T S hT hS=>?_; (conv=>whnf); refine hT _ _ ?_)
 refine aops_end ?_
 refine hK _ _ ?_
 clear hK hR
 refine swp_cut fun K hK hR _=>?_
 refine aops_step fun T S hT hS=>?_
 conv=>whnf
 refine ⟨_,cP,rfl,?_⟩
 refine hT _ _ ?_
 refine aops_step fun T S hT hS=>?_
 conv=>whnf
 refine hT _ _ ?_
 refine aops_step fun T S hT hS=>?_
 conv=>whnf
 refine ⟨_,cb,rfl,?_⟩
 refine hT _ _ ?_
 refine aops_step fun T S hT hS=>?_
 conv=>whnf
 refine hT _ _ ?_
 refine aops_end ?_
 refine hK _ _ ?_
 clear hK hR
 refine swp_cut fun K hK hR _=>?_
 refine swp_cut fun K2 hK2 hR2 _=>?_
 cases ok with
 | true=>
  iterate 7 (refine aops_step fun T S hT hS=>?_; (conv=>whnf); refine hT _ _ ?_)
  refine aops_end ?_
  refine hK2 _ _ ?_
  clear hK2 hR2
  conv=>whnf
  refine hK _ _ ?_
  clear hK hR
  refine swp_cut fun K hK hR _=>?_
  conv=>whnf
  refine ⟨_,cs,rfl,?_⟩
  conv=>whnf
  refine hK _ _ ?_
  clear hK hR
  conv=>whnf
  intro c N2 _ _
  rfl
 | false=>
  iterate 7 (refine aops_step fun T S hT hS=>?_; (conv=>whnf); refine hT _ _ ?_)
  refine aops_end ?_
  refine hK2 _ _ ?_
  clear hK2 hR2
  conv=>whnf
  refine hR _ _ ?_
  conv=>whnf
  intro c N2 _ _
  rfl

theorem three_lentC {c:Con} {B:Base} {bs:Mem} {b0 b1 b2 t0 t1 t2 z0 z1 c0 c1:Nat} {g0 g1:Bool} {D E X:List Int} {p:Option SP} {cap:Nat} (hL:Lent c B bs) (h0:nth bs b0=some ⟨u8s D,t0,z0,g0⟩) (h1:nth bs b1=some ⟨u8s E,t1,z1,g1⟩)
  (h2:nth bs b2=some ⟨[.slice (some (.loc b0 0)) 32 c0,.slice (some (.loc b1 0)) 32 c1,.slice p X.length cap],t2,0,false⟩) (hD:D.length=32) (hE:E.length=32) (hc0:32≤c0) (hc1:32≤c1) (hX:Sl B 1 (.one (.slice p X.length cap)) (ones (u8s X))) :
  Texts B (.one (.slice (some (.ext ⟨c.ι b2,0,none⟩)) 3 3)) [D,E,X]:=by
 have s0:Sl B 1 (.one (.slice (some (.ext ⟨c.ι b0,0,none⟩)) 32 c0)) (ones (u8s D)):=sl_lent (b:=b0) (o:=0) (L:=ones (u8s D)) (post:=[]) hL h0 (ints_cl _ _ 0) (by rw [ones_flat]; exact (List.append_nil _).symm) (by rw [u8s_len,hD]) (by rw [u8s_len,hD]; exact hc0) (by rw [u8s_len,hD]; omega) (ones_es _)
 have s1:Sl B 1 (.one (.slice (some (.ext ⟨c.ι b1,0,none⟩)) 32 c1)) (ones (u8s E)):=sl_lent (b:=b1) (o:=0) (L:=ones (u8s E)) (post:=[]) hL h1 (ints_cl _ _ 0) (by rw [ones_flat]; exact (List.append_nil _).symm) (by rw [u8s_len,hE]) (by rw [u8s_len,hE]; exact hc1) (by rw [u8s_len,hE]; omega) (ones_es _)
 have sx:Sc.ext c (.slice p X.length cap)=.slice p X.length cap:=by
  have:=hX.stable.2.2 c
  simpa [TV.ext] using this
 have scl:Sc.closed 0 (.slice p X.length cap)=true:=hX.stable.1 0
 refine ⟨[.slice (some (.ext ⟨c.ι b0,0,none⟩)) 32 c0,.slice (some (.ext ⟨c.ι b1,0,none⟩)) 32 c1,.slice p X.length cap],sl_ext_of (b:=b2) hL h2 (by
  show [Sc.ext c _,Sc.ext c _,Sc.ext c _]=_
  rw [sx]
  rfl) (closedL_iff.2 fun s hs=>by
   simp only [List.mem_cons,List.not_mem_nil,or_false] at hs
   rcases hs with rfl | rfl | rfl
   ·rfl
   ·rfl
   ·exact scl) rfl (Nat.le_refl 3) (by show 3≤140737488355128; omega),rfl,fun i S X' hi hX'=>?_⟩
 match i,hi,hX' with
 | 0,hi,hX'=>
  obtain rfl:=Option.some.inj hi
  obtain rfl:=Option.some.inj hX'
  exact s0
 | 1,hi,hX'=>
  obtain rfl:=Option.some.inj hi
  obtain rfl:=Option.some.inj hX'
  exact s1
 | 2,hi,hX'=>
  obtain rfl:=Option.some.inj hi
  obtain rfl:=Option.some.inj hX'
  exact hX
 | i+3,hi,hX'=>simp at hi

theorem tagY3r (nm:ByteArray) {D E X:List Int} (hD:D.length=32) (hE:E.length=32) (hX:X.length≤140737488351232):(tagY (shaD (nmB nm)) [D,E,X] [D,E,X].length).length≤140737488352000:=by
 unfold tagY
 rw [List.take_of_length_le (Nat.le_refl _)]
 simp only [List.length_append,shaD_len,List.flatten_cons,List.flatten_nil,List.append_nil,hD,hE]
 omega
theorem tagY1r (nm:ByteArray) {D:List Int} (hD:D.length=32):(tagY (shaD (nmB nm)) [D] [D].length).length≤140737488352000:=by
 unfold tagY
 rw [List.take_of_length_le (Nat.le_refl _)]
 simp only [List.length_append,shaD_len,List.flatten_cons,List.flatten_nil,List.append_nil,hD]
 omega
theorem u8_3 {D E X:List Int} (h1:∀ z∈D,0≤z∧z<256) (h2:∀ z∈E,0≤z∧z<256) (h3:∀ z∈X,0≤z∧z<256):∀ L∈[D,E,X],∀ z∈L,0≤z∧z<256:=fun L hL=>by
 simp only [List.mem_cons,List.not_mem_nil,or_false] at hL
 rcases hL with rfl | rfl | rfl
 ·exact h1
 ·exact h2
 ·exact h3
theorem zD32_u8:∀ L∈[zD32],∀ z∈L,0≤z∧z<256:=fun L hL z hz=>by
 simp only [List.mem_singleton] at hL
 subst hL
 rw [(List.mem_replicate.1 hz).2]
 decide

end Go.Hv

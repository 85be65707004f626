import Derived.Test.YthmdbgdagnhheaaGreatDoorRf1
import Derived.Test.YthmdbgdagnhheaaGreatDoorCuL
import Derived.Test.YthmdbgdagnhheaaGreatDoorByB
import Derived.Test.YthmdbgdagnhheaaGreatDoorSq
namespace Go.Hv
open Go.Ev

def TgR (T0:List Int) (Xs:List (List Int)) (q:TV) (k:Nat) (e:Env) (m:HM):Prop:=
 ∃ (i t0 cap:Nat) (N:Base),i≤Xs.length∧k=Xs.length-i∧(tagY T0 Xs i).length≤cap ∧
  ((i=0∧e=[(7,.one (.int .i64 (i:Int))),(6,.one (.slice (some (.loc 4 0)) (tagY T0 Xs i).length cap)),(4,.one (.ptr (some (.loc 0 0)))),(1,q)]∧m=⟨[d0 t0,none,none,none,some ⟨u8s (tagY T0 Xs i),t_uint8,cap*1,true⟩],N⟩)∨(0<i∧e=[(7,.one (.int .i64 (i:Int))),(6,.one (.slice (some (.loc 5 0)) (tagY T0 Xs i).length cap)),(4,.one (.ptr (some (.loc 0 0)))),(1,q)]∧m=⟨[d0 t0,none,none,none,none,some ⟨u8s (tagY T0 Xs i),t_uint8,cap*1,true⟩],N⟩))

theorem dgl_u8 (s:S8):∀ z∈dgl s,0≤z∧z<256:=fun z hz=>by
 obtain ⟨i,_,rfl⟩:=List.mem_map.1 hz
 omega
theorem nmB_u8 (nm:ByteArray):∀ z∈nmB nm,0≤z∧z<256:=fun z hz=>by
 obtain ⟨b,_,rfl⟩:=List.mem_map.1 hz
 have:=b.toNat_lt
 omega

theorem tagY_u8 {T0:List Int} {Xs:List (List Int)} (h0:∀ z∈T0,0≤z∧z<256) (h:∀ X∈Xs,∀ z∈X,0≤z∧z<256):∀ z∈tagY T0 Xs Xs.length,0≤z∧z<256:=fun z hz=>by
 unfold tagY at hz
 rw [List.take_length] at hz
 simp only [List.mem_append,List.mem_flatten] at hz
 rcases hz with (hz | hz) | ⟨X,hX,hz⟩
 ·exact h0 z hz
 ·exact h0 z hz
 ·exact h X hX z hz

set_option maxHeartbeats 2000000 in
set_option maxRecDepth 100000 in
theorem tagr_hc {A:Base} {nm:ByteArray} {q:TV} {Xs:List (List Int)} (hTb:Tab0 A) (hq:Texts A q Xs) (hnm:nm.size≤1000000) (hY:(tagY (shaD (nmB nm)) Xs Xs.length).length≤140737488352000) (hX8:∀ X∈Xs,∀ z∈X,0≤z∧z<256) :
  HC PG A f_ref01_Tagged [.one (.str nm),q] fun v _=>v=.agg (u8s (tagD nm Xs)):=by
 obtain ⟨Ss,hSt,hSl,hE⟩:=hq
 obtain ⟨q0,cap0,rfl,hc1,hc2,hc3⟩:=id hSt
 have hlen:(ones Ss).length=Xs.length:=by rw [ones_len,hSl]
 rw [hlen] at hSt hc1 ⊢
 refine hc_start (fun _=>none) h_ref01_Tagged rfl (by kernel_rfl) (by kernel_rfl) (closedTs_iff.2 fun v hv=>by
  simp only [List.mem_cons,List.not_mem_nil,or_false] at hv
  rcases hv with rfl | rfl
  ·rfl
  ·exact hSt.stable.1 0) ?_
 unfold tagD
 have hT0l:(shaD (nmB nm)).length=32:=shaD_len _
 have hY8:=tagY_u8 (T0:=shaD (nmB nm)) (dgl_u8 _) hX8
 have hnl:(nmB nm).length=nm.size:=by
  unfold nmB
  rw [List.length_map,Array.length_toList]
  rfl
 have htb:∀ {B:Base},Base.le A B→Tab0 B:=fun h=>ERead_le h hTb
 have cof:=fun (B:Base) (hB:Base.le A B) (a:Addr) (cap:Nat) (hs:Sl B 1 (.one (.slice (some (.ext a)) (nmB nm).length cap)) (ones (u8s (nmB nm))))=>ofr_hc (htb hB) hs (by omega) (nmB_u8 nm)
 generalize hT0:shaD (nmB nm)=T0 at *
 refine swp_cut fun K hK hR _=>?_
 conv=>whnf
 refine hK _ _ ?_
 clear hK hR
 refine swp_cut fun K hK hR _=>?_
 refine aops_step fun T S hT hS=>?_
 conv=>whnf
 refine hT _ _ ?_
 refine aops_step fun T S hT hS=>?_
 conv=>whnf
 refine ⟨by omega,fun a cap N1 hcap ha0 hsp hle hb=>?_⟩
 have hs1:Sl N1 1 (.one (.slice (some (.ext a)) (nmB nm).length cap)) (ones (u8s (nmB nm))):=by
  refine ⟨some (.ext a),cap,by rw [u8s_len],⟨by rw [u8s_len]; omega,by rw [u8s_len]; omega⟩,fun x hx=>?_,hsp,fun i x j s hi hj=>?_⟩
  ·obtain ⟨s,hs,rfl⟩:=List.mem_map.1 hx
   exact ⟨rfl,closedL_iff.2 fun s' hs'=>by
    simp only [List.mem_singleton] at hs'
    subst hs'
    exact closedL_iff.1 (ints_cl .u8 _ 0) _ hs⟩
  ·simp only [ones,u8s,nmB,List.getElem?_map,Option.map_eq_some_iff] at hi
   obtain ⟨s',⟨z,⟨b,hb',rfl⟩,rfl⟩,rfl⟩:=hi
   have hj0:j=0:=by
    have:=(List.getElem?_eq_some_iff.1 hj).1
    simpa using this
   subst hj0
   obtain rfl:=Option.some.inj hj
   have:=hb i b (by simpa using hb')
   rw [Nat.mul_one,Nat.add_zero]
   exact this
 rw [← hnl]
 refine hT _ _ ?_
 refine aops_step fun T S hT hS=>?_
 conv=>whnf
 refine ⟨fun v _=>v=.agg (u8s T0),fun c B hB hL=>cof B (fun r o h=>hB r o (.inl h)) a cap (hs1.mono (fun r o h=>hB r o (.inr h))),⟨.agg (u8s T0),B0,ints_cl .u8 _ 0,rfl⟩,?_⟩
 rintro v N' _ rfl N2 hN2
 refine hT _ _ ?_
 refine aops_step fun T S hT hS=>?_
 conv=>whnf
 have hex:∀ c,extL c (u8s T0)=u8s T0:=fun c=>extL_closed c (ints_cl _ _ 0)
 refine ⟨fun n cap k _=>n=32∧32≤cap∧k=⟨u8s T0,t_uint8,cap*1,true⟩,fun c B hB hL=>by
  show HCO PG B f_ref01_Text [.agg (extL c (u8s T0))] _
  rw [hex c]
  exact text_hco hT0l,⟨32,32,⟨u8s T0,t_uint8,32*1,true⟩,B0,ints_cl _ _ 0,rfl,Nat.le_refl _,rfl⟩,?_⟩
 rintro n capT k N3 _ ⟨rfl,hcapT,rfl⟩ N4 _
 conv=>whnf
 refine hT _ _ ?_
 refine aops_step fun T S hT hS=>?_
 conv=>whnf
 refine hT _ _ ?_
 refine aops_end ?_
 refine hK _ _ ?_
 clear hK hR
 have htk:takeAt (u8s T0) 0 (32*1)=some (u8s T0):=by
  have:=takeAt_app [] (u8s T0) []
  rw [List.append_nil,List.length_map,hT0l] at this
  exact this
 refine swp_cut fun K hK hR _=>?_
 iterate 2 (refine aops_step fun T S hT hS=>?_; (conv=>whnf); refine hT _ _ ?_)
 refine aops_step fun T S hT hS=>?_
 conv=>whnf
 refine ⟨u8s T0,htk,by rw [List.length_map,hT0l],rfl,?_⟩
 conv=>whnf
 refine ⟨rfl,Nat.le_refl _,rfl,rfl,⟨by omega,by omega⟩,fun cap1 hcap1=>?_⟩
 conv=>whnf
 refine hT _ _ ?_
 refine aops_step fun T S hT hS=>?_
 conv=>whnf
 refine hT _ _ ?_
 refine aops_end ?_
 refine hK _ _ ?_
 clear hK hR
 refine swp_cut fun K hK hR _=>?_
 iterate 2 (refine aops_step fun T S hT hS=>?_; (conv=>whnf); refine hT _ _ ?_)
 refine aops_step fun T S hT hS=>?_
 conv=>whnf
 refine ⟨u8s T0,htk,by rw [List.length_map,hT0l],rfl,?_⟩
 conv=>whnf
 refine ⟨by show ([]++u8s T0).length=_; rw [List.nil_append,List.length_map,hT0l],by omega,rfl,rfl,⟨by omega,by omega⟩,fun cap2 hcap2=>?_⟩
 conv=>whnf
 have hY0:tagY T0 Xs 0=T0++T0:=by unfold tagY; simp
 have hYl0:(tagY T0 Xs 0).length=64:=by rw [hY0,List.length_append]; omega
 have hblk0:∀ (c:Con) (ρ:Ren),(⟨u8s (tagY T0 Xs 0),t_uint8,cap2*1,true⟩:Blk)=⟨rnL F0 c ρ ([]++u8s T0++u8s T0),t_uint8,cap2*1,true⟩:=fun c ρ=>by
  rw [List.nil_append,u8s_app,hY0,rnL_id (ints_cl _ _ 0)]
 have hsl0:∀ (c:Con) (ρ:Ren),ρ.to=id→TV.one (.slice (some (.loc 4 0)) (tagY T0 Xs 0).length cap2)=TV.rn F0 c ρ (.one (.slice (some (.loc 4 0)) (32+32) cap2)):=fun c ρ h=>by
  rw [hYl0]
  show _=TV.one (.slice (some (.loc (ρ.to 4) 0)) 64 cap2)
  rw [h]
  rfl
 refine hT _ _ ?_
 refine aops_step fun T S hT hS=>?_
 conv=>whnf
 refine hT _ _ ?_
 refine aops_end ?_
 refine hK _ _ ?_
 clear hK hR
 refine swp_cut fun K hK hR _=>?_
 refine swp_cut fun K2 hK2 hR2 _=>?_
 conv=>whnf
 refine hK2 _ _ ?_
 clear hK2 hR2
 conv=>whnf
 refine .inr (loop_invR (gH A _) (TgR T0 Xs (.one (.slice q0 Xs.length cap0))) ?_ ?_)
 ·intro k' e' m' hI
  obtain ⟨i,t0,cap,N,hi,rfl,hcap,⟨hi0,rfl,rfl⟩ | ⟨hi0,rfl,rfl⟩⟩:=hI
  ·conv=>whnf
   cases hlt:decide ((i:Int)<(Xs.length:Int)) with
   | true=>
    have hi':i<Xs.length:=by have:=of_decide_eq_true hlt; omega
    have hiS:i<Ss.length:=by omega
    have hel:(ones Ss)[i]?=some [Ss[i]]:=onesGet (List.getElem?_eq_getElem hiS)
    have hX:=hE i Ss[i] Xs[i] (List.getElem?_eq_getElem hiS) (List.getElem?_eq_getElem hi')
    have hYs:=tagY_succ T0 hi'
    have hYl:=tagY_le T0 Xs (i+1)
    generalize Xs[i]=X at *
    obtain ⟨pX,capX,eS,_,_,_⟩:=id hX
    have eS:=TV.one.inj eS
    rw [u8s_len] at eS
    rw [eS] at hel hX
    have hlY:(tagY T0 Xs i).length+X.length=(tagY T0 Xs (i+1)).length:=by rw [← hYs,List.length_append]
    obtain ⟨qa,hqa⟩:=sl_ext' hSt (by rw [hlen]; omega)
    subst hqa
    show swpC _ (Code.seq _ _) _ _ _
    refine swp_cut fun K4 hK4 hR4 _=>?_
    refine swp_block ?_
    iterate 3 (refine aops_step fun T S hT hS=>?_; (conv=>whnf); refine hT _ _ ?_)
    refine aops_step fun T S hT hS=>?_
    conv=>whnf
    rw [dec_idx (n:=Xs.length) hi']
    conv=>whnf
    refine hT _ _ ?_
    refine aops_step fun T S hT hS=>?_
    conv=>whnf
    refine ⟨_,ERead_l (Sl.one (i:=i) hSt hel),?_⟩
    refine hT _ _ ?_
    refine aops_step fun T S hT hS=>?_
    conv=>whnf
    refine ⟨u8s X,hX.has (by rw [List.length_map]),by rw [List.length_map,Nat.mul_one],rfl,?_⟩
    conv=>whnf
    refine ⟨by rw [List.length_map,Nat.mul_one],hcap,rfl,rfl,⟨by omega,by omega⟩,fun cap' hcap'=>?_⟩
    conv=>whnf
    rw [hlY] at hcap' ⊢
    refine hT _ _ ?_
    refine aops_step fun T S hT hS=>?_
    conv=>whnf
    refine hT _ _ ?_
    refine aops_end ?_
    refine hK4 _ _ ?_
    clear hK4 hR4
    conv=>whnf
    have hblk:∀ (c:Con) (ρ:Ren),(⟨u8s (tagY T0 Xs (i+1)),t_uint8,cap'*1,true⟩:Blk)=⟨rnL F0 c ρ (u8s (tagY T0 Xs i)++u8s X),t_uint8,cap'*1,true⟩:=fun c ρ=>by
     rw [u8s_app,hYs,rnL_id (ints_cl _ _ 0)]
    refine ⟨Xs.length-(i+1),F0,tp 5 5,by omega,tp_ok (by exact Nat.le_of_ble_eq_true rfl) (by exact Nat.le_of_ble_eq_true rfl),fun c N1 _ _=>⟨_,_,wkR_of (by (repeat' apply And.intro)<;>first | trivial | exact ⟨_,rfl,tv_inc (n:=Xs.length) hi' (by omega),rfl⟩ | exact ⟨_,rfl,rfl,rfl⟩ | exact ⟨_,rfl,(hSt.rn' _ _ _).symm,hSt.stable.1 _⟩) (by (repeat' apply And.intro)<;>first | trivial | rfl | exact ⟨_,rfl,hblk c _,ints_cl _ _ _⟩ | exact ⟨_,rfl,rfl,rfl⟩) (by exact Nat.le_of_ble_eq_true rfl),⟨i+1,t0,cap',N1,hi',rfl,hcap',.inr ⟨by omega,rfl,rfl⟩⟩⟩⟩
   | false=>
    obtain rfl:i=Xs.length:=by have:=of_decide_eq_false hlt; omega
    conv=>whnf
    refine hK _ _ ?_
    clear hK hR
    generalize hYY:tagY T0 Xs Xs.length=Y at *
    refine swp_cut fun K hK hR _=>?_
    refine aops_step fun T S hT hS=>?_
    conv=>whnf
    refine hT _ _ ?_
    refine aops_step fun T S hT hS=>?_
    conv=>whnf
    refine ⟨fun v _=>v=.agg (u8s (shaD Y)),fun c B hB hL=>ofr_hc (htb (fun r o h=>hB r o (.inl h))) (sl_lent (b:=4) (o:=0) (L:=ones (u8s Y)) (post:=[]) hL rfl (ints_cl _ _ 0) (by rw [ones_flat]; exact (List.append_nil _).symm) (by rw [u8s_len]) (by rw [u8s_len]; exact hcap) (by rw [u8s_len]; omega) (ones_es _)) hY hY8,⟨.agg (u8s (shaD Y)),B0,ints_cl .u8 _ 0,rfl⟩,?_⟩
    rintro v N1 _ rfl N2 _
    refine hT _ _ ?_
    refine aops_step fun T S hT hS=>?_
    conv=>whnf
    refine hT _ _ ?_
    refine aops_end ?_
    refine hK _ _ ?_
    clear hK hR
    conv=>whnf
    intro c N2 _ _
    rfl
  ·conv=>whnf
   cases hlt:decide ((i:Int)<(Xs.length:Int)) with
   | true=>
    have hi':i<Xs.length:=by have:=of_decide_eq_true hlt; omega
    have hiS:i<Ss.length:=by omega
    have hel:(ones Ss)[i]?=some [Ss[i]]:=onesGet (List.getElem?_eq_getElem hiS)
    have hX:=hE i Ss[i] Xs[i] (List.getElem?_eq_getElem hiS) (List.getElem?_eq_getElem hi')
    have hYs:=tagY_succ T0 hi'
    have hYl:=tagY_le T0 Xs (i+1)
    generalize Xs[i]=X at *
    obtain ⟨pX,capX,eS,_,_,_⟩:=id hX
    have eS:=TV.one.inj eS
    rw [u8s_len] at eS
    rw [eS] at hel hX
    have hlY:(tagY T0 Xs i).length+X.length=(tagY T0 Xs (i+1)).length:=by rw [← hYs,List.length_append]
    obtain ⟨qa,hqa⟩:=sl_ext' hSt (by rw [hlen]; omega)
    subst hqa
    show swpC _ (Code.seq _ _) _ _ _
    refine swp_cut fun K4 hK4 hR4 _=>?_
    refine swp_block ?_
    iterate 3 (refine aops_step fun T S hT hS=>?_; (conv=>whnf); refine hT _ _ ?_)
    refine aops_step fun T S hT hS=>?_
    conv=>whnf
    rw [dec_idx (n:=Xs.length) hi']
    conv=>whnf
    refine hT _ _ ?_
    refine aops_step fun T S hT hS=>?_
    conv=>whnf
    refine ⟨_,ERead_l (Sl.one (i:=i) hSt hel),?_⟩
    refine hT _ _ ?_
    refine aops_step fun T S hT hS=>?_
    conv=>whnf
    refine ⟨u8s X,hX.has (by rw [List.length_map]),by rw [List.length_map,Nat.mul_one],rfl,?_⟩
    conv=>whnf
    refine ⟨by rw [List.length_map,Nat.mul_one],hcap,rfl,rfl,⟨by omega,by omega⟩,fun cap' hcap'=>?_⟩
    conv=>whnf
    rw [hlY] at hcap' ⊢
    refine hT _ _ ?_
    refine aops_step fun T S hT hS=>?_
    conv=>whnf
    refine hT _ _ ?_
    refine aops_end ?_
    refine hK4 _ _ ?_
    clear hK4 hR4
    conv=>whnf
    have hblk:∀ (c:Con) (ρ:Ren),(⟨u8s (tagY T0 Xs (i+1)),t_uint8,cap'*1,true⟩:Blk)=⟨rnL F0 c ρ (u8s (tagY T0 Xs i)++u8s X),t_uint8,cap'*1,true⟩:=fun c ρ=>by
     rw [u8s_app,hYs,rnL_id (ints_cl _ _ 0)]
    refine ⟨Xs.length-(i+1),F0,tp 5 6,by omega,tp_ok (by exact Nat.le_of_ble_eq_true rfl) (by exact Nat.le_of_ble_eq_true rfl),fun c N1 _ _=>⟨_,_,wkR_of (by (repeat' apply And.intro)<;>first | trivial | exact ⟨_,rfl,tv_inc (n:=Xs.length) hi' (by omega),rfl⟩ | exact ⟨_,rfl,rfl,rfl⟩ | exact ⟨_,rfl,(hSt.rn' _ _ _).symm,hSt.stable.1 _⟩) (by (repeat' apply And.intro)<;>first | trivial | rfl | exact ⟨_,rfl,hblk c _,ints_cl _ _ _⟩ | exact ⟨_,rfl,rfl,rfl⟩) (by exact Nat.le_of_ble_eq_true rfl),⟨i+1,t0,cap',N1,hi',rfl,hcap',.inr ⟨by omega,rfl,rfl⟩⟩⟩⟩
   | false=>
    obtain rfl:i=Xs.length:=by have:=of_decide_eq_false hlt; omega
    conv=>whnf
    refine hK _ _ ?_
    clear hK hR
    generalize hYY:tagY T0 Xs Xs.length=Y at *
    refine swp_cut fun K hK hR _=>?_
    refine aops_step fun T S hT hS=>?_
    conv=>whnf
    refine hT _ _ ?_
    refine aops_step fun T S hT hS=>?_
    conv=>whnf
    refine ⟨fun v _=>v=.agg (u8s (shaD Y)),fun c B hB hL=>ofr_hc (htb (fun r o h=>hB r o (.inl h))) (sl_lent (b:=5) (o:=0) (L:=ones (u8s Y)) (post:=[]) hL rfl (ints_cl _ _ 0) (by rw [ones_flat]; exact (List.append_nil _).symm) (by rw [u8s_len]) (by rw [u8s_len]; exact hcap) (by rw [u8s_len]; omega) (ones_es _)) hY hY8,⟨.agg (u8s (shaD Y)),B0,ints_cl .u8 _ 0,rfl⟩,?_⟩
    rintro v N1 _ rfl N2 _
    refine hT _ _ ?_
    refine aops_step fun T S hT hS=>?_
    conv=>whnf
    refine hT _ _ ?_
    refine aops_end ?_
    refine hK _ _ ?_
    clear hK hR
    conv=>whnf
    intro c N2 _ _
    rfl
 ·refine ⟨Xs.length,F0,ren0,ren0_ok _,fun c N1 _ _=>⟨_,_,wkR_of (by (repeat' apply And.intro)<;>first | trivial | exact ⟨_,rfl,rfl,rfl⟩ | exact ⟨_,rfl,hsl0 _ _ rfl,rfl⟩ | exact ⟨_,rfl,(hSt.rn' _ _ _).symm,hSt.stable.1 _⟩) (by (repeat' apply And.intro)<;>first | trivial | rfl | exact ⟨_,rfl,hblk0 _ _,ints_cl _ _ _⟩ | exact ⟨_,rfl,rfl,rfl⟩) (by exact Nat.le_of_ble_eq_true rfl),⟨0,_,cap2,N1,Nat.zero_le _,rfl,by omega,.inl ⟨rfl,rfl,rfl⟩⟩⟩⟩

end Go.Hv

namespace Go.Hv
open Go.Ev Go.Ec

theorem sl_ext_of {c:Con} {B:Base} {bs:Mem} {b n cap:Nat} {x:Blk} {L:List Sc} (hL:Lent c B bs) (hx:nth bs b=some x) (he:extL c x.cells=L) (hc:closedL 0 L=true) (hn:n=L.length) (hcap:L.length≤cap) (hb:L.length≤140737488355128) :
  Sl B 1 (.one (.slice (some (.ext ⟨c.ι b,0,none⟩)) n cap)) (ones L):=by
 obtain ⟨junk,h⟩:=hL b x hx
 rw [he] at h
 refine ⟨some (.ext ⟨c.ι b,0,none⟩),cap,by rw [hn,ones_len],⟨by rw [ones_len]; exact hcap,by rw [ones_len]; exact hb⟩,fun y hy=>?_,rfl,fun i y j s hi hj=>?_⟩
 ·obtain ⟨s,hs,rfl⟩:=List.mem_map.1 hy
  exact ⟨rfl,closedL_iff.2 fun s' hs'=>by
   simp only [List.mem_singleton] at hs'
   subst hs'
   exact closedL_iff.1 hc _ hs⟩
 ·simp only [ones,List.getElem?_map,Option.map_eq_some_iff] at hi
  obtain ⟨s',hs',rfl⟩:=hi
  have hj0:j=0:=by
   have:=(List.getElem?_eq_some_iff.1 hj).1
   simpa using this
  subst hj0
  obtain rfl:=Option.some.inj hj
  have hlt:=(List.getElem?_eq_some_iff.1 hs').1
  rw [addr_off]
  refine ⟨_,_,_,h,rfl,?_⟩
  simp only [List.getElem?_toArray]
  rw [List.getElem?_append_left (by simpa using (by omega:0+(i*1+0)<L.length)),List.getElem?_map,show 0+(i*1+0)=i by omega,hs']
  rfl

end Go.Hv

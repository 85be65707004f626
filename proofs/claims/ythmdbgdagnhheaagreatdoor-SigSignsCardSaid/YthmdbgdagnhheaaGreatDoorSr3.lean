import Derived.Test.YthmdbgdagnhheaaGreatDoorSr2
namespace Go.Hv
open Go.Ev Go.Ec

theorem evN_in (od:Bool) (k:Int):InW (evN od k)∧evN od k%nn=evN od k:=by
 unfold evN
 cases od<;>exact ⟨modn_in _,Int.emod_emod_of_dvd _ (Int.dvd_refl nn)⟩

theorem prV_ev {s:Int} {a c:KK} (h:smul s.toNat gP=some (a,c)):∃ y,prV s=some (evN (decide (vK c%2=1)) s,a,y):=by
 unfold prV evN
 rw [h]
 simp only
 cases decide (vK c%2=1) with
 | true=>exact ⟨_,by rw [show -(s%nn)%nn = -s%nn by unfold nn; omega]⟩
 | false=>exact ⟨_,rfl⟩

theorem prV_no {s:Int} (h:smul s.toNat gP=none):prV s=none:=by
 unfold prV
 rw [h]

def ordSr:Nat→Option (List Nat)
 | 17=>some [0,2,1,3,4,5,6,7,8]
 | _=>none

def SrE (q:TV) (cap i:Nat):Env:=[(11,.one (.int .i64 (i:Int))),(10,.one (.ptr (some (.loc 8 0)))),(9,.one (.slice (some (.loc 5 0)) 32 cap)),(8,.one (.ptr (some (.loc 4 0)))),(7,.one (.ptr (some (.loc 3 0)))),(6,.one (.ptr (some (.loc 2 0)))),(5,.one (.bool false)),(4,.one (.ptr (some (.loc 1 0)))),(1,q)]

def SrI (q:TV) (d xa ya:Int) (aux:List Int) (cap k:Nat) (e:Env) (m:HM):Prop:=
 ∃ (i t1 t2 t3 t4 t8:Nat) (N:Base),i≤32∧k=32-i∧e=SrE q cap i ∧
  m=⟨[none,some ⟨u8s (List.replicate 64 0),t1,0,false⟩,some ⟨u8s (List.replicate 64 0),t2,0,false⟩,some ⟨ptC xa ya false,t3,0,false⟩,some ⟨words d,t4,0,false⟩,some ⟨trow (byt d) (xorL (byt d) aux) i,t_uint8,cap*1,true⟩,none,none,some ⟨u8s aux,t8,0,false⟩],N⟩

def SbE (cap i:Nat):Env:=[(17,.one (.int .i64 (i:Int))),(16,.one (.slice (some (.loc 19 0)) 64 cap)),(6,.one (.ptr (some (.loc 2 0)))),(5,.one (.bool false)),(4,.one (.ptr (some (.loc 1 0))))]

def z64:List Int:=List.replicate 64 0
def SbI (L:List Int) (cap k:Nat) (e:Env) (m:HM):Prop:=
 ∃ (i t1 t2:Nat) (N:Base),i≤64∧k=64-i∧e=SbE cap i ∧
  m=⟨[none,some ⟨u8s z64,t1,0,false⟩,some ⟨trow z64 L i,t2,0,false⟩,none,none,none,none,none,none,none,none,none,none,none,none,none,none,none,none,some ⟨u8s L,t_uint8,cap*1,true⟩],N⟩

set_option maxHeartbeats 2000000 in
set_option maxRecDepth 100000 in
theorem r6Sign_hc {A:Base} {s:Int} {p:Option SP} {cap:Nat} {X:List Int} (hTb:Tab0 A) (hs:InW s) (hX8:∀ z∈X,0≤z∧z<256) (hXl:X.length≤140737488351232) (hX:Sl A 1 (.one (.slice p X.length cap)) (ones (u8s X))) :
  HC PG A f_ref06_Sign [W s,.one (.slice p X.length cap)] fun v _=>v=sgT (sgV s X):=by
 refine hc_start ordSr h_ref06_Sign rfl (by kernel_rfl) (by kernel_rfl) (closedTs_iff.2 fun v hv=>by
  simp only [List.mem_cons,List.not_mem_nil,or_false] at hv
  rcases hv with rfl | rfl
  ·rfl
  ·exact hX.stable.1 0) ?_
 obtain ⟨gx,gy,gb,igx,igy,eg,tg,_⟩:=pt_nm gP gP_on
 have cb:=r5base_fn
 rw [eg] at cb
 have cmul:∀ {k:Int},InW k→Ev.Fn PG f_ref05_Mul [W k,ptV gx gy gb] (ptOf (smul k.toNat gP)):=fun {k} hk=>by
  have cm:=r5Mul_fn (b:=gb) hk igx igy
  rwa [tg,smul_modI gP_on hk.1] at cm
 have c1:=cmul hs
 cases hp:smul s.toNat gP with
 | none=>
  have e0:sgV s X=none:=by unfold sgV; rw [prV_no hp]
  rw [e0]
  rw [hp] at c1
  have c1:Ev.Fn PG f_ref05_Mul [W s,ptV gx gy gb] (ptV 0 0 true):=c1
  refine swp_cut fun K hK hR _=>?_
  conv=>whnf
  refine hK _ _ ?_
  clear hK hR
  refine swp_cut fun K hK hR _=>?_
  conv=>whnf
  refine hK _ _ ?_
  clear hK hR
  refine swp_cut fun K hK hR _=>?_
  conv=>whnf
  refine ⟨_,cb,rfl,?_⟩
  conv=>whnf
  refine ⟨_,c1,rfl,?_⟩
  conv=>whnf
  refine hK _ _ ?_
  clear hK hR
  refine swp_cut fun K hK hR _=>?_
  refine swp_cut fun K2 hK2 hR2 _=>?_
  conv=>whnf
  refine hK2 _ _ ?_
  conv=>whnf
  refine hR _ _ ?_
  conv=>whnf
  intro c N2 _ _
  rfl
 | some aa=>
  obtain ⟨a,y⟩:=aa
  obtain ⟨y',hpv⟩:=prV_ev hp
  have e0:sgV s X=sg2 (evN (decide (vK y%2=1)) s) (vK a) X:=by unfold sgV; rw [hpv]
  rw [e0]
  rw [hp] at c1
  have c1:Ev.Fn PG f_ref05_Mul [W s,ptV gx gy gb] (ptV (vK a) (vK y) false):=c1
  have ce:=r6even_fn (x:=vK a) (b:=false) hs (y:=vK y) rfl
  obtain ⟨id_,dm⟩:=evN_in (decide (vK y%2=1)) s
  have ia:=vK_in a
  clear hp e0 hpv
  generalize evN (decide (vK y%2=1)) s=d at *
  have cB:=fun (B:Base)=>r5SBytes_hco (A:=B) id_
  rw [dm] at cB
  generalize vK y=ya at *
  generalize vK a=xa at *
  have cX:=fun (B:Base)=>r6x_hco (A:=B) (x:=xa) (y:=ya) (b:=false) ia
  have haux:=tag_len nmAux [zD32]
  have cA:=fun (B:Base) (hB:Base.le A B) {q:TV} (hq:Texts B q [zD32])=>tagr_hc (A:=B) (nm:=nmAux) (ERead_le hB hTb) hq (by decide) (tagY1r nmAux rfl) zD32_u8
  have e2:sg2 d xa X=match prV (redN nmNon [xorL (byt d) (tagD nmAux [zD32]),byt xa,X]) with
   | none=>none
   | some (k,r,_)=>some (sg3 d xa (vK r) k X):=rfl
  generalize sg2 d xa X=ans at *
  generalize tagD nmAux [zD32]=aux at *
  have hxl:=xor_len (byt_len d) haux
  refine swp_cut fun K hK hR _=>?_
  conv=>whnf
  refine hK _ _ ?_
  clear hK hR
  refine swp_cut fun K hK hR _=>?_
  conv=>whnf
  refine hK _ _ ?_
  clear hK hR
  refine swp_cut fun K hK hR _=>?_
  conv=>whnf
  refine ⟨_,cb,rfl,?_⟩
  conv=>whnf
  refine ⟨_,c1,rfl,?_⟩
  conv=>whnf
  refine hK _ _ ?_
  clear hK hR
  refine swp_cut fun K hK hR _=>?_
  refine swp_cut fun K2 hK2 hR2 _=>?_
  conv=>whnf
  refine hK2 _ _ ?_
  clear hK2 hR2
  conv=>whnf
  refine hK _ _ ?_
  clear hK hR
  refine swp_cut fun K hK hR _=>?_
  conv=>whnf
  refine ⟨_,ce,rfl,?_⟩
  conv=>whnf
  refine hK _ _ ?_
  clear hK hR
  refine swp_cut fun K hK hR _=>?_
  refine aops_step fun T S hT hS=>?_
  conv=>whnf
  refine hT _ _ ?_
  refine aops_step fun T S hT hS=>?_
  conv=>whnf
  refine ⟨fun n cap k _=>n=32∧32≤cap∧k=⟨u8s (byt d),t_uint8,cap*1,true⟩,fun c B hB hL=>cB B,⟨32,32,⟨u8s (byt d),t_uint8,32*1,true⟩,B0,ints_cl _ _ 0,rfl,Nat.le_refl _,rfl⟩,?_⟩
  rintro n cap5 k N3 _ ⟨rfl,hcap5,rfl⟩ N4 _
  conv=>whnf
  refine hT _ _ ?_
  refine aops_step fun T S hT hS=>?_
  conv=>whnf
  refine hT _ _ ?_
  refine aops_end ?_
  refine hK _ _ ?_
  clear hK hR
  refine swp_cut fun K hK hR _=>?_
  refine aops_step fun T S hT hS=>?_
  conv=>whnf
  refine ⟨⟨by decide,rfl,by decide,by decide,rfl⟩,?_⟩
  conv=>whnf
  refine hT _ _ ?_
  refine aops_step fun T S hT hS=>?_
  conv=>whnf
  refine hT _ _ ?_
  refine aops_step fun T S hT hS=>?_
  conv=>whnf
  refine ⟨fun v _=>v=.agg (u8s aux),fun c B hB hL=>cA B (fun r o h=>hB r o (.inl h)) (one_lent (b0:=6) (b2:=7) hL rfl rfl rfl),⟨.agg (u8s aux),B0,ints_cl _ _ 0,rfl⟩,?_⟩
  rintro v N' _ rfl N1 _
  refine hT _ _ ?_
  have axl:Nat.beq 32 (u8s aux).length=true:=by rw [List.length_map,haux]; rfl
  have axp:putAt (u8s zD32) 0 (u8s aux)=some (u8s aux):=by
   have:=putAt_app [] (u8s zD32) [] (u8s aux) (by rw [List.length_map,List.length_map,haux]; rfl)
   simpa using this
  refine aops_step fun T S hT hS=>?_
  conv=>whnf
  refine hT _ _ ?_
  refine aops_step fun T S hT hS=>?_
  conv=>whnf
  conv in (Nat.beq _ _)=>change Nat.beq 32 (u8s aux).length; rw [axl]
  conv=>whnf
  conv in (putAt _ _ _)=>change putAt (u8s zD32) 0 (u8s aux); rw [axp]
  conv=>whnf
  refine hT _ _ ?_
  refine aops_end ?_
  refine hK _ _ ?_
  clear hK hR
  refine swp_cut fun K hK hR _=>?_
  refine swp_cut fun K2 hK2 hR2 _=>?_
  conv=>whnf
  refine hK2 _ _ ?_
  clear hK2 hR2
  conv=>whnf
  have hauxb:∀ (F:Nat→Bool) (c:Con) (t:Nat),(⟨u8s aux,t,0,false⟩:Blk)=⟨fzL F c (u8s aux),t,0,false⟩:=fun F c t=>by
   rw [fzL_cl (ints_cl _ _ 0)]
  refine .inr (loop_invC (gH A _) (SrI (.one (.slice p X.length cap)) d xa ya aux cap5) ?_ ?_)
  ·intro k' e' m' hI
   obtain ⟨i,t1,t2,t3,t4,t8,N,hi,rfl,rfl,rfl⟩:=hI
   conv=>whnf
   cases hlt:decide ((i:Int)<32) with
   | true=>
    have hi':i<32:=by have:=of_decide_eq_true hlt; omega
    have hax:=u8_take aux (i:=i) (by omega)
    have htk:=trow_take (A:=byt d) (L:=xorL (byt d) aux) (i:=i) (by rw [byt_len]; exact hi') (by rw [hxl,byt_len])
    have hpt:=trow_put (A:=byt d) (L:=xorL (byt d) aux) (i:=i) (by rw [byt_len]; exact hi') (by rw [hxl,byt_len])
    have hxe:(xorL (byt d) aux)[i]'(by rw [hxl]; exact hi')=xr8 ((byt d)[i]'(by rw [byt_len]; exact hi')) (aux[i]'(by omega)):=by
     unfold xorL
     rw [List.getElem_zipWith]
    rw [hxe] at hpt
    have hblk:∀ (F:Nat→Bool) (c:Con) (i:Nat),(⟨trow (byt d) (xorL (byt d) aux) i,t_uint8,cap5*1,true⟩:Blk)=⟨fzL F c (trow (byt d) (xorL (byt d) aux) i),t_uint8,cap5*1,true⟩:=fun F c i=>by
     unfold trow
     rw [fzL_cl (ints_cl _ _ 0)]
    generalize (byt d)[i]'(by rw [byt_len]; exact hi')=dz at *
    generalize aux[i]'(by omega)=az at *
    show swpC _ (Code.seq _ _) _ _ _
    refine swp_cut fun K4 hK4 hR4 _=>?_
    refine blk_swp ?_
    iterate 4 (refine aops_step fun T S hT hS=>?_; (conv=>whnf); refine hT _ _ ?_)
    refine aops_step fun T S hT hS=>?_
    conv=>whnf
    rw [dec_idx (n:=32) hi']
    conv=>whnf
    refine hT _ _ ?_
    refine aops_step fun T S hT hS=>?_
    conv=>whnf
    conv in (takeAt _ _ _)=>change takeAt (trow (byt d) (xorL (byt d) aux) i) (0+i*1) 1; rw [htk]
    conv=>whnf
    refine hT _ _ ?_
    refine aops_step fun T S hT hS=>?_
    conv=>whnf
    refine hT _ _ ?_
    refine aops_step fun T S hT hS=>?_
    conv=>whnf
    rw [dec_idx (n:=32) hi']
    conv=>whnf
    refine hT _ _ ?_
    refine aops_step fun T S hT hS=>?_
    conv=>whnf
    conv in (takeAt _ _ _)=>change takeAt (u8s aux) (0+i*1) 1; rw [hax]
    conv=>whnf
    refine hT _ _ ?_
    refine aops_step fun T S hT hS=>?_
    conv=>whnf
    refine hT _ _ ?_
    refine aops_step fun T S hT hS=>?_
    conv=>whnf
    rw [dec_idx (n:=32) hi']
    conv=>whnf
    refine hT _ _ ?_
    refine aops_step fun T S hT hS=>?_
    conv=>whnf
    conv in (putAt _ _ _)=>change putAt (trow (byt d) (xorL (byt d) aux) i) (0+i*1) [.int .u8 (xr8 dz az)]; rw [hpt]
    conv=>whnf
    refine hT _ _ ?_
    refine aops_end ?_
    refine hK4 _ _ ?_
    clear hK4 hR4
    conv=>whnf
    refine ⟨32-(i+1),F0,by omega,fun c N1 _ _=>⟨_,_,wk_of (by (repeat' apply And.intro)<;>first | trivial | exact ⟨_,rfl,tv_inc (n:=32) hi' (by omega),rfl⟩ | exact ⟨_,rfl,hX.stable.2.1 _ _,hX.stable.1 _⟩ | exact ⟨_,rfl,rfl,rfl⟩) (by (repeat' apply And.intro)<;>first | trivial | rfl | exact ⟨_,rfl,hblk _ _ _,ints_cl _ _ _⟩ | exact ⟨_,rfl,hauxb _ _ _,ints_cl _ _ _⟩ | exact ⟨_,rfl,rfl,rfl⟩) (by exact Nat.le_of_ble_eq_true rfl) (by exact Nat.le_of_ble_eq_true rfl),⟨i+1,t1,t2,t3,t4,t8,N1,hi',rfl,rfl,rfl⟩⟩⟩
   | false=>
    obtain rfl:i=32:=by have:=of_decide_eq_false hlt; omega
    conv=>whnf
    refine hK _ _ ?_
    clear hK hR
    rw [trow_all (byt_len d) hxl]
    have ik:=redN_in nmNon [xorL (byt d) aux,byt xa,X]
    have cN:=fun (B:Base) (hB:Base.le A B) {q:TV} (hq:Texts B q [xorL (byt d) aux,byt xa,X])=>r6red_hc (A:=B) (nm:=nmNon) (ERead_le hB hTb) hq (by decide) (tagY3r nmNon hxl (byt_len _) hXl) (u8_3 (xor_u8 _ _) (byt_u8 _) hX8)
    generalize redN nmNon [xorL (byt d) aux,byt xa,X]=k0 at *
    have cp:=cmul ik
    generalize xorL (byt d) aux=tx at *
    refine swp_cut fun K hK hR _=>?_
    iterate 2 (refine aops_step fun T S hT hS=>?_; (conv=>whnf); refine hT _ _ ?_)
    refine aops_step fun T S hT hS=>?_
    conv=>whnf
    refine ⟨fun n cap k _=>n=32∧32≤cap∧k=⟨u8s (byt xa),t_uint8,cap*1,true⟩,fun c B hB hL=>cX B,⟨32,32,⟨u8s (byt xa),t_uint8,32*1,true⟩,B0,ints_cl _ _ 0,rfl,Nat.le_refl _,rfl⟩,?_⟩
    rintro n cap9 k N3 _ ⟨rfl,hcap9,rfl⟩ N4 _
    conv=>whnf
    refine hT _ _ ?_
    iterate 2 (refine aops_step fun T S hT hS=>?_; (conv=>whnf); refine hT _ _ ?_)
    refine aops_step fun T S hT hS=>?_
    conv=>whnf
    refine ⟨fun v _=>v=W k0,fun c B hB hL=>by
     show HC PG B f_ref06_reduced [.one (.str nmNon),.one (.slice (some (.ext ⟨c.ι 10,0,none⟩)) 3 3)] _
     exact cN B (fun r o h=>hB r o (.inl h)) (three_lentC (b0:=5) (b1:=9) (b2:=10) hL rfl rfl rfl hxl (byt_len _) hcap5 hcap9 (hX.mono (fun r o h=>hB r o (.inl h)))),⟨_,B0,rfl,rfl⟩,?_⟩
    rintro v N' _ rfl N1 _
    refine hT _ _ ?_
    iterate 2 (refine aops_step fun T S hT hS=>?_; (conv=>whnf); refine hT _ _ ?_)
    refine aops_end ?_
    refine hK _ _ ?_
    clear hK hR
    cases hp2:smul k0.toNat gP with
    | none=>
     rw [hp2] at cp
     rw [prV_no hp2] at e2
     have e2:ans=none:=e2
     have cp:Ev.Fn PG f_ref05_Mul [W k0,ptV gx gy gb] (ptV 0 0 true):=cp
     refine swp_cut fun K hK hR _=>?_
     conv=>whnf
     refine ⟨_,cb,rfl,?_⟩
     conv=>whnf
     refine ⟨_,cp,rfl,?_⟩
     conv=>whnf
     refine hK _ _ ?_
     clear hK hR
     refine swp_cut fun K hK hR _=>?_
     refine swp_cut fun K2 hK2 hR2 _=>?_
     conv=>whnf
     refine hK2 _ _ ?_
     conv=>whnf
     refine hR _ _ ?_
     conv=>whnf
     intro c N2 _ _
     rw [e2]
     rfl
    | some rr=>
     obtain ⟨r,ry⟩:=rr
     obtain ⟨ry',hpv⟩:=prV_ev hp2
     rw [hp2] at cp
     rw [hpv] at e2
     have e2:ans=some (sg3 d xa (vK r) (evN (decide (vK ry%2=1)) k0) X):=e2
     have cp:Ev.Fn PG f_ref05_Mul [W k0,ptV gx gy gb] (ptV (vK r) (vK ry) false):=cp
     have ce2:=r6even_fn (x:=vK r) (b:=false) ik (y:=vK ry) rfl
     obtain ⟨ikk,_⟩:=evN_in (decide (vK ry%2=1)) k0
     have ir:=vK_in r
     clear hp2 hpv
     generalize evN (decide (vK ry%2=1)) k0=k at *
     generalize vK ry=yr at *
     generalize vK r=xr at *
     have cR:=fun (B:Base)=>r6x_hco (A:=B) (x:=xr) (y:=yr) (b:=false) ir
     have ie:=redN_in nmCha [byt xr,byt xa,X]
     have cC:=fun (B:Base) (hB:Base.le A B) {q:TV} (hq:Texts B q [byt xr,byt xa,X])=>r6red_hc (A:=B) (nm:=nmCha) (ERead_le hB hTb) hq (by decide) (tagY3r nmCha (byt_len _) (byt_len _) hXl) (u8_3 (byt_u8 _) (byt_u8 _) hX8)
     have e3:sg3 d xa xr k X=byt xr++byt ((k+redN nmCha [byt xr,byt xa,X]*d%nn)%nn):=rfl
     rw [e3] at e2
     clear e3
     generalize redN nmCha [byt xr,byt xa,X]=e at *
     have cm:=r5MulS_fn ie id_
     have im:InW (e*d%nn):=modn_in _
     generalize e*d%nn=ed at *
     have ca:=r5AddS_fn ikk im
     have iz:InW ((k+ed)%nn):=modn_in _
     have cz:=fun (B:Base)=>r5SBytes_hco (A:=B) iz
     rw [Int.emod_emod_of_dvd _ (Int.dvd_refl nn)] at cz
     generalize (k+ed)%nn=z at *
     refine swp_cut fun K hK hR _=>?_
     conv=>whnf
     refine ⟨_,cb,rfl,?_⟩
     conv=>whnf
     refine ⟨_,cp,rfl,?_⟩
     conv=>whnf
     refine hK _ _ ?_
     clear hK hR
     refine swp_cut fun K hK hR _=>?_
     refine swp_cut fun K2 hK2 hR2 _=>?_
     conv=>whnf
     refine hK2 _ _ ?_
     clear hK2 hR2
     conv=>whnf
     refine hK _ _ ?_
     clear hK hR
     refine swp_cut fun K hK hR _=>?_
     conv=>whnf
     refine ⟨_,ce2,rfl,?_⟩
     conv=>whnf
     refine hK _ _ ?_
     clear hK hR
     refine swp_cut fun K hK hR _=>?_
     iterate 2 (refine aops_step fun T S hT hS=>?_; (conv=>whnf); refine hT _ _ ?_)
     refine aops_step fun T S hT hS=>?_
     conv=>whnf
     refine ⟨fun n cap k _=>n=32∧32≤cap∧k=⟨u8s (byt xr),t_uint8,cap*1,true⟩,fun c B hB hL=>cR B,⟨32,32,⟨u8s (byt xr),t_uint8,32*1,true⟩,B0,ints_cl _ _ 0,rfl,Nat.le_refl _,rfl⟩,?_⟩
     rintro n cap13 k N3 _ ⟨rfl,hcap13,rfl⟩ N4 _
     conv=>whnf
     refine hT _ _ ?_
     refine aops_step fun T S hT hS=>?_
     conv=>whnf
     refine ⟨fun n cap k _=>n=32∧32≤cap∧k=⟨u8s (byt xa),t_uint8,cap*1,true⟩,fun c B hB hL=>cX B,⟨32,32,⟨u8s (byt xa),t_uint8,32*1,true⟩,B0,ints_cl _ _ 0,rfl,Nat.le_refl _,rfl⟩,?_⟩
     rintro n cap14 k N3 _ ⟨rfl,hcap14,rfl⟩ N4 _
     conv=>whnf
     refine hT _ _ ?_
     iterate 2 (refine aops_step fun T S hT hS=>?_; (conv=>whnf); refine hT _ _ ?_)
     refine aops_step fun T S hT hS=>?_
     conv=>whnf
     refine ⟨fun v _=>v=W e,fun c B hB hL=>by
      show HC PG B f_ref06_reduced [.one (.str nmCha),.one (.slice (some (.ext ⟨c.ι 15,0,none⟩)) 3 3)] _
      exact cC B (fun r o h=>hB r o (.inl h)) (three_lentC (b0:=13) (b1:=14) (b2:=15) hL rfl rfl rfl (byt_len _) (byt_len _) hcap13 hcap14 (hX.mono (fun r o h=>hB r o (.inl h)))),⟨_,B0,rfl,rfl⟩,?_⟩
     rintro v N' _ rfl N1 _
     refine hT _ _ ?_
     iterate 2 (refine aops_step fun T S hT hS=>?_; (conv=>whnf); refine hT _ _ ?_)
     refine aops_end ?_
     refine hK _ _ ?_
     clear hK hR
     refine swp_cut fun K hK hR _=>?_
     iterate 3 (refine aops_step fun T S hT hS=>?_; (conv=>whnf); refine hT _ _ ?_)
     refine aops_step fun T S hT hS=>?_
     conv=>whnf
     refine ⟨_,cm,rfl,?_⟩
     refine hT _ _ ?_
     refine aops_step fun T S hT hS=>?_
     conv=>whnf
     refine ⟨_,ca,rfl,?_⟩
     refine hT _ _ ?_
     refine aops_step fun T S hT hS=>?_
     conv=>whnf
     refine ⟨fun n cap k _=>n=32∧32≤cap∧k=⟨u8s (byt z),t_uint8,cap*1,true⟩,fun c B hB hL=>cz B,⟨32,32,⟨u8s (byt z),t_uint8,32*1,true⟩,B0,ints_cl _ _ 0,rfl,Nat.le_refl _,rfl⟩,?_⟩
     rintro n cap17 k N3 _ ⟨rfl,hcap17,rfl⟩ N4 _
     conv=>whnf
     refine hT _ _ ?_
     refine aops_step fun T S hT hS=>?_
     conv=>whnf
     refine hT _ _ ?_
     refine aops_end ?_
     refine hK _ _ ?_
     clear hK hR
     refine swp_cut fun K hK hR _=>?_
     refine aops_step fun T S hT hS=>?_
     conv=>whnf
     refine hT _ _ ?_
     refine aops_step fun T S hT hS=>?_
     conv=>whnf
     refine ⟨fun n cap k _=>n=32∧32≤cap∧k=⟨u8s (byt xr),t_uint8,cap*1,true⟩,fun c B hB hL=>cR B,⟨32,32,⟨u8s (byt xr),t_uint8,32*1,true⟩,B0,ints_cl _ _ 0,rfl,Nat.le_refl _,rfl⟩,?_⟩
     rintro n cap18 k N3 _ ⟨rfl,hcap18,rfl⟩ N4 _
     conv=>whnf
     refine hT _ _ ?_
     refine aops_step fun T S hT hS=>?_
     conv=>whnf
     refine hT _ _ ?_
     refine aops_step fun T S hT hS=>?_
     conv=>whnf
     refine ⟨u8s (byt z),rfl,rfl,rfl,?_⟩
     conv=>whnf
     refine ⟨rfl,hcap18,rfl,rfl,cap_bytes (by omega),fun cap' hcap'=>?_⟩
     conv=>whnf
     refine hT _ _ ?_
     refine aops_step fun T S hT hS=>?_
     conv=>whnf
     refine hT _ _ ?_
     refine aops_end ?_
     refine hK _ _ ?_
     clear hK hR
     rw [u8s_app]
     have hl:(byt xr++byt z).length=64:=rfl
     generalize byt xr++byt z=L at *
     have hll:L.length=z64.length:=by rw [hl]; rfl
     refine swp_cut fun K hK hR _=>?_
     refine swp_cut fun K2 hK2 hR2 _=>?_
     conv=>whnf
     refine hK2 _ _ ?_
     clear hK2 hR2
     conv=>whnf
     have hblk4:∀ (F:Nat→Bool) (c:Con),(⟨u8s L,t_uint8,cap'*1,true⟩:Blk)=⟨fzL F c (u8s L),t_uint8,cap'*1,true⟩:=fun F c=>by
      rw [fzL_cl (ints_cl _ _ 0)]
     refine .inr (loop_invC (gH A _) (SbI L cap') ?_ ?_)
     ·intro k' e' m' hI
      obtain ⟨i,t1,t2,N,hi,rfl,rfl,rfl⟩:=hI
      conv=>whnf
      cases hlt:decide ((i:Int)<64) with
      | true=>
       have hi':i<64:=by have:=of_decide_eq_true hlt; omega
       have htk:=u8_take L (i:=i) (by omega)
       have hpt:=trow_put (A:=z64) (L:=L) (i:=i) hi' hll
       generalize L[i]'(by omega)=az at *
       have hblk:∀ (F:Nat→Bool) (c:Con) (i:Nat),(⟨trow z64 L i,t2,0,false⟩:Blk)=⟨fzL F c (trow z64 L i),t2,0,false⟩:=fun F c i=>by
        unfold trow
        rw [fzL_cl (ints_cl _ _ 0)]
       show swpC _ (Code.seq _ _) _ _ _
       refine swp_cut fun K4 hK4 hR4 _=>?_
       refine blk_swp ?_
       iterate 3 (refine aops_step fun T S hT hS=>?_; (conv=>whnf); refine hT _ _ ?_)
       refine aops_step fun T S hT hS=>?_
       conv=>whnf
       rw [dec_idx (n:=64) hi']
       conv=>whnf
       refine hT _ _ ?_
       refine aops_step fun T S hT hS=>?_
       conv=>whnf
       conv in (takeAt _ _ _)=>change takeAt (u8s L) (0+i*1) 1; rw [htk]
       conv=>whnf
       refine hT _ _ ?_
       refine aops_step fun T S hT hS=>?_
       conv=>whnf
       rw [dec_idx (n:=64) hi']
       conv=>whnf
       refine hT _ _ ?_
       refine aops_step fun T S hT hS=>?_
       conv=>whnf
       conv in (putAt _ _ _)=>change putAt (trow z64 L i) (0+i*1) [.int .u8 az]; rw [hpt]
       conv=>whnf
       refine hT _ _ ?_
       refine aops_end ?_
       refine hK4 _ _ ?_
       clear hK4 hR4
       conv=>whnf
       refine ⟨64-(i+1),F0,by omega,fun c N1 _ _=>⟨_,_,wk_of (by (repeat' apply And.intro)<;>first | trivial | exact ⟨_,rfl,tv_inc (n:=64) hi' (by omega),rfl⟩ | exact ⟨_,rfl,rfl,rfl⟩) (by (repeat' apply And.intro)<;>first | trivial | rfl | exact ⟨_,rfl,hblk _ _ _,ints_cl _ _ _⟩ | exact ⟨_,rfl,hblk4 _ _,ints_cl _ _ _⟩ | exact ⟨_,rfl,rfl,rfl⟩) (by exact Nat.le_of_ble_eq_true rfl) (by exact Nat.le_of_ble_eq_true rfl),⟨i+1,t1,t2,N1,hi',rfl,rfl,rfl⟩⟩⟩
      | false=>
       obtain rfl:i=64:=by have:=of_decide_eq_false hlt; omega
       conv=>whnf
       refine hK _ _ ?_
       clear hK hR
       rw [trow_all (n:=64) rfl hl]
       have tk:takeAt (u8s L) 0 64=some (u8s L):=by
        have:=takeAt_app [] (u8s L) []
        rw [List.append_nil,List.length_map,hl] at this
        exact this
       have pt:partV true 64 (u8s L) 0=some (.agg (u8s L)):=by unfold partV; simp only [tk]
       have tkl:Nat.beq 64 (u8s L).length=true:=by rw [List.length_map,hl]; rfl
       have tkp:putAt (u8s z64) 0 (u8s L)=some (u8s L):=by
        have:=putAt_app [] (u8s z64) [] (u8s L) (by rw [List.length_map,List.length_map,hl]; rfl)
        simpa using this
       have hexk:∀ c,extL c (u8s L)=u8s L:=fun c=>extL_closed c (ints_cl _ _ 0)
       refine swp_cut fun K hK hR _=>?_
       refine aops_step fun T S hT hS=>?_
       conv=>whnf
       conv in (takeAt _ _ _)=>change takeAt (u8s L) 0 64; rw [tk]
       conv=>whnf
       refine hT _ _ ?_
       refine aops_step fun T S hT hS=>?_
       conv=>whnf
       conv in (Nat.beq _ _)=>change Nat.beq 64 (u8s L).length; rw [tkl]
       conv=>whnf
       conv in (putAt _ _ _)=>change putAt (u8s z64) 0 (u8s L); rw [tkp]
       conv=>whnf
       refine hT _ _ ?_
       refine aops_step fun T S hT hS=>?_
       conv=>whnf
       refine hT _ _ ?_
       refine aops_end ?_
       refine hK _ _ ?_
       clear hK hR
       conv=>whnf
       conv in (partV _ _ _ _)=>change partV true 64 (u8s L) 0; rw [pt]
       conv=>whnf
       intro c N2 _ _
       rw [e2]
       show TV.tup [.agg (extL c (u8s L)),_]=_
       rw [hexk c]
       rfl
     ·refine ⟨64,F0,fun c N1 _ _=>⟨_,_,wk_of (by (repeat' apply And.intro)<;>first | trivial | exact ⟨_,rfl,rfl,rfl⟩) (by (repeat' apply And.intro)<;>first | trivial | rfl | exact ⟨_,rfl,hblk4 _ _,ints_cl _ _ _⟩ | exact ⟨_,rfl,rfl,rfl⟩) (by exact Nat.le_of_ble_eq_true rfl) (by exact Nat.le_of_ble_eq_true rfl),⟨0,_,_,N1,by omega,rfl,rfl,rfl⟩⟩⟩
  ·have hblk:∀ (F:Nat→Bool) (c:Con),(⟨trow (byt d) (xorL (byt d) aux) 0,t_uint8,cap5*1,true⟩:Blk)=⟨fzL F c (bcs4 d),t_uint8,cap5*1,true⟩:=fun F c=>rfl
   refine ⟨32,F0,fun c N1 _ _=>⟨_,_,wk_of (by (repeat' apply And.intro)<;>first | trivial | exact ⟨_,rfl,hX.stable.2.1 _ _,hX.stable.1 _⟩ | exact ⟨_,rfl,rfl,rfl⟩) (by (repeat' apply And.intro)<;>first | trivial | rfl | exact ⟨_,rfl,hblk _ _,ints_cl _ _ _⟩ | exact ⟨_,rfl,hauxb _ _ _,ints_cl _ _ _⟩ | exact ⟨_,rfl,rfl,rfl⟩) (by exact Nat.le_of_ble_eq_true rfl) (by exact Nat.le_of_ble_eq_true rfl),⟨0,_,_,_,_,_,N1,by omega,rfl,rfl,rfl⟩⟩⟩

end Go.Hv

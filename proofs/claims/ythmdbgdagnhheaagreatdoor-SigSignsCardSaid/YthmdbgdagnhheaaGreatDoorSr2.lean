import Derived.Test.YthmdbgdagnhheaaGreatDoorSr1
namespace Go.Hv
open Go.Ev Go.Ec

def PuE (i cap:Nat):Env:=[(7,.one (.int .i64 (i:Int))),(6,.one (.slice (some (.loc 4 0)) 32 cap)),(5,.one (.ptr (some (.loc 3 0)))),(3,.one (.bool false)),(2,.one (.ptr (some (.loc 1 0))))]

def PuI (L:List Int) (cap k:Nat) (e:Env) (m:HM):Prop:=
 ∃ (i t1 t3:Nat) (N:Base),i≤32∧k=32-i∧e=PuE i cap ∧
  m=⟨[none,some ⟨u8s zD32,t1,0,false⟩,none,some ⟨trow zD32 L i,t3,0,false⟩,some ⟨u8s L,t_uint8,cap*1,true⟩],N⟩

set_option maxHeartbeats 1000000 in
set_option maxRecDepth 100000 in
theorem r6Public_fn {s:Int} (hs:InW s):Ev.Fn PG f_ref06_Public [W s] (keyT (prV s)):=by
 refine fn_startH (fun _=>none) h_ref06_Public rfl (by kernel_rfl) (fun _=>by kernel_rfl) rfl (by match prV s with | none=>rfl | some (d,a,c)=>rfl) fun A=>?_
 obtain ⟨gx,gy,gb,igx,igy,eg,tg,_⟩:=pt_nm gP gP_on
 have cb:=r5base_fn
 rw [eg] at cb
 have cm:=r5Mul_fn (b:=gb) hs igx igy
 rw [tg,smul_modI gP_on hs.1] at cm
 have ep:∀ a c,smul s.toNat gP=some (a,c)→keyT (prV s)=.tup [.agg (u8s (byt (vK a))),.one (.bool true)]:=fun a c h=>by
  unfold prV
  rw [h]
  simp only
  cases decide (vK c%2=1)<;>rfl
 have e0:smul s.toNat gP=none→keyT (prV s)=.tup [.agg (u8s zD32),.one (.bool false)]:=fun h=>by
  unfold prV
  rw [h]
  rfl
 generalize keyT (prV s)=ans at *
 generalize smul s.toNat gP=P at *
 match P,cm with
 | none,cm=>
  have cm:Ev.Fn PG f_ref05_Mul [W s,ptV gx gy gb] (ptV 0 0 true):=cm
  have e0:=e0 rfl
  refine swp_cut fun K hK hR _=>?_
  conv=>whnf
  refine hK _ _ ?_
  clear hK hR
  refine swp_cut fun K hK hR _=>?_
  conv=>whnf
  refine ⟨_,cb,rfl,?_⟩
  conv=>whnf
  refine ⟨_,cm,rfl,?_⟩
  conv=>whnf
  refine hK _ _ ?_
  clear hK hR
  refine swp_cut fun K hK hR _=>?_
  conv=>whnf
  refine hK _ _ ?_
  clear hK hR
  refine swp_cut fun K hK hR _=>?_
  refine swp_cut fun K2 hK2 hR2 _=>?_
  conv=>whnf
  refine hK2 _ _ ?_
  conv=>whnf
  refine hR _ _ ?_
  conv=>whnf
  intro c N2 _ _
  rw [e0]
  rfl
 | some (a,y),cm=>
  have cm:Ev.Fn PG f_ref05_Mul [W s,ptV gx gy gb] (ptV (vK a) (vK y) false):=cm
  have e0:=ep a y rfl
  clear ep
  have ia:=vK_in a
  generalize vK y=ya at *
  generalize vK a=xa at *
  have cx:=fun (B:Base)=>r6x_hco (A:=B) (x:=xa) (y:=ya) (b:=false) ia
  have hl:=byt_len xa
  generalize byt xa=L at *
  have hll:L.length=zD32.length:=by rw [hl]; rfl
  refine swp_cut fun K hK hR _=>?_
  conv=>whnf
  refine hK _ _ ?_
  clear hK hR
  refine swp_cut fun K hK hR _=>?_
  conv=>whnf
  refine ⟨_,cb,rfl,?_⟩
  conv=>whnf
  refine ⟨_,cm,rfl,?_⟩
  conv=>whnf
  refine hK _ _ ?_
  clear hK hR
  refine swp_cut fun K hK hR _=>?_
  conv=>whnf
  refine hK _ _ ?_
  clear hK hR
  refine swp_cut fun K hK hR _=>?_
  refine swp_cut fun K2 hK2 hR2 _=>?_
  conv=>whnf
  refine hK2 _ _ ?_
  clear hK2 hR2
  conv=>whnf
  refine hK _ _ ?_
  clear hK hR
  refine swp_cut fun K hK hR _=>?_
  refine aops_step fun T S hT hS=>?_
  conv=>whnf
  refine hT _ _ ?_
  refine aops_step fun T S hT hS=>?_
  conv=>whnf
  refine ⟨fun n cap k _=>n=32∧32≤cap∧k=⟨u8s L,t_uint8,cap*1,true⟩,fun c B hB hL=>cx B,⟨32,32,⟨u8s L,t_uint8,32*1,true⟩,B0,ints_cl _ _ 0,rfl,Nat.le_refl _,rfl⟩,?_⟩
  rintro n cap k N3 _ ⟨rfl,hcap,rfl⟩ N4 _
  conv=>whnf
  refine hT _ _ ?_
  refine aops_step fun T S hT hS=>?_
  conv=>whnf
  refine hT _ _ ?_
  refine aops_end ?_
  refine hK _ _ ?_
  clear hK hR
  refine swp_cut fun K hK hR _=>?_
  refine swp_cut fun K2 hK2 hR2 _=>?_
  conv=>whnf
  refine hK2 _ _ ?_
  clear hK2 hR2
  conv=>whnf
  refine .inr (loop_invC (gH A _) (PuI L cap) ?_ ?_)
  ·intro k' e' m' hI
   obtain ⟨i,t1,t3,N,hi,rfl,rfl,rfl⟩:=hI
   conv=>whnf
   cases hlt:decide ((i:Int)<32) with
   | true=>
    have hi':i<32:=by have:=of_decide_eq_true hlt; omega
    have htk:=u8_take L (i:=i) (by omega)
    have hpt:=trow_put (A:=zD32) (L:=L) (i:=i) hi' hll
    generalize L[i]'(by omega)=az at *
    have hblk:∀ (F:Nat→Bool) (c:Con) (i:Nat),(⟨trow zD32 L i,t3,0,false⟩:Blk)=⟨fzL F c (trow zD32 L i),t3,0,false⟩:=fun F c i=>by
     unfold trow
     rw [fzL_cl (ints_cl _ _ 0)]
    have hblk4:∀ (F:Nat→Bool) (c:Con),(⟨u8s L,t_uint8,cap*1,true⟩:Blk)=⟨fzL F c (u8s L),t_uint8,cap*1,true⟩:=fun F c=>by
     rw [fzL_cl (ints_cl _ _ 0)]
    show swpC _ (Code.seq _ _) _ _ _
    refine swp_cut fun K4 hK4 hR4 _=>?_
    refine blk_swp ?_
    iterate 3 (refine aops_step fun T S hT hS=>?_; (conv=>whnf); refine hT _ _ ?_)
    refine aops_step fun T S hT hS=>?_
    conv=>whnf
    rw [dec_idx (n:=32) hi']
    conv=>whnf
    refine hT _ _ ?_
    refine aops_step fun T S hT hS=>?_
    conv=>whnf
    conv in (takeAt _ _ _)=>change takeAt (u8s L) (0+i*1) 1; rw [htk]
    conv=>whnf
    refine hT _ _ ?_
    refine aops_step fun T S hT hS=>?_
    conv=>whnf
    rw [dec_idx (n:=32) hi']
    conv=>whnf
    refine hT _ _ ?_
    refine aops_step fun T S hT hS=>?_
    conv=>whnf
    conv in (putAt _ _ _)=>change putAt (trow zD32 L i) (0+i*1) [.int .u8 az]; rw [hpt]
    conv=>whnf
    refine hT _ _ ?_
    refine aops_end ?_
    refine hK4 _ _ ?_
    clear hK4 hR4
    conv=>whnf
    refine ⟨32-(i+1),F0,by omega,fun c N1 _ _=>⟨_,_,wk_of (by (repeat' apply And.intro)<;>first | trivial | exact ⟨_,rfl,tv_inc (n:=32) hi' (by omega),rfl⟩ | exact ⟨_,rfl,rfl,rfl⟩) (by (repeat' apply And.intro)<;>first | trivial | rfl | exact ⟨_,rfl,hblk _ _ _,ints_cl _ _ _⟩ | exact ⟨_,rfl,hblk4 _ _,ints_cl _ _ _⟩ | exact ⟨_,rfl,rfl,rfl⟩) (by exact Nat.le_of_ble_eq_true rfl) (by exact Nat.le_of_ble_eq_true rfl),⟨i+1,t1,t3,N1,hi',rfl,rfl,rfl⟩⟩⟩
   | false=>
    obtain rfl:i=32:=by have:=of_decide_eq_false hlt; omega
    conv=>whnf
    refine hK _ _ ?_
    clear hK hR
    rw [trow_all (n:=32) rfl hl]
    have tk:takeAt (u8s L) 0 32=some (u8s L):=by
     have:=takeAt_app [] (u8s L) []
     rw [List.append_nil,List.length_map,hl] at this
     exact this
    have pt:partV true 32 (u8s L) 0=some (.agg (u8s L)):=by unfold partV; simp only [tk]
    have tkl:Nat.beq 32 (u8s L).length=true:=by rw [List.length_map,hl]; rfl
    have tkp:putAt (u8s zD32) 0 (u8s L)=some (u8s L):=by
     have:=putAt_app [] (u8s zD32) [] (u8s L) (by rw [List.length_map,List.length_map,hl]; rfl)
     simpa using this
    have hexk:∀ c,extL c (u8s L)=u8s L:=fun c=>extL_closed c (ints_cl _ _ 0)
    refine swp_cut fun K hK hR _=>?_
    refine aops_step fun T S hT hS=>?_
    conv=>whnf
    conv in (takeAt _ _ _)=>change takeAt (u8s L) 0 32; rw [tk]
    conv=>whnf
    refine hT _ _ ?_
    refine aops_step fun T S hT hS=>?_
    conv=>whnf
    conv in (Nat.beq _ _)=>change Nat.beq 32 (u8s L).length; rw [tkl]
    conv=>whnf
    conv in (putAt _ _ _)=>change putAt (u8s zD32) 0 (u8s L); rw [tkp]
    conv=>whnf
    refine hT _ _ ?_
    refine aops_step fun T S hT hS=>?_
    conv=>whnf
    refine hT _ _ ?_
    refine aops_end ?_
    refine hK _ _ ?_
    clear hK hR
    conv=>whnf
    conv in (partV _ _ _ _)=>change partV true 32 (u8s L) 0; rw [pt]
    conv=>whnf
    intro c N2 _ _
    rw [e0]
    show TV.tup [.agg (extL c (u8s L)),_]=_
    rw [hexk c]
    rfl
  ·have hblk4:∀ (F:Nat→Bool) (c:Con),(⟨u8s L,t_uint8,cap*1,true⟩:Blk)=⟨fzL F c (u8s L),t_uint8,cap*1,true⟩:=fun F c=>by
    rw [fzL_cl (ints_cl _ _ 0)]
   refine ⟨32,F0,fun c N1 _ _=>⟨_,_,wk_of (by (repeat' apply And.intro)<;>first | trivial | exact ⟨_,rfl,rfl,rfl⟩) (by (repeat' apply And.intro)<;>first | trivial | rfl | exact ⟨_,rfl,hblk4 _ _,ints_cl _ _ _⟩ | exact ⟨_,rfl,rfl,rfl⟩) (by exact Nat.le_of_ble_eq_true rfl) (by exact Nat.le_of_ble_eq_true rfl),⟨0,_,_,N1,by omega,rfl,rfl,rfl⟩⟩⟩

end Go.Hv

import Derived.Test.YthmdbgdagnhheaaGreatDoorCuA
import Derived.Test.YthmdbgdagnhheaaGreatDoorSeg
namespace Go.Hv
open Go.Ev Go.Ec

structure Trm where
 k:Int
 x:Int
 y:Int
 b:Bool

def Trm.cells (t:Trm):List Sc:=words t.k++ptC t.x t.y t.b
def Trm.In (t:Trm):Prop:=InW t.k∧InW t.x∧InW t.y
noncomputable def Trm.pt (t:Trm):Pt PPn:=smul t.k.toNat (tkn t.x t.y t.b)
noncomputable def Trm.far (t:Trm):KK×KK×KK:=tmC (outT (tkn t.x t.y t.b)) (t.k%nn) 64
noncomputable def msum (L:List Trm):Pt PPn:=L.foldl (fun P t=>add P t.pt) none
noncomputable def mF (L:List Trm):KK×KK×KK:=L.foldl (fun T t=>pl T t.far) (0,0,0)

theorem trm_hm {t:Trm} (h:t.In):hm t.far=t.pt∧On t.pt:=by
 have o1:=tkn_on t.x t.y t.b
 have hE:InW (t.k%nn):=by unfold nn; exact ⟨by omega,by omega⟩
 have e:=tmC_hm (outT (tkn t.x t.y t.b)) (by rw [hm_out]; exact o1) hE 64 (Nat.le_refl _)
 rw [hm_out] at e
 have e2:sp (tkn t.x t.y t.b) (t.k%nn) (4*(64-64))=t.pt:=by
  unfold sp Trm.pt
  rw [← smul_modI o1 h.1.1]
  simp
 exact ⟨by unfold Trm.far; rw [e,e2],smul_on fld _ o1 _⟩

theorem mF_hm:∀ (L:List Trm),(∀ t∈L,t.In)→∀ (T:KK×KK×KK) (P:Pt PPn),On P→hm T=P→hm (L.foldl (fun T t=>pl T t.far) T)=L.foldl (fun P t=>add P t.pt) P∧On (L.foldl (fun P t=>add P t.pt) P)
 | [],_,T,P,hP,h=>⟨h,hP⟩
 | t::L,hL,T,P,hP,h=>by
  obtain ⟨h1,h2⟩:=trm_hm (hL t (by simp))
  have e:=hm_pl fld T t.far (by rw [h]; exact hP) (by rw [h1]; exact h2)
  rw [h,h1] at e
  have e2:=add_on fld _ _ hP h2
  rw [List.foldl_cons,List.foldl_cons]
  generalize pl T t.far=T2 at *
  generalize add P t.pt=P2 at *
  exact mF_hm L (fun t' ht=>hL t' (by simp [ht])) T2 P2 e2 e

theorem msum_on {L:List Trm} (hL:∀ t∈L,t.In):On (msum L):=(mF_hm L hL (0,0,0) none trivial (hm_z rfl)).2
theorem mF_msum {L:List Trm} (hL:∀ t∈L,t.In):hm (mF L)=msum L:=(mF_hm L hL (0,0,0) none trivial (hm_z rfl)).1
theorem mF_succ (L:List Trm) {i:Nat} (h:i<L.length):mF (L.take (i+1))=pl (mF (L.take i)) L[i].far:=by
 unfold mF
 rw [List.take_succ_eq_append_getElem h,List.foldl_append,List.foldl_cons,List.foldl_nil]

theorem blk_swp {G:Cfg} {id:Nat} {b:Code} {Q:Exit→Env→HM→Prop} {e:Env} {m:HM} (h:swpC G b (fun x e' m'=>match x with
  | .exit i=>match Nat.beq i id with
   | true=>Q .normal e' m'
   | false=>Q (.exit i) e' m'
  | x=>Q x e' m') e m):swpC G (.block id b) Q e m:=h

def MlE (q:TV) (n i:Nat):Env:=[(8,.one (.int .i64 (i:Int))),(7,.one (.int .i64 (n:Int))),(6,q),(3,.one (.ptr (some (.loc 1 0)))),(2,.one (.ptr (some (.loc 0 0))))]

def MlI (L:List Trm) (q:TV) (k:Nat) (e:Env) (m:HM):Prop:=
 ∃ (i t0 t1:Nat) (N:Base),i≤L.length∧k=L.length-i∧e=MlE q L.length i ∧
  m=⟨[some ⟨ptC 0 0 false,t0,0,false⟩,some ⟨farT (mF (L.take i)),t1,0,false⟩],N⟩

set_option maxHeartbeats 1000000 in
set_option maxRecDepth 100000 in
theorem multi_hc {A:Base} {q:TV} {L:List Trm} (hs:Sl A 13 q (L.map Trm.cells)) (hL:∀ t∈L,t.In):HC PG A f_curve_Multi [q] fun v _=>v=ptOf (msum L):=by
 obtain ⟨p,cap,rfl,g1,g2,g3⟩:=id hs
 have hml:(L.map Trm.cells).length=L.length:=List.length_map ..
 rw [hml] at hs g1 ⊢
 refine hc_start (fun _=>none) h_curve_Multi rfl (by kernel_rfl) (by kernel_rfl) (closedTs_iff.2 fun v hv=>by
  simp only [List.mem_singleton] at hv
  subst hv
  exact hs.stable.1 0) ?_
 have hz:∀ (F:Nat→Bool) (c:Con) (t:Nat),(⟨farT (mF (L.take 0)),t,0,false⟩:Blk)=⟨fzL F c z12,t,0,false⟩:=fun F c t=>by
  show (⟨farT (0,0,0),t,0,false⟩:Blk)=_
  rw [farT_zero]
  rfl
 refine swp_cut fun K hK hR _=>?_
 conv=>whnf
 refine hK _ _ ?_
 clear hK hR
 refine swp_cut fun K hK hR _=>?_
 conv=>whnf
 refine hK _ _ ?_
 clear hK hR
 refine swp_cut fun K hK hR _=>?_
 refine swp_cut fun K2 hK2 hR2 _=>?_
 conv=>whnf
 refine hK2 _ _ ?_
 clear hK2 hR2
 conv=>whnf
 refine .inr (loop_invC (gH A _) (MlI L (.one (.slice p L.length cap))) ?_ ?_)
 ·intro k' e' m' hI
  obtain ⟨i,t0,t1,N,hi,rfl,rfl,rfl⟩:=hI
  conv=>whnf
  cases hlt:decide ((i:Int)<(L.length:Int)) with
  | true=>
   have hi':i<L.length:=by have:=of_decide_eq_true hlt; omega
   obtain ⟨a,ha⟩:∃ a,p=some (.ext a):=by
    match p,g3 with
    | none,g3=>
     have:=congrArg List.length g3.1
     rw [hml] at this
     simp at this
     omega
    | some (.ext a),_=>exact ⟨a,rfl⟩
   subst ha
   have hget:(L.map Trm.cells)[i]?=some L[i].cells:=by rw [List.getElem?_map,List.getElem?_eq_getElem hi']; rfl
   have hin:=hL _ (List.getElem_mem hi')
   have hsu:=mF_succ L hi'
   generalize L[i]=t at *
   obtain ⟨k,x,y,b⟩:=t
   have c1:=out_fn (b:=b) hin.2.1 hin.2.2
   have c2:=times_fn (outT (tkn x y b)) hin.1
   have c3:=plus_fn (mF (L.take i)) (Trm.far ⟨k,x,y,b⟩)
   have c2:Ev.Fn PG f_curve_far_times [farV (outT (tkn x y b)),W k] (farV (Trm.far ⟨k,x,y,b⟩)):=c2
   rw [← hsu] at c3
   generalize mF (L.take i)=T at *
   generalize Trm.far ⟨k,x,y,b⟩=U at *
   generalize outT (tkn x y b)=V at *
   have hblk:∀ (F:Nat→Bool) (c:Con),(⟨farT (mF (L.take (i+1))),t1,0,false⟩:Blk)=⟨fzL F c (farT (mF (L.take (i+1)))),t1,0,false⟩:=fun F c=>rfl
   show swpC _ (Code.seq _ _) _ _ _
   refine swp_cut fun K4 hK4 hR4 _=>?_
   refine blk_swp ?_
   refine swp_cut fun K3 hK3 hR3 _=>?_
   refine aops_step fun T S hT hS=>?_
   conv=>whnf
   rw [dec_idx (n:=L.length) hi']
   conv=>whnf
   refine hT _ _ ?_
   refine aops_step fun T S hT hS=>?_
   conv=>whnf
   refine ⟨_,ERead_l (hs.agg (i:=i) hget),?_⟩
   refine hT _ _ ?_
   iterate 2 (refine aops_step fun T S hT hS=>?_; (conv=>whnf); refine hT _ _ ?_)
   refine aops_end ?_
   refine hK3 _ _ ?_
   clear hK3 hR3
   iterate 3 (refine aops_step fun T S hT hS=>?_; (conv=>whnf); refine hT _ _ ?_)
   refine aops_step fun T S hT hS=>?_
   conv=>whnf
   refine ⟨_,c1,rfl,?_⟩
   refine hT _ _ ?_
   iterate 2 (refine aops_step fun T S hT hS=>?_; (conv=>whnf); refine hT _ _ ?_)
   refine aops_step fun T S hT hS=>?_
   conv=>whnf
   refine ⟨_,c2,rfl,?_⟩
   refine hT _ _ ?_
   refine aops_step fun T S hT hS=>?_
   conv=>whnf
   refine ⟨_,c3,rfl,?_⟩
   refine hT _ _ ?_
   refine aops_step fun T S hT hS=>?_
   conv=>whnf
   refine hT _ _ ?_
   refine aops_end ?_
   refine hK4 _ _ ?_
   clear hK4 hR4
   conv=>whnf
   refine ⟨L.length-(i+1),F0,by omega,fun c N1 _ _=>⟨_,_,wk_of (by (repeat' apply And.intro)<;>first | trivial | exact ⟨_,rfl,tv_inc (n:=L.length) hi' (by omega),rfl⟩ | exact ⟨_,rfl,rfl,rfl⟩) (by (repeat' apply And.intro)<;>first | trivial | rfl | exact ⟨_,rfl,hblk _ _,rfl⟩ | exact ⟨_,rfl,rfl,rfl⟩) (by exact Nat.le_of_ble_eq_true rfl) (by exact Nat.le_of_ble_eq_true rfl),⟨i+1,t0,t1,N1,hi',rfl,rfl,rfl⟩⟩⟩
  | false=>
   obtain rfl:i=L.length:=by have:=of_decide_eq_false hlt; omega
   conv=>whnf
   refine hK _ _ ?_
   clear hK hR
   rw [List.take_length]
   have ch:=home_fn (mF L)
   rw [mF_msum hL] at ch
   generalize mF L=T at *
   generalize msum L=P at *
   match P with
   | none=>
    refine swp_cut fun K hK hR _=>?_
    conv=>whnf
    refine ⟨_,ch,rfl,?_⟩
    conv=>whnf
    refine hK _ _ ?_
    clear hK hR
    conv=>whnf
    intro c N2 _ _
    rfl
   | some (a,b)=>
    refine swp_cut fun K hK hR _=>?_
    conv=>whnf
    refine ⟨_,ch,rfl,?_⟩
    conv=>whnf
    refine hK _ _ ?_
    clear hK hR
    conv=>whnf
    intro c N2 _ _
    rfl
 ·refine ⟨L.length,F0,fun c N1 _ _=>⟨_,_,wk_of (by (repeat' apply And.intro)<;>first | trivial | exact ⟨_,rfl,rfl,rfl⟩ | exact ⟨_,rfl,hs.stable.2.1 _ _,hs.stable.1 _⟩) (by (repeat' apply And.intro)<;>first | trivial | rfl | exact ⟨_,rfl,hz _ _ _,rfl⟩ | exact ⟨_,rfl,rfl,rfl⟩) (by exact Nat.le_of_ble_eq_true rfl) (by exact Nat.le_of_ble_eq_true rfl),⟨0,_,_,N1,by omega,rfl,rfl,rfl⟩⟩⟩

end Go.Hv

namespace Go.Hv
open Go.Ev Go.Ec

end Go.Hv
